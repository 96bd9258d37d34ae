/- The separation layer, statements that draw their order and do more than read: quiet operations are taken first, the others as they may come. It proves no statement by itself. -/
import Derived.Test.YtmelpobcpcmdoaaGreatSLSlice
set_option autoImplicit false
set_option linter.unusedSimpArgs false
set_option linter.unusedVariables false
namespace Go.SL
variable [Base]

def putS : Option Nat → Value → Slots → Slots
  | none, _, fr => fr
  | some d, u, fr => (d, u) :: fr
def subS (fr fr' : Slots) : Prop := ∀ i v, lk fr i = some v → lk fr' i = some v
omit [Base] in
theorem lk_cons (k : Nat) (v : Value) (fr : Slots) (i : Nat) : lk ((k, v) :: fr) i = if k = i then some v else lk fr i := by
  show (bif Nat.beq k i then some v else lk fr i) = _
  by_cases e : k = i
  · subst e; rw [show Nat.beq k k = true from Nat.beq_refl k]; simp
  · have : Nat.beq k i = false := by
      cases hb : Nat.beq k i with
      | false => rfl
      | true => exact absurd (Nat.eq_of_beq_eq_true hb) e
    rw [this, if_neg e, cond_false]
omit [Base] in
theorem subS.put {fr fr' : Slots} (h : subS fr fr') (d : Option Nat) (u : Value) : subS (putS d u fr) (putS d u fr') := by
  cases d with
  | none => exact h
  | some d =>
    intro i v hv
    simp only [putS, lk_cons] at hv ⊢
    split
    · rename_i e; rw [if_pos e] at hv; exact hv
    · rename_i e; rw [if_neg e] at hv; exact h i v hv

section
variable (P : Program) (F : Heap) (N : Nat)
/-- An operation as its guard has it. -/
def wpG (ops : Array Oper) (o : Oper) (a : Act) (w : World) (K : Act → World → Prop) (Q : Exit → Act → World → Prop) : Prop :=
  if Region.wanted o (yielded ops a.tmps) then o.wp P a w K Q else K (a.put o.dst undef) w
/-- One operation, and what is told behind it. -/
structure Step (ops : Array Oper) (o : Oper) (fr : Slots) (M : Heap) (K : Slots → Heap → Prop) : Prop where
  dst : ∀ d, o.dst = some d → d < N
  go : ∀ a w, Fits N fr [] a → Sat w (M ++ F) → ∀ Q', wpG P ops o a w (fun a' w' => ∃ u M', a' = a.put o.dst u ∧ K (putS o.dst u fr) M' ∧ Sat w' (M' ++ F)) Q'

/-- Whatever order is drawn, from here on. -/
def SymD (ops : Array Oper) (E : Slots → Heap → Prop) : Nat → Array Bool → Slots → Heap → Prop
  | 0, listed, fr, M => Region.ready .any ops listed = [] ∧ E fr M
  | n + 1, listed, fr, M => (Region.ready .any ops listed = [] → E fr M) ∧ ∀ i ∈ Region.ready .any ops listed, ∃ o, ops[i]? = some o ∧ Step P F N ops o fr M (SymD ops E n (listed.setIfInBounds i true))

structure RunD (ops : List Oper) (n : Nat) (listed : Array Bool) (fr : Slots) (M : Heap) (Q : Exit → Slots → Heap → Prop) : Prop where
  go : SymD P F N ⟨ops⟩ (fun fr M => ∃ fr0 M0, subS fr0 fr ∧ (∀ x, cnt x M = cnt x M0) ∧ Q .normal fr0 M0) n listed fr M
end

section
variable {P : Program} {F : Heap} {N : Nat}

omit [Base] in
theorem Fits.putD {fr : Slots} {a : Act} (f : Fits N fr [] a) (d : Option Nat) (u : Value) (hd : ∀ k, d = some k → k < N) : Fits N (putS d u fr) [] (a.put d u) := by
  cases d with
  | none => exact f
  | some k => exact f.put (by rw [Nat.blt_eq]; exact hd k rfl) rfl

omit [Base] in
theorem wpG_mono {ops : Array Oper} {o : Oper} {a : Act} {w : World} {K K' : Act → World → Prop} {Q : Exit → Act → World → Prop} (hk : ∀ a w, K a w → K' a w) (h : wpG P ops o a w K Q) : wpG P ops o a w K' Q := by
  unfold wpG at *
  split at h
  · rename_i hw; rw [if_pos hw]; exact Oper.wp_mono hk h
  · rename_i hw; rw [if_neg hw]; exact hk _ _ h
omit [Base] in
theorem wpG_yes {ops : Array Oper} {o : Oper} {a : Act} {w : World} {K : Act → World → Prop} {Q : Exit → Act → World → Prop} (hw : Region.wanted o (yielded ops a.tmps) = true) (h : o.wp P a w K Q) : wpG P ops o a w K Q := by
  unfold wpG; rw [if_pos hw]; exact h
theorem Step.mono {ops : Array Oper} {o : Oper} {fr fr' : Slots} {M : Heap} {K K' : Slots → Heap → Prop} (s : Step P F N ops o fr M K) (hs : subS fr fr') (hk : ∀ f f' M', subS f f' → K f M' → K' f' M') : Step P F N ops o fr' M K' := by
  refine ⟨s.dst, fun a w hf hw Q' => ?_⟩
  refine wpG_mono ?_ (s.go a w (hf.keep hs) hw Q')
  rintro a' w' ⟨u, M', rfl, hK, hs'⟩
  exact ⟨u, M', rfl, hk _ _ _ (hs.put _ _) hK, hs'⟩

theorem SymD.mono {ops : Array Oper} {E : Slots → Heap → Prop} (hE : ∀ f f' M, subS f f' → E f M → E f' M) : ∀ (n : Nat) (listed : Array Bool) (fr fr' : Slots) (M : Heap), subS fr fr' → SymD P F N ops E n listed fr M → SymD P F N ops E n listed fr' M
  | 0, _, _, _, _, hs, h => ⟨h.1, hE _ _ _ hs h.2⟩
  | n + 1, _, _, _, _, hs, h => ⟨fun h0 => hE _ _ _ hs (h.1 h0), fun i hi => by
      obtain ⟨o, ho, st⟩ := h.2 i hi
      exact ⟨o, ho, st.mono hs fun f f' M' hff hK => SymD.mono hE n _ f f' M' hff hK⟩⟩

theorem SymD.sound {ops : Array Oper} {E : Slots → Heap → Prop} {Q : Exit → Act → World → Prop} (hE : ∀ fr M a w, E fr M → Fits N fr [] a → Sat w (M ++ F) → Q .normal a w) :
    ∀ (n : Nat) (listed : Array Bool) (fr : Slots) (M : Heap), SymD P F N ops E n listed fr M → ∀ a w, Fits N fr [] a → Sat w (M ++ F) → wpAny P .any ops Q n listed a w
  | 0, _, _, _, h, _, _, hf, hs => ⟨h.1, hE _ _ _ _ h.2 hf hs⟩
  | n + 1, listed, fr, M, h, a, w, hf, hs => ⟨fun h0 => hE _ _ _ _ (h.1 h0) hf hs, fun i hi => by
      obtain ⟨o, ho, st⟩ := h.2 i hi
      unfold wpOp
      simp only [ho]
      have hg := st.go a w hf hs Q
      unfold wpG at hg
      split
      · rename_i hwt
        rw [if_pos hwt] at hg
        refine .inl (Oper.wp_mono ?_ hg)
        rintro a' w' ⟨u, M', rfl, hK, hs'⟩
        exact SymD.sound hE n _ _ _ hK _ _ (hf.putD _ _ st.dst) hs'
      · rename_i hwt
        rw [if_neg hwt] at hg
        obtain ⟨u, M', he, hK, hs'⟩ := hg
        have := SymD.sound hE n _ _ _ hK _ _ (hf.putD _ u st.dst) hs'
        rw [he]; exact this⟩

omit [Base] in
theorem Fits.unput {fr : Slots} {a : Act} {d : Nat} {u : Value} (f : Fits N ((d, u) :: fr) [] a) (hd : d < N) : ∃ a0, Fits N fr [] a0 ∧ a = a0.put (some d) u := by
  have hu : a.tmps[d]? = some u := f.get d u (by rw [lk_cons, if_pos rfl])
  refine ⟨a.put (some d) ((lk fr d).getD undef), ⟨f.defers, by simpa [Act.put] using f.size, fun i v hv => ?_, fun _ _ _ _ m => (by cases m), fun _ _ _ _ m => (by cases m)⟩, ?_⟩
  · show (a.tmps.setIfInBounds d _)[i]? = _
    by_cases e : d = i
    · subst e
      rw [Array.getElem?_setIfInBounds_self_of_lt (by rw [f.size]; exact hd), hv]; rfl
    · rw [Array.getElem?_setIfInBounds_ne e]
      exact f.get i v (by rw [lk_cons, if_neg e]; exact hv)
  · have : (a.tmps.setIfInBounds d ((lk fr d).getD undef)).setIfInBounds d u = a.tmps := by
      apply Array.ext'
      simp only [Array.toList_setIfInBounds, List.set_set]
      apply List.ext_getElem?
      intro i
      by_cases e : d = i
      · subst e
        rw [List.getElem?_set_self (by have := f.size; simp; omega)]
        have := hu
        rw [← Array.getElem?_toList] at this
        exact this.symm
      · rw [List.getElem?_set_ne e]
    obtain ⟨tm, df⟩ := a
    exact congrArg (fun q => (⟨q, df⟩ : Act)) this.symm

/-- Quiet, whatever the call's own blocks hold. -/
def QuietS (P : Program) (F : Heap) (N : Nat) (ops : Array Oper) (o : Oper) (fr : Slots) (v : Value) : Prop :=
  ((∀ a, Fits N fr [] a → Region.wanted o (yielded ops a.tmps) = true) ∧ ∀ M, Ev P F N fr [] M o v) ∨ ((∀ a, Fits N fr [] a → Region.wanted o (yielded ops a.tmps) = false) ∧ v = undef)

theorem QuietS.put {oi oj : Oper} {fr : Slots} {v u : Value} {ops : Array Oper} (q : QuietS P F N ops oi fr v) (hap : oi.apart ops oj = true) (hsi : ∀ cs b, oi.op ≠ .select cs b) (hd : ∀ d, oj.dst = some d → d < N) :
    QuietS P F N ops oi (putS oj.dst u fr) v := by
  obtain ⟨h1, h2, h3⟩ := Oper.apart_spec hap
  have wput : ∀ (r : Bool), (∀ a, Fits N fr [] a → Region.wanted oi (yielded ops a.tmps) = r) → ∀ a, Fits N (putS oj.dst u fr) [] a → Region.wanted oi (yielded ops a.tmps) = r := by
    intro r hw a hf
    cases hj : oj.dst with
    | none => rw [hj] at hf; exact hw a hf
    | some d =>
      rw [hj] at hf
      obtain ⟨a0, hf0, rfl⟩ := hf.unput (hd d hj)
      rw [← hj, wanted_put oi a0 oj.dst u h3]; exact hw a0 hf0
  rcases q with ⟨hw, q⟩ | ⟨hw, rfl⟩
  · refine .inl ⟨wput true hw, fun M => ?_⟩
    refine ⟨fun a hf w hw => ?_⟩
    cases hj : oj.dst with
    | none => rw [hj] at hf; exact (q M).go a hf w hw
    | some d =>
      rw [hj] at hf
      obtain ⟨a0, hf0, rfl⟩ := hf.unput (hd d hj)
      have := (q M).go a0 hf0 w hw
      unfold Oper.quietAt at this ⊢
      rw [← hj, execOp_put oi hsi a0 oj.dst u h3]; exact this
  · exact .inr ⟨wput false hw, rfl⟩

theorem Step.unput {oi oj : Oper} {fr : Slots} {M : Heap} {v : Value} {K : Slots → Heap → Prop} {ops : Array Oper} {di : Nat} (hi : oi.dst = some di) (hdi : di < N) (hap : oi.apart ops oj = true) (hsj : ∀ cs b, oj.op ≠ .select cs b)
    (s : Step P F N ops oj ((di, v) :: fr) M K) : Step P F N ops oj fr M (fun fr' M' => ∃ u, fr' = putS oj.dst u fr ∧ K (putS oj.dst u ((di, v) :: fr)) M') := by
  obtain ⟨h1, h2, h3⟩ := Oper.apart_spec hap
  refine ⟨s.dst, fun a w hf hw Q' => ?_⟩
  have h := s.go (a.put (some di) v) w (hf.put (by rw [Nat.blt_eq]; exact hdi) rfl) hw (fun _ _ _ => False)
  have hb : Nat.blt di N = true := by rw [Nat.blt_eq]; exact hdi
  unfold wpG Oper.wp at *
  rw [← hi, execOp_put oj hsj a oi.dst v h1, wanted_put oj a oi.dst v h1] at h
  have fin : ∀ (a1 : Act) (w1 : World) (u0 : Value), (∃ u M', (a.put oi.dst v).put oj.dst u0 = (a.put oi.dst v).put oj.dst u ∧ K (putS oj.dst u ((di, v) :: fr)) M' ∧ Sat w1 (M' ++ F)) → ∃ u M', a.put oj.dst u0 = a.put oj.dst u ∧ (∃ u', putS oj.dst u fr = putS oj.dst u' fr ∧ K (putS oj.dst u' ((di, v) :: fr)) M') ∧ Sat w1 (M' ++ F) := by
    rintro a1 w1 u0 ⟨u, M', he, hK, hs⟩
    refine ⟨u, M', ?_, ⟨u, rfl, hK⟩, hs⟩
    cases hj : oj.dst with
    | none => rfl
    | some d =>
      have hd9 : d < N := s.dst d hj
      rw [hj] at he
      have h5 : ((a.put oi.dst v).put (some d) u0).tmps[d]? = ((a.put oi.dst v).put (some d) u).tmps[d]? := by rw [he]
      have hsz : (a.put oi.dst v).tmps.size = N := by
        rw [hi]; exact (hf.put (v := v) hb rfl).size
      change ((a.put oi.dst v).tmps.setIfInBounds d u0)[d]? = ((a.put oi.dst v).tmps.setIfInBounds d u)[d]? at h5
      rw [Array.getElem?_setIfInBounds_self_of_lt (by rw [hsz]; exact hd9), Array.getElem?_setIfInBounds_self_of_lt (by rw [hsz]; exact hd9)] at h5
      rw [Option.some.inj h5]
  by_cases hwt : Region.wanted oj (yielded ops a.tmps) = true
  case neg => rw [if_neg hwt] at h ⊢; exact fin a w undef h
  rw [if_pos hwt] at h ⊢
  generalize (execOp a.eval oj).run P w = r at *
  cases r with
  | ok n w' =>
    cases n <;> simp only [Oper.upon] at h ⊢
    case value u => exact fin a w' u h
    case skip => exact fin a w' undef h
    case defer d =>
      obtain ⟨u, M', he, _⟩ := h
      have h6 := congrArg Act.defers he
      have h7 : ∀ (b : Act) (q : Option Nat) (x : Value), (b.put q x).defers = b.defers := by intro b q x; cases q <;> rfl
      simp only [h7] at h6
      have := congrArg List.length h6
      simp at this
    case enter f args =>
      refine Calls.mono h fun e w'' he => ?_
      cases e with
      | returned u => exact fin a w'' u he
      | panicked c => exact he.elim
      | outgrown => exact he.elim fun _ h => h.elim fun _ h => h.elim
    case row row args => exact Rows.mono h fun u w'' he => fin a w'' u he
  | halt x w' =>
    cases x <;> simp only [Oper.upon] at h ⊢

theorem SymD.first {ops : Array Oper} {E : Slots → Heap → Prop} (hE : ∀ f f' M, subS f f' → E f M → E f' M) {i : Nat} {oi : Oper} {di : Nat} {v : Value} (hi : ops[i]? = some oi) (hsel : ∀ (j : Nat) (o : Oper) cs b, ops[j]? = some o → o.op ≠ .select cs b)
    (hd : oi.dst = some di) (hN : di < N) :
    ∀ (n : Nat) (listed : Array Bool) (fr : Slots) (M : Heap),
      (∀ j oj, ops[j]? = some oj → j ≠ i → listed.getD j true = false → (∀ e ∈ oj.after, Region.binds .any e = true → e.on ≠ i) → oi.apart ops oj = true) →
      i ∈ Region.ready .any ops listed → QuietS P F N ops oi fr v →
      SymD P F N ops E n (listed.setIfInBounds i true) ((di, v) :: fr) M → SymD P F N ops E (n + 1) listed fr M := by
  have self : ∀ (n : Nat) (listed : Array Bool) (fr : Slots) (M : Heap), QuietS P F N ops oi fr v → SymD P F N ops E n (listed.setIfInBounds i true) ((di, v) :: fr) M → ∃ o, ops[i]? = some o ∧ Step P F N ops o fr M (SymD P F N ops E n (listed.setIfInBounds i true)) := by
    intro n listed fr M hq H
    refine ⟨oi, hi, fun d h => (by rw [hd] at h; cases h; exact hN), fun a w hf hw Q' => ?_⟩
    unfold wpG
    rcases hq with ⟨hwt, hq⟩ | ⟨hwt, rfl⟩
    · rw [if_pos (hwt a hf)]
      refine (hq M).wp hf hw fun w' hs' => ⟨v, M, rfl, ?_, hs'⟩
      rw [hd]; exact H
    · rw [if_neg (by rw [hwt a hf]; simp)]
      refine ⟨undef, M, rfl, ?_, hw⟩
      rw [hd]; exact H
  intro n
  induction n with
  | zero =>
    intro listed fr M _ hr hq H
    refine ⟨fun h => (by rw [h] at hr; cases hr), fun j hj => ?_⟩
    by_cases hji : j = i
    · subst hji; exact self _ _ _ _ hq H
    · have := ready_mono hj hji
      rw [H.1] at this
      cases this
  | succ n ih =>
    intro listed fr M hfree hr hq H
    refine ⟨fun h => (by rw [h] at hr; cases hr), fun j hj => ?_⟩
    by_cases hji : j = i
    · subst hji; exact self _ _ _ _ hq H
    · obtain ⟨oj, hoj, st⟩ := H.2 j (ready_mono hj hji)
      obtain ⟨hjun, oj', hoj', hall⟩ := mem_ready.1 hj
      rw [hoj] at hoj'
      cases hoj'
      have hnot : ∀ e ∈ oj.after, Region.binds .any e = true → e.on ≠ i := fun e he hb heq => by
        have h1 := hall e he hb
        have h0 := (mem_ready.1 hr).1
        rw [heq] at h1
        rcases Nat.lt_or_ge i listed.size with h' | h'
        · simp [h'] at h0 h1; rw [h0] at h1; cases h1
        · simp [Array.getElem?_eq_none h'] at h1
      have hap := hfree j oj hoj hji hjun hnot
      have hfree' : ∀ k ok, ops[k]? = some ok → k ≠ i → (listed.setIfInBounds j true).getD k true = false →
          (∀ e ∈ ok.after, Region.binds .any e = true → e.on ≠ i) → oi.apart ops ok = true := fun k ok hk hki hun hno => by
        refine hfree k ok hk hki ?_ hno
        by_cases hjk : j = k
        · subst hjk; exact hjun
        · rw [getD_set_ne true hjk] at hun; exact hun
      refine ⟨oj, hoj, (st.unput hd hN hap (fun cs b => hsel j oj cs b hoj)).mono (fun _ _ h => h) ?_⟩
      rintro f f' M' hff ⟨u, rfl, hK⟩
      refine SymD.mono hE _ _ _ _ _ hff ?_
      refine ih (listed.setIfInBounds j true) _ M' hfree' (ready_mono hr (Ne.symm hji)) (hq.put hap (fun cs b => hsel i oi cs b hi) st.dst) ?_
      rw [Array.setIfInBounds_comm _ _ hji]
      refine SymD.mono hE _ _ _ _ _ ?_ hK
      obtain ⟨h1, h2, h3⟩ := Oper.apart_spec hap
      cases hj2 : oj.dst with
      | none => exact fun _ _ h => h
      | some d =>
        have hne : di ≠ d := fun e => h2 di hd (by rw [hj2, e])
        intro k x hx
        simp only [putS, lk_cons] at hx ⊢
        by_cases e1 : di = k
        · subst e1
          rw [if_neg (fun e => hne e.symm), if_pos rfl] at hx
          rw [if_pos rfl]; exact hx
        · rw [if_neg e1]
          rw [if_neg e1] at hx; exact hx

/-! #### The moves -/
def memD (l : List Nat) : Nat → Array Bool
  | n => ⟨(List.range n).map fun i => l.contains i⟩

theorem run_region_D {id : Nat} {ops : List Oper} {fr : Slots} {h : Heap} {Q : Exit → Slots → Heap → Prop} (hm : P.follows .mixedOrders = true)
    (r : RunD P F N ops ops.length (Array.replicate ops.length false) fr h Q) : RunC P F N (.region id ⟨ops⟩ true) fr h Q := by
  refine ⟨fun a w hf hs => wp_region_any hm ?_⟩
  have := SymD.sound (P := P) (F := F) (N := N) (Q := liftQ F N Q) (ops := ⟨ops⟩) (E := fun fr M => ∃ fr0 M0, subS fr0 fr ∧ (∀ x, cnt x M = cnt x M0) ∧ Q .normal fr0 M0)
    (fun fr M a w ⟨fr0, M0, h1, h2, h3⟩ hf hs => ⟨fr0, M0, h3, hf.keep h1, hs.perm ((perm_of_cnt h2).append_right F)⟩) _ _ _ _ r.go a _ hf (hs.drew (n := w.drawn + 1))
  simpa using this

theorem runD_quietS {ops : List Oper} {n : Nat} {listed : Array Bool} {fr : Slots} {M : Heap} {Q : Exit → Slots → Heap → Prop} (i : Nat) {oi : Oper} {d : Nat} {v : Value} (hi : (⟨ops⟩ : Array Oper)[i]? = some oi) (hd : oi.dst = some d) (hN : Nat.blt d N = true)
    (hB : (Region.noSelect ⟨ops⟩ && Region.free .any ⟨ops⟩ listed i && (Region.ready .any ⟨ops⟩ listed).contains i) = true) (hq : QuietS P F N ⟨ops⟩ oi fr v)
    (r : RunD P F N ops n (listed.setIfInBounds i true) ((d, v) :: fr) M Q) : RunD P F N ops (n + 1) listed fr M Q := by
  simp only [Bool.and_eq_true] at hB
  refine ⟨SymD.first ?_ hi (Region.noSelect_spec hB.1.1) hd (by rw [Nat.blt_eq] at hN; exact hN) n listed fr M (Region.free_spec hi hB.1.2) (by simpa using hB.2) hq r.go⟩
  intro f f' M hff hE
  obtain ⟨fr0, M0, h1, h2, h3⟩ := hE
  exact ⟨fr0, M0, fun i v hv => hff i v (h1 i v hv), h2, h3⟩
theorem runD_quiet {ops : List Oper} {n : Nat} {listed : Array Bool} {fr : Slots} {M : Heap} {Q : Exit → Slots → Heap → Prop} (i : Nat) {oi : Oper} {d : Nat} {v : Value} (hi : (⟨ops⟩ : Array Oper)[i]? = some oi) (hg : oi.guard = none) (hd : oi.dst = some d) (hN : Nat.blt d N = true)
    (hB : (Region.noSelect ⟨ops⟩ && Region.free .any ⟨ops⟩ listed i && (Region.ready .any ⟨ops⟩ listed).contains i) = true) (hq : ∀ M, Ev P F N fr [] M oi v)
    (r : RunD P F N ops n (listed.setIfInBounds i true) ((d, v) :: fr) M Q) : RunD P F N ops (n + 1) listed fr M Q :=
  runD_quietS i hi hd hN hB (.inl ⟨fun _ _ => wanted_none hg _, hq⟩) r
/-- Its guard holds. -/
theorem runD_gq {ops : List Oper} {n : Nat} {listed : Array Bool} {fr : Slots} {M : Heap} {Q : Exit → Slots → Heap → Prop} (i : Nat) {oi : Oper} {d j g : Nat} {b want : Bool} (hi : (⟨ops⟩ : Array Oper)[i]? = some oi) (hg : oi.guard = some (j, want)) (hd : oi.dst = some d) (hN : Nat.blt d N = true)
    (hj : gslot ops j = some g) (hb : lk fr g = some (.bool b)) (he : b = want)
    (hB : (Region.noSelect ⟨ops⟩ && Region.free .any ⟨ops⟩ listed i && (Region.ready .any ⟨ops⟩ listed).contains i) = true)
    (r : ∃ v, (∀ M, Ev P F N fr [] M oi v) ∧ RunD P F N ops n (listed.setIfInBounds i true) ((d, v) :: fr) M Q) : RunD P F N ops (n + 1) listed fr M Q :=
  let ⟨_, e, r⟩ := r
  runD_quietS i hi hd hN hB (.inl ⟨fun a hf => by rw [wanted_some hg hj (hf.get _ _ hb), he]; simp, e⟩) r
/-- Its guard doesn't hold. -/
theorem runD_gn {ops : List Oper} {n : Nat} {listed : Array Bool} {fr : Slots} {M : Heap} {Q : Exit → Slots → Heap → Prop} (i : Nat) {oi : Oper} {d j g : Nat} {b want : Bool} (hi : (⟨ops⟩ : Array Oper)[i]? = some oi) (hg : oi.guard = some (j, want)) (hd : oi.dst = some d) (hN : Nat.blt d N = true)
    (hj : gslot ops j = some g) (hb : lk fr g = some (.bool b)) (he : b = !want)
    (hB : (Region.noSelect ⟨ops⟩ && Region.free .any ⟨ops⟩ listed i && (Region.ready .any ⟨ops⟩ listed).contains i) = true)
    (r : RunD P F N ops n (listed.setIfInBounds i true) ((d, undef) :: fr) M Q) : RunD P F N ops (n + 1) listed fr M Q :=
  runD_quietS i hi hd hN hB (.inr ⟨fun a hf => by rw [wanted_some hg hj (hf.get _ _ hb), he]; cases want <;> rfl, rfl⟩) r
theorem SymD.perm {ops : Array Oper} {E : Slots → Heap → Prop} (hE : ∀ f M M', (∀ x, cnt x M = cnt x M') → E f M' → E f M) {n : Nat} {listed : Array Bool} {fr : Slots} {M M' : Heap} (hp : ∀ x, cnt x M = cnt x M') (h : SymD P F N ops E n listed fr M') : SymD P F N ops E n listed fr M := by
  cases n with
  | zero => exact ⟨h.1, hE _ _ _ hp h.2⟩
  | succ n =>
    refine ⟨fun h0 => hE _ _ _ hp (h.1 h0), fun i hi => ?_⟩
    obtain ⟨o, ho, st⟩ := h.2 i hi
    exact ⟨o, ho, st.dst, fun a w hf hw Q' => st.go a w hf (hw.perm ((perm_of_cnt hp).append_right F)) Q'⟩

/-- The same state, told otherwise. -/
theorem RunD.same {ops : List Oper} {n : Nat} {listed : Array Bool} {fr fr' : Slots} {M M' : Heap} {Q : Exit → Slots → Heap → Prop} (hs : subS fr' fr) (hp : ∀ x, cnt x M = cnt x M') (r : RunD P F N ops n listed fr' M' Q) : RunD P F N ops n listed fr M Q := by
  refine ⟨SymD.perm ?_ hp (SymD.mono ?_ _ _ _ _ _ hs r.go)⟩
  · rintro f M M' hm ⟨fr0, M0, h1, h2, h3⟩
    exact ⟨fr0, M0, h1, fun x => (hm x).trans (h2 x), h3⟩
  · rintro f f' M hff ⟨fr0, M0, h1, h2, h3⟩
    exact ⟨fr0, M0, fun i v hv => hff i v (h1 i v hv), h2, h3⟩
theorem runD_done {ops : List Oper} {n : Nat} {listed : Array Bool} {fr : Slots} {M : Heap} {Q : Exit → Slots → Heap → Prop} (hr : (Region.ready .any ⟨ops⟩ listed).isEmpty = true) (q : Q .normal fr M) : RunD P F N ops n listed fr M Q := by
  have hr := List.isEmpty_iff.1 hr
  cases n with
  | zero => exact ⟨⟨hr, fr, M, fun _ _ h => h, fun _ => rfl, q⟩⟩
  | succ n => exact ⟨⟨fun _ => ⟨fr, M, fun _ _ h => h, fun _ => rfl, q⟩, fun i hi => (by rw [hr] at hi; cases hi)⟩⟩

def EndS (o : Oper) (fr : Slots) (K : Slots → Heap → Prop) : Exit → Slots → Heap → Prop := fun e fr' M' => e = .normal ∧ (∃ u, fr' = putS o.dst u fr) ∧ K fr' M'
omit [Base] in
theorem endS_d {o : Oper} {d : Nat} {u : Value} {fr : Slots} {M : Heap} {K : Slots → Heap → Prop} (hd : o.dst = some d) (k : K ((d, u) :: fr) M) : EndS o fr K .normal ((d, u) :: fr) M :=
  ⟨rfl, ⟨u, by rw [hd]; rfl⟩, k⟩
omit [Base] in
theorem endS_n {o : Oper} {fr : Slots} {M : Heap} {K : Slots → Heap → Prop} (hd : o.dst = none) (k : K fr M) : EndS o fr K .normal fr M :=
  ⟨rfl, ⟨undef, by rw [hd]; rfl⟩, k⟩

theorem Step.of_runW {ops : Array Oper} {o : Oper} {fr : Slots} {M : Heap} {K : Slots → Heap → Prop} (hwt : ∀ a, Fits N fr [] a → Region.wanted o (yielded ops a.tmps) = true) (hN : ∀ d, o.dst = some d → d < N) (r : RunL P F N [{ o with guard := none }] [{ o with guard := none }] fr [] M (EndS o fr K)) : Step P F N ops o fr M K := by
  refine ⟨hN, fun a w hf hw Q' => wpG_yes (hwt a hf) ?_⟩
  have h := r.go a w hf hw
  unfold wpL at h
  rw [if_pos (wanted_none rfl _)] at h
  change Oper.wp P o a w _ _ at h
  have fin : ∀ (a1 : Act) (w1 : World) (u0 : Value), a1.tmps = (a.put o.dst u0).tmps → liftQ F N (EndS o fr K) .normal a1 w1 → a1 = a.put o.dst u0 → ∃ u M', a.put o.dst u0 = a.put o.dst u ∧ K (putS o.dst u fr) M' ∧ Sat w1 (M' ++ F) := by
    rintro a1 w1 u0 _ ⟨fr', M', ⟨_, ⟨u, rfl⟩, hK⟩, hfi, hs⟩ rfl
    refine ⟨u, M', ?_, hK, hs⟩
    cases hj : o.dst with
    | none => rfl
    | some d =>
      have hd9 : d < N := hN d hj
      rw [hj] at hfi
      have h5 := hfi.get d u (by simp only [putS, lk_cons, if_true])
      change (a.tmps.setIfInBounds d u0)[d]? = some u at h5
      rw [Array.getElem?_setIfInBounds_self_of_lt (by rw [hf.size]; exact hd9)] at h5
      rw [Option.some.inj h5]
  unfold Oper.wp at *
  generalize (execOp a.eval o).run P w = r at *
  cases r with
  | ok n w' =>
    cases n <;> simp only [Oper.upon] at h ⊢
    case value u => exact fin _ w' u rfl h rfl
    case skip => exact fin _ w' undef rfl h rfl
    case defer d =>
      obtain ⟨fr', M', _, hfi, _⟩ := h
      have h7 : ∀ (b : Act) (q : Option Nat) (x : Value), (b.put q x).defers = b.defers := by intro b q x; cases q <;> rfl
      have := hfi.defers
      simp only [h7] at this
      cases this
    case enter f args =>
      refine Calls.mono h fun e w'' he => ?_
      cases e with
      | returned u => exact fin _ w'' u rfl he rfl
      | panicked c => obtain ⟨_, _, ⟨h1, _⟩, _⟩ := he; cases h1
      | outgrown => obtain ⟨_, _, _, _, ⟨h1, _⟩, _⟩ := he; cases h1
    case row row args => exact Rows.mono h fun u w'' he => fin _ w'' u rfl he rfl
  | halt x w' =>
    cases x <;> simp only [Oper.upon] at h ⊢
    all_goals first | exact h | (obtain ⟨_, _, ⟨h1, _⟩, _⟩ := h; cases h1)

theorem Step.of_run {ops : Array Oper} {o : Oper} {fr : Slots} {M : Heap} {K : Slots → Heap → Prop} (hg : o.guard = none) (hN : ∀ d, o.dst = some d → d < N) (r : RunL P F N [o] [o] fr [] M (EndS o fr K)) : Step P F N ops o fr M K := by
  obtain ⟨d, p, y, q, f, g⟩ := o
  cases hg
  exact Step.of_runW (fun _ _ => wanted_none rfl _) hN r

structure OneD (P : Program) (F : Heap) (N : Nat) (ops : List Oper) (n : Nat) (listed : Array Bool) (fr : Slots) (M : Heap) (Q : Exit → Slots → Heap → Prop) (i : Nat) : Prop where
  go : ∃ o, (⟨ops⟩ : Array Oper)[i]? = some o ∧ Step P F N ⟨ops⟩ o fr M (fun fr' M' => RunD P F N ops n (listed.setIfInBounds i true) fr' M' Q)
def dstB (N : Nat) : Option Nat → Bool
  | none => true
  | some d => Nat.blt d N
omit [Base] in
theorem dstB_spec {d : Option Nat} (h : dstB N d = true) : ∀ k, d = some k → k < N := by
  rintro k rfl
  simpa [dstB] using h
theorem oneD {ops : List Oper} {n : Nat} {listed : Array Bool} {fr : Slots} {M : Heap} {Q : Exit → Slots → Heap → Prop} {i : Nat} {o : Oper} (hi : (⟨ops⟩ : Array Oper)[i]? = some o) (hg : o.guard = none) (hN : dstB N o.dst = true)
    (r : RunL P F N [o] [o] fr [] M (EndS o fr (fun fr' M' => RunD P F N ops n (listed.setIfInBounds i true) fr' M' Q))) : OneD P F N ops n listed fr M Q i :=
  ⟨o, hi, Step.of_run hg (dstB_spec hN) r⟩
def ungd (o : Oper) : Oper := { o with guard := none }
theorem oneDg {ops : List Oper} {n : Nat} {listed : Array Bool} {fr : Slots} {M : Heap} {Q : Exit → Slots → Heap → Prop} {i : Nat} {o o' : Oper} {j g : Nat} {b want : Bool} (hi : (⟨ops⟩ : Array Oper)[i]? = some o) (hg : o.guard = some (j, want)) (hj : gslot ops j = some g) (hb : lk fr g = some (.bool b)) (he : b = want) (hN : dstB N o.dst = true)
    (ho : ungd o = o') (r : RunL P F N [o'] [o'] fr [] M (EndS o fr (fun fr' M' => RunD P F N ops n (listed.setIfInBounds i true) fr' M' Q))) : OneD P F N ops n listed fr M Q i := by
  subst ho
  exact ⟨o, hi, Step.of_runW (fun a hf => by rw [wanted_some hg hj (hf.get _ _ hb), he]; simp) (dstB_spec hN) r⟩
theorem runD_many {ops : List Oper} {n : Nat} {listed : Array Bool} {fr : Slots} {M : Heap} {Q : Exit → Slots → Heap → Prop} (rs : List Nat) (hr : (Region.ready .any ⟨ops⟩ listed == rs) = true) (hne : rs.isEmpty = false)
    (h : ∀ i ∈ rs, OneD P F N ops n listed fr M Q i) : RunD P F N ops (n + 1) listed fr M Q := by
  have hr : Region.ready .any ⟨ops⟩ listed = rs := by simpa using hr
  refine ⟨⟨fun h0 => ?_, fun i hi => ?_⟩⟩
  · rw [hr] at h0; subst h0; cases hne
  · rw [hr] at hi
    obtain ⟨o, ho, st⟩ := (h i hi).go
    exact ⟨o, ho, st.mono (fun _ _ h => h) fun f f' M' hff hK => SymD.mono (by
      rintro f f' M hff ⟨fr0, M0, h1, h2, h3⟩
      exact ⟨fr0, M0, fun i v hv => hff i v (h1 i v hv), h2, h3⟩) _ _ _ _ _ hff hK.go⟩
theorem runD_1 {ops : List Oper} {n : Nat} {listed : Array Bool} {fr : Slots} {M : Heap} {Q : Exit → Slots → Heap → Prop} (k : Nat) {o : Oper} (hr : (Region.ready .any ⟨ops⟩ listed == [k]) = true) (hi : (⟨ops⟩ : Array Oper)[k]? = some o) (hg : o.guard = none) (hN : dstB N o.dst = true)
    (r : RunL P F N [o] [o] fr [] M (EndS o fr (fun fr' M' => RunD P F N ops n (listed.setIfInBounds k true) fr' M' Q))) : RunD P F N ops (n + 1) listed fr M Q :=
  runD_many [k] hr rfl fun i hi' => by
    rw [List.mem_singleton.1 hi']; exact oneD hi hg hN r
theorem runD_g1 {ops : List Oper} {n : Nat} {listed : Array Bool} {fr : Slots} {M : Heap} {Q : Exit → Slots → Heap → Prop} (k : Nat) {o o' : Oper} {j g : Nat} {b want : Bool} (hr : (Region.ready .any ⟨ops⟩ listed == [k]) = true) (hi : (⟨ops⟩ : Array Oper)[k]? = some o) (hg : o.guard = some (j, want)) (hj : gslot ops j = some g) (hb : lk fr g = some (.bool b)) (he : b = want) (hN : dstB N o.dst = true) (ho : ungd o = o')
    (r : RunL P F N [o'] [o'] fr [] M (EndS o fr (fun fr' M' => RunD P F N ops n (listed.setIfInBounds k true) fr' M' Q))) : RunD P F N ops (n + 1) listed fr M Q :=
  runD_many [k] hr rfl fun i hi' => by
    rw [List.mem_singleton.1 hi']; exact oneDg hi hg hj hb he hN ho r
theorem runD_2 {ops : List Oper} {n : Nat} {listed : Array Bool} {fr : Slots} {M : Heap} {Q : Exit → Slots → Heap → Prop} (k1 k2 : Nat) (hr : (Region.ready .any ⟨ops⟩ listed == [k1, k2]) = true)
    (h1 : OneD P F N ops n listed fr M Q k1) (h2 : OneD P F N ops n listed fr M Q k2) : RunD P F N ops (n + 1) listed fr M Q :=
  runD_many [k1, k2] hr rfl fun i hi' => by
    simp only [List.mem_cons, List.not_mem_nil, or_false] at hi'
    rcases hi' with rfl | rfl
    · exact h1
    · exact h2
theorem runD_q {ops : List Oper} {n : Nat} {listed : Array Bool} {fr : Slots} {M : Heap} {Q : Exit → Slots → Heap → Prop} (i : Nat) {oi : Oper} {d : Nat} (hi : (⟨ops⟩ : Array Oper)[i]? = some oi) (hd : okE oi N [] = some d)
    (hB : (Region.noSelect ⟨ops⟩ && Region.free .any ⟨ops⟩ listed i && (Region.ready .any ⟨ops⟩ listed).contains i) = true)
    (r : ∃ v, (∀ M, Ev P F N fr [] M oi v) ∧ RunD P F N ops n (listed.setIfInBounds i true) ((d, v) :: fr) M Q) : RunD P F N ops (n + 1) listed fr M Q :=
  let ⟨a, b, c, _⟩ := okE_spec hd
  let ⟨_, e, r⟩ := r
  runD_quiet i hi a b c hB e r
/-- A heap put together, written out whole. -/
def catK : Heap → Heap → (Heap → Option Heap) → Option Heap
  | [], A, k => k A
  | x :: r, A, k => catK r A fun t => k (x :: t)
omit [Base] in
theorem catK_spec : ∀ (M A : Heap) (k : Heap → Option Heap), catK M A k = k (M ++ A)
  | [], A, k => rfl
  | x :: r, A, k => by rw [catK, catK_spec r A]; rfl
theorem RunC.whole {c : Code} {fr : Slots} {M A h : Heap} {Q : Exit → Slots → Heap → Prop} (hc : catK M A some = some h) (r : RunC P F N c fr h Q) : RunC P F N c fr (M ++ A) Q := by
  rw [catK_spec] at hc
  cases hc
  exact r

def quietOp (o : Oper) : Bool := match o.op with
  | .alloc .. | .box .. | .store .. | .buildSlice .. => false
  | .call ⟨.builtin b, _, _⟩ => (match b with | .append | .copy => false | _ => true)
  | _ => true
/-! #### Some blocks at once, in whatever order -/
def slotsA (as : List (Nat × Nat)) (bs : Nat → Nat) : Slots := as.map fun a => (a.2, .pointer (some ⟨bs a.1, 0, none⟩))
def blksA (z : List Value) (e : TypeId) (as : List (Nat × Nat)) (bs : Nat → Nat) : Heap := as.map fun a => blk (bs a.1) z e
def setA (listed : Array Bool) (as : List (Nat × Nat)) : Array Bool := as.foldl (fun l a => l.setIfInBounds a.1 true) listed
def allocB (ops : List Oper) (N : Nat) (e : TypeId) (a : Nat × Nat) : Bool := match (⟨ops⟩ : Array Oper)[a.1]? with
  | some o => (match o.op with | .alloc e' => Nat.beq e' e | _ => false) && o.guard.isNone && (o.dst == some a.2) && Nat.blt a.2 N
  | none => false

def nodupB : List Nat → Bool
  | [] => true
  | x :: r => !r.contains x && nodupB r
def allocsB (ops : List Oper) (N : Nat) (e : TypeId) (listed : Array Bool) (as : List (Nat × Nat)) : Bool :=
  nodupB (as.map Prod.fst) && nodupB (as.map Prod.snd) && as.all (allocB ops N e) && as.all (fun a => (Region.ready .any ⟨ops⟩ listed).contains a.1) &&
    (List.range ops.length).all fun j => listed.getD j true || as.any (fun a => a.1 == j) || match (⟨ops⟩ : Array Oper)[j]? with
      | some o => as.all fun a => o.after.any fun ed => Region.binds .any ed && ed.on == a.1
      | none => true
end
end Go.SL
