/- The separation layer, operations: what each operation of a statement does to slots and told blocks. It proves no statement by itself. -/
import Derived.Test.YtmelpobcpcmdoaaGreatSLCore
set_option autoImplicit false
namespace Go.SL
variable [Base]

omit [Base] in
theorem wpOps_of_wpL {P : Program} {ops : Array Oper} {Q : Exit → Act → World → Prop} : ∀ (l pre : List Oper), ops.toList = pre ++ l → ∀ a w, wpL P ops Q l a w → wpOps P ops Q (List.range' pre.length l.length) a w
  | [], _, _, _, _, h => h
  | o :: rest, pre, he, a, w, h => by
    have hi : ops[pre.length]? = some o := by
      rw [← Array.getElem?_toList, he]; simp
    rw [List.length_cons, List.range'_succ, wpOps_cons]
    have ih : ∀ a w, wpL P ops Q rest a w → wpOps P ops Q (List.range' (pre.length + 1) rest.length) a w := by
      intro a w hh
      have := wpOps_of_wpL rest (pre ++ [o]) (by simp [he]) a w hh
      simpa using this
    unfold wpOp
    simp only [hi]
    unfold wpL at h
    split
    · rename_i hw
      simp only [hw, if_true] at h
      exact .inl (Oper.wp_mono ih h)
    · rename_i hw
      simp only [hw] at h
      exact ih _ _ h

omit [Base] in
theorem z0 (a b : Bool) : ((a || b) = true) = (a = true ∨ b = true) := Bool.or_eq_true a b
omit [Base] in
theorem z1 {a b : Bool} : (a || b) = false ↔ a = false ∧ b = false := Bool.or_eq_false_iff
omit [Base] in
theorem z2 (a b : Bool) : ((a && b) = true) = (a = true ∧ b = true) := Bool.and_eq_true a b
omit [Base] in
theorem z3 {a b : Bool} : (a && b) = false ↔ a = false ∨ b = false := Bool.and_eq_false_iff
omit [Base] in
theorem z4 (a : Bool) : ((!a) = true) = (a = false) := Bool.not_eq_true' a
omit [Base] in
theorem z5 (a : Bool) : ((!a) = false) = (a = true) := Bool.not_eq_false' a
omit [Base] in
theorem z6 {p : Prop} [Decidable p] : (decide p = true) = p := decide_eq_true_eq
omit [Base] in
theorem z7 {p : Prop} [Decidable p] : (decide p = false) ↔ ¬p := decide_eq_false_iff_not
omit [Base] in
theorem z8 {a b : Int} : ¬a < b ↔ b ≤ a := Int.not_lt
omit [Base] in
theorem z9 {a b : Int} : ¬a ≤ b ↔ b < a := Int.not_le
section
variable {P : Program} {F : Heap} {N : Nat}

theorem run_region {id : Nat} {ops : List Oper} {fr : Slots} {h : Heap} {Q : Exit → Slots → Heap → Prop} (r : RunL P F N ops ops fr [] h Q) : RunC P F N (.region id ⟨ops⟩ false) fr h Q := by
  refine ⟨fun a w hf hs => wp_region ?_⟩
  have := wpOps_of_wpL (P := P) (Q := liftQ F N Q) (ops := ⟨ops⟩) ops [] (by simp) a w (r.go a w hf hs)
  simpa [List.range_eq_range'] using this

theorem run_region_draw {id : Nat} {ops : List Oper} {fr : Slots} {h : Heap} {Q : Exit → Slots → Heap → Prop} (hm : P.follows .mixedOrders = true) (hB : Region.lexB .any ⟨ops⟩ = true)
    (r : RunQ P F N ops ops fr [] h (fun fr' => Q .normal fr' h)) : RunC P F N (.region id ⟨ops⟩ true) fr h Q := by
  refine ⟨fun a w hf hs => ?_⟩
  refine wp_region_quiet (C := fun w => Sat w (h ++ F)) hm hB hs.drew ?_
  have mono : ∀ (l : List Oper) (a : Act) (K K' : Act → Prop), (∀ a, K a → K' a) → wpQuiet P ⟨ops⟩ (fun w => Sat w (h ++ F)) K l a → wpQuiet P ⟨ops⟩ (fun w => Sat w (h ++ F)) K' l a := by
    intro l
    induction l with
    | nil => intro a K K' hk hh; exact hk _ hh
    | cons o rest ih =>
      intro a K K' hk hh
      unfold wpQuiet at hh ⊢
      split at hh
      · rename_i hw; rw [if_pos hw]; exact Oper.quiet_mono (fun a => ih a K K' hk) hh
      · rename_i hw; rw [if_neg hw]; exact ih _ K K' hk hh
  exact mono _ _ _ _ (fun a' ⟨fr', hk, hf'⟩ w' hw' => ⟨fr', h, hk, hf', hw'⟩) (r.go a hf)

theorem runL_nil {ops : List Oper} {fr : Slots} {cs : Conds} {h : Heap} {Q : Exit → Slots → Heap → Prop} (q : Q .normal fr h) : RunL P F N ops [] fr cs h Q :=
  ⟨fun _ _ hf hs => ⟨fr, h, q, hf.drop, hs⟩⟩
theorem runQ_nil {ops : List Oper} {fr : Slots} {cs : Conds} {h : Heap} {K : Slots → Prop} (q : K fr) : RunQ P F N ops [] fr cs h K :=
  ⟨fun _ hf => ⟨fr, q, hf.drop⟩⟩

theorem Ev.wp {fr : Slots} {cs : Conds} {h : Heap} {o : Oper} {v : Value} (e : Ev P F N fr cs h o v) {a : Act} {w : World} (hf : Fits N fr cs a) (hs : Sat w (h ++ F))
    {K : Act → World → Prop} {Q : Exit → Act → World → Prop} (hk : ∀ w', Sat w' (h ++ F) → K (a.put o.dst v) w') : o.wp P a w K Q :=
  Oper.wp_of_quiet (C := fun w => Sat w (h ++ F)) (K := fun a' => a' = a.put o.dst v) hs (fun a' w' hw' ha => by subst ha; exact hk w' hw') ⟨v, fun w hw => e.go a hf w hw, rfl⟩

omit [Base] in
theorem wanted_none {o : Oper} (hg : o.guard = none) (y : Nat → Option Bool) : Region.wanted o y = true := by
  unfold Region.wanted; rw [hg]

/-- The slot of an operation's answer. -/
def gslot : List Oper → Nat → Option Nat
  | [], _ => none
  | o :: _, 0 => o.dst
  | _ :: r, j + 1 => gslot r j
omit [Base] in
theorem gslot_eq : ∀ (l : List Oper) (j : Nat), gslot l j = (((⟨l⟩ : Array Oper)[j]?).bind (·.dst))
  | [], _ => by simp [gslot]
  | o :: _, 0 => by simp [gslot]
  | _ :: r, j + 1 => by
    have := gslot_eq r j
    simp only [gslot, this]
    simp

omit [Base] in
theorem wanted_some {o : Oper} {ops : List Oper} {tmps : Array Value} {j g : Nat} {want b : Bool} (hg : o.guard = some (j, want)) (hs : gslot ops j = some g) (hb : tmps[g]? = some (.bool b)) :
    Region.wanted o (yielded ⟨ops⟩ tmps) = (b == want) := by
  rw [gslot_eq] at hs
  unfold Region.wanted yielded
  rw [hg]; simp only; rw [hs]; simp only [Option.bind_some, hb]
  cases b <;> cases want <;> rfl

theorem runL_ev {ops : List Oper} {o : Oper} {rest : List Oper} {fr : Slots} {cs : Conds} {h : Heap} {Q : Exit → Slots → Heap → Prop} {d : Nat} {v : Value}
    (hg : o.guard = none) (hd : o.dst = some d) (hN : Nat.blt d N = true) (hf : freshIn d cs = true) (e : Ev P F N fr cs h o v) (r : RunL P F N ops rest ((d, v) :: fr) cs h Q) : RunL P F N ops (o :: rest) fr cs h Q := by
  refine ⟨fun a w hfi hs => ?_⟩
  unfold wpL
  rw [if_pos (wanted_none hg _)]
  refine e.wp hfi hs fun w' hs' => ?_
  rw [hd]
  exact r.go _ w' (hfi.put hN hf) hs'

theorem runQ_ev {ops : List Oper} {o : Oper} {rest : List Oper} {fr : Slots} {cs : Conds} {h : Heap} {K : Slots → Prop} {d : Nat} {v : Value}
    (hg : o.guard = none) (hd : o.dst = some d) (hN : Nat.blt d N = true) (hf : freshIn d cs = true) (e : Ev P F N fr cs h o v) (r : RunQ P F N ops rest ((d, v) :: fr) cs h K) : RunQ P F N ops (o :: rest) fr cs h K := by
  refine ⟨fun a hfi => ?_⟩
  unfold wpQuiet
  rw [if_pos (wanted_none hg _)]
  refine ⟨v, fun w hw => e.go a hfi w hw, ?_⟩
  rw [hd]
  exact r.go _ (hfi.put hN hf)

omit [Base] in
/-- A guarded operation: what it yields is told under its guard. -/
theorem Fits.putC {N d g : Nat} {want : Bool} {fr : Slots} {cs : Conds} {a : Act} {v u : Value} (f : Fits N fr cs a) (hN : Nat.blt d N = true) (hf : freshIn d cs = true) (hl : lk fr d = none) (hdg : Nat.beq g d = false)
    (hu : a.tmps[g]? = some (.bool want) → u = v) (hu' : a.tmps[g]? ≠ some (.bool want) → u = undef) : Fits N fr ((g, want, d, v) :: cs) (a.put (some d) u) := by
  have p := f.put (v := u) hN hf
  have hN' : d < N := by rw [Nat.blt_eq] at hN; exact hN
  have hgd : d ≠ g := fun e => by subst e; rw [Nat.beq_refl] at hdg; cases hdg
  refine ⟨p.defers, p.size, fun i x hx => p.get i x ?_, fun g' b' d' v' m hh => ?_, fun g' b' d' v' m hh => ?_⟩
  · unfold lk
    have : Nat.beq d i = false := by
      cases hb : Nat.beq d i with
      | false => rfl
      | true => have := Nat.eq_of_beq_eq_true hb; subst this; rw [hl] at hx; cases hx
    rw [this]; exact hx
  · rcases List.mem_cons.1 m with e | m
    · cases e
      change (a.tmps.setIfInBounds d u)[g]? = _ at hh
      rw [Array.getElem?_setIfInBounds_ne hgd] at hh
      show (a.tmps.setIfInBounds d u)[d]? = _
      rw [Array.getElem?_setIfInBounds_self_of_lt (by rw [f.size]; exact hN'), hu hh]
    · exact p.cond _ _ _ _ m hh
  · rcases List.mem_cons.1 m with e | m
    · cases e
      change (a.tmps.setIfInBounds d u)[g]? ≠ _ at hh
      rw [Array.getElem?_setIfInBounds_ne hgd] at hh
      show (a.tmps.setIfInBounds d u)[d]? = _
      rw [Array.getElem?_setIfInBounds_self_of_lt (by rw [f.size]; exact hN'), hu' hh]
    · exact p.other _ _ _ _ m hh

/-- A guard that is itself told under a guard. -/
def condOf : Conds → Nat → Bool → Nat → Option Value
  | [], _, _, _ => none
  | (g, b, d, v) :: r, i, c, j => bif (Nat.beq g i && (b == c) && Nat.beq d j) then some v else condOf r i c j
omit [Base] in
theorem condOf_spec {cs : Conds} {i j : Nat} {c : Bool} {v : Value} (h : condOf cs i c j = some v) : (i, c, j, v) ∈ cs := by
  induction cs with
  | nil => cases h
  | cons x r ih =>
    obtain ⟨g, b, d, u⟩ := x
    unfold condOf at h
    cases hc : (Nat.beq g i && (b == c) && Nat.beq d j) with
    | false => rw [hc] at h; exact List.mem_cons_of_mem _ (ih h)
    | true =>
      rw [hc] at h
      simp only [Bool.and_eq_true, beq_iff_eq] at hc
      have e1 := Nat.eq_of_beq_eq_true hc.1.1
      have e2 := hc.1.2
      have e3 := Nat.eq_of_beq_eq_true hc.2
      simp only [cond_true, Option.some.injEq] at h
      subst e1; subst e2; subst e3; subst h
      exact List.mem_cons_self ..
def gguard : List Oper → Nat → Option (Nat × Bool)
  | [], _ => none
  | o :: _, 0 => o.guard
  | _ :: r, j + 1 => gguard r j
omit [Base] in
theorem wanted_not {o : Oper} {ops : List Oper} {tmps : Array Value} {j g : Nat} {want : Bool} (hg : o.guard = some (j, want)) (hs : gslot ops j = some g) (hb : tmps[g]? ≠ some (.bool want)) :
    Region.wanted o (yielded ⟨ops⟩ tmps) = false := by
  rw [gslot_eq] at hs
  unfold Region.wanted yielded
  rw [hg]; simp only; rw [hs]; simp only [Option.bind_some]
  cases hv : tmps[g]? with
  | none => rfl
  | some v =>
    cases v <;> first | rfl | skip
    rename_i b
    rw [hv] at hb
    cases b <;> cases want <;> first | rfl | (exact absurd rfl hb)
/-- The guards on the way to an operation, the nearest first. -/
def gpath (ops : List Oper) : Nat → Nat × Bool → Option (List (Nat × Bool))
  | 0, _ => none
  | n + 1, (j, want) => match gslot ops j with
    | some g => match gguard ops j with
      | none => some [(g, want)]
      | some jw => match gpath ops n jw with
        | some p => some ((g, want) :: p)
        | none => none
    | none => none
def underP (cs : Conds) : List (Nat × Bool) → Slots → Slots
  | [], fr => fr
  | (g, w) :: p, fr => under cs g w (underP cs p fr)
def pathH (fr : Slots) (cs : Conds) : List (Nat × Bool) → Option Prop
  | [] => none
  | [(g, w)] => match lk fr g with
    | some (.bool b) => some (b = w)
    | _ => none
  | (g, w) :: (g', w') :: p => match condOf cs g' w' g with
    | some (.bool b) => match pathH fr cs ((g', w') :: p) with
      | some H => some (b = w ∧ H)
      | none => none
    | _ => none
omit [Base] in
theorem path_fits {fr : Slots} {cs : Conds} {a : Act} (f : Fits N fr cs a) : ∀ (p : List (Nat × Bool)) (H : Prop), pathH fr cs p = some H → (∀ g w r, p = (g, w) :: r → a.tmps[g]? = some (.bool w) → H ∧ Fits N (underP cs p fr) cs a)
  | [], _, h => by cases h
  | [(g, w)], H, h => by
    intro g' w' r e ht
    simp only [List.cons.injEq, Prod.mk.injEq] at e
    obtain ⟨⟨rfl, rfl⟩, rfl⟩ := e
    unfold pathH at h
    split at h
    · rename_i b hb
      have := f.get _ _ hb
      rw [ht] at this
      simp only [Option.some.injEq, Value.bool.injEq] at this h
      subst h
      exact ⟨this.symm, f.under ht⟩
    · cases h
  | (g, w) :: (g', w') :: p, H, h => by
    intro g1 w1 r e ht
    simp only [List.cons.injEq, Prod.mk.injEq] at e
    obtain ⟨⟨rfl, rfl⟩, rfl⟩ := e
    unfold pathH at h
    split at h
    · rename_i b hb
      split at h
      · rename_i H' hH
        simp only [Option.some.injEq] at h
        subst h
        have hm := condOf_spec hb
        have hc0 : a.tmps[g']? = some (.bool w') := by
          by_cases h0 : a.tmps[g']? = some (.bool w')
          · exact h0
          · have := f.other _ _ _ _ hm h0
            rw [ht] at this; cases this
        have ih := path_fits f ((g', w') :: p) H' hH g' w' p rfl hc0
        have := f.cond _ _ _ _ hm hc0
        rw [ht] at this
        simp only [Option.some.injEq, Value.bool.injEq] at this
        exact ⟨⟨this.symm, ih.1⟩, ih.2.under ht⟩
      · cases h
    · cases h
def headIs (p : List (Nat × Bool)) (g : Nat) (w : Bool) : Bool := match p with | (g', w') :: _ => Nat.beq g' g && (w' == w) | [] => false
theorem runL_guardP {ops : List Oper} {o : Oper} {rest : List Oper} {fr : Slots} {cs : Conds} {h : Heap} {Q : Exit → Slots → Heap → Prop} {d g j : Nat} {want : Bool} {v : Value} {p : List (Nat × Bool)} {H : Prop}
    (hg : o.guard = some (j, want)) (hd : o.dst = some d) (hj : gslot ops j = some g) (hp : gpath ops 9 (j, want) = some p) (hh : headIs p g want = true) (hH : pathH fr cs p = some H)
    (hN : Nat.blt d N = true) (hf : freshIn d cs = true) (hl : lk fr d = none) (hdg : Nat.beq g d = false)
    (e : H → Ev P F N (underP cs p fr) cs h o v) (r : RunL P F N ops rest fr ((g, want, d, v) :: cs) h Q) : RunL P F N ops (o :: rest) fr cs h Q := by
  refine ⟨fun a w hfi hs => ?_⟩
  unfold wpL
  by_cases hc : a.tmps[g]? = some (.bool want)
  · have hp2 : ∃ r, p = (g, want) :: r := by
      match p, hh with
      | (g', w') :: r2, hh =>
        simp only [headIs, Bool.and_eq_true, beq_iff_eq] at hh
        have e1 := Nat.eq_of_beq_eq_true hh.1
        have e2 := hh.2
        subst e1; subst e2
        exact ⟨r2, rfl⟩
    obtain ⟨r', hp2⟩ := hp2
    have hk := path_fits hfi p H hH g want r' hp2 hc
    rw [wanted_some hg hj hc, if_pos (by simp)]
    refine (e hk.1).wp hk.2 hs fun w' hs' => ?_
    rw [hd]
    exact r.go _ w' (hfi.putC hN hf hl hdg (fun _ => rfl) (fun e => absurd hc e)) hs'
  · rw [wanted_not hg hj hc, if_neg (by simp), hd]
    exact r.go _ w (hfi.putC hN hf hl hdg (fun e => absurd e hc) (fun _ => rfl)) hs
/-! To see which kind of goal stands. -/
/-! The same rules in short: the conditions asked at once; the value to be found by what follows. -/
def okE (o : Oper) (N : Nat) (cs : Conds) : Option Nat :=
  match o.guard, o.dst with
  | none, some d => bif Nat.blt d N && freshIn d cs then some d else none
  | _, _ => none
omit [Base] in
theorem okE_spec {o : Oper} {cs : Conds} {d : Nat} (h : okE o N cs = some d) : o.guard = none ∧ o.dst = some d ∧ Nat.blt d N = true ∧ freshIn d cs = true := by
  unfold okE at h
  split at h
  · rename_i d' hg hd
    cases hc : (Nat.blt d' N && freshIn d' cs) with
    | false => rw [hc] at h; cases h
    | true =>
      rw [hc] at h
      simp only [cond_true, Option.some.injEq] at h
      subst h
      simp only [Bool.and_eq_true] at hc
      exact ⟨hg, hd, hc.1, hc.2⟩
  · cases h
/-- Of a guarded operation: its slot, its guards on the way. -/
def okP (ops : List Oper) (o : Oper) (N : Nat) (fr : Slots) (cs : Conds) : Option (Nat × Nat × Bool × List (Nat × Bool)) :=
  match o.guard, o.dst with
  | some (j, w), some d => match gslot ops j, gpath ops 9 (j, w) with
    | some g, some p => bif headIs p g w && Nat.blt d N && freshIn d cs && (lk fr d).isNone && !(Nat.beq g d) then some (d, g, w, p) else none
    | _, _ => none
  | _, _ => none
omit [Base] in
theorem okP_spec {ops : List Oper} {o : Oper} {fr : Slots} {cs : Conds} {d g : Nat} {want : Bool} {p : List (Nat × Bool)} (h : okP ops o N fr cs = some (d, g, want, p)) :
    ∃ j, o.guard = some (j, want) ∧ o.dst = some d ∧ gslot ops j = some g ∧ gpath ops 9 (j, want) = some p ∧ headIs p g want = true ∧ Nat.blt d N = true ∧ freshIn d cs = true ∧ lk fr d = none ∧ Nat.beq g d = false := by
  unfold okP at h
  split at h
  · rename_i j want d' hg hd
    split at h
    · rename_i g p' hs hp
      cases hc : (headIs p' g want && Nat.blt d' N && freshIn d' cs && (lk fr d').isNone && !(Nat.beq g d')) with
      | false => rw [hc] at h; cases h
      | true =>
        rw [hc] at h
        simp only [cond_true, Option.some.injEq, Prod.mk.injEq] at h
        obtain ⟨rfl, rfl, rfl, rfl⟩ := h
        simp only [Bool.and_eq_true, Bool.not_eq_true', Option.isNone_iff_eq_none] at hc
        exact ⟨j, hg, hd, hs, hp, hc.1.1.1.1, hc.1.1.1.2, hc.1.1.2, hc.1.2, hc.2⟩
    · cases h
  · cases h
theorem xel {ops : List Oper} {o : Oper} {rest : List Oper} {fr : Slots} {cs : Conds} {h : Heap} {Q : Exit → Slots → Heap → Prop} {d : Nat} {v : Value} (k : okE o N cs = some d) (e : Ev P F N fr cs h o v) (r : RunL P F N ops rest ((d, v) :: fr) cs h Q) : RunL P F N ops (o :: rest) fr cs h Q :=
  let ⟨a, b, c, f⟩ := okE_spec k
  runL_ev a b c f e r
theorem xql {ops : List Oper} {o : Oper} {rest : List Oper} {fr : Slots} {cs : Conds} {h : Heap} {K : Slots → Prop} {d : Nat} {v : Value} (k : okE o N cs = some d) (e : Ev P F N fr cs h o v) (r : RunQ P F N ops rest ((d, v) :: fr) cs h K) : RunQ P F N ops (o :: rest) fr cs h K :=
  let ⟨a, b, c, f⟩ := okE_spec k
  runQ_ev a b c f e r
theorem xgl {ops : List Oper} {o : Oper} {rest : List Oper} {fr : Slots} {cs : Conds} {h : Heap} {Q : Exit → Slots → Heap → Prop} {d g : Nat} {want : Bool} {p : List (Nat × Bool)} {H : Prop} {v : Value} (k : okP ops o N fr cs = some (d, g, want, p)) (hH : pathH fr cs p = some H) (e : H → Ev P F N (underP cs p fr) cs h o v)
    (r : RunL P F N ops rest fr ((g, want, d, v) :: cs) h Q) : RunL P F N ops (o :: rest) fr cs h Q := by
  obtain ⟨j, a1, a2, a3, a4, a5, a6, a7, a8, a9⟩ := okP_spec k
  exact runL_guardP a1 a2 a3 a4 a5 hH a6 a7 a8 a9 e r
/-! And the value still open: for the search. -/
/-- A guard that is known to hold, or not to. -/
theorem runL_yes {ops : List Oper} {dst : Option Tmp} {op : Op} {t : TypeId} {p : String} {af : Array Edge} {rest : List Oper} {fr : Slots} {cs : Conds} {h : Heap} {Q : Exit → Slots → Heap → Prop} {g j : Nat} {b want : Bool}
    (hj : gslot ops j = some g) (hb : lk fr g = some (.bool b)) (hw : b = want) (r : RunL P F N ops (⟨dst, op, t, p, af, none⟩ :: rest) fr cs h Q) : RunL P F N ops (⟨dst, op, t, p, af, some (j, want)⟩ :: rest) fr cs h Q := by
  refine ⟨fun a w hfi hs => ?_⟩
  have := r.go a w hfi hs
  unfold wpL at this ⊢
  rw [wanted_some (o := ⟨dst, op, t, p, af, some (j, want)⟩) rfl hj (hfi.get _ _ hb), hw]
  rw [if_pos (wanted_none rfl _)] at this
  rw [if_pos (by simp)]
  exact this
theorem runL_no {ops : List Oper} {o : Oper} {rest : List Oper} {fr : Slots} {cs : Conds} {h : Heap} {Q : Exit → Slots → Heap → Prop} {d g j : Nat} {b want : Bool}
    (hg : o.guard = some (j, want)) (hd : o.dst = some d) (hj : gslot ops j = some g) (hb : lk fr g = some (.bool b)) (hw : b = !want) (hN : Nat.blt d N = true) (hf : freshIn d cs = true)
    (r : RunL P F N ops rest ((d, undef) :: fr) cs h Q) : RunL P F N ops (o :: rest) fr cs h Q := by
  refine ⟨fun a w hfi hs => ?_⟩
  unfold wpL
  rw [wanted_some hg hj (hfi.get _ _ hb), hw, if_neg (by cases want <;> simp), hd]
  exact r.go _ w (hfi.put hN hf) hs

/-! #### Pure operations -/
def kNum : IntKind → Nat
  | .i8 => 0 | .i16 => 1 | .i32 => 2 | .i64 => 3 | .u8 => 4 | .u16 => 5 | .u32 => 6 | .u64 => 7
omit [Base] in
theorem kNum_inj {a b : IntKind} (h : Nat.beq (kNum a) (kNum b) = true) : a = b := by
  have := Nat.eq_of_beq_eq_true h
  cases a <;> cases b <;> first | rfl | (exact absurd this (by decide))

def intV (op : BinOp) (k : IntKind) (a b : Int) : Option Value :=
  match op with
  | .add => some (.int k (k.wrap (a + b)))
  | .sub => some (.int k (k.wrap (a - b)))
  | .mul => some (.int k (k.wrap (a * b)))
  | .eql => some (.bool (decide (a = b)))
  | .neq => some (.bool (!decide (a = b)))
  | .lss => some (.bool (decide (a < b)))
  | .leq => some (.bool (decide (a ≤ b)))
  | .gtr => some (.bool (decide (b < a)))
  | .geq => some (.bool (decide (b ≤ a)))
  | _ => none

def cmpV (op : BinOp) (a b : Int) : Option Value :=
  match op with
  | .eql => some (.bool (decide (a = b)))
  | .neq => some (.bool (!decide (a = b)))
  | .lss => some (.bool (decide (a < b)))
  | .leq => some (.bool (decide (a ≤ b)))
  | .gtr => some (.bool (decide (b < a)))
  | .geq => some (.bool (decide (b ≤ a)))
  | _ => none

omit [Base] in
theorem intV_cmp {op : BinOp} {k : IntKind} {a b : Int} {v : Value} (h : cmpV op a b = some v) : intV op k a b = some v := by
  cases op <;> simp only [cmpV, Option.some.injEq, reduceCtorEq] at h <;> subst h <;> rfl

def pickV (b : Bool) (x y : Operand) (u v : Option Value) : Option Value :=
  match x, y, u, v with
  | .const (.bool true), _, _, some (.bool q) => some (.bool (b || q))
  | _, .const (.bool false), some (.bool p), _ => some (.bool (b && p))
  | _, _, _, _ => none

def pureV (fr : Slots) (cs : Conds) : Op → Option Value
  | .move x => evO fr x
  | .assign x => evO fr x
  | .pick (.tmp g) x y => match lk fr g with
    | some (.bool b) => pickV b x y (evO (under cs g true fr) x) (evO (under cs g false fr) y)
    | _ => none
  | .binOp op _ x y _ => match evO fr x, evO fr y with
    | some (.int k a), some (.int k' b) => bif Nat.beq (kNum k) (kNum k') then cmpV op a b else none
    | _, _ => none
  | .unOp .not _ x => match evO fr x with
    | some (.bool b) => some (.bool (!b))
    | _ => none
  | .extract x i => match evO fr x with
    | some (.tuple ⟨l⟩) => l[i]?
    | _ => none
  | .nilCheck x => match evO fr x with
    | some (.pointer (some p)) => some (.pointer (some p))
    | _ => none
  | _ => none

theorem Ev.of_run {fr : Slots} {cs : Conds} {h : Heap} {o : Oper} {v : Value} (hr : ∀ a, Fits N fr cs a → ∀ w, Sat w (h ++ F) → (execOp a.eval o).run P w = .ok (.value v) w) : Ev P F N fr cs h o v := by
  refine ⟨fun a hf w hs => ?_⟩
  unfold Oper.quietAt
  rw [hr a hf w hs]
  exact ⟨rfl, rfl⟩

omit [Base] in
theorem intV_run {op : BinOp} {k : IntKind} {a b : Int} {v : Value} (h : intV op k a b = some v) (t : TypeId) (x y : Operand) (w : World) :
    (do eqGuard op t x y (.int k a) (.int k b); binOp op t (.int k a) (.int k b) : Sem Value).run P w = .ok v w := by
  cases op <;> simp only [intV, Option.some.injEq, reduceCtorEq] at h <;> subst h <;>
    simp [eqGuard, binOp, Op.intArith, Op.intCmp, bne]
  all_goals rfl

theorem ev_pure {fr : Slots} {cs : Conds} {h : Heap} {o : Oper} {v : Value} (hv : pureV fr cs o.op = some v) : Ev P F N fr cs h o v := by
  refine Ev.of_run fun a hf w _ => ?_
  obtain ⟨dst, op, ty, ps, af, gd⟩ := o
  simp only at hv
  cases op <;> simp only [pureV, reduceCtorEq] at hv
  case move x => simp [execOp, hf.ev hv]
  case assign x => simp [execOp, hf.ev hv]
  case nilCheck x =>
    split at hv
    · rename_i p hx
      simp only [Option.some.injEq] at hv; subst hv
      simp [execOp, hf.ev hx]
    · cases hv
  case extract x i =>
    split at hv
    · rename_i l hx
      simp only [execOp, hf.ev hx, Instr.extract]
      simp [hv]
    · cases hv
  case pick c x y =>
    cases c <;> simp only [reduceCtorEq] at hv
    rename_i g
    split at hv
    · rename_i b hg
      have hgb := hf.get _ _ hg
      have hev : a.eval (.tmp g) = .bool b := hf.ev (x := .tmp g) hg
      have fu : ∀ c, b = c → Fits N (under cs g c fr) cs a := fun c e => hf.under (e ▸ hgb)
      unfold pickV at hv
      simp only [execOp, hev, asBool]
      split at hv
      · rename_i q _ hq
        simp only [Option.some.injEq] at hv; subst hv
        cases b with
        | true => simp [Act.eval]
        | false => simp [(fu false rfl).ev hq]
      · rename_i p hp _
        simp only [Option.some.injEq] at hv; subst hv
        cases b with
        | true => simp [(fu true rfl).ev hp]
        | false => simp [Act.eval]
      · cases hv
    · cases hv
  case binOp op t x y t' =>
    split at hv
    · rename_i k p k' q hx hy
      cases hk : Nat.beq (kNum k) (kNum k') with
      | false => rw [hk] at hv; cases hv
      | true =>
        rw [hk] at hv
        have := kNum_inj hk
        subst this
        have r := intV_run (P := P) (intV_cmp (k := k) hv) t x y w
        simp only [execOp, hf.ev hx, hf.ev hy]
        simp only [Sem.run_bind] at r ⊢
        rw [r]; rfl
    · cases hv
  case unOp op t x =>
    cases op <;> simp only [reduceCtorEq] at hv
    case not =>
      split at hv
      · rename_i b hx
        simp only [Option.some.injEq] at hv; subst hv
        simp [execOp, hf.ev hx, Op.unary]
      · cases hv

theorem ev_pickT {fr : Slots} {cs : Conds} {h : Heap} {o : Oper} {c x y : Operand} {b : Bool} {v : Value} (ho : o.op = .pick c x y) (hc : evO fr c = some (.bool b)) (hb : b = true) (hx : evO fr x = some v) : Ev P F N fr cs h o v := by
  refine Ev.of_run fun a hf w _ => ?_
  subst hb
  simp [execOp, ho, hf.ev hc, hf.ev hx, asBool]
theorem ev_pickF {fr : Slots} {cs : Conds} {h : Heap} {o : Oper} {c x y : Operand} {b : Bool} {v : Value} (ho : o.op = .pick c x y) (hc : evO fr c = some (.bool b)) (hb : b = false) (hx : evO fr y = some v) : Ev P F N fr cs h o v := by
  refine Ev.of_run fun a hf w _ => ?_
  subst hb
  simp [execOp, ho, hf.ev hc, hf.ev hx, asBool]

theorem xep {ops : List Oper} {o : Oper} {rest : List Oper} {fr : Slots} {cs : Conds} {h : Heap} {Q : Exit → Slots → Heap → Prop} {d : Nat} {v : Value} (k : okE o N cs = some d) (e : pureV fr cs o.op = some v) (r : RunL P F N ops rest ((d, v) :: fr) cs h Q) : RunL P F N ops (o :: rest) fr cs h Q :=
  xel k (ev_pure e) r
theorem xqp {ops : List Oper} {o : Oper} {rest : List Oper} {fr : Slots} {cs : Conds} {h : Heap} {K : Slots → Prop} {d : Nat} {v : Value} (k : okE o N cs = some d) (e : pureV fr cs o.op = some v) (r : RunQ P F N ops rest ((d, v) :: fr) cs h K) : RunQ P F N ops (o :: rest) fr cs h K :=
  xql k (ev_pure e) r
theorem xgp {ops : List Oper} {o : Oper} {rest : List Oper} {fr : Slots} {cs : Conds} {h : Heap} {Q : Exit → Slots → Heap → Prop} {d g : Nat} {want : Bool} {p : List (Nat × Bool)} {H : Prop} {v : Value} (k : okP ops o N fr cs = some (d, g, want, p)) (hH : pathH fr cs p = some H) (e : pureV (underP cs p fr) cs o.op = some v)
    (r : RunL P F N ops rest fr ((g, want, d, v) :: cs) h Q) : RunL P F N ops (o :: rest) fr cs h Q := xgl k hH (fun _ => ev_pure e) r
/-! #### Sums within int -/
omit [Base] in
theorem wrap_id {n : Int} (h : -9223372036854775808 ≤ n ∧ n ≤ 9223372036854775807) : IntKind.i64.wrap n = n := by
  exact IntWalk.i64_in n h

theorem ev_int {fr : Slots} {cs : Conds} {h : Heap} {o : Oper} {t t' : TypeId} {x y : Operand} {op : BinOp} {k : IntKind} {a b : Int} {v : Value} (ho : o.op = .binOp op t x y t') (hx : evO fr x = some (.int k a)) (hy : evO fr y = some (.int k b))
    (hv : intV op k a b = some v) : Ev P F N fr cs h o v := by
  refine Ev.of_run fun ac hf w _ => ?_
  have r := intV_run (P := P) hv t x y w
  simp only [execOp, ho, hf.ev hx, hf.ev hy]
  simp only [Sem.run_bind] at r ⊢
  rw [r]; rfl

theorem ev_add {fr : Slots} {cs : Conds} {h : Heap} {o : Oper} {t t' : TypeId} {x y : Operand} {a b : Int} (ho : o.op = .binOp .add t x y t') (hx : evO fr x = some (.int .i64 a)) (hy : evO fr y = some (.int .i64 b))
    (hr : -9223372036854775808 ≤ a + b ∧ a + b ≤ 9223372036854775807) : Ev P F N fr cs h o (.int .i64 (a + b)) := by
  refine ev_int ho hx hy ?_
  show some (Value.int IntKind.i64 (IntKind.i64.wrap (a + b))) = _
  rw [wrap_id hr]
theorem ev_sub {fr : Slots} {cs : Conds} {h : Heap} {o : Oper} {t t' : TypeId} {x y : Operand} {a b : Int} (ho : o.op = .binOp .sub t x y t') (hx : evO fr x = some (.int .i64 a)) (hy : evO fr y = some (.int .i64 b))
    (hr : -9223372036854775808 ≤ a - b ∧ a - b ≤ 9223372036854775807) : Ev P F N fr cs h o (.int .i64 (a - b)) := by
  refine ev_int ho hx hy ?_
  show some (Value.int IntKind.i64 (IntKind.i64.wrap (a - b))) = _
  rw [wrap_id hr]
theorem ev_rem {fr : Slots} {cs : Conds} {h : Heap} {o : Oper} {t t' : TypeId} {x y : Operand} {k : IntKind} {a b : Int} (ho : o.op = .binOp .rem t x y t') (hx : evO fr x = some (.int k a)) (hy : evO fr y = some (.int k b))
    (hr : b ≠ 0) : Ev P F N fr cs h o (.int k (a.tmod b)) := by
  refine Ev.of_run fun ac hf w _ => ?_
  simp [execOp, ho, hf.ev hx, hf.ev hy, eqGuard, binOp, Op.intDiv, hr]
theorem ev_quo {fr : Slots} {cs : Conds} {h : Heap} {o : Oper} {t t' : TypeId} {x y : Operand} {a b : Int} (ho : o.op = .binOp .quo t x y t') (hx : evO fr x = some (.int .i64 a)) (hy : evO fr y = some (.int .i64 b))
    (hr : b ≠ 0) (hr' : -9223372036854775808 ≤ a.tdiv b ∧ a.tdiv b ≤ 9223372036854775807) : Ev P F N fr cs h o (.int .i64 (a.tdiv b)) := by
  refine Ev.of_run fun ac hf w _ => ?_
  simp [execOp, ho, hf.ev hx, hf.ev hy, eqGuard, binOp, Op.intDiv, hr, wrap_id hr']

omit [Base] in
theorem tdiv_range {a b : Int} (ha : 0 ≤ a) (hm : a ≤ 9223372036854775807) (hb : 0 < b) : -9223372036854775808 ≤ a.tdiv b ∧ a.tdiv b ≤ 9223372036854775807 := by
  rw [Int.tdiv_eq_ediv_of_nonneg ha]
  have h1 := Int.ediv_nonneg ha (Int.le_of_lt hb)
  have h2 := Int.ediv_le_self b ha
  omega

/-! #### Calls -/
def evs (fr : Slots) : List Operand → Option (List Value)
  | [] => some []
  | x :: r => match evO fr x with
    | some v => match evs fr r with
      | some l => some (v :: l)
      | none => none
    | none => none

omit [Base] in
theorem Fits.evs {fr : Slots} {cs : Conds} {a : Act} (f : Fits N fr cs a) : ∀ {l : List Operand} {vs : List Value}, evs fr l = some vs → l.map a.eval = vs
  | [], vs, h => by simp only [SL.evs, Option.some.injEq] at h; subst h; rfl
  | x :: r, vs, h => by
    simp only [SL.evs] at h
    split at h
    · rename_i v hv
      split at h
      · rename_i l hl
        simp only [Option.some.injEq] at h; subst h
        rw [List.map_cons, f.ev hv, f.evs hl]
      · cases h
    · cases h

/-- A callee that the model runs by its text: not one of the machine's own. -/
def Program.plainFn (P : Program) (f : FuncId) : Bool :=
  match P.funcs[f]? with
  | none => false
  | some fn => !(fn.name == "runtime.NumGoroutine") && fn.body.isSome

omit [Base] in
theorem run_callFunc {f : FuncId} (hp : Program.plainFn P f = true) (args : Array Value) (w : World) : (callFunc f args).run P w = .ok (.enter f args) w := by
  unfold Program.plainFn at hp
  unfold callFunc
  simp only [Sem.run_bind, run_program, Result.andThen_ok]
  cases hf : P.funcs[f]? with
  | none => rw [hf] at hp; cases hp
  | some fn =>
    rw [hf] at hp
    simp only [Bool.and_eq_true, Bool.not_eq_true'] at hp
    have h2 : fn.body.isNone = false := by cases hb : fn.body <;> simp_all
    simp [hp.1, h2]

omit [Base] in
theorem run_execCall {o : Oper} {f : FuncId} {cargs : List Operand} {at_ : Array TypeId} {x : Operand} (ho : o.op = .call ⟨.value x, ⟨cargs⟩, at_⟩) {fr : Slots} {cs : Conds} {vs : List Value} {a : Act} (hf : Fits N fr cs a)
    {caps : List Value} (hx : evO fr x = some (.func (.func f) #[] ⟨caps⟩)) (hvs : evs fr cargs = some vs) (hp : Program.plainFn P f = true) (w : World) : (execOp a.eval o).run P w = .ok (.enter f (vs ++ caps).toArray) w := by
  have h1 := hf.evs hvs
  have h2 : (⟨cargs⟩ : Array Operand).map a.eval = vs.toArray := by rw [← h1]; simp
  simp only [execOp, ho, resolve, hf.ev hx, Deferred.ofValue, Sem.run_bind, Sem.run_pure, Result.andThen_ok, invoke, h2]
  rw [run_callFunc hp]
  simp

/-- A call that leaves what is told of memory as it is. -/
theorem ev_call {fr : Slots} {cs : Conds} {h : Heap} {o : Oper} {f : FuncId} {cargs : List Operand} {at_ : Array TypeId} {x : Operand} (ho : o.op = .call ⟨.value x, ⟨cargs⟩, at_⟩) {vs : List Value} {caps : List Value}
    (hx : evO fr x = some (.func (.func f) #[] ⟨caps⟩)) (hvs : evs fr cargs = some vs) (hp : Program.plainFn P f = true) {v : Value} (s : Sp P (h ++ F) f (vs ++ caps) [] (fun u _ => u = v)) : Ev P F N fr cs h o v := by
  refine ⟨fun a hf w hs => ?_⟩
  unfold Oper.quietAt
  rw [run_execCall ho hf hx hvs hp]
  refine ⟨rfl, (s.go w hs).mono ?_⟩
  rintro e w' ⟨u, h', rfl, rfl, hs'⟩
  exact ⟨rfl, hs'.sub (List.sublist_append_right _ _)⟩

theorem ev_callQ {fr : Slots} {cs : Conds} {h : Heap} {o : Oper} {f : FuncId} {cargs : List Operand} {at_ : Array TypeId} {x : Operand} (ho : o.op = .call ⟨.value x, ⟨cargs⟩, at_⟩) {vs : List Value}
    (hx : evO fr x = some (.func (.func f) #[] ⟨[]⟩)) (hvs : evs fr cargs = some vs) (hp : Program.plainFn P f = true) {v : Value} (s : Sp P (h ++ F) f vs [] (Ret v)) : Ev P F N fr cs h o v :=
  ev_call (caps := []) ho hx hvs hp (by rw [List.append_nil]; exact s)

/-- A call: the blocks that it is about, h1, out of all that is told. -/
theorem runL_call {ops : List Oper} {o : Oper} {rest : List Oper} {fr : Slots} {cs : Conds} {h : Heap} {Q : Exit → Slots → Heap → Prop} {d : Nat} {f : FuncId} {cargs : List Operand} {at_ : Array TypeId} {x : Operand} (R h1 : Heap) {Q1 : Value → Heap → Prop} {vs : List Value}
    {caps : List Value}
    (hg : o.guard = none) (hd : o.dst = some d) (hN : Nat.blt d N = true) (hf : freshIn d cs = true) (ho : o.op = .call ⟨.value x, ⟨cargs⟩, at_⟩) (hx : evO fr x = some (.func (.func f) #[] ⟨caps⟩)) (hvs : evs fr cargs = some vs) (hp : Program.plainFn P f = true)
    (hh : ∀ x, cnt x h = cnt x (h1 ++ R)) (s : Sp P (R ++ F) f (vs ++ caps) h1 Q1)
    (r : ∀ v h1', Q1 v h1' → RunL P F N ops rest ((d, v) :: fr) cs (h1' ++ R) Q) : RunL P F N ops (o :: rest) fr cs h Q := by
  refine ⟨fun a w hfi hs => ?_⟩
  unfold wpL
  rw [if_pos (wanted_none hg _)]
  unfold Oper.wp
  rw [run_execCall ho hfi hx hvs hp, Oper.upon_enter]
  have hs1 : Sat w (h1 ++ (R ++ F)) := by
    rw [← List.append_assoc]; exact hs.perm ((perm_of_cnt hh).append_right F)
  refine (s.go w hs1).mono ?_
  rintro e w' ⟨v, h1', rfl, hq, hs'⟩
  rw [hd]
  exact (r v h1' hq).go _ w' (hfi.put hN hf) (by rw [List.append_assoc]; exact hs')
theorem runL_call0 {ops : List Oper} {o : Oper} {rest : List Oper} {fr : Slots} {cs : Conds} {h : Heap} {Q : Exit → Slots → Heap → Prop} {d : Nat} {f : FuncId} {cargs : List Operand} {at_ : Array TypeId} {x : Operand} {Q1 : Value → Heap → Prop} {vs : List Value}
    (hg : o.guard = none) (hd : o.dst = some d) (hN : Nat.blt d N = true) (hf : freshIn d cs = true) (ho : o.op = .call ⟨.value x, ⟨cargs⟩, at_⟩) (hx : evO fr x = some (.func (.func f) #[] ⟨[]⟩)) (hvs : evs fr cargs = some vs) (hp : Program.plainFn P f = true)
    (s : Sp P (h ++ F) f vs [] Q1)
    (r : ∀ v h1', Q1 v h1' → RunL P F N ops rest ((d, v) :: fr) cs (h1' ++ h) Q) : RunL P F N ops (o :: rest) fr cs h Q :=
  runL_call (caps := []) h [] hg hd hN hf ho hx hvs hp (fun _ => rfl) (by rw [List.append_nil]; exact s) r
end

/-! #### A function's body -/
def argSlots : Nat → List Value → Slots
  | _, [] => []
  | i, v :: r => (i, v) :: argSlots (i + 1) r

omit [Base] in
theorem argSlots_spec : ∀ (l : List Value) (k i : Nat) (v : Value), lk (argSlots k l) i = some v → k ≤ i ∧ l[i - k]? = some v
  | [], k, i, v, h => by cases h
  | u :: r, k, i, v, h => by
    simp only [argSlots, lk] at h
    by_cases e : k = i
    · subst e
      rw [show Nat.beq k k = true from Nat.beq_refl k] at h
      exact ⟨Nat.le_refl _, by simpa using h⟩
    · have hb : Nat.beq k i = false := by
        cases hb : Nat.beq k i with
        | false => rfl
        | true => exact absurd (Nat.eq_of_beq_eq_true hb) e
      rw [hb] at h
      have := argSlots_spec r (k + 1) i v h
      refine ⟨by omega, ?_⟩
      rw [show i - k = (i - (k + 1)) + 1 by omega, List.getElem?_cons_succ]
      exact this.2

/-- The results' value, out of the slots. -/
def resV (fr : Slots) : List ResultVar → Option (List Value)
  | [] => some []
  | .tmp t :: r => match lk fr t with
    | some v => match resV fr r with
      | some l => some (v :: l)
      | none => none
    | none => none
  | .cell _ _ :: _ => none

def oneOrTuple : List Value → Value
  | [v] => v
  | l => .tuple l.toArray

def Returns (rs : List ResultVar) (Q : Value → Heap → Prop) : Exit → Slots → Heap → Prop
  | .normal, fr, h | .ret, fr, h => ∃ l, resV fr rs = some l ∧ Q (oneOrTuple l) h
  | _, _, _ => False

omit [Base] in
theorem resV_run {P : Program} {N : Nat} {fr : Slots} {a : Act} (f : Fits N fr [] a) : ∀ (rs : List ResultVar) (l : List Value), resV fr rs = some l → ∀ w,
    (rs.mapM fun | .tmp t => pure (a.tmps.getD t undef) | .cell ad t => do loadVar t (← asAddr (a.tmps.getD ad undef)) : Sem (List Value)).run P w = .ok l w
  | [], l, h, w => by simp only [resV, Option.some.injEq] at h; subst h; rfl
  | .cell _ _ :: _, l, h, w => by simp [resV] at h
  | .tmp t :: r, l, h, w => by
    simp only [resV] at h
    split at h
    · rename_i v hv
      split at h
      · rename_i l' hl
        simp only [Option.some.injEq] at h; subst h
        have ih := resV_run (P := P) f r l' hl w
        have hg : a.tmps.getD t undef = v := f.ev (x := .tmp t) hv
        rw [List.mapM_cons]
        simp only [Sem.run_bind, Sem.run_pure, Result.andThen_ok, hg]
        rw [ih]; rfl
      · cases h
    · cases h

omit [Base] in
theorem results_run {P : Program} {N : Nat} {fr : Slots} {a : Act} (f : Fits N fr [] a) {fn : Func} {l : List Value} (h : resV fr fn.results.toList = some l) (w : World) :
    (results fn a.tmps).run P w = .ok (oneOrTuple l) w := by
  have r := resV_run (P := P) f _ l h w
  unfold results
  have e : (fn.results.mapM fun | .tmp t => pure (a.tmps.getD t undef) | .cell ad t => do loadVar t (← asAddr (a.tmps.getD ad undef)) : Sem (Array Value)).run P w = .ok l.toArray w := by
    rw [Array.mapM_eq_mapM_toList]
    rw [Sem.run_map, r]; rfl
  have e2 : (if h : l.toArray.size = 1 then l.toArray[0] else Value.tuple l.toArray) = oneOrTuple l := by
    unfold oneOrTuple
    split
    · rename_i hs
      match l, hs with
      | [v], _ => rfl
    · rename_i hs
      match l, hs with
      | [v], hs => simp at hs
      | [], _ => rfl
      | _ :: _ :: _, _ => rfl
  rw [Sem.run_bind]
  refine (congrArg (fun r => Result.andThen r _) e).trans ?_
  rw [Result.andThen_ok, Sem.run_pure, e2]

theorem sp_of_code {P : Program} {F : Heap} {f : FuncId} {fn : Func} {c : Code} {args : List Value} {h : Heap} {Q : Value → Heap → Prop} (hf : P.funcs[f]? = some fn) (hb : fn.body = some c) (hn : Nat.ble args.length fn.ntmps = true)
    (r : RunC P F fn.ntmps c (argSlots 0 args) h (Returns fn.results.toList Q)) : Sp P F f args h Q := by
  have hn : args.length ≤ fn.ntmps := Nat.le_of_ble_eq_true hn
  refine ⟨fun w hs => ?_⟩
  refine calls_of_wp hf hb ?_
  refine wp_mono (r.go _ w ⟨rfl, by simp; omega, fun i v hv => ?_, fun _ _ _ _ m => (by cases m), fun _ _ _ _ m => (by cases m)⟩ hs) ?_
  · have := (argSlots_spec args 0 i v hv).2
    rw [Nat.sub_zero] at this
    have hi : i < args.length := (List.getElem?_eq_some_iff.1 this).1
    rw [Array.getElem?_append_left (by simpa using hi)]
    simpa using this
  · rintro e a w' ⟨fr, h', q, hfi, hs'⟩
    cases e with
    | normal => obtain ⟨l, hl, hq⟩ := q; exact ⟨hfi.defers, _, results_run hfi hl w', _, h', rfl, hq, hs'⟩
    | ret => obtain ⟨l, hl, hq⟩ := q; exact ⟨hfi.defers, _, results_run hfi hl w', _, h', rfl, hq, hs'⟩
    | _ => exact q.elim
end Go.SL
