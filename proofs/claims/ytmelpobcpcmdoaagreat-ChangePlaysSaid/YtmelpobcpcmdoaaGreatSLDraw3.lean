/- The separation layer: as Draw2, but a last operation may wait for a first one through another. It proves no statement by itself. -/
import Derived.Test.YtmelpobcpcmdoaaGreatSLDraw2
set_option autoImplicit false
set_option linter.unusedSimpArgs false
set_option linter.unusedSectionVars false
set_option linter.unusedVariables false
namespace Go.SL
variable [Base]
section
variable {P : Program} {F : Heap} {N : Nat}

def waitsB (o : Oper) (i : Nat) : Bool := o.after.toList.any fun e => Region.binds .any e && Nat.beq e.on i
def waits2 (ops : List Oper) (k : Nat) (o : Oper) (i : Nat) : Bool := o.after.toList.any fun e => Region.binds .any e && Nat.blt e.on k && (match (⟨ops⟩ : Array Oper)[e.on]? with
  | some p => waitsB p i
  | none => false)
def splitPost2 (ops : List Oper) (k j : Nat) : Bool := match (⟨ops⟩ : Array Oper)[j]? with
  | some o => (List.range k).all (fun i => waitsB o i || waits2 ops k o i) || o.after.toList.any (fun e => Region.binds .any e && Nat.ble k e.on && Nat.blt e.on ops.length)
  | none => true
def splitB2 (ops : List Oper) (k m : Nat) : Bool :=
  Nat.beq ops.length (k + m) && (List.range k).all (splitPre ops k) && (List.range ops.length).all fun j => Nat.blt j k || splitPost2 ops k j
/-- What is done has all done that it waits for. -/
def Clo (pre : List Oper) (lp : Array Bool) : Prop := ∀ (i : Nat) (o : Oper), lp[i]? = some true → (⟨pre⟩ : Array Oper)[i]? = some o → ∀ e ∈ o.after, Region.binds .any e = true → lp[e.on]? = some true

theorem SymD.split2 {ops pre : List Oper} {k m : Nat} {A : Heap} (hp : ops.take k = pre) (hB : splitB2 ops k m = true) {E E' : Slots → Heap → Prop}
    (hE : ∀ fr M, E' fr M → SymD P F N ⟨ops⟩ E m (splitL k ops.length) fr (M ++ A)) :
    ∀ (n : Nat) (lp l : Array Bool) (fr : Slots) (M : Heap), lp.size = k → Clo pre lp → l.size = ops.length → (∀ i, i < k → l[i]? = lp[i]?) → (∀ i, k ≤ i → i < ops.length → l[i]? = some false) →
      SymD P (A ++ F) N ⟨pre⟩ E' n lp fr M → SymD P F N ⟨ops⟩ E (n + m) l fr (M ++ A) := by
  simp only [splitB2, Bool.and_eq_true, List.all_eq_true, List.mem_range, Bool.or_eq_true] at hB
  obtain ⟨⟨hlen, hpre⟩, hpost⟩ := hB
  have hlen := Nat.eq_of_beq_eq_true hlen
  have plen : pre.length = k := by rw [← hp, List.length_take]; omega
  have gd : ∀ (x : Array Bool) (i : Nat) (d : Bool), x.getD i d = (x[i]?).getD d := fun x i d => by rw [Array.getD_eq_getD_getElem?]
  -- all that come first are done: nothing of them is ready; else one is
  have hdone : ∀ (lp : Array Bool), lp.size = k → Region.ready .any ⟨pre⟩ lp = [] → ∀ i, i < k → lp[i]? = some true := by
    intro lp hs hr i
    induction i using Nat.strongRecOn with
    | _ i ih =>
      intro hi
      have hg : lp[i]? = some lp[i] := Array.getElem?_eq_getElem (by omega)
      cases hv : lp[i] with
      | true => rw [hg, hv]
      | false =>
        exfalso
        have hx := hpre i hi
        unfold splitPre at hx
        rw [← take_get hp hi] at hx
        split at hx
        · rename_i o ho
          simp only [Bool.and_eq_true] at hx
          have : i ∈ Region.ready .any ⟨pre⟩ lp := by
            rw [mem_ready]
            refine ⟨by rw [gd, hg, hv]; rfl, o, ho, fun e he hb => ?_⟩
            have h1 := (Array.all_eq_true_iff_forall_mem.1 hx.1) e he
            simp only [Bool.or_eq_true, Bool.not_eq_true', hb, Bool.true_eq_false, false_or, Nat.blt_eq] at h1
            rw [gd, ih e.on h1 (by omega)]; rfl
          rw [hr] at this; cases this
        · cases hx
  intro n
  induction n with
  | zero =>
    intro lp l fr M h1 hcl h2 h3 h4 h
    have hd := hdone lp h1 h.1
    have hl : l = splitL k ops.length := by
      apply Array.ext'
      apply List.ext_getElem?
      intro i
      rw [Array.getElem?_toList]
      show l[i]? = ((List.range ops.length).map fun i => Nat.blt i k)[i]?
      rw [List.getElem?_map]
      by_cases hik : i < k
      · rw [h3 i hik, hd i hik, List.getElem?_range (by omega)]
        simp [show Nat.blt i k = true from by rw [Nat.blt_eq]; exact hik]
      · by_cases hin : i < ops.length
        · rw [h4 i (by omega) hin, List.getElem?_range hin]
          have : Nat.blt i k = false := by rw [Bool.eq_false_iff]; intro hx; rw [Nat.blt_eq] at hx; omega
          simp [this]
        · rw [Array.getElem?_eq_none (by omega), List.getElem?_eq_none (by rw [List.length_range]; omega)]; rfl
    rw [Nat.zero_add, hl]
    exact hE _ _ h.2
  | succ n ih =>
    intro lp l fr M h1 hcl h2 h3 h4 h
    by_cases hr : Region.ready .any ⟨pre⟩ lp = []
    · have := ih lp l fr M h1 hcl h2 h3 h4
      have hd := hdone lp h1 hr
      have hl : l = splitL k ops.length := by
        apply Array.ext'
        apply List.ext_getElem?
        intro i
        rw [Array.getElem?_toList]
        show l[i]? = ((List.range ops.length).map fun i => Nat.blt i k)[i]?
        rw [List.getElem?_map]
        by_cases hik : i < k
        · rw [h3 i hik, hd i hik, List.getElem?_range (by omega)]
          simp [show Nat.blt i k = true from by rw [Nat.blt_eq]; exact hik]
        · by_cases hin : i < ops.length
          · rw [h4 i (by omega) hin, List.getElem?_range hin]
            have : Nat.blt i k = false := by rw [Bool.eq_false_iff]; intro hx; rw [Nat.blt_eq] at hx; omega
            simp [this]
          · rw [Array.getElem?_eq_none (by omega), List.getElem?_eq_none (by rw [List.length_range]; omega)]; rfl
      rw [hl]
      exact SymD.add _ _ _ _ (hE _ _ (h.1 hr))
    · -- one of the first ones is not done: none of the last ones is ready
      obtain ⟨i0, hi0⟩ : ∃ i, i ∈ Region.ready .any ⟨pre⟩ lp := by
        cases hx : Region.ready .any ⟨pre⟩ lp with
        | nil => exact absurd hx hr
        | cons a b => exact ⟨a, by simp⟩
      have hi0r := mem_ready.1 hi0
      obtain ⟨hu0, o0, ho0, -⟩ := hi0r
      have hi0k : i0 < k := by
        have := (Array.getElem?_eq_some_iff.1 ho0).1
        simp only [List.size_toArray] at this; omega
      have hready : ∀ i, i ∈ Region.ready .any ⟨ops⟩ l ↔ i ∈ Region.ready .any ⟨pre⟩ lp := by
        intro i
        by_cases hik : i < k
        · rw [mem_ready, mem_ready, gd, gd, h3 i hik, take_get hp hik]
          refine and_congr Iff.rfl ?_
          constructor
          · rintro ⟨o, ho, ha⟩
            refine ⟨o, ho, fun e he hb => ?_⟩
            have := ha e he hb
            have hx := hpre i hik
            unfold splitPre at hx
            rw [ho] at hx
            simp only [Bool.and_eq_true] at hx
            have h9 := (Array.all_eq_true_iff_forall_mem.1 hx.1) e he
            simp only [Bool.or_eq_true, Bool.not_eq_true', hb, Bool.true_eq_false, false_or, Nat.blt_eq] at h9
            rw [gd, ← h3 e.on (by omega), ← gd]; exact this
          · rintro ⟨o, ho, ha⟩
            refine ⟨o, ho, fun e he hb => ?_⟩
            have := ha e he hb
            have hx := hpre i hik
            unfold splitPre at hx
            rw [ho] at hx
            simp only [Bool.and_eq_true] at hx
            have h9 := (Array.all_eq_true_iff_forall_mem.1 hx.1) e he
            simp only [Bool.or_eq_true, Bool.not_eq_true', hb, Bool.true_eq_false, false_or, Nat.blt_eq] at h9
            rw [gd, h3 e.on (by omega), ← gd]; exact this
        · constructor
          · intro hm
            exfalso
            obtain ⟨hu, o, ho, ha⟩ := mem_ready.1 hm
            have hin : i < ops.length := by
              have := (Array.getElem?_eq_some_iff.1 ho).1
              simpa using this
            have hx := hpost i hin
            rcases hx with hx | hx
            · rw [Nat.blt_eq] at hx; omega
            · unfold splitPost2 at hx
              rw [ho] at hx
              simp only [Bool.or_eq_true, List.all_eq_true, List.mem_range, List.any_eq_true, Bool.and_eq_true] at hx
              rcases hx with hx | ⟨e, he, ⟨hb, hk⟩, hl⟩
              · have hgot : ∀ q : Nat, q < k → l.getD q true = true → lp[q]? = some true := by
                  intro q hq h9
                  rw [gd, h3 q hq] at h9
                  cases hy : lp[q]? with
                  | none => rw [Array.getElem?_eq_none_iff] at hy; omega
                  | some v => rw [hy] at h9; simp only [Option.getD_some] at h9; rw [h9]
                have hbad : lp[i0]? = some true → False := by
                  intro h9
                  rw [gd, h9] at hu0
                  cases hu0
                rcases hx i0 hi0k with h8 | h8
                · unfold waitsB at h8
                  simp only [List.any_eq_true, Bool.and_eq_true] at h8
                  obtain ⟨e, he, hb, hon⟩ := h8
                  have h9 := ha e (by simpa using he) hb
                  rw [Nat.eq_of_beq_eq_true hon] at h9
                  exact hbad (hgot i0 hi0k (by rw [gd] at h9 ⊢; cases hz : l[i0]? with
                    | none => rfl
                    | some v => rw [hz] at h9; exact h9))
                · unfold waits2 at h8
                  simp only [List.any_eq_true, Bool.and_eq_true] at h8
                  obtain ⟨e, he, ⟨hb, hek⟩, h7⟩ := h8
                  rw [Nat.blt_eq] at hek
                  have h9 := ha e (by simpa using he) hb
                  have h6 := hgot e.on hek (by rw [gd] at h9 ⊢; cases hz : l[e.on]? with
                    | none => rfl
                    | some v => rw [hz] at h9; exact h9)
                  split at h7
                  · rename_i p hp9
                    unfold waitsB at h7
                    simp only [List.any_eq_true, Bool.and_eq_true] at h7
                    obtain ⟨e2, he2, hb2, hon2⟩ := h7
                    have := hcl e.on p h6 (by rw [take_get hp hek]; exact hp9) e2 (by simpa using he2) hb2
                    rw [Nat.eq_of_beq_eq_true hon2] at this
                    exact hbad this
                  · cases h7
              · have h9 := ha e (by simpa using he) hb
                rw [Nat.blt_eq] at hl
                have hk := Nat.le_of_ble_eq_true hk
                rw [gd, h4 e.on hk hl] at h9
                cases h9
          · intro hm
            obtain ⟨hu, o, ho, ha⟩ := mem_ready.1 hm
            have := (Array.getElem?_eq_some_iff.1 ho).1
            simp only [List.size_toArray] at this; omega
      rw [Nat.add_right_comm]
      refine ⟨fun h0 => ?_, fun i hi => ?_⟩
      · have := (hready i0).2 hi0
        rw [h0] at this; cases this
      · have hip := (hready i).1 hi
        obtain ⟨o, ho, st⟩ := h.2 i hip
        have hik : i < k := by
          have := (Array.getElem?_eq_some_iff.1 ho).1
          simp only [List.size_toArray] at this; omega
        have ho2 := ho
        rw [take_get hp hik] at ho2
        refine ⟨o, ho2, st.dst, fun a w hf hw Q' => ?_⟩
        have hwt : Region.wanted o (yielded ⟨ops⟩ a.tmps) = Region.wanted o (yielded ⟨pre⟩ a.tmps) := by
          have hx := hpre i hik
          unfold splitPre at hx
          rw [ho2] at hx
          simp only [Bool.and_eq_true] at hx
          unfold Region.wanted
          have h9 := hx.2
          split
          · rfl
          · rename_i j want hg
            rw [hg] at h9
            simp only [Nat.blt_eq] at h9
            unfold yielded
            rw [take_get hp h9]
        have hgo := st.go a w hf (by rw [← List.append_assoc]; exact hw) Q'
        unfold wpG at hgo ⊢
        rw [hwt]
        refine wpG_mono (ops := ⟨pre⟩) (K := fun a' w' => ∃ u M', a' = a.put o.dst u ∧ SymD P (A ++ F) N ⟨pre⟩ E' n (lp.setIfInBounds i true) (putS o.dst u fr) M' ∧ Sat w' (M' ++ (A ++ F))) ?_ hgo
        rintro a' w' ⟨u, M', he, hK, hs⟩
        refine ⟨u, M' ++ A, he, ?_, by rw [List.append_assoc]; exact hs⟩
        have hrd := mem_ready.1 hip
        have hcl2 : Clo pre (lp.setIfInBounds i true) := by
          intro q oq hq hoq e he hb
          have hres : ∀ r : Nat, lp[r]? = some true → (lp.setIfInBounds i true)[r]? = some true := by
            intro r hr9
            by_cases e9 : i = r
            · subst e9; rw [Array.getElem?_setIfInBounds_self_of_lt (by omega)]
            · rw [Array.getElem?_setIfInBounds_ne e9]; exact hr9
          by_cases e9 : i = q
          · subst e9
            obtain ⟨-, o9, ho9, ha9⟩ := hrd
            rw [hoq] at ho9; cases ho9
            have h9 := ha9 e he hb
            have hx := hpre i hik
            unfold splitPre at hx
            rw [← take_get hp hik, hoq] at hx
            simp only [Bool.and_eq_true] at hx
            have h8 := (Array.all_eq_true_iff_forall_mem.1 hx.1) e he
            simp only [Bool.or_eq_true, Bool.not_eq_true', hb, Bool.true_eq_false, false_or, Nat.blt_eq] at h8
            apply hres
            rw [gd] at h9
            cases hz : lp[e.on]? with
            | none => rw [Array.getElem?_eq_none_iff] at hz; omega
            | some v => rw [hz] at h9; simp only [Option.getD_some] at h9; rw [h9]
          · rw [Array.getElem?_setIfInBounds_ne e9] at hq
            exact hres _ (hcl q oq hq hoq e he hb)
        refine ih (lp.setIfInBounds i true) (l.setIfInBounds i true) _ M' (by simpa using h1) hcl2 (by simpa using h2) (fun q hq => ?_) (fun q hq hq2 => ?_) hK
        · by_cases e : i = q
          · subst e
            rw [Array.getElem?_setIfInBounds_self_of_lt (by omega), Array.getElem?_setIfInBounds_self_of_lt (by omega)]
          · rw [Array.getElem?_setIfInBounds_ne e, Array.getElem?_setIfInBounds_ne e]; exact h3 q hq
        · rw [Array.getElem?_setIfInBounds_ne (by omega)]; exact h4 q hq hq2

/-- A statement in two parts: the last operations wait for all others; until then some blocks are read alone. -/
theorem run_region_D5 {id : Nat} {ops pre : List Oper} {fr : Slots} {M A : Heap} {Q : Exit → Slots → Heap → Prop} (k m : Nat) (hm : P.follows .mixedOrders = true) (hp : ops.take k = pre) (hB : splitB2 ops k m = true)
    (r : RunD P (A ++ F) N pre k (Array.replicate k false) fr M (fun e fr' M' => RunD P F N ops m (splitL k (k + m)) fr' (M' ++ A) Q)) : RunC P F N (.region id ⟨ops⟩ true) fr (M ++ A) Q := by
  have hB0 := hB
  simp only [splitB2, Bool.and_eq_true] at hB0
  have hlen : ops.length = k + m := Nat.eq_of_beq_eq_true hB0.1.1
  refine run_region_D hm ⟨?_⟩
  rw [hlen]
  refine SymD.split2 (E' := fun fr M => ∃ fr0 M0, subS fr0 fr ∧ (∀ x, cnt x M = cnt x M0) ∧ RunD P F N ops m (splitL k (k + m)) fr0 (M0 ++ A) Q) hp hB ?_ k _ _ fr M (by simp) (fun i o hi => by simp [Array.getElem?_replicate] at hi) (by simp [hlen]) ?_ ?_ r.go
  · rintro fr M ⟨fr0, M0, h1, h2, h3⟩
    rw [hlen]
    exact (RunD.same h1 (fun x => by rw [cnt_append, cnt_append, h2 x]) h3).go
  · intro i hi
    simp [hi, show i < k + m by omega]
  · intro i h1 h2
    simp [show i < k + m by omega]
/-- A statement in two parts, whose roads meet between them. -/
theorem run_region_D6 {σ : Type} {id : Nat} {ops pre : List Oper} {fr kept : Slots} {M A : Heap} {Q : Exit → Slots → Heap → Prop} (k m : Nat) (L : List Nat) (new : σ → Slots) (h1 : σ → Heap) (I : σ → Prop) (hm : P.follows .mixedOrders = true) (hp : ops.take k = pre) (hB : splitB2 ops k m = true)
    (hk : keepK fr L some = some kept)
    (r : RunD P (A ++ F) N pre k (Array.replicate k false) fr M (MidX kept new h1 I)) (c : ∀ s, I s → RunD P F N ops m (splitL k (k + m)) (new s ++ kept) (h1 s ++ A) Q) : RunC P F N (.region id ⟨ops⟩ true) fr (M ++ A) Q :=
  run_region_D5 k m hm hp hB (r.mono fun fr M ⟨_, s, hI, hsub, hh⟩ => RunD.same hsub (fun x => by rw [cnt_append, cnt_append, hh x]) (c s hI))
end
end Go.SL
