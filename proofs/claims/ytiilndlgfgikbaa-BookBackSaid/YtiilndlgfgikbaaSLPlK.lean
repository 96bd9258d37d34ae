/- Contracts of functions of the given program over its translation, each proved by walking its text; used by the laws' rows. It proves no given statement by itself. -/
import Derived.Test.YtiilndlgfgikbaaSLLaw10b
set_option autoImplicit false
set_option linter.unusedSectionVars false
set_option linter.unusedSimpArgs false
set_option linter.unusedVariables false
set_option maxRecDepth 4000
namespace Go.Proofs.Ytiilndlgfgikbaa
open Go Go.SL Go.Proofs
variable [Base]
theorem reach_snoc_own {firm : Int} {x : Ent} : ∀ {l : List Ent}, (reach firm l).2 = true → reach firm (l ++ [x]) = reach firm l
  | [], h => by cases h
  | y :: l, h => by
    simp only [List.cons_append, reach] at h ⊢
    split
    · rfl
    · rename_i hf
      rw [if_neg hf] at h
      rw [reach_snoc_own (l := l) h]
theorem reach_snoc_not {firm : Int} {x : Ent} (hx : x.o.firm ≠ firm) : ∀ {l : List Ent}, (reach firm l).2 = false → (reach firm (l ++ [x])).2 = false
  | [], _ => by simp [reach, hx]
  | y :: l, h => by
    simp only [List.cons_append, reach] at h ⊢
    split
    · rename_i hf; rw [if_pos hf] at h; cases h
    · rename_i hf
      rw [if_neg hf] at h
      exact reach_snoc_not hx (l := l) h
/-- What the first order sees given, the rest gives no more. -/
theorem reachR_give {firm : Int} {e : Ent} {l : List Ent} (hf : e.o.firm ≠ firm) (hs : 1 ≤ e.seen ∧ e.seen ≤ e.o.qty) : reachR firm (giveE e l e.seen) = ((reachR firm (e :: l)).1 - e.seen, (reachR firm (e :: l)).2) := by
  have hr : reach firm (e :: l) = ((reach firm l).1 + e.seen, (reach firm l).2) := by simp only [reach]; rw [if_neg hf]
  have hsum := giveE_sum (e := e) (l := l) (n := e.seen) hs.2 (Int.le_refl _)
  unfold giveE at hsum ⊢
  rw [if_neg (by omega)] at hsum ⊢
  unfold reachR
  rw [hr]
  cases ho : (reach firm l).2 with
  | true =>
    split
    · simp [reach_snoc_own ho, ho]
    · simp [ho]
  | false =>
    split at hsum
    · rename_i hq
      rw [if_pos hq, reach_snoc_not (by exact hf) ho]
      simp only [Bool.false_eq_true, if_false, hsum, sumE]
      congr 1; omega
    · rename_i hq
      rw [if_neg hq, ho]
      simp only [Bool.false_eq_true, if_false, sumE]
      congr 1; omega
/-- A level gives what can be reached, and no more. -/
theorem take_reach {firm : Int} (k : Nat) : ∀ (q : Int) (es : List Ent), q.toNat ≤ k → 0 ≤ q → LB es → sumH (take firm q es).1 = min q (reachR firm es).1 ∧ ((take firm q es).2.1 = true ↔ (reachR firm es).2 = true ∧ (reachR firm es).1 < q) := by
  induction k with
  | zero =>
    intro q es hk hq hb
    have : q = 0 := by omega
    subst this
    have := reachR_nonneg (firm := firm) hb
    rw [take_le (by omega)]
    refine ⟨by simp only [sumH]; omega, ⟨(fun h => by cases h), (fun h => by omega)⟩⟩
  | succ k ih =>
    intro q es hk hq hb
    have hn := reachR_nonneg (firm := firm) hb
    by_cases h0 : 0 < q
    · cases es with
      | nil =>
        rw [take_nil]
        refine ⟨by simp [sumH, reachR, reach, sumE]; try omega, ⟨(fun h => by cases h), (fun h => by simp [reachR, reach] at h)⟩⟩
      | cons e l =>
        have he := hb.2 e (by simp)
        by_cases hf : e.o.firm = firm
        · rw [take_own h0 hf]
          have e1 : reachR firm (e :: l) = (0, true) := by simp [reachR, reach, hf]
          rw [e1]
          exact ⟨by simp only [sumH]; omega, ⟨(fun _ => ⟨rfl, h0⟩), (fun _ => rfl)⟩⟩
        · rw [take_cons h0 hf he.2.2.1]
          by_cases hle : e.seen ≤ q
          · rw [show min q e.seen = e.seen by omega]
            have hg := giveE_LB (n := e.seen) hb (by omega) (Int.le_refl _)
            obtain ⟨i1, i2⟩ := ih (q - e.seen) (giveE e l e.seen) (by omega) (by omega) hg.1
            rw [reachR_give hf ⟨he.2.2.1, he.2.2.2⟩] at i1 i2
            dsimp only at i1 i2 ⊢
            refine ⟨by simp only [sumH]; omega, ?_⟩
            rw [i2]
            constructor
            · rintro ⟨a, b⟩; exact ⟨a, by omega⟩
            · rintro ⟨a, b⟩; exact ⟨a, by omega⟩
          · rw [show min q e.seen = q by omega, Int.sub_self, take_le (by omega)]
            have hge : e.seen ≤ (reachR firm (e :: l)).1 := by
              have := reachR_nonneg (firm := firm) (giveE_LB (n := e.seen) hb (by omega) (Int.le_refl _)).1
              rw [reachR_give hf ⟨he.2.2.1, he.2.2.2⟩] at this
              dsimp only at this; omega
            dsimp only
            exact ⟨by simp only [sumH]; omega, ⟨(fun h => by cases h), (fun h => by omega)⟩⟩
    · have : q = 0 := by omega
      subst this
      rw [take_le (by omega)]
      refine ⟨by simp only [sumH]; omega, ⟨(fun h => by cases h), (fun h => by omega)⟩⟩
/-- An order would be filled whole just if it is. -/
theorem fills_iff : ∀ (l : List Lv) (o : Ord) (last no : Int), (∀ lv ∈ l, lv.Ok) → 0 < o.qty → (fillsL o l = true ↔ (matchL o l last no).qty = 0)
  | [], o, last, no, _, hq => by
    show (false = true ↔ o.qty = 0)
    exact ⟨(fun h => by cases h), (fun h => by omega)⟩
  | lv :: r, o, last, no, hok, hq => by
    have hl := hok lv (by simp)
    have t := take_is (firm := o.firm) o.qty.toNat o.qty lv.es (Nat.le_refl _) (by omega) hl.1
    have tr := take_reach (firm := o.firm) o.qty.toNat o.qty lv.es (Nat.le_refl _) (by omega) hl.1
    have hn := reachR_nonneg (firm := o.firm) hl.1
    have ih := fun q last no => fills_iff r (wq o q) last no (fun x m => hok x (List.mem_cons_of_mem _ m))
    unfold fillsL matchL
    cases hc : crosses o lv.p with
    | false =>
      rw [if_pos rfl, if_neg (by simp)]
      exact ⟨(fun h => by cases h), (fun h => by have : o.qty = 0 := h; omega)⟩
    | true =>
      rw [if_neg (by simp), if_pos (show 0 < o.qty ∧ true = true from ⟨hq, rfl⟩)]
      generalize take o.firm o.qty lv.es = T at *
      generalize reachR o.firm lv.es = R at *
      obtain ⟨t1, t2⟩ := tr
      by_cases h1 : o.qty ≤ R.1
      · rw [if_pos h1]
        have hs : T.2.1 = false := by
          cases hx : T.2.1 with
          | false => rfl
          | true => have := t2.1 hx; omega
        rw [if_neg (by rw [hs]; simp)]
        refine ⟨fun _ => ?_, fun _ => rfl⟩
        split
        · rw [matchL_zero _ _ _ _ (by show ¬ 0 < o.qty - sumH T.1; omega)]
          show o.qty - sumH T.1 = 0; omega
        · show o.qty - sumH T.1 = 0; omega
      · rw [if_neg h1]
        by_cases h2 : R.2 = true
        · rw [if_pos h2, if_pos (t2.2 ⟨h2, by omega⟩)]
          exact ⟨(fun h => by cases h), (fun h => by have : o.qty - sumH T.1 = 0 := h; omega)⟩
        · have hs : T.2.1 = false := by
            cases hx : T.2.1 with
            | false => rfl
            | true => exact absurd (t2.1 hx).1 h2
          have he : T.2.2 = [] := (t.all hs).resolve_left (by omega)
          rw [if_neg h2, if_neg (by rw [hs]; simp), if_pos he]
          rw [show sumH T.1 = R.1 by omega]
          exact ih (o.qty - R.1) _ _ (by show 0 < o.qty - R.1; omega)
end Go.Proofs.Ytiilndlgfgikbaa
