/- Contracts of functions of the given program over its translation, each proved by walking its text; used by the laws' rows. It proves no given statement by itself. -/
import Derived.Test.YtiilndlgfgikbaaSLPlK
set_option autoImplicit false
set_option linter.unusedSectionVars false
set_option linter.unusedSimpArgs false
set_option linter.unusedVariables false
set_option maxRecDepth 4000
namespace Go.Proofs.Ytiilndlgfgikbaa
open Go Go.SL Go.Proofs
variable [Base]
/-- An order that meets nothing trades nothing. -/
theorem meets_none {o : Ord} {l : List Lv} {last no : Int} (h : meets o l = false) : matchL o l last no = ⟨[], o.qty, false, l, last, no⟩ := by
  cases l with
  | nil => rfl
  | cons lv r =>
    have h : crosses o lv.p = false := h
    unfold matchL
    rw [if_neg (by rw [h]; simp)]
theorem bk_side_ok {B : Bk} (hw : BW B) (s : Int) : ∀ lv ∈ B.side s, lv.Ok := (hw.side s).1
/-- What each kind comes to, but for where a limit order is found. -/
theorem kinds_plain {o : Ord} {B : Bk} (hw : BW B) (hr : rightP o) (hs : o.stop = 0) :
    (o.kind = 2 ∨ o.kind = 3 → (badd o B).1.rests = false ∧ ((badd o B).1.err = 0 ∨ (badd o B).1.err = 5)) ∧
    (o.kind = 4 → (badd o B).1.rests = false ∧ ((badd o B).1.err = 0 ∧ (badd o B).1.left = 0 ∨ (badd o B).1.err ≠ 0 ∧ (badd o B).1.fs = [])) ∧
    (o.kind = 5 → (badd o B).1.fs = [] ∧ (badd o B).1.rests = decide ((badd o B).1.err = 0)) ∧
    ((badd o B).1.rests = true ∨ (badd o B).1.err ≠ 0 ∨ (badd o B).1.left = 0 ∨ (badd o B).1.self = true ∨ rests o = false) := by
  have hq1 : 1 ≤ o.qty := hr.2.2.2.2.2.2.2.2.2.2.1
  have hrt : right o = 0 := by unfold right; rw [if_pos hr]
  have hok := (hw.side (3 - o.side)).1
  by_cases h0 : brefused o B = 0
  · obtain ⟨-, -, -, r4, r5, r6⟩ := refused_zero h0
    unfold badd
    rw [if_neg (by simpa using h0)]
    dsimp only
    have M := match_is (B.side (3 - o.side)) o B.last B.no hok (by omega)
    refine ⟨?_, ?_, ?_, ?_⟩
    · intro hk
      have : rests o = false := by unfold rests; rcases hk with h | h <;> rw [h] <;> rfl
      rw [this]
      exact ⟨by simp, .inl rfl⟩
    · intro hk
      have : rests o = false := by unfold rests; rw [hk]; rfl
      rw [this]
      exact ⟨by simp, .inl ⟨rfl, (fills_iff _ o B.last B.no hok (by omega)).1 (r6 hk)⟩⟩
    · intro hk
      have : rests o = true := by unfold rests; rw [hk]; rfl
      rw [meets_none (r5 hk), this]
      exact ⟨rfl, by simp; omega⟩
    · by_cases hq : 0 < (matchL o (B.side (3 - o.side)) B.last B.no).qty
      · cases hse : (matchL o (B.side (3 - o.side)) B.last B.no).self with
        | true => exact .inr (.inr (.inr (.inl rfl)))
        | false =>
          cases hre : rests o with
          | true => exact .inl (by simp [hq])
          | false => exact .inr (.inr (.inr (.inr rfl)))
      · have := M.qty.1
        exact .inr (.inr (.inl (by omega)))
  · have e : (badd o B).1 = ⟨o, [], o.qty, false, false, false, brefused o B⟩ := by unfold badd; rw [if_pos h0]
    rw [e]
    dsimp only
    refine ⟨fun hk => ⟨rfl, .inr ?_⟩, fun hk => ⟨rfl, .inr ⟨h0, rfl⟩⟩, fun hk => ⟨rfl, ?_⟩, .inr (.inl h0)⟩
    · have hre : rests o = false := by unfold rests; rcases hk with h | h <;> rw [h] <;> rfl
      unfold brefused at h0 ⊢
      rw [if_neg (by omega)] at h0 ⊢
      by_cases hb : (bfind o.trader o.id B).2 = true
      · rw [if_pos hb]
      · rw [if_neg hb, if_neg (by rw [hre]; simp), if_neg (by omega), if_neg (by omega)] at h0
        exact absurd rfl h0
    · rw [decide_eq_false h0]
end Go.Proofs.Ytiilndlgfgikbaa
