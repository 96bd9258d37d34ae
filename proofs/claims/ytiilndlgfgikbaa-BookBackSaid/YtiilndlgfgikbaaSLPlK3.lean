/- Contracts of functions of the given program over its translation, each proved by walking its text; used by the laws' rows. It proves no given statement by itself. -/
import Derived.Test.YtiilndlgfgikbaaSLPlK2
set_option autoImplicit false
set_option linter.unusedSectionVars false
set_option linter.unusedSimpArgs false
set_option linter.unusedVariables false
set_option maxRecDepth 4000
namespace Go.Proofs.Ytiilndlgfgikbaa
open Go Go.SL Go.Proofs
variable [Base]
theorem restL_has (o : Ord) (l : List Lv) : ∃ lv ∈ restL o l, ∃ e ∈ lv.es, e.o = o := by
  obtain ⟨lv, hlv, h1, h2⟩ := restP_get o l
  have hres : restL o l = (restP o l).set (restK o l) ⟨lv.p, lv.es ++ [⟨o, tip o⟩]⟩ := by unfold restL; rw [hlv]
  have hlt := (List.getElem?_eq_some_iff.1 hlv).1
  rw [hres]
  exact ⟨_, List.mem_of_getElem? (List.getElem?_set_self hlt), ⟨o, tip o⟩, by simp, rfl⟩
theorem findL_has {t i : Int} : ∀ {l : List Lv}, (∃ lv ∈ l, ∃ e ∈ lv.es, e.o.trader = t ∧ e.o.id = i) → findL t i l ≠ none
  | [], h => by obtain ⟨_, m, _⟩ := h; cases m
  | x :: l, h => by
    unfold findL
    split
    · simp
    · rename_i hn
      obtain ⟨lv, m, e, me, ht, hi⟩ := h
      rcases List.mem_cons.1 m with rfl | m
      · rw [List.find?_eq_none] at hn
        have := hn e.o (List.mem_map_of_mem me)
        simp [ht, hi] at this
      · have := findL_has (l := l) ⟨lv, m, e, me, ht, hi⟩
        split
        · simp
        · rename_i h9; exact absurd h9 this
theorem bfind_has {t i : Int} {B : Bk} (h : findL t i B.buys ≠ none ∨ findL t i B.sells ≠ none) : (bfind t i B).2 = true := by
  unfold bfind findB
  cases h1 : findL t i B.buys with
  | some x => rfl
  | none =>
    cases h2 : findL t i B.sells with
    | some x => rfl
    | none => rcases h with h | h <;> contradiction
/-- An order that rests is there. -/
theorem rests_there {o : Ord} {B : Bk} (hr : rightP o) (h : (badd o B).1.rests = true) : (bfind o.trader o.id (badd o B).2).2 = true := by
  have hs1 : 1 ≤ o.side ∧ o.side ≤ 2 := ⟨hr.2.2.2.2.2.2.1, hr.2.2.2.2.2.2.2.1⟩
  by_cases h0 : brefused o B = 0
  · unfold badd at h ⊢
    rw [if_neg (by simpa using h0)] at h ⊢
    dsimp only at h ⊢
    rw [if_pos h]
    generalize matchL o (B.side (3 - o.side)) B.last B.no = m at *
    rcases (by omega : o.side = 1 ∨ o.side = 2) with hs | hs
    all_goals
      rw [hs]
      apply bfind_has
    · refine .inl (findL_has ?_)
      obtain ⟨lv, a, e, b, c⟩ := restL_has (wqs o m.qty (min o.show_ m.qty)) (((B.put (3 - 1) m.lvs).tell m.last m.no).side 1)
      exact ⟨lv, a, e, b, by rw [c]; exact ⟨rfl, rfl⟩⟩
    · refine .inr (findL_has ?_)
      obtain ⟨lv, a, e, b, c⟩ := restL_has (wqs o m.qty (min o.show_ m.qty)) (((B.put (3 - 2) m.lvs).tell m.last m.no).side 2)
      exact ⟨lv, a, e, b, by rw [c]; exact ⟨rfl, rfl⟩⟩
  · have e : (badd o B).1 = ⟨o, [], o.qty, false, false, false, brefused o B⟩ := by unfold badd; rw [if_pos h0]
    rw [e] at h; cases h
end Go.Proofs.Ytiilndlgfgikbaa
