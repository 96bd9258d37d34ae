/- Contracts of functions of the given program over its translation, each proved by walking its text; used by the laws' rows. It proves no given statement by itself. -/
import Derived.Test.YtiilndlgfgikbaaSLPlC
set_option autoImplicit false
set_option linter.unusedSectionVars false
set_option linter.unusedSimpArgs false
set_option linter.unusedVariables false
set_option maxRecDepth 4000
set_option maxHeartbeats 16000000
namespace Go.Proofs.Ytiilndlgfgikbaa
open Go Go.SL Go.Proofs
variable [Base]
structure BestIs (o : Ord) (B : Bk) : Prop where
  num : (badd o B).1.fs.length ≤ 1048576
  cross : ∀ f ∈ (badd o B).1.fs, crosses o f.price = true ∧ f.maker.side = 3 - o.side
  srt : (badd o B).1.fs.Pairwise (fun a b => better (3 - o.side) b.price a.price = false)
  left : ∀ f ∈ (badd o B).1.fs, ∀ x ∈ ordersL ((badd o B).2.side (3 - o.side)), x.side = 3 - o.side ∧ better (3 - o.side) x.price f.price = false
  last : ∀ f, (badd o B).1.fs[(badd o B).1.fs.length - 1]? = some f → (badd o B).2.last = f.price
theorem best_is {o : Ord} {B : Bk} (hw : BW B) (hg : Gd B) (hr : rightP o) : BestIs o B := by
  have hs : o.side = 1 ∨ o.side = 2 := by unfold rightP at hr; omega
  have hq : 1 ≤ o.qty ∧ o.qty ≤ 1048576 := by unfold rightP at hr; omega
  have hnum := (count_is hw hg hr).num
  by_cases h0 : brefused o B = 0
  · have hok := (hw.side (3 - o.side)).1
    have M := match_sub (B.side (3 - o.side)) o B.last B.no hok (by omega)
    have A := add_is hs h0
    have S := hg.side hs
    generalize matchL o (B.side (3 - o.side)) B.last B.no = m at *
    obtain ⟨a1, a2, a3, a4, a5⟩ := A
    have hat := at_sub S.a2 M.sub
    obtain ⟨b1, b2⟩ := M.best (3 - o.side) S.s2
    refine ⟨hnum, ?_, ?_, ?_, ?_⟩
    · rw [a1]; intro f hf
      obtain ⟨lv, ml, e1, e2, e, me, n, e3⟩ := M.fs f hf
      exact ⟨by rw [e1]; exact e2, by rw [e3]; exact (S.a2 lv ml e me).1⟩
    · rw [a1]; exact b1
    · rw [a1, a2]; intro f hf x hx
      obtain ⟨h1, lv, ml, h2⟩ := orders_price hat hx
      exact ⟨h1, by rw [h2]; exact b2 f hf lv ml⟩
    · rw [a1, a4]; intro f hf
      rw [M.last]; exact lastP_get hf
  · have e := refused_is h0
    refine ⟨hnum, ?_, ?_, ?_, ?_⟩
    all_goals rw [e]
    · intro f hf; cases hf
    · exact .nil
    · intro f hf; cases hf
    · intro f hf; simp at hf
theorem fsorted_at {s : Int} {l : List Fl} (h : l.Pairwise (fun a b => better s b.price a.price = false)) {i j : Nat} {x y : Fl} (hx : l[i]? = some x) (hy : l[j]? = some y) (hij : i < j) : better s y.price x.price = false := by
  obtain ⟨hi, rfl⟩ := List.getElem?_eq_some_iff.1 hx
  obtain ⟨hj, rfl⟩ := List.getElem?_eq_some_iff.1 hy
  exact List.pairwise_iff_getElem.1 h i j hi hj hij
end Go.Proofs.Ytiilndlgfgikbaa
