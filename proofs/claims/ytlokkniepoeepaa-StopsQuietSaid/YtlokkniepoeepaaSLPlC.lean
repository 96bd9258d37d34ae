/- Contracts of functions of the given program over its translation, each proved by walking its text; used by the laws' rows. It proves no given statement by itself. -/
import Derived.Test.YtlokkniepoeepaaSLPlU
set_option autoImplicit false
set_option linter.unusedSectionVars false
set_option linter.unusedSimpArgs false
set_option linter.unusedVariables false
set_option maxRecDepth 4000
set_option maxHeartbeats 16000000
namespace Go.Proofs.Ytlokkniepoeepaa
open Go Go.SL Go.Proofs
theorem sumF_take {l : List Fl} {i : Nat} {x : Fl} (h : l[i]? = some x) : sumF (l.take (i + 1)) = sumF (l.take i) + x.qty := by
  have hi := (List.getElem?_eq_some_iff.1 h).1
  have hx := (List.getElem?_eq_some_iff.1 h).2
  rw [List.take_succ_eq_append_getElem hi, sumF_append, hx]; simp [sumF]
/-- One trade of a chain. -/
theorem flsOk_at {firm oth no q : Int} {l : List Fl} (h : FlsOk firm oth no q l) {i : Nat} {f : Fl} (hf : l[i]? = some f) : 1 ≤ f.qty ∧ f.maker.firm ≠ firm ∧ f.maker.side = oth ∧ f.no = no + i + 1 ∧ f.price = f.maker.price ∧ f.taker.qty = q - sumF (l.take i) := by
  have hi := (List.getElem?_eq_some_iff.1 hf).1
  have e : l = l.take i ++ f :: l.drop (i + 1) := by rw [← drop_cons hf, List.take_append_drop]
  rw [e] at h
  have h2 := ((flsOk_append _ _ _ _).1 h).2
  rw [List.length_take, Nat.min_eq_left (by omega)] at h2
  exact ⟨h2.1, h2.2.1, h2.2.2.1, h2.2.2.2.1, h2.2.2.2.2.1, h2.2.2.2.2.2.1⟩
theorem flsOk_le {firm oth : Int} : ∀ {l : List Fl} {no q : Int}, FlsOk firm oth no q l → ∀ i, 0 ≤ sumF (l.take i) ∧ sumF (l.take i) ≤ sumF l
  | [], _, _, _, i => by simp [sumF]
  | f :: r, no, q, h, 0 => by
    have := flsOk_le h.2.2.2.2.2.2 r.length
    rw [List.take_length] at this
    have h1 := h.1
    simp only [List.take_zero, sumF]; omega
  | f :: r, no, q, h, i + 1 => by
    have := flsOk_le h.2.2.2.2.2.2 i
    have h1 := h.1
    simp only [List.take_succ_cons, sumF]; omega
variable [Base]
/-- What is so of what comes of an order. -/
structure CountIs (o : Ord) (B : Bk) : Prop where
  chain : FlsOk o.firm (3 - o.side) B.no o.qty (badd o B).1.fs
  num : (badd o B).1.fs.length ≤ 1048576
  got : 0 ≤ sumF (badd o B).1.fs ∧ sumF (badd o B).1.fs ≤ o.qty
  err : (badd o B).1.err ≠ 0 → (badd o B).1.fs = [] ∧ (badd o B).1.left = o.qty ∧ (badd o B).1.rests = false ∧ (badd o B).2 = B
  left : (badd o B).1.left = o.qty - sumF (badd o B).1.fs
  mine : sumO (ordersL ((badd o B).2.side o.side)) = sumO (ordersL (B.side o.side)) + (if (badd o B).1.rests = true then (badd o B).1.left else 0)
  theirs : sumO (ordersL ((badd o B).2.side (3 - o.side))) = sumO (ordersL (B.side (3 - o.side))) - sumF (badd o B).1.fs
  no : (badd o B).2.no = B.no + (badd o B).1.fs.length
theorem count_is {o : Ord} {B : Bk} (hw : BW B) (hg : Gd B) (hr : rightP o) : CountIs o B := by
  have hs : o.side = 1 ∨ o.side = 2 := by unfold rightP at hr; omega
  have hq : 1 ≤ o.qty ∧ o.qty ≤ 1048576 := by unfold rightP at hr; omega
  by_cases h0 : brefused o B = 0
  · have hok := (hw.side (3 - o.side)).1
    have M := match_sub (B.side (3 - o.side)) o B.last B.no hok (by omega)
    have MI := match_is (B.side (3 - o.side)) o B.last B.no hok (by omega)
    have MF := match_fls (oth := 3 - o.side) (B.side (3 - o.side)) o B.last B.no hok (hg.side hs).a2 (by omega)
    have A := add_is hs h0
    generalize matchL o (B.side (3 - o.side)) B.last B.no = m at *
    obtain ⟨a1, a2, a3, a4, a5⟩ := A
    have e1 := M.qty
    have e2 := M.sum
    have e3 := MI.qty
    have e4 := MI.num
    refine ⟨?_, ?_, ?_, ?_, ?_, ?_, ?_, ?_⟩
    · rw [a1]; exact MF
    · rw [a1]; show m.fs.length ≤ _; omega
    · rw [a1]; show 0 ≤ sumF m.fs ∧ sumF m.fs ≤ _; omega
    · rw [a1]; intro h; exact absurd rfl h
    · rw [a1]; exact e1
    · rw [a3, a1]
      dsimp only
      split
      · rw [sumO_orders, sumO_orders, restL_sum]; rfl
      · omega
    · rw [a2, a1, sumO_orders, sumO_orders]; show sumL m.lvs = _ - sumF m.fs; omega
    · rw [a5, a1]; exact MI.no
  · have e := refused_is h0
    refine ⟨?_, ?_, ?_, ?_, ?_, ?_, ?_, ?_⟩
    all_goals rw [e]
    · trivial
    · exact Nat.zero_le _
    · show (0 : Int) ≤ 0 ∧ (0 : Int) ≤ o.qty; omega
    · intro _; exact ⟨rfl, rfl, rfl, rfl⟩
    · show o.qty = o.qty - 0; omega
    · show _ = _ + (if false = true then o.qty else 0); simp
    · simp [sumF]
    · show B.no = B.no + ((0 : Nat) : Int); omega
end Go.Proofs.Ytlokkniepoeepaa
