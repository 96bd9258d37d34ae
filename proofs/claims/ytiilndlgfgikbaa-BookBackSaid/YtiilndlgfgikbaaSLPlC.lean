/- Contracts of functions of the given program over its translation, each proved by walking its text; used by the laws' rows. It proves no given statement by itself. -/
import Derived.Test.YtiilndlgfgikbaaSLPlU
set_option autoImplicit false
set_option linter.unusedSectionVars false
set_option linter.unusedSimpArgs false
set_option linter.unusedVariables false
set_option maxRecDepth 4000
set_option maxHeartbeats 16000000
namespace Go.Proofs.Ytiilndlgfgikbaa
open Go Go.SL Go.Proofs
theorem sumF_take {l : List Fl} {i : Nat} {x : Fl} (h : l[i]? = some x) : sumF (l.take (i + 1)) = sumF (l.take i) + x.qty := by
  have hi := (List.getElem?_eq_some_iff.1 h).1
  have hx := (List.getElem?_eq_some_iff.1 h).2
  rw [List.take_succ_eq_append_getElem hi, sumF_append, hx]; simp [sumF]
/-- One trade of a chain. -/
theorem flsOk_at {firm oth no q : Int} {l : List Fl} (h : FlsOk firm oth no q l) {i : Nat} {f : Fl} (hf : l[i]? = some f) : 1 ≤ f.qty ∧ f.maker.firm ≠ firm ∧ f.maker.side = oth ∧ f.no = no + i + 1 ∧ f.price = f.maker.price ∧ f.taker.qty = q - sumF (l.take i) := by
  have hi := (List.getElem?_eq_some_iff.1 hf).1
  have e : l = l.take i ++ f :: l.drop (i + 1) := by rw [← drop_cons hf, List.take_append_drop]
  rw [e] at h
  have h2 := ((flsOk_append _ _ _ _).1 h).2
  rw [List.length_take, Nat.min_eq_left (by omega)] at h2
  exact ⟨h2.1, h2.2.1, h2.2.2.1, h2.2.2.2.1, h2.2.2.2.2.1, h2.2.2.2.2.2.1⟩
theorem flsOk_le {firm oth : Int} : ∀ {l : List Fl} {no q : Int}, FlsOk firm oth no q l → ∀ i, 0 ≤ sumF (l.take i) ∧ sumF (l.take i) ≤ sumF l
  | [], _, _, _, i => by simp [sumF]
  | f :: r, no, q, h, 0 => by
    have := flsOk_le h.2.2.2.2.2.2 r.length
    rw [List.take_length] at this
    have h1 := h.1
    simp only [List.take_zero, sumF]; omega
  | f :: r, no, q, h, i + 1 => by
    have := flsOk_le h.2.2.2.2.2.2 i
    have h1 := h.1
    simp only [List.take_succ_cons, sumF]; omega
variable [Base]
/-- What is so of what comes of an order. -/
structure CountIs (o : Ord) (B : Bk) : Prop where
  chain : FlsOk o.firm (3 - o.side) B.no o.qty (badd o B).1.fs
  num : (badd o B).1.fs.length ≤ 1048576
  got : 0 ≤ sumF (badd o B).1.fs ∧ sumF (badd o B).1.fs ≤ o.qty
  err : (badd o B).1.err ≠ 0 → (badd o B).1.fs = [] ∧ (badd o B).1.left = o.qty ∧ (badd o B).1.rests = false ∧ (badd o B).2 = B
  left : (badd o B).1.left = o.qty - sumF (badd o B).1.fs
  mine : sumO (ordersL ((badd o B).2.side o.side)) = sumO (ordersL (B.side o.side)) + (if (badd o B).1.rests = true then (badd o B).1.left else 0)
  theirs : sumO (ordersL ((badd o B).2.side (3 - o.side))) = sumO (ordersL (B.side (3 - o.side))) - sumF (badd o B).1.fs
  no : (badd o B).2.no = B.no + (badd o B).1.fs.length
theorem count_is {o : Ord} {B : Bk} (hw : BW B) (hg : Gd B) (hr : rightP o) : CountIs o B := by
  have hs : o.side = 1 ∨ o.side = 2 := by unfold rightP at hr; omega
  have hq : 1 ≤ o.qty ∧ o.qty ≤ 1048576 := by unfold rightP at hr; omega
  by_cases h0 : brefused o B = 0
  · have hok := (hw.side (3 - o.side)).1
    have M := match_sub (B.side (3 - o.side)) o B.last B.no hok (by omega)
    have MI := match_is (B.side (3 - o.side)) o B.last B.no hok (by omega)
    have MF := match_fls (oth := 3 - o.side) (B.side (3 - o.side)) o B.last B.no hok (hg.side hs).a2 (by omega)
    have A := add_is hs h0
    generalize matchL o (B.side (3 - o.side)) B.last B.no = m at *
    obtain ⟨a1, a2, a3, a4, a5⟩ := A
    have e1 := M.qty
    have e2 := M.sum
    have e3 := MI.qty
    have e4 := MI.num
    refine ⟨?_, ?_, ?_, ?_, ?_, ?_, ?_, ?_⟩
    · rw [a1]; exact MF
    · rw [a1]; show m.fs.length ≤ _; omega
    · rw [a1]; show 0 ≤ sumF m.fs ∧ sumF m.fs ≤ _; omega
    · rw [a1]; intro h; exact absurd rfl h
    · rw [a1]; exact e1
    · rw [a3, a1]
      dsimp only
      split
      · rw [sumO_orders, sumO_orders, restL_sum]; rfl
      · omega
    · rw [a2, a1, sumO_orders, sumO_orders]; show sumL m.lvs = _ - sumF m.fs; omega
    · rw [a5, a1]; exact MI.no
  · have e := refused_is h0
    refine ⟨?_, ?_, ?_, ?_, ?_, ?_, ?_, ?_⟩
    all_goals rw [e]
    · trivial
    · exact Nat.zero_le _
    · show (0 : Int) ≤ 0 ∧ (0 : Int) ≤ o.qty; omega
    · intro _; exact ⟨rfl, rfl, rfl, rfl⟩
    · show o.qty = o.qty - 0; omega
    · show _ = _ + (if false = true then o.qty else 0); simp
    · simp [sumF]
    · show B.no = B.no + ((0 : Nat) : Int); omega
theorem sp_owhole (F : Heap) (a : Option Addr) (k c : Nat) (l : List Ord) (hl : l.length = k) (hk : k ≤ 65536) (hq : ∀ x ∈ l, 1 ≤ x.qty ∧ x.qty ≤ 1048576) (h1 : SrcIs F a k 9 (rows Ord.cells l)) :
    Sp Try.prog F 26 [.slice a k c] [] (Ret (.int .i64 (sumO l))) := by
  refine sp_of_code Try.func26 rfl rfl ?_
  (refine run_seq ?_; refine run_region ?_; refine xep rfl rfl ?_; refine runL_nil ?_; refine then_normal ?_; refine run_seq ?_; refine run_region ?_; refine xep rfl rfl ?_; refine runL_nil ?_; refine then_normal ?_; (iterate 2 refine run_seq ?_); refine run_region ?_; refine xep rfl rfl ?_; refine xel rfl (ev_len rfl rfl (se rfl)) ?_; refine xep rfl rfl ?_; refine runL_nil ?_; refine then_normal ?_; refine run_block ?_)
  refine run_loopK (σ := Nat) [3, 6, 7, 8] (fun i => [(3, .int .i64 (sumO (l.take i))), (6, .slice a k c), (7, .int .i64 k), (8, .int .i64 i)]) (fun _ => []) (fun i => i ≤ k) (fun i => k - i) 0 (Nat.zero_le _) rfl (fun _ => rfl) ?_
  intro i gi
  have hp := sumO_part hq i
  (refine run_seq ?_; refine run_region ?_; refine xep rfl rfl ?_; refine runL_nil ?_; refine then_normal ?_; refine run_seq ?_)
  (refine run_cond rfl (fun hc => ?_) (fun hc => ?_) <;> (try simp only [z0, z1, z2, z3, z4, z5, z6, z7, z8, z9, Bool.not_true, Bool.not_false, Bool.false_or, Bool.true_and, true_and, and_true, false_or, or_false, reduceCtorEq, Bool.false_eq_true] at hc))
  · obtain ⟨b1, o1, _, _, _, rfl, _⟩ := h1.pos (by omega)
    obtain ⟨x, hx⟩ : ∃ x, l[i]? = some x := ⟨l[i]'(by omega), List.getElem?_eq_getElem _⟩
    have l1 := SrcIs.row oc_len h1 hl hx
    have hst := sumO_take hx
    have hp2 := sumO_part hq (i + 1)
    (refine run_skip ?_; refine then_normal ?_; refine run_seq ?_; refine run_block ?_; refine run_seq ?_; refine run_region ?_; refine xel rfl (ev_indexAddr rfl rfl rfl (se rfl) (by omega) (by omega)) ?_; refine xel rfl (ev_loadAF rfl rfl (ag rfl) (sz rfl) l1 rfl) ?_; refine runL_alloc rfl rfl rfl rfl rfl ze25 (fun _ => ?_); refine runL_store0 rfl rfl rfl rfl rfl (sz rfl) rfl rfl rfl rfl rfl ?_; refine runL_nil ?_; refine then_normal ?_; refine run_region ?_; refine xep rfl rfl ?_; refine xel rfl (ev_fieldAddr rfl rfl (fo rfl)) ?_; refine xel rfl (ev_loadK rfl rfl (sc rfl) (memF (.head _)) rfl) ?_; refine xel rfl (ev_add rfl rfl rfl (by omega)) ?_; refine xep rfl rfl ?_; refine runL_nil ?_; refine in_normal ?_; refine then_normal ?_; refine run_region ?_; refine xel rfl (ev_add rfl rfl rfl (by omega)) ?_; refine xep rfl rfl ?_; refine runL_nil ?_; refine then_normal ?_)
    refine ⟨i + 1, by omega, by omega, ?_, [_], fun _ => rfl⟩
    rw [hst]; rfl
  · have : i = l.length := by omega
    subst this
    rw [List.take_length]
    (refine run_exit ?_; (iterate 2 refine then_exit ?_); refine in_exit ?_; refine then_normal ?_)
    (refine run_seq ?_; refine run_region ?_; (iterate 2 refine xep rfl rfl ?_); refine runL_nil ?_; refine then_normal ?_; refine run_ret ?_)
    exact ⟨_, rfl, rfl⟩
end Go.Proofs.Ytiilndlgfgikbaa
