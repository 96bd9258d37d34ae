/- Contracts of functions of the given program over its translation, each proved by walking its text; used by the laws' rows. It proves no given statement by itself. -/
import Derived.Test.YtfhpoagnfmgfkaaSLLvl4
import Derived.Test.YtfhpoagnfmgfkaaSLEq
set_option autoImplicit false
set_option linter.unusedSectionVars false
set_option linter.unusedSimpArgs false
set_option linter.unusedVariables false
namespace Go.Proofs.Ytfhpoagnfmgfkaa
open Go Go.SL Go.Proofs
theorem ctOrd : CmpOk Try.prog 24 9 := ⟨by kernel_rfl, by kernel_rfl, by kernel_rfl, by kernel_rfl⟩
theorem tyOrd (o : Ord) : tyQ Try.prog 4 24 o.cells = true := by kernel_rfl
theorem eqOrd (o : Ord) : eqK o.cells o.cells = some true := by simp [Ord.cells, eqK, kNum]
variable [Base]
set_option maxRecDepth 4000 in
theorem sp_sameOrd (F : Heap) (a1 a2 : Option Addr) (k c1 c2 : Nat) (l : List Ord) (hl : l.length = k) (hk : k ≤ 2097152) (h1 : SrcIs F a1 k 9 (rows Ord.cells l)) (h2 : SrcIs F a2 k 9 (rows Ord.cells l)) :
    Sp Try.prog F 16 [.slice a1 k c1, .slice a2 k c2] [] (Ret (.bool true)) := by
  refine sp_of_code Try.func16 rfl rfl ?_
  (refine run_seq ?_; refine run_region ?_; refine xep rfl rfl ?_; refine runL_nil ?_; refine then_normal ?_; (iterate 2 refine run_seq ?_); refine run_region ?_; refine xep rfl rfl ?_; refine xel rfl (ev_len rfl rfl (se rfl)) ?_; refine xep rfl rfl ?_; refine xel rfl (ev_len rfl rfl (se rfl)) ?_; refine xep rfl rfl ?_; refine runL_nil ?_; refine then_normal ?_)
  refine run_condF rfl (by simp) ?_
  (refine run_skip ?_; refine then_normal ?_; (iterate 2 refine run_seq ?_); refine run_region ?_; refine xep rfl rfl ?_; refine runL_nil ?_; refine then_normal ?_; refine run_block ?_)
  refine run_loopK (σ := Nat) [0, 1, 5] (fun i => [(0, .slice a1 k c1), (1, .slice a2 k c2), (5, .int .i64 i)]) (fun _ => []) (fun i => i ≤ k) (fun i => k - i) 0 (Nat.zero_le _) rfl (fun _ => rfl) ?_
  intro i gi
  ((iterate 2 refine run_seq ?_); refine run_region ?_; (iterate 2 refine xep rfl rfl ?_); refine xel rfl (ev_len rfl rfl (se rfl)) ?_; refine xep rfl rfl ?_; refine runL_nil ?_; refine then_normal ?_)
  (refine run_cond rfl (fun hc => ?_) (fun hc => ?_) <;> (try simp only [z0, z1, z2, z3, z4, z5, z6, z7, z8, z9, Bool.not_true, Bool.not_false, Bool.false_or, Bool.true_and, true_and, and_true, false_or, or_false, reduceCtorEq, Bool.false_eq_true] at hc))
  · obtain ⟨b1, o1, _, _, _, rfl, _⟩ := h1.pos (by omega)
    obtain ⟨b2, o2, _, _, _, rfl, _⟩ := h2.pos (by omega)
    obtain ⟨x, hx⟩ : ∃ x, l[i]? = some x := ⟨l[i]'(by omega), List.getElem?_eq_getElem _⟩
    have l1 := SrcIs.row oc_len h1 hl hx
    have l2 := SrcIs.row oc_len h2 hl hx
    have k1 := ctOrd
    have k2 := tyOrd x
    have k3 := eqOrd x
    (refine run_skip ?_; refine then_normal ?_; refine run_seq ?_; refine run_block ?_; refine run_seq ?_; refine run_region_draw mo (by kernel_rfl) ?_; (iterate 2 refine xqp rfl rfl ?_); refine xql rfl (ev_indexAddr rfl rfl rfl (se rfl) (by omega) (by omega)) ?_; refine xql rfl (ev_loadAF rfl rfl (ag rfl) (sz rfl) l1 rfl) ?_; (iterate 2 refine xqp rfl rfl ?_); refine xql rfl (ev_indexAddr rfl rfl rfl (se rfl) (by omega) (by omega)) ?_; refine xql rfl (ev_loadAF rfl rfl (ag rfl) (sz rfl) l2 rfl) ?_; refine xql rfl (ev_neqQ rfl rfl rfl k1 rfl k2 k3) ?_; refine runQ_nil ?_; refine then_normal ?_)
    refine run_condF rfl rfl ?_
    (refine run_skip ?_; refine in_normal ?_; refine then_normal ?_; refine run_region ?_; refine xep rfl rfl ?_; refine xel rfl (ev_add rfl rfl rfl (by omega)) ?_; refine xep rfl rfl ?_; refine runL_nil ?_; refine then_normal ?_)
    exact ⟨i + 1, by omega, by omega, rfl, [], fun _ => rfl⟩
  · (refine run_exit ?_; (iterate 2 refine then_exit ?_); refine in_exit ?_; refine then_normal ?_)
    (refine run_seq ?_; refine run_region ?_; refine xep rfl rfl ?_; refine runL_nil ?_; refine then_normal ?_; refine run_ret ?_)
    exact ⟨_, rfl, rfl⟩
end Go.Proofs.Ytfhpoagnfmgfkaa
