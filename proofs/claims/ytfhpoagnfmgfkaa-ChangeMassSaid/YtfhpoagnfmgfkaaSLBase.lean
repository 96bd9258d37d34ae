/- Contracts of functions of the given program over its translation, each proved by walking its text; used by the laws' rows. It proves no given statement by itself. -/
import Derived.Test.YtfhpoagnfmgfkaaSLTy
set_option autoImplicit false
set_option linter.unusedSectionVars false
set_option linter.unusedSimpArgs false
set_option linter.unusedVariables false
namespace Go.Proofs.Ytfhpoagnfmgfkaa
open Go Go.SL Go.Proofs
variable [Base]
theorem sp_within (F : Heap) (n lo hi : Int) (h1 : lo ≤ hi) (h2 : 0 ≤ lo) (h3 : hi ≤ 1099511627776) :
   Sp Try.prog F 15 [.int .i64 n, .int .i64 lo, .int .i64 hi] [] (Ret (.int .i64 (lo + n.emod (hi - lo + 1)))) := by
  refine sp_of_code Try.func15 rfl rfl ?_
  (refine run_seq ?_; refine run_region ?_; refine xep rfl rfl ?_; refine runL_nil ?_; refine then_normal ?_; refine run_seq ?_; refine run_region ?_; (iterate 3 refine xep rfl rfl ?_); refine xel rfl (ev_sub rfl rfl rfl (by omega)) ?_; refine xel rfl (ev_add rfl rfl rfl (by omega)) ?_; refine xel rfl (ev_rem rfl rfl rfl (by omega)) ?_; refine xep rfl rfl ?_; refine runL_nil ?_; refine then_normal ?_; (iterate 2 refine run_seq ?_); refine run_region ?_; (iterate 2 refine xep rfl rfl ?_); refine runL_nil ?_; refine then_normal ?_)
  have hb := Int.emod_nonneg n (show hi - lo + 1 ≠ 0 by omega)
  have hb2 := Int.emod_lt_of_pos n (show 0 < hi - lo + 1 by omega)
  have ht : n.tmod (hi - lo + 1) = if 0 ≤ n ∨ n % (hi - lo + 1) = 0 then n % (hi - lo + 1) else n % (hi - lo + 1) - (hi - lo + 1) := by
    rw [Int.tmod_eq_emod]
    have : ((hi - lo + 1 : Int) ∣ n) ↔ n % (hi - lo + 1) = 0 := Int.dvd_iff_emod_eq_zero
    simp only [this]
    split <;> omega
  (refine run_cond rfl (fun hc => ?_) (fun hc => ?_) <;> (try simp only [z0, z1, z2, z3, z4, z5, z6, z7, z8, z9, Bool.not_true, Bool.not_false, Bool.false_or, Bool.true_and, true_and, and_true, false_or, or_false, reduceCtorEq, Bool.false_eq_true] at hc))
  · have e : n.emod (hi - lo + 1) = n.tmod (hi - lo + 1) + hi - lo + 1 := by
      show n % (hi - lo + 1) = _
      split at ht <;> omega
    (refine run_region ?_; (iterate 2 refine xep rfl rfl ?_); refine xel rfl (ev_add rfl rfl rfl (by omega)) ?_; refine xep rfl rfl ?_; refine xel rfl (ev_sub rfl rfl rfl (by omega)) ?_; refine xel rfl (ev_add rfl rfl rfl (by omega)) ?_; refine xep rfl rfl ?_; refine runL_nil ?_; refine then_normal ?_; refine run_seq ?_; refine run_region ?_; (iterate 2 refine xep rfl rfl ?_); refine xel rfl (ev_add rfl rfl rfl (by omega)) ?_; refine xep rfl rfl ?_; refine runL_nil ?_; refine then_normal ?_; refine run_ret ?_)
    exact ⟨_, rfl, by rw [e]; rfl⟩
  · have e : n.emod (hi - lo + 1) = n.tmod (hi - lo + 1) := by
      show n % (hi - lo + 1) = _
      split at ht <;> omega
    (refine run_skip ?_; refine then_normal ?_; refine run_seq ?_; refine run_region ?_; (iterate 2 refine xep rfl rfl ?_); refine xel rfl (ev_add rfl rfl rfl (by omega)) ?_; refine xep rfl rfl ?_; refine runL_nil ?_; refine then_normal ?_; refine run_ret ?_)
    exact ⟨_, rfl, by rw [e]; rfl⟩
end Go.Proofs.Ytfhpoagnfmgfkaa
