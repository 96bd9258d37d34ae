/- Contracts of functions of the given program over its translation, each proved by walking its text; used by the laws' rows. It proves no given statement by itself. -/
import Derived.Test.YtnpcmcijlgklfaaSLAcct
set_option autoImplicit false
set_option linter.unusedSectionVars false
set_option linter.unusedSimpArgs false
set_option linter.unusedVariables false
namespace Go.Proofs.Ytnpcmcijlgklfaa
open Go Go.SL Go.Proofs
theorem mv_ok {A : List Int} (hA : AOk A) (k : Nat) (by_ lo hi : Int) (h1 : -1099511627776 ≤ lo) (h2 : hi ≤ 1099511627776) : AOk (mv A k by_ lo hi).2 := by
  unfold mv
  split
  · rename_i h
    refine ⟨by simp [hA.1], fun j x hx => ?_⟩
    by_cases e : k = j
    · subst e
      have hlt : k < A.length := by
        have := (List.getElem?_eq_some_iff.1 hx).1
        simpa using this
      rw [List.getElem?_set_self hlt] at hx
      have := Option.some.inj hx
      omega
    · rw [List.getElem?_set_ne e] at hx
      exact hA.2 j x hx
  · exact hA
theorem opens_ok {A : List Int} (hA : AOk A) (n i q : Int) : AOk (opens A n i q).2 := by
  unfold opens
  split
  · exact mv_ok hA _ _ _ _ (by omega) (by omega)
  · exact hA
theorem trades_ok {A : List Int} (hA : AOk A) (n i s q : Int) : AOk (trades A n i s q).2 := by
  unfold trades
  split
  · exact mv_ok hA _ _ _ _ (by omega) (by omega)
  · exact hA
variable [Base]
theorem acctRuns_sp (F : Heap) : Sp Try.prog F 10 [] [] (Ret (.bool true)) := by
  have e1 : opens A0 1 2 5 = (true, A0.set 10 5) := by kernel_rfl
  have e2 : opens (A0.set 10 5) 1 3 4 = (true, (A0.set 10 5).set 11 4) := by kernel_rfl
  have e3 : opens ((A0.set 10 5).set 11 4) 1 2 (-6) = (false, (A0.set 10 5).set 11 4) := by kernel_rfl
  have e4 : trades ((A0.set 10 5).set 11 4) 1 2 2 3 = (true, ((A0.set 10 5).set 11 4).set 266 (-3)) := by kernel_rfl
  have k1 : AOk (A0.set 10 5) := by have := opens_ok A0_ok 1 2 5; rw [e1] at this; exact this
  have k2 : AOk ((A0.set 10 5).set 11 4) := by have := opens_ok k1 1 3 4; rw [e2] at this; exact this
  have k3 : AOk (((A0.set 10 5).set 11 4).set 266 (-3)) := by have := trades_ok k2 1 2 2 3; rw [e4] at this; exact this
  have e5 : sumN ((A0.set 10 5).set 11 4) 1 8 = 9 := by kernel_rfl
  have e6 : pa (((A0.set 10 5).set 11 4).set 266 (-3)) 1 2 = -3 := by kernel_rfl
  have c0 := fun F => sp_new F
  have c1 := fun b F => sp_opens F A0 A0_ok b 76 1 2 5
  have c2 := fun b F => sp_opens F _ k1 b 76 1 3 4
  have c3 := fun b F => sp_opens F _ k2 b 76 1 2 (-6)
  have c4 := fun b F => sp_trades F _ k2 b 76 1 2 2 3
  simp only [e1] at c1
  simp only [e2] at c2
  simp only [e3] at c3
  simp only [e4] at c4
  have c5 := fun b F hm => sp_open _ k2 b 76 F hm 1
  rw [e5] at c5
  have c6 := fun b F hm => sp_pos _ k3 b 76 F hm 1 2
  rw [e6] at c6
  clear e1 e2 e3 e4 e5 e6
  generalize ((A0.set 10 5).set 11 4).set 266 (-3) = B3 at *
  generalize (A0.set 10 5).set 11 4 = B2 at *
  generalize A0.set 10 5 = B1 at *
  generalize A0 = B0 at *
  refine sp_of_code Try.func10 rfl rfl ?_
  (refine run_seq ?_; refine run_region ?_; refine xep rfl rfl ?_; refine runL_nil ?_; refine then_normal ?_; refine run_seq ?_; refine run_region ?_)
  refine runL_call0 rfl rfl rfl rfl rfl rfl rfl (pf rfl) (c0 _) ?_
  rintro v h1 ⟨b, rfl, rfl⟩
  have m1 := c5 b
  have m2 := c6 b
  (refine xep rfl rfl ?_; refine runL_nil ?_; refine then_normal ?_; (iterate 2 refine run_seq ?_); refine run_region ?_; refine xep rfl rfl ?_; refine xel rfl (ev_eqNil rfl rfl rfl (pt rfl)) ?_; refine runL_nil ?_; refine then_normal ?_; refine RunC.whole rfl ?_)
  refine run_condF rfl rfl ?_
  (refine run_skip ?_; refine then_normal ?_; refine run_seq ?_; refine run_region ?_; refine xep rfl rfl ?_)
  refine runL_call1 rfl rfl rfl rfl rfl rfl rfl (pf rfl) (c1 b _) ?_
  rintro v h1 ⟨rfl, rfl⟩
  (refine xep rfl rfl ?_)
  refine runL_call1 rfl rfl rfl rfl rfl rfl rfl (pf rfl) (c2 b _) ?_
  rintro v h1 ⟨rfl, rfl⟩
  (refine xep rfl rfl ?_)
  refine runL_call1 rfl rfl rfl rfl rfl rfl rfl (pf rfl) (c3 b _) ?_
  rintro v h1 ⟨rfl, rfl⟩
  have hgd : true = true := rfl
  ((iterate 3 refine xep rfl rfl ?_); refine runL_nil ?_; refine then_normal ?_; refine run_seq ?_; refine run_region ?_; (iterate 2 refine xep rfl rfl ?_); refine runL_yes rfl rfl hgd ?_; (iterate 3 refine xep rfl rfl ?_); refine runL_yes rfl rfl hgd ?_; refine xep rfl rfl ?_; refine runL_yes rfl rfl hgd ?_; (iterate 3 refine xep rfl rfl ?_); refine runL_yes rfl rfl hgd ?_; refine xep rfl rfl ?_; refine runL_yes rfl rfl hgd ?_; refine xel rfl (ev_callQ rfl rfl rfl (pf rfl) (m1 _ (memF (.head _)) ..)) ?_; refine runL_yes rfl rfl hgd ?_; (iterate 3 refine xep rfl rfl ?_); refine runL_yes rfl rfl hgd ?_; refine xep rfl rfl ?_; refine runL_yes rfl rfl hgd ?_)
  refine runL_call1 rfl rfl rfl rfl rfl rfl rfl (pf rfl) (c4 b _) ?_
  rintro v h1 ⟨rfl, rfl⟩
  ((iterate 2 refine xep rfl rfl ?_); refine runL_yes rfl rfl hgd ?_; refine xep rfl rfl ?_; refine runL_yes rfl rfl hgd ?_; refine xel rfl (ev_callQ rfl rfl rfl (pf rfl) (m2 _ (memF (.head _)) ..)) ?_; refine runL_yes rfl rfl hgd ?_; (iterate 3 refine xep rfl rfl ?_); refine runL_nil ?_; refine then_normal ?_; refine run_ret ?_)
  exact ⟨_, rfl, rfl⟩
end Go.Proofs.Ytnpcmcijlgklfaa
