/- Contracts of functions of the given program over its translation, each proved by walking its text; used by the laws' rows. It proves no given statement by itself. -/
import Derived.Test.YtnpcmcijlgklfaaSLLaw15
set_option autoImplicit false
set_option linter.unusedSectionVars false
set_option linter.unusedSimpArgs false
set_option linter.unusedVariables false
namespace Go.Proofs.Ytnpcmcijlgklfaa
open Go Go.SL Go.Proofs
variable [Base]
theorem at_set_ne (A : List Int) {k j : Nat} (v : Int) (h : k ≠ j) : at_ (A.set k v) j = at_ A j := by
  unfold at_
  rw [List.getD_eq_getElem?_getD, List.getD_eq_getElem?_getD, List.getElem?_set_ne h]
theorem mv_ne (A : List Int) {k j : Nat} (b lo hi : Int) (h : k ≠ j) : at_ (mv A k b lo hi).2 j = at_ A j := by
  unfold mv
  split
  · exact at_set_ne A _ h
  · rfl
theorem opens_ne (A : List Int) {n i q : Int} {j : Nat} (h : there n i = true → slot n i ≠ j) : at_ (opens A n i q).2 j = at_ A j := by
  unfold opens
  split
  · rename_i hh; exact mv_ne A _ _ _ (h hh.1)
  · rfl
theorem trades_ne (A : List Int) {n i s q : Int} {j : Nat} (h : there n i = true → pslot n i ≠ j) : at_ (trades A n i s q).2 j = at_ A j := by
  unfold trades
  split
  · rename_i hh; exact mv_ne A _ _ _ (h hh.1)
  · rfl
theorem oa_trades (A : List Int) (n i s q n' i' : Int) : oa (trades A n i s q).2 n' i' = oa A n' i' := by
  unfold oa
  split
  · rename_i h
    rw [there_iff] at h
    exact trades_ne A (fun _ => by unfold slot pslot; omega)
  · rfl
theorem pa_opens (A : List Int) (n i q n' i' : Int) : pa (opens A n i q).2 n' i' = pa A n' i' := by
  unfold pa
  split
  · rename_i h
    exact opens_ne A (fun h2 => by rw [there_iff] at h2; unfold slot pslot; omega)
  · rfl
theorem oa_opens (A : List Int) {n i q n' i' : Int} (h : ¬ (n = n' ∧ i = i')) : oa (opens A n i q).2 n' i' = oa A n' i' := by
  unfold oa
  split
  · rename_i h1
    exact opens_ne A (fun h2 => by rw [there_iff] at h1 h2; unfold slot; omega)
  · rfl
theorem sumN_congr {A B : List Int} {n : Int} (h : ∀ i, oa A n i = oa B n i) : ∀ k, sumN A n k = sumN B n k
  | 0 => rfl
  | k + 1 => by unfold sumN; rw [sumN_congr h k, h]
theorem opens_not (A : List Int) {n i q : Int} (h : there n i = false) : opens A n i q = (false, A) := by
  unfold opens; rw [h, if_neg (by simp)]
theorem trades_not (A : List Int) {n i s q : Int} (h : there n i = false) : trades A n i s q = (false, A) := by
  unfold trades; rw [h, if_neg (by simp)]
theorem opens_true {A : List Int} {n i q : Int} (h : (opens A n i q).1 = true) : there n i = true ∧ -1048576 ≤ q ∧ q ≤ 1048576 := by
  unfold opens at h
  split at h
  · assumption
  · cases h
theorem trades_true {A : List Int} {n i s q : Int} (h : (trades A n i s q).1 = true) : there n i = true ∧ 1 ≤ q ∧ q ≤ 1048576 ∧ (s = 1 ∨ s = 2) := by
  unfold trades at h
  split at h
  · assumption
  · cases h
theorem opens_false {A : List Int} {n i q : Int} (h : (opens A n i q).1 = false) : (opens A n i q).2 = A := by
  unfold opens mv at h ⊢
  split
  · rename_i h1; rw [if_pos h1] at h
    split
    · rename_i h2; rw [if_pos h2] at h; cases h
    · rfl
  · rfl
theorem trades_false {A : List Int} {n i s q : Int} (h : (trades A n i s q).1 = false) : (trades A n i s q).2 = A := by
  unfold trades mv at h ⊢
  generalize (if s = 2 then -q else q) = qq at *
  split
  · rename_i h1; rw [if_pos h1] at h
    split
    · rename_i h2; rw [if_pos h2] at h; cases h
    · rfl
  · rfl
/-- Of all that is open of a trader that had nothing, it is what the one instrument has. -/
theorem sum_one {A : List Int} {n i : Int} (h : ∀ j, j ≠ i → oa A n j = 0) : sumN A n 8 = oa A n i := by
  have h9 : ¬ (0 ≤ i ∧ i < 8) → oa A n i = 0 := by
    intro h1; unfold oa; rw [if_neg (by rw [there_iff]; omega)]
  have g : ∀ k : Nat, (k : Int) ≠ i → oa A n k = 0 := fun k hk => h k hk
  have s : sumN A n 8 = oa A n (0:Nat) + oa A n (1:Nat) + oa A n (2:Nat) + oa A n (3:Nat) + oa A n (4:Nat) + oa A n (5:Nat) + oa A n (6:Nat) + oa A n (7:Nat) := by
    simp only [sumN]; omega
  rw [s]
  by_cases hr : 0 ≤ i ∧ i < 8
  · have : i = 0 ∨ i = 1 ∨ i = 2 ∨ i = 3 ∨ i = 4 ∨ i = 5 ∨ i = 6 ∨ i = 7 := by omega
    have g0 := g 0; have g1 := g 1; have g2 := g 2; have g3 := g 3; have g4 := g 4; have g5 := g 5; have g6 := g 6; have g7 := g 7
    rcases this with rfl | rfl | rfl | rfl | rfl | rfl | rfl | rfl <;> simp at g0 g1 g2 g3 g4 g5 g6 g7 ⊢ <;> simp [g0, g1, g2, g3, g4, g5, g6, g7]
  · rw [h9 hr, g 0 (by omega), g 1 (by omega), g 2 (by omega), g 3 (by omega), g 4 (by omega), g 5 (by omega), g 6 (by omega), g 7 (by omega)]; rfl
set_option maxHeartbeats 4000000 in
theorem acctEnds_sp (F : Heap) (n inst side qty : Int) (h1 : InI n) (h2 : InI inst) (h3 : InI side) (h4 : InI qty) :
    Sp Try.prog F 14 [.int .i64 n, .int .i64 inst, .int .i64 side, .int .i64 qty] [] (Ret (.bool true)) := by
  have e1 : opens A0 3 2 7 = (true, A0.set 26 7) := by kernel_rfl
  have e2 : trades (A0.set 26 7) 3 2 1 4 = (true, (A0.set 26 7).set 282 4) := by kernel_rfl
  have k1 : AOk (A0.set 26 7) := by have := opens_ok A0_ok 3 2 7; rw [e1] at this; exact this
  have k2 : AOk ((A0.set 26 7).set 282 4) := by have := trades_ok k1 3 2 1 4; rw [e2] at this; exact this
  have e7 : sumN ((A0.set 26 7).set 282 4) 3 8 = 7 := by kernel_rfl
  have e8 : pa ((A0.set 26 7).set 282 4) 3 2 = 4 := by kernel_rfl
  have e0 : (List.range 8).all (fun k => at_ ((A0.set 26 7).set 282 4) (32 + k) == 0) = true := by kernel_rfl
  have e9 : ∀ j, oa ((A0.set 26 7).set 282 4) 4 j = 0 := by
    intro j
    unfold oa
    split
    · rename_i h
      rw [there_iff] at h
      have hk := List.all_eq_true.1 e0 j.toNat (List.mem_range.2 (by omega))
      have hs : slot 4 j = 32 + j.toNat := by unfold slot; omega
      rw [hs]
      simpa only [beq_iff_eq] using hk
    · rfl
  have c0 := fun F => sp_new F
  have c1 := fun b F => sp_opens F A0 A0_ok b 76 3 2 7
  have c2 := fun b F => sp_trades F _ k1 b 76 3 2 1 4
  simp only [e1] at c1
  simp only [e2] at c2
  clear e1 e2
  generalize hB2 : (A0.set 26 7).set 282 4 = B2 at *
  generalize A0.set 26 7 = B1 at *
  have q1 := @acctRuns_sp
  generalize hB0 : A0 = B0 at *
  refine sp_of_code Try.func14 rfl rfl ?_
  (refine run_seq ?_; refine run_region ?_; refine xep rfl rfl ?_; refine runL_nil ?_; refine then_normal ?_; refine run_seq ?_; refine run_region ?_)
  refine runL_call0 rfl rfl rfl rfl rfl rfl rfl (pf rfl) (c0 _) ?_
  rintro v h1 ⟨b, rfl, rfl⟩
  have hgd : true = true := rfl
  have hge : false = false := rfl
  (refine xep rfl rfl ?_; refine runL_nil ?_; refine then_normal ?_; (iterate 2 refine run_seq ?_); refine run_region ?_; refine xep rfl rfl ?_; refine xel rfl (ev_eqNil rfl rfl rfl (pt rfl)) ?_; refine xep rfl rfl ?_; refine runL_yes rfl rfl hge ?_; refine xep rfl rfl ?_; refine runL_yes rfl rfl hge ?_)
  refine runL_call1 rfl rfl rfl rfl rfl rfl rfl (pf rfl) (c1 b _) ?_
  rintro v h1 ⟨rfl, rfl⟩
  (refine runL_yes rfl rfl hge ?_; (iterate 3 refine xep rfl rfl ?_); refine runL_yes rfl rfl hge ?_; refine xep rfl rfl ?_; refine runL_yes rfl rfl hge ?_)
  refine runL_call1 rfl rfl rfl rfl rfl rfl rfl (pf rfl) (c2 b _) ?_
  rintro v h1 ⟨rfl, rfl⟩
  (refine runL_yes rfl rfl hge ?_; (iterate 2 refine xep rfl rfl ?_); refine runL_nil ?_; refine then_normal ?_; refine RunC.whole rfl ?_)
  refine run_condF rfl rfl ?_
  clear hgd hge
  (refine run_skip ?_; refine then_normal ?_; refine run_seq ?_; refine run_region ?_; (iterate 3 refine xep rfl rfl ?_); (iterate 2 refine xgp rfl rfl rfl ?_); (iterate 2 refine xep rfl rfl ?_); (iterate 2 refine xgp rfl rfl rfl ?_); (iterate 2 refine xep rfl rfl ?_); (iterate 2 refine xgp rfl rfl rfl ?_); (iterate 2 refine xep rfl rfl ?_); refine runL_nil ?_; refine then_normal ?_; refine run_seq ?_; refine run_region ?_; (iterate 4 refine xep rfl rfl ?_))
  refine runL_call1 rfl rfl rfl rfl rfl rfl rfl (pf rfl) (sp_opens _ B2 k2 b _ n inst qty) ?_
  rintro v h1 ⟨rfl, rfl⟩
  have k3 := opens_ok k2 n inst qty
  ((iterate 5 refine xep rfl rfl ?_))
  refine runL_call1 rfl rfl rfl rfl rfl rfl rfl (pf rfl) (sp_trades _ _ k3 b _ n inst side qty) ?_
  rintro v h1 ⟨rfl, rfl⟩
  have k4 := trades_ok k3 n inst side qty
  have m1 := sp_openAt _ k4 b 76
  have m2 := sp_pos _ k4 b 76
  have m3 := sp_open _ k4 b 76
  ((iterate 2 refine xep rfl rfl ?_); refine runL_nil ?_; refine then_normal ?_; (iterate 2 refine run_seq ?_); refine run_region ?_; (iterate 3 refine xep rfl rfl ?_); (iterate 8 refine xgp rfl rfl rfl ?_); refine xgl rfl rfl (fun hq => ev_callQ rfl rfl rfl (pf rfl) (m2 _ (memF (.head _)) ..)) ?_; (iterate 6 refine xgp rfl rfl rfl ?_); refine xgl rfl rfl (fun hq => ev_callQ rfl rfl rfl (pf rfl) (m1 _ (memF (.head _)) ..)) ?_; (iterate 2 refine xgp rfl rfl rfl ?_); refine xep rfl rfl ?_; refine runL_nil ?_; refine then_normal ?_; refine RunC.whole rfl ?_)
  refine run_condF rfl ?_ ?_
  · cases ht : there n inst with
    | true => unfold there at ht; rw [ht]; rfl
    | false =>
      have p1 : pa B2 n inst = 0 := by unfold pa; rw [ht]; rfl
      have p2 : oa B2 n inst = 0 := by unfold oa; rw [ht]; rfl
      rw [opens_not B2 ht, trades_not B2 ht, p1, p2]
      simp
  (refine run_skip ?_; refine then_normal ?_; (iterate 2 refine run_seq ?_); refine run_region ?_; (iterate 3 refine xep rfl rfl ?_); (iterate 2 refine xgp rfl rfl rfl ?_); (iterate 2 refine xep rfl rfl ?_); (iterate 4 refine xgp rfl rfl rfl ?_); (iterate 2 refine xep rfl rfl ?_); (iterate 5 refine xgp rfl rfl rfl ?_); (iterate 2 refine xep rfl rfl ?_); (iterate 9 refine xgp rfl rfl rfl ?_); refine xep rfl rfl ?_; refine runL_nil ?_; refine then_normal ?_)
  have ox : ∀ x, x = (opens B2 n inst qty).1 → x = true → there n inst = true ∧ -1048576 ≤ qty ∧ qty ≤ 1048576 := by
    intro x hx h; rw [hx] at h; exact opens_true h
  have oy : ∀ y, y = (trades (opens B2 n inst qty).2 n inst side qty).1 → y = true → there n inst = true ∧ 1 ≤ qty ∧ qty ≤ 1048576 ∧ (side = 1 ∨ side = 2) := by
    intro y hy h; rw [hy] at h; exact trades_true h
  refine run_condF rfl ?_ ?_
  · have ox1 := ox _ rfl
    have oy1 := oy _ rfl
    generalize (opens B2 n inst qty).1 = x at ox1 ⊢
    generalize (trades (opens B2 n inst qty).2 n inst side qty).1 = y at oy1 ⊢
    cases x <;> cases y
    · simp
    · obtain ⟨_, a2, a3, a4⟩ := oy1 rfl
      have b1 : ¬ 1048576 < qty := by omega
      have b2 : ¬ qty < -1048576 := by omega
      have b3 : ¬ qty < 1 := by omega
      rcases a4 with rfl | rfl <;> simp [b1, b2, b3]
    · obtain ⟨_, a2, a3⟩ := ox1 rfl
      have b1 : ¬ 1048576 < qty := by omega
      have b2 : ¬ qty < -1048576 := by omega
      simp [b1, b2]
    · obtain ⟨_, a2, a3, a4⟩ := oy1 rfl
      have b1 : ¬ 1048576 < qty := by omega
      have b2 : ¬ qty < -1048576 := by omega
      have b3 : ¬ qty < 1 := by omega
      rcases a4 with rfl | rfl <;> simp [b1, b2, b3]
  (refine run_skip ?_; refine then_normal ?_; refine run_seq ?_; refine run_region ?_; (iterate 2 refine xep rfl rfl ?_); refine xgp rfl rfl rfl ?_; refine xgl rfl rfl (fun hq => ev_callQ rfl rfl rfl (pf rfl) (m3 _ (memF (.head _)) ..)) ?_; refine xgp rfl rfl rfl ?_; (iterate 2 refine xep rfl rfl ?_); (iterate 3 refine xgp rfl rfl rfl ?_); refine xgl rfl rfl (fun hq => ev_callQ rfl rfl rfl (pf rfl) (m2 _ (memF (.head _)) ..)) ?_; (iterate 2 refine xgp rfl rfl rfl ?_); (iterate 2 refine xep rfl rfl ?_); refine xgp rfl rfl rfl ?_; refine xgl rfl rfl (fun hq => ev_callQ rfl rfl rfl (pf rfl) (m3 _ (memF (.head _)) ..)) ?_; (iterate 2 refine xgp rfl rfl rfl ?_); refine xgl rfl rfl (fun hq => ev_callQ rfl rfl rfl (pf rfl) (m1 _ (memF (.head _)) ..)) ?_; refine xgp rfl rfl rfl ?_; (iterate 2 refine xep rfl rfl ?_); refine xgl rfl rfl (fun hq => ev_callQ rfl rfl rfl (pf rfl) (q1 ..)) ?_; (iterate 2 refine xep rfl rfl ?_); refine runL_nil ?_; refine then_normal ?_; refine run_ret ?_)
  refine ⟨_, rfl, congrArg Value.bool ?_⟩
  have f3 : sumN (trades (opens B2 n inst qty).2 n inst side qty).2 4 8 = oa (trades (opens B2 n inst qty).2 n inst side qty).2 4 inst := by
    refine sum_one fun j hj => ?_
    rw [oa_trades, oa_opens _ (fun h => hj h.2.symm), e9]
  have f1 : ((opens B2 n inst qty).1 || decide (sumN (trades (opens B2 n inst qty).2 n inst side qty).2 3 8 = 7)) = true := by
    cases hx : (opens B2 n inst qty).1 with
    | true => rfl
    | false =>
      rw [sumN_congr (fun i => oa_trades _ _ _ _ _ _ i), opens_false hx, e7]; rfl
  have f2 : ((trades (opens B2 n inst qty).2 n inst side qty).1 || decide (pa (trades (opens B2 n inst qty).2 n inst side qty).2 3 2 = 4)) = true := by
    cases hy : (trades (opens B2 n inst qty).2 n inst side qty).1 with
    | true => rfl
    | false => rw [trades_false hy, pa_opens, e8]; rfl
  rw [f1, f2, decide_eq_true f3]; rfl
end Go.Proofs.Ytnpcmcijlgklfaa
