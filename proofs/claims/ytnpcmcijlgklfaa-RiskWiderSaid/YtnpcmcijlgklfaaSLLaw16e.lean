/- Contracts of functions of the given program over its translation, each proved by walking its text; used by the laws' rows. It proves no given statement by itself. -/
import Derived.Test.YtnpcmcijlgklfaaSLLaw16c
set_option autoImplicit false
set_option linter.unusedSectionVars false
set_option linter.unusedSimpArgs false
set_option linter.unusedVariables false
namespace Go.Proofs.Ytnpcmcijlgklfaa
open Go Go.SL Go.Proofs
variable [Base]
set_option maxHeartbeats 4000000 in
theorem riskWider_sp (F : Heap) (a : Option Addr) (len cap : Nat) (rows : List (List Int)) (zm zx : List Int) (inst more less : Int) (hR : RowsF F a len 5 rows) (hC : len ≤ cap) (hM : cap ≤ 9223372036854775807)
    (hlm : zm.length = 4) (hzm : ∀ z ∈ zm, InI z) (hlx : zx.length = 9) (hzx : ∀ z ∈ zx, InI z) (hi : InI inst) (hmo : InI more) (hle : InI less) :
    Sp Try.prog F 21 [.slice a len cap, .agg ⟨ints zm⟩, .agg ⟨ints zx⟩, .int .i64 inst, .int .i64 more, .int .i64 less] [] (Ret (.bool true)) := by
  obtain ⟨m, em, hmI⟩ := Lim.of hlm hzm
  obtain ⟨o, eo, ho⟩ := Ord.of hlx hzx
  rw [em, eo]
  have q1 := fun F => sp_rlim F m
  have q3 := @riskRuns_sp
  refine sp_of_code Try.func21 rfl rfl ?_
  (refine run_seq ?_; refine run_region ?_; (iterate 2 refine runL_box rfl rfl rfl rfl rfl rfl (fun _ => ?_)); refine xep rfl rfl ?_; refine runL_nil ?_; refine then_normal ?_; refine run_seq ?_; refine run_region ?_; refine xep rfl rfl ?_)
  refine runL_call0 rfl rfl rfl rfl rfl rfl rfl (pf rfl) (sp_both _ a len cap rows (hR.mono fun x m => List.mem_append_right _ m) hC hM) ?_
  rintro v h1 ⟨b, w, A, W, rfl, hA, rfl⟩
  ((iterate 5 refine xep rfl rfl ?_); refine runL_nil ?_; refine then_normal ?_; (iterate 2 refine run_seq ?_); refine run_region ?_; refine xep rfl rfl ?_; refine xel rfl (ev_eqNil rfl rfl rfl (pt rfl)) ?_; refine runL_nil ?_; refine then_normal ?_; refine RunC.whole rfl ?_)
  refine run_condF rfl rfl ?_
  have m1 := fun F hmem => sp_check A hA.ao b 76 F hmem m hmI o ho inst
  (refine run_skip ?_; refine then_normal ?_; (iterate 2 refine run_seq ?_); refine run_region ?_; refine xel rfl (ev_loadAK rfl rfl (ag rfl) (sz rfl) (memF (.tail _ (.tail _ (.tail _ (.head _))))) rfl) ?_; refine xel rfl (ev_callQ rfl rfl rfl (pf rfl) (q1 ..)) ?_; (iterate 2 refine xep rfl rfl ?_); refine xgp rfl rfl rfl ?_; refine xgl rfl rfl (fun hq => ev_loadAK rfl rfl (ag rfl) (sz rfl) (memF (.tail _ (.tail _ (.tail _ (.head _))))) rfl) ?_; refine xgl rfl rfl (fun hq => ev_loadAK rfl rfl (ag rfl) (sz rfl) (memF (.tail _ (.tail _ (.head _)))) rfl) ?_; refine xgp rfl rfl rfl ?_; refine xgl rfl rfl (fun hq => ev_callQ rfl rfl rfl (pf rfl) (m1 _ (memF (.head _)) ..)) ?_; refine xgp rfl rfl rfl ?_; refine xep rfl rfl ?_; refine runL_nil ?_; refine then_normal ?_)
  rename_i b7 b8
  (refine run_cond rfl (fun hc => ?_) (fun hc => ?_) <;> (try simp only [z0, z1, z2, z3, z4, z5, z6, z7, z8, z9, Bool.not_true, Bool.not_false, Bool.false_or, Bool.true_and, true_and, and_true, false_or, or_false, reduceCtorEq, Bool.false_eq_true] at hc))
  · (refine run_seq ?_; refine run_region ?_; refine xel rfl (ev_callQ rfl rfl rfl (pf rfl) (q3 ..)) ?_; refine xep rfl rfl ?_; refine runL_nil ?_; refine then_normal ?_; refine run_ret ?_; refine then_ret ?_)
    exact ⟨_, rfl, rfl⟩
  · obtain ⟨hrl, hck⟩ := hc
    have hrl2 := rlim_iff.1 hrl
    have hbase : right o = 0 ∧ 0 ≤ inst ∧ inst < 8 := by
      unfold chk at hck
      split at hck
      · cases hck
      · omega
    have hro := right_ok hbase.1
    have hck2 := (chk_iff hro hbase.2).1 hck
    have hro2 := hro
    unfold rightP at hro2
    have q4 := fun F => sp_Win F more 0 99 (by omega) (by omega) (by omega)
    have q5 := fun F => sp_Win F less 1 o.qty (by omega) (by omega) (by omega)
    have w1 := win_in more (show (0 : Int) ≤ 99 by omega)
    have w2 := win_in less (show (1 : Int) ≤ o.qty by omega)
    generalize win more 0 99 = mr at *
    generalize win less 1 o.qty = q at *
    obtain ⟨wl, hwl⟩ : ∃ wl : Lim, wl = ⟨min 1048576 (m.qty + mr), m.value, min 1099511627776 (m.open_ + mr), min 1099511627776 (m.pos + mr)⟩ := ⟨_, rfl⟩
    obtain ⟨y, hy⟩ : ∃ y : Ord, y = { o with qty := q, show_ := min o.show_ q } := ⟨_, rfl⟩
    have hmv := hmI.value
    unfold InI at hmv
    have hwI : wl.In := by
      rw [hwl]
      constructor <;> (unfold InI; dsimp only; omega)
    have hyI : y.In := by
      rw [hy]
      constructor <;> first | exact ho.trader | exact ho.id | exact ho.firm | exact ho.side | exact ho.kind | exact ho.price | exact ho.stop | (unfold InI; dsimp only; omega)
    have hyr : rightP y := by
      rw [hy]; unfold rightP; dsimp only; omega
    have hlt : o.price * q ≤ o.price * o.qty := Int.mul_le_mul_of_nonneg_left w2.2 (by
      by_cases hk : o.kind = 2 <;> omega)
    have e1 : rlimB wl = true := rlim_iff.2 (by rw [hwl]; dsimp only; omega)
    have e2 : chk A wl o inst = 0 := (chk_iff hro hbase.2).2 (by rw [hwl]; dsimp only; omega)
    have e3 : chk A m y inst = 0 := (chk_iff hyr hbase.2).2 (by rw [hy]; dsimp only; omega)
    have q6 := fun F => sp_rlim F wl
    have m2 := fun F hmem => sp_check A hA.ao b 76 F hmem wl hwI o ho inst
    have m3 := fun F hmem => sp_check A hA.ao b 76 F hmem m hmI y hyI inst
    rw [e1] at q6
    rw [e2] at m2
    rw [e3] at m3
    rw [hwl] at q6 m2
    rw [hy] at m3
    (refine run_skip ?_; refine then_normal ?_; refine run_seq ?_; refine run_region ?_; refine xel rfl (ev_loadAK rfl rfl (ag rfl) (sz rfl) (memF (.tail _ (.tail _ (.tail _ (.head _))))) rfl) ?_; refine runL_alloc rfl rfl rfl rfl rfl ze49 (fun _ => ?_); refine runL_store0 rfl rfl rfl rfl rfl (sz rfl) rfl rfl rfl rfl rfl ?_; refine runL_nil ?_; refine then_normal ?_; refine run_seq ?_)
    rename_i b15
    refine RunC.perm (h' := [blk b15 m.cells 49] ++ [blk b (ac A) 76, blk b8 (cellsV (ov o)) 36, blk b7 (cellsV (lv m)) 49, blk w (ac W) 56]) (fun x => by show cnt x (blk b15 m.cells 49 :: _) = _; (first | rfl | (simp only [cnt_append, cnt_cons, cnt_nil, blk]; omega))) ?_
    refine RunC.freezeR ?_
    have hm : ∀ G : Heap, blk b (ac A) 76 ∈ [blk b (ac A) 76, blk b8 (cellsV (ov o)) 36, blk b7 (cellsV (lv m)) 49, blk w (ac W) 56] ++ G := fun G => .head _
    refine run_region_D mo ?_
    (refine runD_q 0 rfl rfl (by kernel_rfl) ?_; refine ⟨_, fun _ => ev_fieldAddr rfl rfl (fo rfl), ?_⟩; refine runD_q 1 rfl rfl (by kernel_rfl) ?_; refine ⟨_, fun _ => ev_loadK rfl rfl (sc rfl) (memR (memF (.tail _ (.tail _ (.head _))))) rfl, ?_⟩; refine runD_q 2 rfl rfl (by kernel_rfl) ?_; refine ⟨_, fun _ => ev_pure rfl, ?_⟩; refine runD_q 3 rfl rfl (by kernel_rfl) ?_; refine ⟨_, fun _ => ev_callQ rfl rfl rfl (pf rfl) (q4 ..), ?_⟩; refine runD_q 4 rfl rfl (by kernel_rfl) ?_; refine ⟨_, fun _ => ev_add rfl rfl rfl (by omega), ?_⟩; refine runD_q 5 rfl rfl (by kernel_rfl) ?_; refine ⟨_, fun _ => ev_min rfl rfl rfl, ?_⟩; refine runD_q 6 rfl rfl (by kernel_rfl) ?_; refine ⟨_, fun _ => ev_fieldAddr rfl rfl (fo rfl), ?_⟩; refine runD_q 7 rfl rfl (by kernel_rfl) ?_; refine ⟨_, fun _ => ev_loadK rfl rfl (sc rfl) (memR (memF (.tail _ (.tail _ (.head _))))) rfl, ?_⟩; refine runD_q 8 rfl rfl (by kernel_rfl) ?_; refine ⟨_, fun _ => ev_pure rfl, ?_⟩; refine runD_q 9 rfl rfl (by kernel_rfl) ?_; refine ⟨_, fun _ => ev_callQ rfl rfl rfl (pf rfl) (q4 ..), ?_⟩; refine runD_q 10 rfl rfl (by kernel_rfl) ?_; refine ⟨_, fun _ => ev_add rfl rfl rfl (by omega), ?_⟩; refine runD_q 11 rfl rfl (by kernel_rfl) ?_; refine ⟨_, fun _ => ev_min rfl rfl rfl, ?_⟩; refine runD_q 12 rfl rfl (by kernel_rfl) ?_; refine ⟨_, fun _ => ev_fieldAddr rfl rfl (fo rfl), ?_⟩; refine runD_q 13 rfl rfl (by kernel_rfl) ?_; refine ⟨_, fun _ => ev_loadK rfl rfl (sc rfl) (memR (memF (.tail _ (.tail _ (.head _))))) rfl, ?_⟩; refine runD_q 14 rfl rfl (by kernel_rfl) ?_; refine ⟨_, fun _ => ev_pure rfl, ?_⟩; refine runD_q 15 rfl rfl (by kernel_rfl) ?_; refine ⟨_, fun _ => ev_callQ rfl rfl rfl (pf rfl) (q4 ..), ?_⟩; refine runD_q 16 rfl rfl (by kernel_rfl) ?_; refine ⟨_, fun _ => ev_add rfl rfl rfl (by omega), ?_⟩; refine runD_q 17 rfl rfl (by kernel_rfl) ?_; refine ⟨_, fun _ => ev_min rfl rfl rfl, ?_⟩; refine runD_q 18 rfl rfl (by kernel_rfl) ?_; refine ⟨_, fun _ => ev_fieldAddr rfl rfl (fo rfl), ?_⟩; refine runD_1 19 (by kernel_rfl) rfl rfl rfl ?_; refine runL_store0 rfl rfl rfl rfl rfl (sz rfl) rfl rfl rfl rfl rfl ?_; refine runL_nil ?_; refine endS_n rfl ?_; refine runD_q 20 rfl rfl (by kernel_rfl) ?_; refine ⟨_, fun _ => ev_fieldAddr rfl rfl (fo rfl), ?_⟩; refine runD_1 21 (by kernel_rfl) rfl rfl rfl ?_; refine runL_store0 rfl rfl rfl rfl rfl (sz rfl) rfl rfl rfl rfl rfl ?_; refine runL_nil ?_; refine endS_n rfl ?_; refine runD_q 22 rfl rfl (by kernel_rfl) ?_; refine ⟨_, fun _ => ev_fieldAddr rfl rfl (fo rfl), ?_⟩; refine runD_1 23 (by kernel_rfl) rfl rfl rfl ?_; refine runL_store0 rfl rfl rfl rfl rfl (sz rfl) rfl rfl rfl rfl rfl ?_; refine runL_nil ?_; refine endS_n rfl ?_; refine runD_done (by kernel_rfl) ?_; refine then_normal ?_; refine run_seq ?_; refine run_region ?_; refine xel rfl (ev_loadAK rfl rfl (ag rfl) (sz rfl) (memF (.tail _ (.tail _ (.head _)))) rfl) ?_; refine runL_alloc rfl rfl rfl rfl rfl ze36 (fun _ => ?_); refine runL_store0 rfl rfl rfl rfl rfl (sz rfl) rfl rfl rfl rfl rfl ?_; refine runL_nil ?_; refine then_normal ?_; refine run_seq ?_; refine run_region ?_; refine xep rfl rfl ?_; refine xel rfl (ev_fieldAddr rfl rfl (fo rfl)) ?_; refine xel rfl (ev_loadK rfl rfl (sc rfl) (memF (.tail _ (.tail _ (.tail _ (.head _))))) rfl) ?_; refine xel rfl (ev_callQ rfl rfl rfl (pf rfl) (q5 ..)) ?_; refine xel rfl (ev_fieldAddr rfl rfl (fo rfl)) ?_; refine runL_store0 rfl rfl rfl rfl rfl (sz rfl) rfl rfl rfl rfl rfl ?_; refine runL_nil ?_; refine then_normal ?_; refine run_seq ?_; refine run_region ?_; refine xel rfl (ev_fieldAddr rfl rfl (fo rfl)) ?_; refine xel rfl (ev_loadK rfl rfl (sc rfl) (memF (.head _)) rfl) ?_; refine xel rfl (ev_fieldAddr rfl rfl (fo rfl)) ?_; refine xel rfl (ev_loadK rfl rfl (sc rfl) (memF (.head _)) rfl) ?_; refine xel rfl (ev_min rfl rfl rfl) ?_; refine xel rfl (ev_fieldAddr rfl rfl (fo rfl)) ?_; refine runL_store0 rfl rfl rfl rfl rfl (sz rfl) rfl rfl rfl rfl rfl ?_; refine runL_nil ?_; refine then_normal ?_; refine run_seq ?_; refine run_region ?_; refine xel rfl (ev_loadAK rfl rfl (ag rfl) (sz rfl) (memF (.tail _ (.head _))) rfl) ?_; refine xel rfl (ev_callQ rfl rfl rfl (pf rfl) (q6 ..)) ?_; refine xep rfl rfl ?_; refine xgp rfl rfl rfl ?_; refine xgl rfl rfl (fun hq => ev_loadAK rfl rfl (ag rfl) (sz rfl) (memF (.tail _ (.head _))) rfl) ?_; refine xgl rfl rfl (fun hq => ev_loadAK rfl rfl (ag rfl) (sz rfl) (memF (.tail _ (.tail _ (.tail _ (.head _))))) rfl) ?_; refine xgp rfl rfl rfl ?_; refine xgl rfl rfl (fun hq => ev_callQ rfl rfl rfl (pf rfl) (m2 _ (memF (.tail _ (.tail _ (.head _)))) ..)) ?_; refine xgp rfl rfl rfl ?_; (iterate 2 refine xep rfl rfl ?_); refine xgp rfl rfl rfl ?_; refine xgl rfl rfl (fun hq => ev_loadAK rfl rfl (ag rfl) (sz rfl) (memF (.tail _ (.tail _ (.tail _ (.tail _ (.head _)))))) rfl) ?_; refine xgl rfl rfl (fun hq => ev_loadAK rfl rfl (ag rfl) (sz rfl) (memF (.head _)) rfl) ?_; refine xgp rfl rfl rfl ?_; refine xgl rfl rfl (fun hq => ev_callQ rfl rfl rfl (pf rfl) (m3 _ (memF (.tail _ (.tail _ (.head _)))) ..)) ?_; refine xgp rfl rfl rfl ?_; (iterate 2 refine xep rfl rfl ?_); refine xgl rfl rfl (fun hq => ev_callQ rfl rfl rfl (pf rfl) (q3 ..)) ?_; (iterate 2 refine xep rfl rfl ?_); refine runL_nil ?_; refine then_normal ?_; refine run_ret ?_)
    exact ⟨_, rfl, rfl⟩
end Go.Proofs.Ytnpcmcijlgklfaa
