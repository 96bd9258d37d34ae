/- Contracts of functions of the given program over its translation, each proved by walking its text; used by the laws' rows. It proves no given statement by itself. -/
import Derived.Test.YtnpcmcijlgklfaaSLOrder
import Derived.Test.YtnpcmcijlgklfaaSLDraw
import Derived.Test.YtnpcmcijlgklfaaSLLaw7
set_option autoImplicit false
set_option linter.unusedSectionVars false
set_option linter.unusedSimpArgs false
set_option linter.unusedVariables false
namespace Go.Proofs.Ytnpcmcijlgklfaa
open Go Go.SL Go.Proofs
theorem hit_up {o : Ord} (h : o.side = 1) {lo hi : Int} (hle : lo ≤ hi) : (!hit o lo || hit o hi) = true := by
  unfold hit
  by_cases s : o.stop ≤ 0 ∨ lo ≤ 0
  · simp [s]
  · have s2 : ¬ (o.stop ≤ 0 ∨ hi ≤ 0) := by omega
    rw [if_neg s, if_neg s2, if_pos h, if_pos h]
    by_cases q : o.stop ≤ lo
    · have : o.stop ≤ hi := by omega
      simp [this]
    · simp [q]
theorem hit_dn {o : Ord} (h : ¬ o.side = 1) {lo hi : Int} (hle : lo ≤ hi) : (decide (lo < 1) || !hit o hi || hit o lo) = true := by
  unfold hit
  by_cases l : lo < 1
  · simp [l]
  by_cases s : o.stop ≤ 0 ∨ lo ≤ 0
  · have s2 : o.stop ≤ 0 ∨ hi ≤ 0 := by omega
    simp [s2]
  · have s2 : ¬ (o.stop ≤ 0 ∨ hi ≤ 0) := by omega
    rw [if_neg s, if_neg s2, if_neg h, if_neg h]
    by_cases q : hi ≤ o.stop
    · have : lo ≤ o.stop := by omega
      simp [this]
    · simp [q]
variable [Base]
theorem orderRuns_sp (F : Heap) : Sp Try.prog F 7 [] [] (Ret (.bool true)) := by
  have q1 := fun F => sp_crosses F ⟨0, 0, 0, 1, 1, 5, 1, 0, 0⟩ 5
  have q2 := fun F => sp_crosses F ⟨0, 0, 0, 2, 1, 5, 1, 0, 7⟩ 4
  have q3 := fun F => sp_hit F ⟨0, 0, 0, 2, 1, 5, 1, 0, 7⟩ 7
  have q4 := @sp_better
  have q5 := fun F => sp_right F ⟨0, 0, 0, 1, 2, 5, 1, 0, 0⟩ (inI rfl)
  have q6 := fun F => sp_right F ⟨0, 0, 0, 1, 1, 5, 1, 0, 0⟩ (inI rfl)
  refine sp_of_code Try.func7 rfl rfl ?_
  (refine run_seq ?_; refine run_region ?_; refine xep rfl rfl ?_; refine runL_nil ?_; refine then_normal ?_; refine run_seq ?_; refine run_region ?_; refine xel rfl (ev_build rfl pl36 rfl) ?_; refine runL_alloc rfl rfl rfl rfl rfl ze36 (fun _ => ?_); refine runL_store0 rfl rfl rfl rfl rfl (sz rfl) rfl rfl rfl rfl rfl ?_; refine runL_nil ?_; refine then_normal ?_; refine run_seq ?_; refine run_region ?_; refine xel rfl (ev_build rfl pl36 rfl) ?_; refine runL_alloc rfl rfl rfl rfl rfl ze36 (fun _ => ?_); refine runL_store0 rfl rfl rfl rfl rfl (sz rfl) rfl rfl rfl rfl rfl ?_; refine runL_nil ?_; refine then_normal ?_; refine run_seq ?_; refine run_region ?_; refine xel rfl (ev_loadAK rfl rfl (ag rfl) (sz rfl) (memF (.tail _ (.head _))) rfl) ?_; refine xel rfl (ev_callQ rfl rfl rfl (pf rfl) (q1 ..)) ?_; refine xep rfl rfl ?_; refine xgl rfl rfl (fun hq => ev_loadAK rfl rfl (ag rfl) (sz rfl) (memF (.head _)) rfl) ?_; refine xgl rfl rfl (fun hq => ev_callQ rfl rfl rfl (pf rfl) (q2 ..)) ?_; refine xgp rfl rfl rfl ?_; (iterate 2 refine xep rfl rfl ?_); refine xgl rfl rfl (fun hq => ev_loadAK rfl rfl (ag rfl) (sz rfl) (memF (.head _)) rfl) ?_; refine xgl rfl rfl (fun hq => ev_callQ rfl rfl rfl (pf rfl) (q3 ..)) ?_; (iterate 2 refine xep rfl rfl ?_); refine xgl rfl rfl (fun hq => ev_callQ rfl rfl rfl (pf rfl) (q4 ..)) ?_; (iterate 2 refine xep rfl rfl ?_); refine xgl rfl rfl (fun hq => ev_build rfl pl36 rfl) ?_; refine xgl rfl rfl (fun hq => ev_callQ rfl rfl rfl (pf rfl) (q5 ..)) ?_; refine xgp rfl rfl rfl ?_; (iterate 2 refine xep rfl rfl ?_); refine xgl rfl rfl (fun hq => ev_loadAK rfl rfl (ag rfl) (sz rfl) (memF (.tail _ (.head _))) rfl) ?_; refine xgl rfl rfl (fun hq => ev_callQ rfl rfl rfl (pf rfl) (q6 ..)) ?_; refine xgp rfl rfl rfl ?_; (iterate 2 refine xep rfl rfl ?_); refine runL_nil ?_; refine then_normal ?_; refine run_ret ?_)
  exact ⟨_, rfl, congrArg Value.bool (by decide)⟩
theorem orderTells_sp (F : Heap) (zs : List Int) (side a b : Int) (hl : zs.length = 9) (hz : ∀ z ∈ zs, InI z) (hs : InI side) (ha : InI a) (hb : InI b) :
    Sp Try.prog F 15 [.agg ⟨ints zs⟩, .int .i64 side, .int .i64 a, .int .i64 b] [] (Ret (.bool true)) := by
  obtain ⟨o, e, ho⟩ := Ord.of hl hz
  rw [e]
  have q1 := fun F => sp_value F o ho.price ho.qty
  have q2 := fun F => rp_value F o ho.price ho.qty
  have q3 := fun F => sp_right F o ho.kind
  have q4 := fun F => rp_right F o ho.kind
  have q5 := fun F => sp_crosses F o a
  have q6 := fun F => rp_crosses F o a
  have q7 := fun F => sp_hit F o a
  have q8 := fun F => rp_hit F o a
  have q9 := @sp_better
  have q10 := @rp_better
  have q11 := @orderRuns_sp
  refine sp_of_code Try.func15 rfl rfl ?_
  (refine run_seq ?_; refine run_region ?_; refine runL_box rfl rfl rfl rfl rfl rfl (fun _ => ?_); refine xep rfl rfl ?_; refine runL_nil ?_; refine then_normal ?_; refine run_seq ?_; refine run_region ?_; refine xel rfl (ev_loadAK rfl rfl (ag rfl) (sz rfl) (memF (.head _)) rfl) ?_; refine xel rfl (ev_callQ rfl rfl rfl (pf rfl) (q1 ..)) ?_; (iterate 5 refine xep rfl rfl ?_); refine runL_nil ?_; refine then_normal ?_; refine run_seq ?_; refine run_region ?_; refine xel rfl (ev_loadAK rfl rfl (ag rfl) (sz rfl) (memF (.head _)) rfl) ?_; refine xel rfl (ev_callQ rfl rfl rfl (pf rfl) (q2 ..)) ?_; (iterate 5 refine xep rfl rfl ?_); refine runL_nil ?_; refine then_normal ?_; refine run_seq ?_; refine run_region_draw mo (by kernel_rfl) ?_; refine xql rfl (ev_loadAK rfl rfl (ag rfl) (sz rfl) (memF (.head _)) rfl) ?_; refine xql rfl (ev_callQ rfl rfl rfl (pf rfl) (q3 ..)) ?_; refine xql rfl (ev_loadAK rfl rfl (ag rfl) (sz rfl) (memF (.head _)) rfl) ?_; refine xql rfl (ev_callQ rfl rfl rfl (pf rfl) (q4 ..)) ?_; (iterate 2 refine xqp rfl rfl ?_); refine xhl rfl rfl (fun hq => ev_loadAK rfl rfl (ag rfl) (sz rfl) (memF (.head _)) rfl) ?_; refine xhp rfl rfl rfl ?_; refine xhl rfl rfl (fun hq => ev_callQ rfl rfl rfl (pf rfl) (q5 ..)) ?_; refine xhl rfl rfl (fun hq => ev_loadAK rfl rfl (ag rfl) (sz rfl) (memF (.head _)) rfl) ?_; refine xhp rfl rfl rfl ?_; refine xhl rfl rfl (fun hq => ev_callQ rfl rfl rfl (pf rfl) (q6 ..)) ?_; refine xhl rfl rfl (fun hq => ev_eqB rfl rfl rfl (bt rfl)) ?_; (iterate 2 refine xqp rfl rfl ?_); refine xhl rfl rfl (fun hq => ev_loadAK rfl rfl (ag rfl) (sz rfl) (memF (.head _)) rfl) ?_; refine xhp rfl rfl rfl ?_; refine xhl rfl rfl (fun hq => ev_callQ rfl rfl rfl (pf rfl) (q7 ..)) ?_; refine xhl rfl rfl (fun hq => ev_loadAK rfl rfl (ag rfl) (sz rfl) (memF (.head _)) rfl) ?_; refine xhp rfl rfl rfl ?_; refine xhl rfl rfl (fun hq => ev_callQ rfl rfl rfl (pf rfl) (q8 ..)) ?_; refine xhl rfl rfl (fun hq => ev_eqB rfl rfl rfl (bt rfl)) ?_; (iterate 2 refine xqp rfl rfl ?_); (iterate 3 refine xhp rfl rfl rfl ?_); refine xhl rfl rfl (fun hq => ev_callQ rfl rfl rfl (pf rfl) (q9 ..)) ?_; (iterate 3 refine xhp rfl rfl rfl ?_); refine xhl rfl rfl (fun hq => ev_callQ rfl rfl rfl (pf rfl) (q10 ..)) ?_; refine xhl rfl rfl (fun hq => ev_eqB rfl rfl rfl (bt rfl)) ?_; (iterate 2 refine xqp rfl rfl ?_); (iterate 3 refine xhp rfl rfl rfl ?_); (iterate 2 refine xqp rfl rfl ?_); (iterate 3 refine xhp rfl rfl rfl ?_); (iterate 2 refine xqp rfl rfl ?_); refine xhl rfl rfl (fun hq => ev_callQ rfl rfl rfl (pf rfl) (q11 ..)) ?_; (iterate 2 refine xqp rfl rfl ?_); refine runQ_nil ?_; refine then_normal ?_; refine run_ret ?_)
  refine ⟨_, rfl, ?_⟩
  simp [oneOrTuple]

set_option maxHeartbeats 4000000 in
theorem orderRight_sp (F : Heap) (zs : List Int) (id n : Int) (hl : zs.length = 9) (hz : ∀ z ∈ zs, InI z) (h1 : InI id) (h2 : InI n) :
    Sp Try.prog F 8 [.agg ⟨ints zs⟩, .int .i64 id, .int .i64 n] [] (Ret (.bool true)) := by
  obtain ⟨o, e, ho⟩ := Ord.of hl hz
  rw [e]
  have q1 := fun F => sp_right F o ho.kind
  have q2 := @orderRuns_sp
  refine sp_of_code Try.func8 rfl rfl ?_
  (refine run_seq ?_; refine run_region ?_; refine runL_box rfl rfl rfl rfl rfl rfl (fun _ => ?_); refine xep rfl rfl ?_; refine runL_nil ?_; refine then_normal ?_; (iterate 2 refine run_seq ?_); refine run_region ?_; refine xel rfl (ev_loadAK rfl rfl (ag rfl) (sz rfl) (memF (.head _)) rfl) ?_; refine xel rfl (ev_callQ rfl rfl rfl (pf rfl) (q1 ..)) ?_; refine xep rfl rfl ?_; refine runL_nil ?_; refine then_normal ?_)
  (refine run_cond rfl (fun hc => ?_) (fun hc => ?_) <;> (try simp only [z0, z1, z2, z3, z4, z5, z6, z7, z8, z9] at hc))
  · (refine run_seq ?_; refine run_region ?_; refine xel rfl (ev_callQ rfl rfl rfl (pf rfl) (q2 ..)) ?_; refine xep rfl rfl ?_; refine runL_nil ?_; refine then_normal ?_; refine run_ret ?_; refine then_ret ?_)
    exact ⟨_, rfl, rfl⟩
  · (refine run_skip ?_; refine then_normal ?_; refine run_seq ?_)
    refine RunC.freeze ?_
    refine run_region_D mo ?_
    (refine runD_q 0 rfl rfl (by kernel_rfl) ?_; refine ⟨_, fun _ => ev_loadAK rfl rfl (ag rfl) (sz rfl) (memR (memF (.head _))) rfl, ?_⟩; refine runD_q 1 rfl rfl (by kernel_rfl) ?_; refine ⟨_, fun _ => ev_loadAK rfl rfl (ag rfl) (sz rfl) (memR (memF (.head _))) rfl, ?_⟩; refine runD_q 2 rfl rfl (by kernel_rfl) ?_; refine ⟨_, fun _ => ev_loadAK rfl rfl (ag rfl) (sz rfl) (memR (memF (.head _))) rfl, ?_⟩; refine runD_q 3 rfl rfl (by kernel_rfl) ?_; refine ⟨_, fun _ => ev_loadAK rfl rfl (ag rfl) (sz rfl) (memR (memF (.head _))) rfl, ?_⟩)
    refine runD_alloc4 4 7 5 8 6 9 7 10 (by kernel_rfl) ze36 (fun b1 b2 b3 b4 => ?_)
    (refine runD_1 8 (by kernel_rfl) rfl rfl rfl ?_; refine runL_store0 rfl rfl rfl rfl rfl (sz rfl) rfl rfl rfl rfl rfl ?_; refine runL_nil ?_; refine endS_n rfl ?_; refine runD_1 9 (by kernel_rfl) rfl rfl rfl ?_; refine runL_store1 rfl rfl rfl rfl rfl (sz rfl) rfl rfl rfl rfl rfl ?_; refine runL_nil ?_; refine endS_n rfl ?_; refine runD_1 10 (by kernel_rfl) rfl rfl rfl ?_; refine runL_store2 rfl rfl rfl rfl rfl (sz rfl) rfl rfl rfl rfl rfl ?_; refine runL_nil ?_; refine endS_n rfl ?_; refine runD_1 11 (by kernel_rfl) rfl rfl rfl ?_; refine runL_store3 rfl rfl rfl rfl rfl (sz rfl) rfl rfl rfl rfl rfl ?_; refine runL_nil ?_; refine endS_n rfl ?_; refine runD_done (by kernel_rfl) ?_; refine then_normal ?_; refine run_seq ?_; refine RunC.whole rfl ?_)
    have q3 := fun F => sp_within F id 0 1073741824 (by omega) (by omega) (by omega)
    have q4 := fun F => sp_within F n 0 31 (by omega) (by omega) (by omega)
    have q5 := fun F => sp_within F n 0 99 (by omega) (by omega) (by omega)
    have q6 := fun F => sp_within F n 0 9 (by omega) (by omega) (by omega)
    have hr : rightP o := by
      by_cases h : rightP o
      · exact h
      · unfold right at hc; rw [if_neg h] at hc; cases hc
    have hr0 := hr
    unfold rightP at hr
    have w1 := Int.emod_nonneg id (show (1073741824 - 0 + 1 : Int) ≠ 0 by omega)
    have w2 := Int.emod_lt_of_pos id (show (0:Int) < 1073741824 - 0 + 1 by omega)
    have w3 := Int.emod_nonneg n (show (31 - 0 + 1 : Int) ≠ 0 by omega)
    have w4 := Int.emod_lt_of_pos n (show (0:Int) < 31 - 0 + 1 by omega)
    have w5 := Int.emod_nonneg n (show (99 - 0 + 1 : Int) ≠ 0 by omega)
    have w6 := Int.emod_lt_of_pos n (show (0:Int) < 99 - 0 + 1 by omega)
    have w7 := Int.emod_nonneg n (show (9 - 0 + 1 : Int) ≠ 0 by omega)
    have w8 := Int.emod_lt_of_pos n (show (0:Int) < 9 - 0 + 1 by omega)
    change 0 ≤ id.emod (1073741824 - 0 + 1) at w1
    change id.emod (1073741824 - 0 + 1) < _ at w2
    change 0 ≤ n.emod (31 - 0 + 1) at w3
    change n.emod (31 - 0 + 1) < _ at w4
    change 0 ≤ n.emod (99 - 0 + 1) at w5
    change n.emod (99 - 0 + 1) < _ at w6
    change 0 ≤ n.emod (9 - 0 + 1) at w7
    change n.emod (9 - 0 + 1) < _ at w8
    generalize id.emod (1073741824 - 0 + 1) = y1 at *
    generalize n.emod (31 - 0 + 1) = y2 at *
    generalize n.emod (99 - 0 + 1) = y3 at *
    generalize n.emod (9 - 0 + 1) = y4 at *
    have q7 := fun F => sp_right F { o with trader := 0 + y2, id := 0 + y1, side := 3 - o.side } ho.kind
    have q8 := fun F => sp_right F { o with qty := -(0 + y3) } ho.kind
    have q9 := fun F => sp_right F { o with qty := 1048577 + (0 + y3) } ho.kind
    have q10 := fun F => sp_right F { o with kind := 6 + (0 + y4) } (by unfold InI; simp only; omega)
    have e1 : right { o with trader := 0 + y2, id := 0 + y1, side := 3 - o.side } = 0 := by
      unfold right; rw [if_pos (by unfold rightP; simp only; omega)]
    have e2 : right { o with qty := -(0 + y3) } = 1 := by
      unfold right; rw [if_neg (by unfold rightP; simp only; omega)]
    have e3 : right { o with qty := 1048577 + (0 + y3) } = 1 := by
      unfold right; rw [if_neg (by unfold rightP; simp only; omega)]
    have e4 : right { o with kind := 6 + (0 + y4) } = 1 := by
      unfold right; rw [if_neg (by unfold rightP; simp only; omega)]
    rw [e1] at q7
    rw [e2] at q8
    rw [e3] at q9
    rw [e4] at q10
    refine RunC.freezeR (h := [_]) ?_
    refine run_region_D mo ?_
    (refine runD_q 0 rfl rfl (by kernel_rfl) ?_; refine ⟨_, fun _ => ev_pure rfl, ?_⟩; refine runD_q 1 rfl rfl (by kernel_rfl) ?_; refine ⟨_, fun _ => ev_callQ rfl rfl rfl (pf rfl) (q3 ..), ?_⟩; refine runD_q 2 rfl rfl (by kernel_rfl) ?_; refine ⟨_, fun _ => ev_pure rfl, ?_⟩; refine runD_q 3 rfl rfl (by kernel_rfl) ?_; refine ⟨_, fun _ => ev_callQ rfl rfl rfl (pf rfl) (q4 ..), ?_⟩; refine runD_q 4 rfl rfl (by kernel_rfl) ?_; refine ⟨_, fun _ => ev_fieldAddr rfl rfl (fo rfl), ?_⟩; refine runD_q 5 rfl rfl (by kernel_rfl) ?_; refine ⟨_, fun _ => ev_loadK rfl rfl (sc rfl) (memR (memF (.tail _ (.tail _ (.tail _ (.head _)))))) rfl, ?_⟩; refine runD_q 6 rfl rfl (by kernel_rfl) ?_; refine ⟨_, fun _ => ev_sub rfl rfl rfl (by omega), ?_⟩; refine runD_q 7 rfl rfl (by kernel_rfl) ?_; refine ⟨_, fun _ => ev_fieldAddr rfl rfl (fo rfl), ?_⟩; refine runD_1 8 (by kernel_rfl) rfl rfl rfl ?_; refine runL_store0 rfl rfl rfl rfl rfl (sz rfl) rfl rfl rfl rfl rfl ?_; refine runL_nil ?_; refine endS_n rfl ?_; refine runD_q 9 rfl rfl (by kernel_rfl) ?_; refine ⟨_, fun _ => ev_fieldAddr rfl rfl (fo rfl), ?_⟩; refine runD_1 10 (by kernel_rfl) rfl rfl rfl ?_; refine runL_store0 rfl rfl rfl rfl rfl (sz rfl) rfl rfl rfl rfl rfl ?_; refine runL_nil ?_; refine endS_n rfl ?_; refine runD_q 11 rfl rfl (by kernel_rfl) ?_; refine ⟨_, fun _ => ev_fieldAddr rfl rfl (fo rfl), ?_⟩; refine runD_1 12 (by kernel_rfl) rfl rfl rfl ?_; refine runL_store0 rfl rfl rfl rfl rfl (sz rfl) rfl rfl rfl rfl rfl ?_; refine runL_nil ?_; refine endS_n rfl ?_; refine runD_done (by kernel_rfl) ?_; refine then_normal ?_; refine run_seq ?_; refine run_region ?_; refine xep rfl rfl ?_; refine xel rfl (ev_callQ rfl rfl rfl (pf rfl) (q5 ..)) ?_; refine xel rfl (ev_neg rfl rfl (by omega)) ?_; refine xel rfl (ev_fieldAddr rfl rfl (fo rfl)) ?_; refine runL_store1 rfl rfl rfl rfl rfl (sz rfl) rfl rfl rfl rfl rfl ?_; refine runL_nil ?_; refine then_normal ?_; refine run_seq ?_; refine run_region ?_; refine xep rfl rfl ?_; refine xel rfl (ev_callQ rfl rfl rfl (pf rfl) (q5 ..)) ?_; refine xel rfl (ev_add rfl rfl rfl (by omega)) ?_; refine xel rfl (ev_fieldAddr rfl rfl (fo rfl)) ?_; refine runL_store2 rfl rfl rfl rfl rfl (sz rfl) rfl rfl rfl rfl rfl ?_; refine runL_nil ?_; refine then_normal ?_; refine run_seq ?_; refine run_region ?_; refine xep rfl rfl ?_; refine xel rfl (ev_callQ rfl rfl rfl (pf rfl) (q6 ..)) ?_; refine xel rfl (ev_add rfl rfl rfl (by omega)) ?_; refine xel rfl (ev_fieldAddr rfl rfl (fo rfl)) ?_; refine runL_store3 rfl rfl rfl rfl rfl (sz rfl) rfl rfl rfl rfl rfl ?_; refine runL_nil ?_; refine then_normal ?_; refine run_seq ?_; refine run_region ?_; refine xel rfl (ev_loadAK rfl rfl (ag rfl) (sz rfl) (memF (.head _)) rfl) ?_; refine xel rfl (ev_callQ rfl rfl rfl (pf rfl) (q7 ..)) ?_; (iterate 2 refine xep rfl rfl ?_); refine xgl rfl rfl (fun hq => ev_loadAK rfl rfl (ag rfl) (sz rfl) (memF (.tail _ (.head _))) rfl) ?_; refine xgl rfl rfl (fun hq => ev_callQ rfl rfl rfl (pf rfl) (q8 ..)) ?_; refine xgp rfl rfl rfl ?_; (iterate 2 refine xep rfl rfl ?_); refine xgl rfl rfl (fun hq => ev_loadAK rfl rfl (ag rfl) (sz rfl) (memF (.tail _ (.tail _ (.head _)))) rfl) ?_; refine xgl rfl rfl (fun hq => ev_callQ rfl rfl rfl (pf rfl) (q9 ..)) ?_; refine xgp rfl rfl rfl ?_; (iterate 2 refine xep rfl rfl ?_); refine xgl rfl rfl (fun hq => ev_loadAK rfl rfl (ag rfl) (sz rfl) (memF (.tail _ (.tail _ (.tail _ (.head _))))) rfl) ?_; refine xgl rfl rfl (fun hq => ev_callQ rfl rfl rfl (pf rfl) (q10 ..)) ?_; refine xgp rfl rfl rfl ?_; (iterate 2 refine xep rfl rfl ?_); refine xgl rfl rfl (fun hq => ev_callQ rfl rfl rfl (pf rfl) (q2 ..)) ?_; (iterate 2 refine xep rfl rfl ?_); refine runL_nil ?_; refine then_normal ?_; refine run_ret ?_)
    exact ⟨_, rfl, rfl⟩
theorem orderStops_sp (F : Heap) (zs : List Int) (a b : Int) (hl : zs.length = 9) (hz : ∀ z ∈ zs, InI z) (ha : InI a) (hb : InI b) :
    Sp Try.prog F 9 [.agg ⟨ints zs⟩, .int .i64 a, .int .i64 b] [] (Ret (.bool true)) := by
  obtain ⟨o, e, ho⟩ := Ord.of hl hz
  rw [e]
  have q1 := fun F => sp_hit F o
  have q2 := @orderRuns_sp
  have q3 := fun F => sp_hit F { o with stop := 0 }
  refine sp_of_code Try.func9 rfl rfl ?_
  (refine run_seq ?_; refine run_region ?_; refine runL_box rfl rfl rfl rfl rfl rfl (fun _ => ?_); refine xep rfl rfl ?_; refine runL_nil ?_; refine then_normal ?_; refine run_seq ?_; refine run_region ?_; (iterate 2 refine xep rfl rfl ?_); refine xel rfl (ev_min rfl rfl rfl) ?_; (iterate 2 refine xep rfl rfl ?_); refine xel rfl (ev_max rfl rfl rfl) ?_; (iterate 2 refine xep rfl rfl ?_); refine runL_nil ?_; refine then_normal ?_; (iterate 2 refine run_seq ?_); refine run_region ?_; refine xel rfl (ev_loadAK rfl rfl (ag rfl) (sz rfl) (memF (.head _)) rfl) ?_; refine xel rfl (ev_callQ rfl rfl rfl (pf rfl) (q1 ..)) ?_; refine xep rfl rfl ?_; refine xgl rfl rfl (fun hq => ev_loadAK rfl rfl (ag rfl) (sz rfl) (memF (.head _)) rfl) ?_; refine xgl rfl rfl (fun hq => ev_callQ rfl rfl rfl (pf rfl) (q1 ..)) ?_; refine xep rfl rfl ?_; refine runL_nil ?_; refine then_normal ?_)
  refine run_condF rfl (by simp [hit]) ?_
  (refine run_skip ?_; refine then_normal ?_; refine run_seq ?_; refine run_region ?_; refine xel rfl (ev_loadAK rfl rfl (ag rfl) (sz rfl) (memF (.head _)) rfl) ?_; refine runL_alloc rfl rfl rfl rfl rfl ze36 (fun _ => ?_); refine runL_store0 rfl rfl rfl rfl rfl (sz rfl) rfl rfl rfl rfl rfl ?_; refine runL_nil ?_; refine then_normal ?_; refine run_seq ?_; refine run_region ?_; refine xel rfl (ev_fieldAddr rfl rfl (fo rfl)) ?_; refine runL_store0 rfl rfl rfl rfl rfl (sz rfl) rfl rfl rfl rfl rfl ?_; refine runL_nil ?_; refine then_normal ?_; (iterate 2 refine run_seq ?_); refine run_region ?_; refine xel rfl (ev_loadAK rfl rfl (ag rfl) (sz rfl) (memF (.head _)) rfl) ?_; refine xep rfl rfl ?_; refine xel rfl (ev_callQ rfl rfl rfl (pf rfl) (q3 ..)) ?_; refine runL_nil ?_; refine then_normal ?_)
  refine run_condF rfl (by simp [hit]) ?_
  (refine run_skip ?_; refine then_normal ?_; (iterate 2 refine run_seq ?_); refine run_region ?_; refine xel rfl (ev_fieldAddr rfl rfl (fo rfl)) ?_; refine xel rfl (ev_loadK rfl rfl (sc rfl) (memF (.tail _ (.head _))) rfl) ?_; refine xep rfl rfl ?_; refine runL_nil ?_; refine then_normal ?_)
  (refine run_cond rfl (fun hc => ?_) (fun hc => ?_) <;> (try simp only [z0, z1, z2, z3, z4, z5, z6, z7, z8, z9] at hc))
  · (refine run_seq ?_; refine run_region ?_; refine xel rfl (ev_loadAK rfl rfl (ag rfl) (sz rfl) (memF (.tail _ (.head _))) rfl) ?_; refine xep rfl rfl ?_; refine xel rfl (ev_callQ rfl rfl rfl (pf rfl) (q1 ..)) ?_; (iterate 2 refine xep rfl rfl ?_); refine xgl rfl rfl (fun hq => ev_loadAK rfl rfl (ag rfl) (sz rfl) (memF (.tail _ (.head _))) rfl) ?_; refine xgp rfl rfl rfl ?_; refine xgl rfl rfl (fun hq => ev_callQ rfl rfl rfl (pf rfl) (q1 ..)) ?_; (iterate 2 refine xep rfl rfl ?_); refine xgl rfl rfl (fun hq => ev_callQ rfl rfl rfl (pf rfl) (q2 ..)) ?_; (iterate 2 refine xep rfl rfl ?_); refine runL_nil ?_; refine then_normal ?_; refine run_ret ?_; refine then_ret ?_)
    exact ⟨_, rfl, congrArg Value.bool (by rw [Bool.and_true]; exact hit_up hc (by omega))⟩
  · (refine run_skip ?_; refine then_normal ?_; refine run_seq ?_; refine run_region ?_; (iterate 3 refine xep rfl rfl ?_); refine xgl rfl rfl (fun hq => ev_loadAK rfl rfl (ag rfl) (sz rfl) (memF (.tail _ (.head _))) rfl) ?_; refine xgp rfl rfl rfl ?_; refine xgl rfl rfl (fun hq => ev_callQ rfl rfl rfl (pf rfl) (q1 ..)) ?_; refine xgp rfl rfl rfl ?_; (iterate 2 refine xep rfl rfl ?_); refine xgl rfl rfl (fun hq => ev_loadAK rfl rfl (ag rfl) (sz rfl) (memF (.tail _ (.head _))) rfl) ?_; refine xgp rfl rfl rfl ?_; refine xgl rfl rfl (fun hq => ev_callQ rfl rfl rfl (pf rfl) (q1 ..)) ?_; (iterate 2 refine xep rfl rfl ?_); refine xgl rfl rfl (fun hq => ev_callQ rfl rfl rfl (pf rfl) (q2 ..)) ?_; (iterate 2 refine xep rfl rfl ?_); refine runL_nil ?_; refine then_normal ?_; refine run_ret ?_)
    exact ⟨_, rfl, congrArg Value.bool (by rw [Bool.and_true]; exact hit_dn hc (by omega))⟩
theorem orderSides_sp (F : Heap) (zs : List Int) (a b : Int) (hl : zs.length = 9) (hz : ∀ z ∈ zs, InI z) (ha : InI a) (hb : InI b) :
    Sp Try.prog F 16 [.agg ⟨ints zs⟩, .int .i64 a, .int .i64 b] [] (Ret (.bool true)) := by
  obtain ⟨o, e, ho⟩ := Ord.of hl hz
  rw [e]
  have q1 := @sp_better
  have q2 := @orderRuns_sp
  have q3 := fun F => sp_right F o ho.kind
  have q4 := fun F => sp_crosses F o
  have q5 := fun F => sp_value F o ho.price ho.qty
  have hs := ho.side
  unfold InI at hs
  refine sp_of_code Try.func16 rfl rfl ?_
  (refine run_seq ?_; refine run_region ?_; refine runL_box rfl rfl rfl rfl rfl rfl (fun _ => ?_); refine xep rfl rfl ?_; refine runL_nil ?_; refine then_normal ?_; (iterate 2 refine run_seq ?_); refine run_region ?_; (iterate 4 refine xep rfl rfl ?_); (iterate 2 refine xgp rfl rfl rfl ?_); refine xgl rfl rfl (fun hq => ev_callQ rfl rfl rfl (pf rfl) (q1 ..)) ?_; (iterate 2 refine xgp rfl rfl rfl ?_); refine xgl rfl rfl (fun hq => ev_callQ rfl rfl rfl (pf rfl) (q1 ..)) ?_; refine xgl rfl rfl (fun hq => ev_eqB rfl rfl rfl (bt rfl)) ?_; (iterate 3 refine xgp rfl rfl rfl ?_); refine xgl rfl rfl (fun hq => ev_callQ rfl rfl rfl (pf rfl) (q1 ..)) ?_; (iterate 2 refine xgp rfl rfl rfl ?_); refine xgl rfl rfl (fun hq => ev_callQ rfl rfl rfl (pf rfl) (q1 ..)) ?_; refine xgl rfl rfl (fun hq => ev_eqB rfl rfl rfl (bt rfl)) ?_; refine xgp rfl rfl rfl ?_; (iterate 2 refine xep rfl rfl ?_); refine xgl rfl rfl (fun hq => ev_fieldAddr rfl rfl (fo rfl)) ?_; refine xgl rfl rfl (fun hq => ev_loadK rfl rfl (sc rfl) (memF (.head _)) rfl) ?_; (iterate 2 refine xgp rfl rfl rfl ?_); refine xgl rfl rfl (fun hq => ev_callQ rfl rfl rfl (pf rfl) (q1 ..)) ?_; refine xep rfl rfl ?_; refine runL_nil ?_; refine then_normal ?_)
  refine run_condF rfl ?_ ?_
  · unfold better
    by_cases hab : a = b
    · subst hab; by_cases h9 : o.side = 1 <;> simp [h9]
    · have : a < b ∨ b < a := by omega
      rcases this with h | h
      · have h' : ¬ b < a := by omega
        by_cases h9 : o.side = 1 <;> simp [h9, hab, h, h']
      · have h' : ¬ a < b := by omega
        by_cases h9 : o.side = 1 <;> simp [h9, hab, h, h']
  (refine run_skip ?_; refine then_normal ?_; (iterate 2 refine run_seq ?_); refine run_region ?_; refine xel rfl (ev_loadAK rfl rfl (ag rfl) (sz rfl) (memF (.head _)) rfl) ?_; refine xel rfl (ev_callQ rfl rfl rfl (pf rfl) (q3 ..)) ?_; refine xep rfl rfl ?_; refine runL_nil ?_; refine then_normal ?_)
  (refine run_cond rfl (fun hc => ?_) (fun hc => ?_) <;> (try simp only [z0, z1, z2, z3, z4, z5, z6, z7, z8, z9] at hc))
  · (refine run_seq ?_; refine run_region ?_; refine xel rfl (ev_callQ rfl rfl rfl (pf rfl) (q2 ..)) ?_; refine xep rfl rfl ?_; refine runL_nil ?_; refine then_normal ?_; refine run_ret ?_; refine then_ret ?_)
    exact ⟨_, rfl, rfl⟩
  have hr : rightP o := by
    by_cases h : rightP o
    · exact h
    · unfold right at hc; rw [if_neg h] at hc; cases hc
  unfold rightP at hr
  (refine run_skip ?_; refine then_normal ?_; refine run_seq ?_; refine run_region ?_; refine xel rfl (ev_fieldAddr rfl rfl (fo rfl)) ?_; refine xel rfl (ev_loadK rfl rfl (sc rfl) (memF (.head _)) rfl) ?_; refine xel rfl (ev_sub rfl rfl rfl (by omega)) ?_; refine xep rfl rfl ?_; refine runL_nil ?_; refine then_normal ?_; (iterate 2 refine run_seq ?_); refine run_region ?_; refine xel rfl (ev_loadAK rfl rfl (ag rfl) (sz rfl) (memF (.head _)) rfl) ?_; refine xep rfl rfl ?_; refine xel rfl (ev_callQ rfl rfl rfl (pf rfl) (q4 ..)) ?_; refine xep rfl rfl ?_; (iterate 3 refine xgp rfl rfl rfl ?_); refine xgl rfl rfl (fun hq => ev_callQ rfl rfl rfl (pf rfl) (q1 ..)) ?_; (iterate 2 refine xep rfl rfl ?_); refine xgl rfl rfl (fun hq => ev_loadAK rfl rfl (ag rfl) (sz rfl) (memF (.head _)) rfl) ?_; refine xgp rfl rfl rfl ?_; refine xgl rfl rfl (fun hq => ev_callQ rfl rfl rfl (pf rfl) (q4 ..)) ?_; refine xgp rfl rfl rfl ?_; refine xep rfl rfl ?_; refine runL_nil ?_; refine then_normal ?_)
  refine run_condF rfl ?_ ?_
  · unfold crosses better
    by_cases hk : o.kind = 2
    · simp [hk]
    · rw [if_neg hk, if_neg hk]
      by_cases h9 : o.side = 1
      · rw [if_pos h9, if_pos h9, if_neg (by omega)]
        by_cases u1 : a ≤ o.price
        · by_cases u2 : b < a
          · have : b ≤ o.price := by omega
            simp [this]
          · simp [u2]
        · simp [u1]
      · rw [if_neg h9, if_neg h9, if_pos (by omega)]
        by_cases u1 : o.price ≤ a
        · by_cases u2 : a < b
          · have : o.price ≤ b := by omega
            simp [this]
          · simp [u2]
        · simp [u1]
  (refine run_skip ?_; refine then_normal ?_; refine run_seq ?_; refine run_region ?_; refine xel rfl (ev_loadAK rfl rfl (ag rfl) (sz rfl) (memF (.head _)) rfl) ?_; refine xel rfl (ev_callQ rfl rfl rfl (pf rfl) (q5 ..)) ?_; (iterate 5 refine xep rfl rfl ?_); refine runL_nil ?_; refine then_normal ?_; refine run_seq ?_; refine run_region ?_; refine xel rfl (ev_fieldAddr rfl rfl (fo rfl)) ?_; refine xel rfl (ev_loadK rfl rfl (sc rfl) (memF (.head _)) rfl) ?_; (iterate 2 refine xep rfl rfl ?_); refine xgl rfl rfl (fun hq => ev_loadAK rfl rfl (ag rfl) (sz rfl) (memF (.head _)) rfl) ?_; refine xgl rfl rfl (fun hq => ev_fieldAddr rfl rfl (fo rfl)) ?_; refine xgl rfl rfl (fun hq => ev_loadK rfl rfl (sc rfl) (memF (.head _)) rfl) ?_; refine xgl rfl rfl (fun hq => ev_callQ rfl rfl rfl (pf rfl) (q4 ..)) ?_; (iterate 2 refine xep rfl rfl ?_); (iterate 2 refine xgp rfl rfl rfl ?_); (iterate 2 refine xep rfl rfl ?_); (iterate 2 refine xgp rfl rfl rfl ?_); (iterate 2 refine xep rfl rfl ?_); (iterate 2 refine xgp rfl rfl rfl ?_); (iterate 2 refine xep rfl rfl ?_); refine xgl rfl rfl (fun hq => ev_callQ rfl rfl rfl (pf rfl) (q2 ..)) ?_; (iterate 2 refine xep rfl rfl ?_); refine runL_nil ?_; refine then_normal ?_; refine run_ret ?_)
  refine ⟨_, rfl, congrArg Value.bool ?_⟩
  have p1 : 0 ≤ o.price ∧ o.price ≤ 1048576 := by
    by_cases hk : o.kind = 2
    · have := hr.2.2.2.2.2.2.2.2.2.2.2.2.2.2.2.2.1 hk; omega
    · have := hr.2.2.2.2.2.2.2.2.2.2.2.2.2.2.2.2.2.1 hk; omega
  have p2 : 1 ≤ o.qty ∧ o.qty ≤ 1048576 := by omega
  have p3 : 0 ≤ o.price * o.qty := Int.mul_nonneg p1.1 (by omega)
  have p4 : o.price * o.qty ≤ 1048576 * 1048576 := Int.mul_le_mul p1.2 p2.2 (by omega) (by omega)
  have p5 : value o = (o.price * o.qty, 0) := by
    unfold value times
    rw [if_neg (by omega), if_neg]
    rintro ⟨h1, h2⟩
    rw [Int.tdiv_eq_ediv_of_nonneg (by omega)] at h2
    have : o.price ≤ 9223372036854775807 / o.qty := (Int.le_ediv_iff_mul_le h1).2 (by omega)
    omega
  rw [p5]
  have p6 : (decide (o.kind = 2) || crosses o o.price) = true := by
    unfold crosses
    by_cases hk : o.kind = 2
    · simp [hk]
    · by_cases h9 : o.side = 1 <;> simp [hk, h9]
  rw [p6]
  have p7 : o.price * o.qty ≤ 1099511627776 := by omega
  show (true && decide ((0 : Int) = 0) && decide (0 ≤ o.price * o.qty) && decide (o.price * o.qty ≤ 1099511627776) && true) = true
  rw [decide_eq_true p3, decide_eq_true p7]; rfl
end Go.Proofs.Ytnpcmcijlgklfaa
