/- Contracts of functions of the given program over its translation, each proved by walking its text; used by the laws' rows. It proves no given statement by itself. -/
import Derived.Test.YtnpcmcijlgklfaaSLLaw16d
set_option autoImplicit false
set_option linter.unusedSectionVars false
set_option linter.unusedSimpArgs false
set_option linter.unusedVariables false
namespace Go.Proofs.Ytnpcmcijlgklfaa
open Go Go.SL Go.Proofs
def so (p q : Int) : Ord := ⟨1, 0, 0, 2, 1, p, q, 0, 0⟩
theorem so_right {p q : Int} (h1 : 1 ≤ p ∧ p ≤ 1048576) (h2 : 1 ≤ q ∧ q ≤ 1048576) : rightP (so p q) := by
  unfold rightP so; refine ⟨?_, ?_, ?_, ?_, ?_, ?_, ?_, ?_, ?_, ?_, ?_, ?_, ?_, ?_, ?_, ?_, fun h => ?_, fun _ => ⟨?_, ?_⟩, .inl rfl⟩ <;> first | omega | (show _ ≤ _; simp only; omega) | (simp at h)
theorem so_in {p q : Int} (h1 : InI p) (h2 : InI q) : (so p q).In := by
  constructor <;> first | exact h1 | exact h2 | (unfold InI so; simp only; omega)
variable [Base]
set_option maxHeartbeats 4000000 in
theorem riskSides_sp (F : Heap) (pos qty limit : Int) (h1 : InI pos) (h2 : InI qty) (h3 : InI limit) :
    Sp Try.prog F 19 [.int .i64 pos, .int .i64 qty, .int .i64 limit] [] (Ret (.bool true)) := by
  have c0 := fun F => sp_new F
  have q1 := @sp_bo
  have q2 := fun F => sp_Win F pos 1 100 (by omega) (by omega) (by omega)
  have q3 := fun F => sp_Win F qty 1 100 (by omega) (by omega) (by omega)
  have q4 := fun F => sp_Win F limit 0 100 (by omega) (by omega) (by omega)
  have q5 := @riskRuns_sp
  have w1 := win_in pos (show (1 : Int) ≤ 100 by omega)
  have w2 := win_in qty (show (1 : Int) ≤ 100 by omega)
  have w3 := win_in limit (show (0 : Int) ≤ 100 by omega)
  generalize win pos 1 100 = p at *
  generalize win qty 1 100 = q at *
  generalize win limit 0 100 = l at *
  have hbr := bo_right (p := 1) (q := q) (by omega) (by omega)
  have hsr := so_right (p := 1) (q := q) (by omega) (by omega)
  have hbi := bo_in (p := 1) (q := q) (inI rfl) (by unfold InI; omega)
  have hsi := so_in (p := 1) (q := q) (inI rfl) (by unfold InI; omega)
  have hl : (Lim.mk 1000 1099511627776 1073741824 l).In := by constructor <;> (unfold InI; dsimp only; omega)
  obtain ⟨f1, f2, f3⟩ := Op2_facts 0 p
  have z1 : sumN A0 1 8 = 0 := by kernel_rfl
  have z2 : pa A0 1 0 = 0 := by kernel_rfl
  have z3 : oa A0 1 0 = 0 := by kernel_rfl
  have k2 := Op2_ok (h := 0) (p := p) (by omega) (by omega)
  have e1 : chk A0 ⟨1000, 1099511627776, 1073741824, l⟩ (bo 1 q) 0 = ok8 (q ≤ l) := chk_ok8 hbr (by omega) (by
    rw [chk_iff hbr (by omega)]; show q ≤ 1000 ∧ 1 * q ≤ 1099511627776 ∧ sumN A0 1 8 + q ≤ 1073741824 ∧ ((1 : Int) = 1 → pa A0 1 0 + (oa A0 1 0 + q) ≤ l) ∧ ((1 : Int) = 2 → _) ↔ _
    rw [z1, z2, z3]; omega)
  have e2 : chk A0 ⟨1000, 1099511627776, 1073741824, l⟩ (so 1 q) 0 = ok8 (q ≤ l) := chk_ok8 hsr (by omega) (by
    rw [chk_iff hsr (by omega)]; show q ≤ 1000 ∧ 1 * q ≤ 1099511627776 ∧ sumN A0 1 8 + q ≤ 1073741824 ∧ ((2 : Int) = 1 → _) ∧ ((2 : Int) = 2 → oa A0 1 0 + q - pa A0 1 0 ≤ l) ↔ _
    rw [z1, z2, z3]; omega)
  have e3 : chk (Op2 0 p) ⟨1000, 1099511627776, 1073741824, l⟩ (bo 1 q) 0 = ok8 (p + q ≤ l) := chk_ok8 hbr (by omega) (by
    rw [chk_iff hbr (by omega)]; show q ≤ 1000 ∧ 1 * q ≤ 1099511627776 ∧ sumN (Op2 0 p) 1 8 + q ≤ 1073741824 ∧ ((1 : Int) = 1 → pa (Op2 0 p) 1 0 + (oa (Op2 0 p) 1 0 + q) ≤ l) ∧ ((1 : Int) = 2 → _) ↔ _
    rw [f1, f2, f3]; omega)
  have e4 : chk (Op2 0 p) ⟨1000, 1099511627776, 1073741824, l⟩ (so 1 q) 0 = ok8 (q - p ≤ l) := chk_ok8 hsr (by omega) (by
    rw [chk_iff hsr (by omega)]; show q ≤ 1000 ∧ 1 * q ≤ 1099511627776 ∧ sumN (Op2 0 p) 1 8 + q ≤ 1073741824 ∧ ((2 : Int) = 1 → _) ∧ ((2 : Int) = 2 → oa (Op2 0 p) 1 0 + q - pa (Op2 0 p) 1 0 ≤ l) ↔ _
    rw [f1, f2, f3]; omega)
  have x1 := fun b F hm => sp_check _ A0_ok b 76 F hm _ hl _ hbi 0
  have x2 := fun b F hm => sp_check _ A0_ok b 76 F hm _ hl _ hsi 0
  have x3 := fun b F hm => sp_check _ k2 b 76 F hm _ hl _ hbi 0
  have x4 := fun b F hm => sp_check _ k2 b 76 F hm _ hl _ hsi 0
  rw [e1] at x1
  rw [e2] at x2
  rw [e3] at x3
  rw [e4] at x4
  have c3 := fun b F => sp_trades F (Op1 0) (Op1_ok (by omega)) b 76 1 0 1 p
  simp only [Op2_trades (h := 0) (p := p) (by omega) (by omega)] at c3
  rw [Op1_zero] at c3
  have y1 : (!(decide (ok8 (q ≤ l) = 0) == decide (q ≤ l))) = false := by rw [ok8_eq]; simp
  have y2 : ((!(decide (ok8 (q ≤ l) = 0) == decide (q ≤ l))) || !decide (ok8 (q ≤ l) = ok8 (q ≤ l))) = false := by rw [ok8_eq]; simp
  clear e1 e2 e3 e4 f1 f2 f3 k2 z1 z2 z3
  generalize Op2 0 p = B1 at *
  generalize A0 = B0 at *
  refine sp_of_code Try.func19 rfl rfl ?_
  (refine run_seq ?_; refine run_region ?_; refine xep rfl rfl ?_; refine runL_nil ?_; refine then_normal ?_; refine run_seq ?_; refine run_region ?_)
  refine runL_call0 rfl rfl rfl rfl rfl rfl rfl (pf rfl) (c0 _) ?_
  rintro v h1 ⟨b, rfl, rfl⟩
  skip
  refine runL_call0 rfl rfl rfl rfl rfl rfl rfl (pf rfl) (c0 _) ?_
  rintro v h1 ⟨b2, rfl, rfl⟩
  have hgd : true = true := rfl
  have hge : false = false := rfl
  ((iterate 2 refine xep rfl rfl ?_); refine runL_nil ?_; refine then_normal ?_; (iterate 2 refine run_seq ?_); refine run_region ?_; refine xep rfl rfl ?_; refine xel rfl (ev_eqNil rfl rfl rfl (pt rfl)) ?_; refine xep rfl rfl ?_; refine runL_yes rfl rfl hge ?_; refine xep rfl rfl ?_; refine runL_yes rfl rfl hge ?_; refine xel rfl (ev_eqNil rfl rfl rfl (pt rfl)) ?_; refine xep rfl rfl ?_; refine runL_nil ?_; refine then_normal ?_; refine RunC.whole rfl ?_)
  refine run_condF rfl rfl ?_
  clear hgd hge
  (refine run_skip ?_; refine then_normal ?_; refine run_seq ?_; refine run_region ?_; refine xep rfl rfl ?_; refine xel rfl (ev_callQ rfl rfl rfl (pf rfl) (q2 ..)) ?_; refine xep rfl rfl ?_; refine xel rfl (ev_callQ rfl rfl rfl (pf rfl) (q3 ..)) ?_; refine xep rfl rfl ?_; refine xel rfl (ev_callQ rfl rfl rfl (pf rfl) (q4 ..)) ?_; (iterate 3 refine xep rfl rfl ?_); refine runL_nil ?_; refine then_normal ?_; refine run_seq ?_; refine run_region ?_; refine xep rfl rfl ?_; refine xel rfl (ev_build rfl pl49 rfl) ?_; refine runL_alloc rfl rfl rfl rfl rfl ze49 (fun _ => ?_); refine runL_store0 rfl rfl rfl rfl rfl (sz rfl) rfl rfl rfl rfl rfl ?_; refine runL_nil ?_; refine then_normal ?_; refine run_seq ?_; refine run_region ?_; refine xep rfl rfl ?_; refine xel rfl (ev_callQ rfl rfl rfl (pf rfl) (q1 ..)) ?_; refine runL_alloc rfl rfl rfl rfl rfl ze36 (fun _ => ?_); refine runL_store0 rfl rfl rfl rfl rfl (sz rfl) rfl rfl rfl rfl rfl ?_; refine runL_nil ?_; refine then_normal ?_; refine run_seq ?_; refine run_region ?_; refine xel rfl (ev_loadAK rfl rfl (ag rfl) (sz rfl) (memF (.head _)) rfl) ?_; refine runL_alloc rfl rfl rfl rfl rfl ze36 (fun _ => ?_); refine runL_store0 rfl rfl rfl rfl rfl (sz rfl) rfl rfl rfl rfl rfl ?_; refine runL_nil ?_; refine then_normal ?_; refine run_seq ?_; refine run_region ?_; refine xel rfl (ev_fieldAddr rfl rfl (fo rfl)) ?_; refine runL_store0 rfl rfl rfl rfl rfl (sz rfl) rfl rfl rfl rfl rfl ?_; refine runL_nil ?_; refine then_normal ?_; (iterate 2 refine run_seq ?_))
  rename_i b12 b13 b14
  have m1 := x1 b2
  have m2 := x2 b2
  refine RunC.perm (h' := [blk b (ac B0) 76] ++ [blk b2 (ac B0) 76, blk b12 (Lim.mk 1000 1099511627776 1073741824 l).cells 49, blk b13 (bo 1 q).cells 36, blk b14 (so 1 q).cells 36]) (fun x => by show cnt x [blk b14 (so 1 q).cells 36, blk b13 (bo 1 q).cells 36, blk b12 (Lim.mk 1000 1099511627776 1073741824 l).cells 49, blk b2 (ac B0) 76, blk b (ac B0) 76] = _; (first | rfl | (simp only [cnt_append, cnt_cons, cnt_nil, blk]; omega))) ?_
  refine RunC.freezeR ?_
  have hm : blk b2 (ac B0) 76 ∈ [blk b2 (ac B0) 76, blk b12 (Lim.mk 1000 1099511627776 1073741824 l).cells 49, blk b13 (bo 1 q).cells 36, blk b14 (so 1 q).cells 36] ++ F := .head _
  refine run_region_D mo ?_
  (refine runD_q 0 rfl rfl (by kernel_rfl) ?_; refine ⟨_, fun _ => ev_pure rfl, ?_⟩; refine runD_q 1 rfl rfl (by kernel_rfl) ?_; refine ⟨_, fun _ => ev_loadAK rfl rfl (ag rfl) (sz rfl) (memR (memF (.tail _ (.head _)))) rfl, ?_⟩; refine runD_q 2 rfl rfl (by kernel_rfl) ?_; refine ⟨_, fun _ => ev_loadAK rfl rfl (ag rfl) (sz rfl) (memR (memF (.tail _ (.tail _ (.head _))))) rfl, ?_⟩; refine runD_q 3 rfl rfl (by kernel_rfl) ?_; refine ⟨_, fun _ => ev_callQ rfl rfl rfl (pf rfl) (m1 _ (memR hm) ..), ?_⟩; refine runD_q 4 rfl rfl (by kernel_rfl) ?_; refine ⟨_, fun _ => ev_pure rfl, ?_⟩; refine runD_q 5 rfl rfl (by kernel_rfl) ?_; refine ⟨_, fun _ => ev_pure rfl, ?_⟩; refine runD_q 6 rfl rfl (by kernel_rfl) ?_; refine ⟨_, fun _ => ev_pure rfl, ?_⟩; refine runD_q 7 rfl rfl (by kernel_rfl) ?_; refine ⟨_, fun _ => ev_pure rfl, ?_⟩; refine runD_q 8 rfl rfl (by kernel_rfl) ?_; refine ⟨_, fun _ => ev_neqB rfl rfl rfl (bt rfl), ?_⟩; refine runD_q 9 rfl rfl (by kernel_rfl) ?_; refine ⟨_, fun _ => ev_pure rfl, ?_⟩; refine runD_gq 10 rfl rfl rfl rfl rfl rfl y1 (by kernel_rfl) ?_; refine ⟨_, fun _ => ev_pure rfl, ?_⟩; refine runD_gq 11 rfl rfl rfl rfl rfl rfl y1 (by kernel_rfl) ?_; refine ⟨_, fun _ => ev_loadAK rfl rfl (ag rfl) (sz rfl) (memR (memF (.tail _ (.head _)))) rfl, ?_⟩; refine runD_gq 12 rfl rfl rfl rfl rfl rfl y1 (by kernel_rfl) ?_; refine ⟨_, fun _ => ev_loadAK rfl rfl (ag rfl) (sz rfl) (memR (memF (.tail _ (.tail _ (.head _))))) rfl, ?_⟩; refine runD_gq 13 rfl rfl rfl rfl rfl rfl y1 (by kernel_rfl) ?_; refine ⟨_, fun _ => ev_callQ rfl rfl rfl (pf rfl) (m1 _ (memR hm) ..), ?_⟩; refine runD_gq 14 rfl rfl rfl rfl rfl rfl y1 (by kernel_rfl) ?_; refine ⟨_, fun _ => ev_pure rfl, ?_⟩; refine runD_gq 15 rfl rfl rfl rfl rfl rfl y1 (by kernel_rfl) ?_; refine ⟨_, fun _ => ev_loadAK rfl rfl (ag rfl) (sz rfl) (memR (memF (.tail _ (.head _)))) rfl, ?_⟩; refine runD_gq 16 rfl rfl rfl rfl rfl rfl y1 (by kernel_rfl) ?_; refine ⟨_, fun _ => ev_loadAK rfl rfl (ag rfl) (sz rfl) (memR (memF (.tail _ (.tail _ (.tail _ (.head _)))))) rfl, ?_⟩; refine runD_gq 17 rfl rfl rfl rfl rfl rfl y1 (by kernel_rfl) ?_; refine ⟨_, fun _ => ev_callQ rfl rfl rfl (pf rfl) (m2 _ (memR hm) ..), ?_⟩; refine runD_gq 18 rfl rfl rfl rfl rfl rfl y1 (by kernel_rfl) ?_; refine ⟨_, fun _ => ev_pure rfl, ?_⟩; refine runD_q 19 rfl rfl (by kernel_rfl) ?_; refine ⟨_, fun _ => ev_pure rfl, ?_⟩; refine runD_q 20 rfl rfl (by kernel_rfl) ?_; refine ⟨_, fun _ => ev_pure rfl, ?_⟩; refine runD_gq 21 rfl rfl rfl rfl rfl rfl y2 (by kernel_rfl) ?_; refine ⟨_, fun _ => ev_pure rfl, ?_⟩; refine runD_gq 22 rfl rfl rfl rfl rfl rfl y2 (by kernel_rfl) ?_; refine ⟨_, fun _ => ev_pure rfl, ?_⟩; refine runD_g1 23 (by kernel_rfl) rfl rfl rfl rfl y2 rfl rfl ?_)
  refine runL_call1 rfl rfl rfl rfl rfl rfl rfl (pf rfl) (c3 b _) ?_
  rintro v h1 ⟨rfl, rfl⟩
  clear m1 m2 hm
  (refine runL_nil ?_; refine endS_d rfl ?_; refine runD_gq 24 rfl rfl rfl rfl rfl rfl y2 (by kernel_rfl) ?_; refine ⟨_, fun _ => ev_pure rfl, ?_⟩; refine runD_q 25 rfl rfl (by kernel_rfl) ?_; refine ⟨_, fun _ => ev_pure rfl, ?_⟩; refine runD_done (by kernel_rfl) ?_; refine then_normal ?_; refine RunC.whole rfl ?_)
  have y3 : ((!(decide (ok8 (q ≤ l) = 0) == decide (q ≤ l))) || !decide (ok8 (q ≤ l) = ok8 (q ≤ l)) || !true) = false := by rw [ok8_eq]; simp
  refine run_condF rfl y3 ?_
  have m1 := x3 b
  have m2 := x4 b
  (refine run_skip ?_; refine then_normal ?_; refine run_seq ?_; refine run_region ?_; refine xep rfl rfl ?_; refine xel rfl (ev_loadAK rfl rfl (ag rfl) (sz rfl) (memF (.tail _ (.tail _ (.head _)))) rfl) ?_; refine xel rfl (ev_loadAK rfl rfl (ag rfl) (sz rfl) (memF (.tail _ (.tail _ (.tail _ (.head _))))) rfl) ?_; refine xel rfl (ev_callQ rfl rfl rfl (pf rfl) (m1 _ (memF (.head _)) ..)) ?_; (iterate 3 refine xep rfl rfl ?_); refine xel rfl (ev_add rfl rfl rfl (by omega)) ?_; (iterate 2 refine xep rfl rfl ?_); refine xel rfl (ev_eqB rfl rfl rfl (bt rfl)) ?_; refine xep rfl rfl ?_; refine xgp rfl rfl rfl ?_; refine xgl rfl rfl (fun hq => ev_loadAK rfl rfl (ag rfl) (sz rfl) (memF (.tail _ (.tail _ (.head _)))) rfl) ?_; refine xgl rfl rfl (fun hq => ev_loadAK rfl rfl (ag rfl) (sz rfl) (memF (.tail _ (.tail _ (.tail _ (.tail _ (.head _)))))) rfl) ?_; refine xgl rfl rfl (fun hq => ev_callQ rfl rfl rfl (pf rfl) (m2 _ (memF (.head _)) ..)) ?_; (iterate 3 refine xgp rfl rfl rfl ?_); refine xgl rfl rfl (fun hq => ev_sub rfl rfl rfl (by (try simp only [z0, z1, z2, z3, z4, z5, z6, z7, z8, z9, Bool.not_true, Bool.not_false, Bool.false_or, Bool.true_and, true_and, and_true, false_or, or_false, reduceCtorEq, Bool.false_eq_true] at hq); omega)) ?_; (iterate 2 refine xgp rfl rfl rfl ?_); refine xgl rfl rfl (fun hq => ev_eqB rfl rfl rfl (bt rfl)) ?_; (iterate 2 refine xep rfl rfl ?_); refine xgl rfl rfl (fun hq => ev_callQ rfl rfl rfl (pf rfl) (q5 ..)) ?_; (iterate 2 refine xep rfl rfl ?_); refine runL_nil ?_; refine then_normal ?_; refine run_ret ?_)
  refine ⟨_, rfl, congrArg Value.bool ?_⟩
  rw [ok8_eq, ok8_eq]; simp
end Go.Proofs.Ytnpcmcijlgklfaa
