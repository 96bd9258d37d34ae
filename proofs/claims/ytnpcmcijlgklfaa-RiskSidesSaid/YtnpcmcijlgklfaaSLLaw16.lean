/- Contracts of functions of the given program over its translation, each proved by walking its text; used by the laws' rows. It proves no given statement by itself. -/
import Derived.Test.YtnpcmcijlgklfaaSLRisk
import Derived.Test.YtnpcmcijlgklfaaSLLaw7
set_option autoImplicit false
set_option linter.unusedSectionVars false
set_option linter.unusedSimpArgs false
set_option linter.unusedVariables false
namespace Go.Proofs.Ytnpcmcijlgklfaa
open Go Go.SL Go.Proofs
variable [Base]
theorem riskRuns_sp (F : Heap) : Sp Try.prog F 17 [] [] (Ret (.bool true)) := by
  have c0 := fun F => sp_new F
  have q1 := @sp_bo
  have x1 := fun b F hm => sp_check A0 A0_ok b 76 F hm ⟨5, 50, 8, 6⟩ (lim_in _ _ _ _ rfl) (bo 10 5) (bo_in (inI rfl) (inI rfl)) 0
  have x2 := fun b F hm => sp_check A0 A0_ok b 76 F hm ⟨5, 50, 8, 6⟩ (lim_in _ _ _ _ rfl) (bo 11 5) (bo_in (inI rfl) (inI rfl)) 0
  have x3 := fun b F hm => sp_check A0 A0_ok b 76 F hm ⟨5, 50, 8, 6⟩ (lim_in _ _ _ _ rfl) (bo 1 6) (bo_in (inI rfl) (inI rfl)) 0
  rw [show chk A0 ⟨5, 50, 8, 6⟩ (bo 10 5) 0 = 0 by kernel_rfl] at x1
  rw [show chk A0 ⟨5, 50, 8, 6⟩ (bo 11 5) 0 = 8 by kernel_rfl] at x2
  rw [show chk A0 ⟨5, 50, 8, 6⟩ (bo 1 6) 0 = 8 by kernel_rfl] at x3
  have q2 := fun F => sp_rlim F ⟨5, 50, 8, 6⟩
  rw [show rlimB ⟨5, 50, 8, 6⟩ = true by kernel_rfl] at q2
  generalize A0 = B0 at *
  refine sp_of_code Try.func17 rfl rfl ?_
  (refine run_seq ?_; refine run_region ?_; refine xep rfl rfl ?_; refine runL_nil ?_; refine then_normal ?_; refine run_seq ?_; refine run_region ?_)
  refine runL_call0 rfl rfl rfl rfl rfl rfl rfl (pf rfl) (c0 _) ?_
  rintro v h1 ⟨b, rfl, rfl⟩
  have m1 := x1 b
  have m2 := x2 b
  have m3 := x3 b
  (refine xep rfl rfl ?_; refine runL_nil ?_; refine then_normal ?_; refine run_seq ?_; refine run_region ?_; refine xel rfl (ev_build rfl pl49 rfl) ?_; refine runL_alloc rfl rfl rfl rfl rfl ze49 (fun _ => ?_); refine runL_store0 rfl rfl rfl rfl rfl (sz rfl) rfl rfl rfl rfl rfl ?_; refine runL_nil ?_; refine then_normal ?_; (iterate 2 refine run_seq ?_); refine run_region ?_; refine xep rfl rfl ?_; refine xel rfl (ev_eqNil rfl rfl rfl (pt rfl)) ?_; refine runL_nil ?_; refine then_normal ?_)
  refine run_condF rfl rfl ?_
  (refine run_skip ?_; refine then_normal ?_; refine run_seq ?_; refine run_region_draw mo (by kernel_rfl) ?_; refine xqp rfl rfl ?_; refine xql rfl (ev_loadAK rfl rfl (ag rfl) (sz rfl) (memF (.head _)) rfl) ?_; refine xql rfl (ev_callQ rfl rfl rfl (pf rfl) (q1 ..)) ?_; refine xql rfl (ev_callQ rfl rfl rfl (pf rfl) (m1 _ (memF (.tail _ (.head _))) ..)) ?_; (iterate 2 refine xqp rfl rfl ?_); refine xhp rfl rfl rfl ?_; refine xhl rfl rfl (fun hq => ev_loadAK rfl rfl (ag rfl) (sz rfl) (memF (.head _)) rfl) ?_; refine xhl rfl rfl (fun hq => ev_callQ rfl rfl rfl (pf rfl) (q1 ..)) ?_; refine xhl rfl rfl (fun hq => ev_callQ rfl rfl rfl (pf rfl) (m2 _ (memF (.tail _ (.head _))) ..)) ?_; refine xhp rfl rfl rfl ?_; (iterate 2 refine xqp rfl rfl ?_); refine xhp rfl rfl rfl ?_; refine xhl rfl rfl (fun hq => ev_loadAK rfl rfl (ag rfl) (sz rfl) (memF (.head _)) rfl) ?_; refine xhl rfl rfl (fun hq => ev_callQ rfl rfl rfl (pf rfl) (q1 ..)) ?_; refine xhl rfl rfl (fun hq => ev_callQ rfl rfl rfl (pf rfl) (m3 _ (memF (.tail _ (.head _))) ..)) ?_; refine xhp rfl rfl rfl ?_; (iterate 2 refine xqp rfl rfl ?_); refine xhl rfl rfl (fun hq => ev_loadAK rfl rfl (ag rfl) (sz rfl) (memF (.head _)) rfl) ?_; refine xhl rfl rfl (fun hq => ev_callQ rfl rfl rfl (pf rfl) (q2 ..)) ?_; (iterate 2 refine xqp rfl rfl ?_); refine runQ_nil ?_; refine then_normal ?_; refine run_ret ?_)
  exact ⟨_, rfl, rfl⟩
def Opx (n : Int) (m : Int) : List Int := A0.set (slot n 3) m
theorem Opx_ok {n m : Int} (hm : 0 ≤ m ∧ m ≤ 1048576) : AOk (Opx n m) := by
  refine ⟨by unfold Opx; rw [List.length_set]; exact A0_ok.1, fun k x hx => ?_⟩
  unfold Opx at hx
  rcases List.mem_or_eq_of_mem_set (List.mem_of_getElem? hx) with h | h
  · have := List.eq_of_mem_replicate h; omega
  · omega
theorem Opx_opens {n m : Int} (hn : 0 ≤ n ∧ n < 32) (hm : 0 ≤ m ∧ m ≤ 1048576) : opens A0 n 3 m = (true, Opx n m) := by
  unfold opens mv
  rw [if_pos ⟨there_iff.2 (by omega), by omega, by omega⟩, at_A0, if_pos (by omega)]
  unfold Opx; rw [Int.zero_add]
/-- Of trader 1 so much is open at instrument 3, of trader 2 so much. -/
def Opy (t m : Int) : List Int := (Opx 2 t).set (slot 1 3) m
theorem Opy_ok {t m : Int} (ht : 0 ≤ t ∧ t ≤ 1048576) (hm : 0 ≤ m ∧ m ≤ 1048576) : AOk (Opy t m) := by
  refine ⟨by unfold Opy; rw [List.length_set]; exact (Opx_ok ht).1, fun k x hx => ?_⟩
  unfold Opy at hx
  rcases List.mem_or_eq_of_mem_set (List.mem_of_getElem? hx) with h | h
  · obtain ⟨k, hk⟩ := List.mem_iff_getElem?.1 h
    exact (Opx_ok ht).2 k x hk
  · omega
theorem Opy_opens {t m : Int} (ht : 0 ≤ t ∧ t ≤ 1048576) (hm : 0 ≤ m ∧ m ≤ 1048576) : opens (Opx 2 t) 1 3 m = (true, Opy t m) := by
  unfold opens mv
  have : at_ (Opx 2 t) (slot 1 3) = 0 := by unfold Opx; rw [at_set_ne _ _ (by decide), at_A0]
  rw [if_pos ⟨there_iff.2 (by omega), by omega, by omega⟩, this, if_pos (by omega)]
  unfold Opy; rw [Int.zero_add]
theorem Opx_facts (m : Int) : sumN (Opx 1 m) 1 8 = m ∧ (∀ i, pa (Opx 1 m) 1 i = 0) ∧ oa (Opx 1 m) 1 0 = 0 ∧ oa (Opx 1 m) 1 3 = m := by
  have h : ∀ k, at_ (Opx 1 m) k = if slot 1 3 = k then m else 0 := by
    intro k
    unfold Opx
    rw [at_set _ _ (by rw [A0_ok.1]; decide), at_A0]
  refine ⟨?_, fun i => ?_, ?_, ?_⟩
  · simp only [sumN, oa, h]; simp [there, slot]
  · unfold pa; split
    · rename_i ht; rw [there_iff] at ht; rw [h, if_neg (by unfold slot pslot; omega)]
    · rfl
  · unfold oa; rw [h]; simp [there, slot]
  · unfold oa; rw [h]; simp [there, slot]
theorem Opy_facts (t m : Int) : sumN (Opy t m) 1 8 = m ∧ (∀ i, pa (Opy t m) 1 i = 0) ∧ oa (Opy t m) 1 0 = 0 := by
  have h : ∀ k, at_ (Opy t m) k = if slot 1 3 = k then m else if slot 2 3 = k then t else 0 := by
    intro k
    unfold Opy Opx
    rw [at_set _ _ (by rw [List.length_set, A0_ok.1]; decide), at_set _ _ (by rw [A0_ok.1]; decide), at_A0]
  refine ⟨?_, fun i => ?_, ?_⟩
  · simp only [sumN, oa, h]; simp [there, slot]
  · unfold pa; split
    · rename_i ht; rw [there_iff] at ht; rw [h, if_neg (by unfold slot pslot; omega), if_neg (by unfold slot pslot; omega)]
    · rfl
  · unfold oa; rw [h]; simp [there, slot]
def ok8 (p : Prop) [Decidable p] : Int := if p then 0 else 8
theorem chk_ok8 {A : List Int} {m : Lim} {o : Ord} {i : Int} (hr : rightP o) (hi : 0 ≤ i ∧ i < 8) {p : Prop} [Decidable p] (h : chk A m o i = 0 ↔ p) : chk A m o i = ok8 p := by
  unfold ok8
  split
  · rename_i hp; exact h.2 hp
  · rename_i hp
    rcases chk_01 A m o i with h0 | h0 | h0
    · exact absurd (h.1 h0) hp
    · have hr2 := hr
      unfold rightP at hr2
      have h1 : right o = 0 := by unfold right; rw [if_pos hr]
      unfold chk at h0
      rw [if_neg (by omega)] at h0
      split at h0
      · cases h0
      · split at h0 <;> cases h0
    · exact h0
theorem ok8_eq (p : Prop) [Decidable p] : decide (ok8 p = 0) = decide p := by
  unfold ok8; split
  · rename_i h; simp [h]
  · rename_i h; simp [h]
set_option maxHeartbeats 4000000 in
theorem riskOpen_sp (F : Heap) (mine theirs qty : Int) (h1 : InI mine) (h2 : InI theirs) (h3 : InI qty) :
    Sp Try.prog F 18 [.int .i64 mine, .int .i64 theirs, .int .i64 qty] [] (Ret (.bool true)) := by
  have c0 := fun F => sp_new F
  have q1 := @sp_bo
  have q2 := fun F => sp_Win F mine 0 50 (by omega) (by omega) (by omega)
  have q3 := fun F => sp_Win F theirs 0 50 (by omega) (by omega) (by omega)
  have q4 := fun F => sp_Win F qty 1 50 (by omega) (by omega) (by omega)
  have q5 := @riskRuns_sp
  have w1 := win_in mine (show (0 : Int) ≤ 50 by omega)
  have w2 := win_in theirs (show (0 : Int) ≤ 50 by omega)
  have w3 := win_in qty (show (1 : Int) ≤ 50 by omega)
  generalize win mine 0 50 = m at *
  generalize win theirs 0 50 = t at *
  generalize win qty 1 50 = q at *
  have hbr := bo_right (p := 1) (q := q) (by omega) (by omega)
  have hbi := bo_in (p := 1) (q := q) (inI rfl) (by unfold InI; omega)
  have hl : (Lim.mk 99 1073741824 60 50).In := lim_in _ _ _ _ rfl
  obtain ⟨f1, f2, f3, f4⟩ := Opx_facts m
  obtain ⟨f5, f6, f7⟩ := Opy_facts t m
  have k1 := Opx_ok (n := 1) (m := m) (by omega)
  have k2 := Opx_ok (n := 2) (m := t) (by omega)
  have k3 := Opy_ok (t := t) (m := m) (by omega) (by omega)
  have e1 : chk (Opx 1 m) ⟨99, 1073741824, 60, 50⟩ (bo 1 q) 0 = ok8 (m + q ≤ 60) := chk_ok8 hbr (by omega) (by
    rw [chk_iff hbr (by omega)]; show q ≤ 99 ∧ 1 * q ≤ 1073741824 ∧ sumN (Opx 1 m) 1 8 + q ≤ 60 ∧ (_ → pa (Opx 1 m) 1 0 + (oa (Opx 1 m) 1 0 + q) ≤ 50) ∧ ((1 : Int) = 2 → _) ↔ _
    rw [f1, f2, f3]; omega)
  have e2 : chk (Opy t m) ⟨99, 1073741824, 60, 50⟩ (bo 1 q) 0 = ok8 (m + q ≤ 60) := chk_ok8 hbr (by omega) (by
    rw [chk_iff hbr (by omega)]; show q ≤ 99 ∧ 1 * q ≤ 1073741824 ∧ sumN (Opy t m) 1 8 + q ≤ 60 ∧ (_ → pa (Opy t m) 1 0 + (oa (Opy t m) 1 0 + q) ≤ 50) ∧ ((1 : Int) = 2 → _) ↔ _
    rw [f5, f6, f7]; omega)
  have e3 : chk (Opx 1 m) ⟨99, 1073741824, 60, 50⟩ (bo 1 q) 3 = ok8 (m + q ≤ 50) := chk_ok8 hbr (by omega) (by
    rw [chk_iff hbr (by omega)]; show q ≤ 99 ∧ 1 * q ≤ 1073741824 ∧ sumN (Opx 1 m) 1 8 + q ≤ 60 ∧ (_ → pa (Opx 1 m) 1 3 + (oa (Opx 1 m) 1 3 + q) ≤ 50) ∧ ((1 : Int) = 2 → _) ↔ _
    rw [f1, f2, f4]; simp only [show (bo 1 q).side = 1 from rfl, true_implies]; omega)
  have x1 := fun b F hm => sp_check _ k1 b 76 F hm _ hl _ hbi 0
  have x2 := fun b F hm => sp_check _ k3 b 76 F hm _ hl _ hbi 0
  have x3 := fun b F hm => sp_check _ k1 b 76 F hm _ hl _ hbi 3
  rw [e1] at x1
  rw [e2] at x2
  rw [e3] at x3
  have c1 := fun b F => sp_opens F A0 A0_ok b 76 1 3 m
  have c2 := fun b F => sp_opens F A0 A0_ok b 76 2 3 t
  have c3 := fun b F => sp_opens F _ k2 b 76 1 3 m
  simp only [Opx_opens (n := 1) (m := m) (by omega) (by omega)] at c1
  simp only [Opx_opens (n := 2) (m := t) (by omega) (by omega)] at c2
  simp only [Opy_opens (t := t) (m := m) (by omega) (by omega)] at c3
  clear e1 e2 e3 f1 f2 f3 f4 f5 f6 f7 k1 k2 k3
  generalize Opx 1 m = B1 at *
  generalize Opy t m = B3 at *
  generalize Opx 2 t = B2 at *
  generalize A0 = B0 at *
  refine sp_of_code Try.func18 rfl rfl ?_
  (refine run_seq ?_; refine run_region ?_; refine xep rfl rfl ?_; refine runL_nil ?_; refine then_normal ?_; refine run_seq ?_; refine run_region ?_)
  refine runL_call0 rfl rfl rfl rfl rfl rfl rfl (pf rfl) (c0 _) ?_
  rintro v h1 ⟨b, rfl, rfl⟩
  skip
  refine runL_call0 rfl rfl rfl rfl rfl rfl rfl (pf rfl) (c0 _) ?_
  rintro v h1 ⟨b2, rfl, rfl⟩
  have hgd : true = true := rfl
  have hge : false = false := rfl
  ((iterate 2 refine xep rfl rfl ?_); refine runL_nil ?_; refine then_normal ?_; (iterate 2 refine run_seq ?_); refine run_region ?_; refine xep rfl rfl ?_; refine xel rfl (ev_eqNil rfl rfl rfl (pt rfl)) ?_; refine xep rfl rfl ?_; refine runL_yes rfl rfl hge ?_; refine xep rfl rfl ?_; refine runL_yes rfl rfl hge ?_; refine xel rfl (ev_eqNil rfl rfl rfl (pt rfl)) ?_; refine xep rfl rfl ?_; refine runL_nil ?_; refine then_normal ?_; refine RunC.whole rfl ?_)
  refine run_condF rfl rfl ?_
  (refine run_skip ?_; refine then_normal ?_; refine run_seq ?_; refine run_region ?_; refine xep rfl rfl ?_; refine xel rfl (ev_callQ rfl rfl rfl (pf rfl) (q2 ..)) ?_; refine xep rfl rfl ?_; refine xel rfl (ev_callQ rfl rfl rfl (pf rfl) (q3 ..)) ?_; refine xep rfl rfl ?_; refine xel rfl (ev_callQ rfl rfl rfl (pf rfl) (q4 ..)) ?_; (iterate 3 refine xep rfl rfl ?_); refine runL_nil ?_; refine then_normal ?_; (iterate 2 refine run_seq ?_); refine run_region ?_; (iterate 2 refine xep rfl rfl ?_))
  refine runL_call (caps := []) [blk b2 (ac B0) 76] [blk b (ac B0) 76] rfl rfl rfl rfl rfl rfl rfl (pf rfl) (fun x => by (first | rfl | (simp only [cnt_append, cnt_cons, cnt_nil, blk]; omega))) (by rw [List.append_nil]; exact c1 b _) ?_
  rintro v h1 ⟨rfl, rfl⟩
  ((iterate 2 refine xep rfl rfl ?_); refine runL_yes rfl rfl hge ?_; refine xep rfl rfl ?_; refine runL_yes rfl rfl hge ?_; refine xep rfl rfl ?_; refine runL_yes rfl rfl hge ?_)
  refine runL_call (caps := []) [blk b (ac B1) 76] [blk b2 (ac B0) 76] rfl rfl rfl rfl rfl rfl rfl (pf rfl) (fun x => by (first | rfl | (simp only [cnt_append, cnt_cons, cnt_nil, blk]; omega))) (by rw [List.append_nil]; exact c2 b2 _) ?_
  rintro v h1 ⟨rfl, rfl⟩
  (refine runL_yes rfl rfl hge ?_; (iterate 3 refine xep rfl rfl ?_); refine runL_yes rfl rfl hge ?_; refine xep rfl rfl ?_; refine runL_yes rfl rfl hge ?_; refine xep rfl rfl ?_; refine runL_yes rfl rfl hge ?_)
  refine runL_call (caps := []) [blk b (ac B1) 76] [blk b2 (ac B2) 76] rfl rfl rfl rfl rfl rfl rfl (pf rfl) (fun x => by (first | rfl | (simp only [cnt_append, cnt_cons, cnt_nil, blk]; omega))) (by rw [List.append_nil]; exact c3 b2 _) ?_
  rintro v h1 ⟨rfl, rfl⟩
  (refine runL_yes rfl rfl hge ?_; (iterate 2 refine xep rfl rfl ?_); refine runL_nil ?_; refine then_normal ?_; refine RunC.whole rfl ?_)
  refine run_condF rfl rfl ?_
  have m1 := x1 b
  have m2 := x2 b2
  have m3 := x3 b
  clear hgd hge
  (refine run_skip ?_; refine then_normal ?_; refine run_seq ?_; refine run_region ?_; refine xel rfl (ev_build rfl pl49 rfl) ?_; refine runL_alloc rfl rfl rfl rfl rfl ze49 (fun _ => ?_); refine runL_store0 rfl rfl rfl rfl rfl (sz rfl) rfl rfl rfl rfl rfl ?_; refine runL_nil ?_; refine then_normal ?_; refine run_seq ?_; refine run_region_draw mo (by kernel_rfl) ?_; refine xqp rfl rfl ?_; refine xql rfl (ev_loadAK rfl rfl (ag rfl) (sz rfl) (memF (.head _)) rfl) ?_; refine xqp rfl rfl ?_; refine xql rfl (ev_callQ rfl rfl rfl (pf rfl) (q1 ..)) ?_; refine xql rfl (ev_callQ rfl rfl rfl (pf rfl) (m1 _ (memF (.tail _ (.tail _ (.head _)))) ..)) ?_; (iterate 3 refine xqp rfl rfl ?_); refine xql rfl (ev_add rfl rfl rfl (by omega)) ?_; refine xqp rfl rfl ?_; refine xql rfl (ev_eqB rfl rfl rfl (bt rfl)) ?_; refine xqp rfl rfl ?_; refine xhp rfl rfl rfl ?_; refine xhl rfl rfl (fun hq => ev_loadAK rfl rfl (ag rfl) (sz rfl) (memF (.head _)) rfl) ?_; refine xhp rfl rfl rfl ?_; refine xhl rfl rfl (fun hq => ev_callQ rfl rfl rfl (pf rfl) (q1 ..)) ?_; refine xhl rfl rfl (fun hq => ev_callQ rfl rfl rfl (pf rfl) (m1 _ (memF (.tail _ (.tail _ (.head _)))) ..)) ?_; refine xhp rfl rfl rfl ?_; refine xhl rfl rfl (fun hq => ev_loadAK rfl rfl (ag rfl) (sz rfl) (memF (.head _)) rfl) ?_; refine xhp rfl rfl rfl ?_; refine xhl rfl rfl (fun hq => ev_callQ rfl rfl rfl (pf rfl) (q1 ..)) ?_; refine xhl rfl rfl (fun hq => ev_callQ rfl rfl rfl (pf rfl) (m2 _ (memF (.tail _ (.head _))) ..)) ?_; refine xhp rfl rfl rfl ?_; (iterate 2 refine xqp rfl rfl ?_); refine xhp rfl rfl rfl ?_; refine xhl rfl rfl (fun hq => ev_loadAK rfl rfl (ag rfl) (sz rfl) (memF (.head _)) rfl) ?_; refine xhp rfl rfl rfl ?_; refine xhl rfl rfl (fun hq => ev_callQ rfl rfl rfl (pf rfl) (q1 ..)) ?_; refine xhl rfl rfl (fun hq => ev_callQ rfl rfl rfl (pf rfl) (m3 _ (memF (.tail _ (.tail _ (.head _)))) ..)) ?_; (iterate 3 refine xhp rfl rfl rfl ?_); refine xhl rfl rfl (fun hq => ev_add rfl rfl rfl (by (try simp only [z0, z1, z2, z3, z4, z5, z6, z7, z8, z9, Bool.not_true, Bool.not_false, Bool.false_or, Bool.true_and, true_and, and_true, false_or, or_false, reduceCtorEq, Bool.false_eq_true] at hq); omega)) ?_; refine xhp rfl rfl rfl ?_; refine xhl rfl rfl (fun hq => ev_eqB rfl rfl rfl (bt rfl)) ?_; (iterate 2 refine xqp rfl rfl ?_); refine xhl rfl rfl (fun hq => ev_callQ rfl rfl rfl (pf rfl) (q5 ..)) ?_; (iterate 2 refine xqp rfl rfl ?_); refine runQ_nil ?_; refine then_normal ?_; refine run_ret ?_)
  refine ⟨_, rfl, congrArg Value.bool ?_⟩
  rw [ok8_eq, ok8_eq]; simp
end Go.Proofs.Ytnpcmcijlgklfaa
