/- Contracts of functions of the given program over its translation, each proved by walking its text; used by the laws' rows. It proves no given statement by itself. -/
import Derived.Test.YtiilndlgfgikbaaSLPlC
set_option autoImplicit false
set_option linter.unusedSectionVars false
set_option linter.unusedSimpArgs false
set_option linter.unusedVariables false
set_option maxRecDepth 4000
set_option maxHeartbeats 100000000
namespace Go.Proofs.Ytiilndlgfgikbaa
open Go Go.SL Go.Proofs
variable [Base]
theorem bookCounts_sp (F : Heap) (a : Option Addr) (len cap : Nat) (rs : List (List Int)) (r : List Int) (hR : RowsF F a len 7 rs) (hC : len ≤ cap) (hM : cap ≤ 9223372036854775807) (hr7 : r.length = 7) (hz : ∀ z ∈ r, InI z) :
    Sp Try.prog F 7 [.slice a len cap, .agg ⟨ints r⟩] [] (Ret (.bool true)) := by
  have q3 := bookRuns_sp
  have q1 := fun F => sp_kOrder F r hr7
  refine sp_of_code Try.func7 rfl rfl ?_
  (refine run_seq ?_; refine run_region ?_; refine runL_box rfl rfl rfl rfl rfl rfl (fun _ => ?_); refine xep rfl rfl ?_; refine runL_nil ?_; refine then_normal ?_; refine run_seq ?_; refine run_region ?_; refine xep rfl rfl ?_)
  refine runL_call0 rfl rfl rfl rfl rfl rfl rfl (pf rfl) (sp_bfilled _ a len cap rs (RowsF.mono hR fun x m => by simp [m]) (by omega) 40 (by omega)) ?_
  rintro v H ⟨b, rfl, hH⟩
  obtain ⟨hw, hn0, hn1⟩ := bfill_ok rs 40
  have hg := bfill_Gd rs 40
  generalize bfill rs 40 = B at *
  have hkr := (kO_right r).1
  have hst := (kO_right r).2.1
  (refine xep rfl rfl ?_; refine runL_nil ?_; refine then_normal ?_; (iterate 2 refine run_seq ?_); refine run_region ?_; refine xep rfl rfl ?_; refine xel rfl (ev_eqNil rfl rfl rfl (pt rfl)) ?_; refine runL_nil ?_; refine then_normal ?_)
  refine run_condF rfl rfl ?_
  (refine run_skip ?_; refine then_normal ?_; refine run_seq ?_; refine run_region ?_)
  rename_i x
  refine RunL.perm (h' := blk x (cellsV (.agg ⟨ints r⟩)) 43 :: H) (fun y => by (first | rfl | (simp only [List.append_eq, cnt_append, cnt_cons, cnt_nil, blk]; omega) | (simp only [List.append_eq, cnt_append, cnt_cons, cnt_nil, blk]; done))) ?_
  refine runL_ev rfl rfl rfl rfl (ev_loadA (n := 7) (off := 0) (c := ints r) (l := ints r) rfl rfl (ag rfl) (sz rfl) (memF (.head _)) (by rw [ints_len, hr7]; omega) (by rw [List.drop_zero, List.take_of_length_le (by rw [ints_len, hr7]; omega)])) ?_
  clear hz
  generalize kO r = o at *
  have hk : InI o.kind := by unfold rightP at hkr; unfold InI; omega
  have hside : o.side = 1 ∨ o.side = 2 := by unfold rightP at hkr; omega
  have hqty : 1 ≤ o.qty ∧ o.qty ≤ 1048576 := by unfold rightP at hkr; omega
  have C := count_is hw hg hkr
  have hw2 := (badd_BW (o := o) hw hn0).1
  have hl1 : (ordersL (B.side o.side)).length ≤ 64 := by have := (hw.side o.side).2; rw [ordersL_len]; exact this
  have hl2 : (ordersL (B.side (3 - o.side))).length ≤ 64 := by have := (hw.side (3 - o.side)).2; rw [ordersL_len]; exact this
  have hq1 : ∀ x ∈ ordersL (B.side o.side), 1 ≤ x.qty ∧ x.qty ≤ 1048576 := fun x m => orders_qty (hw.side o.side).1 m
  have hq2 : ∀ x ∈ ordersL (B.side (3 - o.side)), 1 ≤ x.qty ∧ x.qty ≤ 1048576 := fun x m => orders_qty (hw.side (3 - o.side)).1 m
  (refine xel rfl (ev_callQ rfl rfl rfl (pf rfl) (q1 ..)) ?_; refine runL_alloc rfl rfl rfl rfl rfl ze25 (fun _ => ?_); refine runL_store0 rfl rfl rfl rfl rfl (sz rfl) rfl rfl rfl rfl rfl ?_; refine runL_nil ?_; refine then_normal ?_; refine run_seq ?_; refine run_region ?_; refine xel rfl (ev_fieldAddr rfl rfl (fo rfl)) ?_; refine xel rfl (ev_loadK rfl rfl (sc rfl) (memF (.head _)) rfl) ?_; refine xel rfl (ev_sub rfl rfl rfl (by omega)) ?_; refine xep rfl rfl ?_; refine runL_nil ?_; refine then_normal ?_; refine run_seq ?_; refine run_region ?_; refine xep rfl rfl ?_; refine xel rfl (ev_fieldAddr rfl rfl (fo rfl)) ?_; refine xel rfl (ev_loadK rfl rfl (sc rfl) (memF (.head _)) rfl) ?_)
  rename_i xo
  refine RunL.perm (h' := blk xo o.cells 25 :: blk x (cellsV (.agg ⟨ints r⟩)) 43 :: H) (fun y => rfl) ?_
  refine runL_callZ (blk xo o.cells 25 :: blk x (cellsV (.agg ⟨ints r⟩)) 43 :: H) [] rfl rfl rfl rfl rfl rfl rfl (pf rfl) (fun y => by (first | rfl | (simp only [List.append_eq, cnt_append, cnt_cons, cnt_nil, blk]; omega) | (simp only [List.append_eq, cnt_append, cnt_cons, cnt_nil, blk]; done))) (sp_borders _ b B (hH.in fun y m => by simp [m]) hw o.side) ?_
  rintro v A1 own1
  obtain ⟨a1, c1, rfl, own1⟩ := own1.at
  refine runL_ev rfl rfl rfl rfl (ev_callQ rfl rfl rfl (pf rfl) (sp_owhole _ a1 _ c1 _ rfl (by omega) hq1 (own1.src fun y m => by simp [m]))) ?_
  ((iterate 2 refine xep rfl rfl ?_))
  refine runL_callZ (blk xo o.cells 25 :: blk x (cellsV (.agg ⟨ints r⟩)) 43 :: (H ++ A1)) [] rfl rfl rfl rfl rfl rfl rfl (pf rfl) (fun y => by (first | rfl | (simp only [List.append_eq, cnt_append, cnt_cons, cnt_nil, blk]; omega) | (simp only [List.append_eq, cnt_append, cnt_cons, cnt_nil, blk]; done))) (sp_borders _ b B (hH.in fun y m => by simp [m]) hw (3 - o.side)) ?_
  rintro v A2 own2
  obtain ⟨a2, c2, rfl, own2⟩ := own2.at
  refine runL_ev rfl rfl rfl rfl (ev_callQ rfl rfl rfl (pf rfl) (sp_owhole _ a2 _ c2 _ rfl (by omega) hq2 (own2.src fun y m => by simp [m]))) ?_
  (refine xep rfl rfl ?_)
  refine runL_ev rfl rfl rfl rfl (ev_callQ rfl rfl rfl (pf rfl) (sp_bno _ b B (hH.in fun y m => by simp [m]))) ?_
  ((iterate 3 refine xep rfl rfl ?_); refine runL_nil ?_; refine then_normal ?_; refine run_seq ?_; refine run_region ?_; refine xep rfl rfl ?_; refine xel rfl (ev_loadAK rfl rfl (ag rfl) (sz rfl) (memF (.head _)) rfl) ?_)
  refine runL_callZ (blk xo o.cells 25 :: blk x (cellsV (.agg ⟨ints r⟩)) 43 :: (A1 ++ A2)) H rfl rfl rfl rfl rfl rfl rfl (pf rfl) (fun y => by (first | rfl | (simp only [List.append_eq, cnt_append, cnt_cons, cnt_nil, blk]; omega) | (simp only [List.append_eq, cnt_append, cnt_cons, cnt_nil, blk]; done))) (sp_badd _ H b _ hH hw o hk hn0 (by omega)) ?_
  rintro v _ ⟨a3, c3, A3, H2, rfl, own3, hH2, rfl⟩
  have hBno : 0 ≤ B.no ∧ B.no ≤ 41943040 := by omega
  obtain ⟨k1, k2, k3, k4, k5, k6, k7, k8⟩ := C
  generalize badd o B = X at *
  obtain ⟨⟨xq, xf, xl, xr, xw, xs, xe⟩, X2⟩ := X
  unfold outV
  dsimp only at *
  (refine runL_alloc rfl rfl rfl rfl rfl ze29 (fun _ => ?_); refine runL_store0 rfl rfl rfl rfl rfl (sz rfl) rfl rfl rfl rfl rfl ?_; refine runL_nil ?_; refine then_normal ?_; refine run_seq ?_; refine run_region ?_; refine xep rfl rfl ?_; refine runL_nil ?_; refine then_normal ?_; (iterate 2 refine run_seq ?_); refine run_region ?_; refine xel rfl (ev_fieldAddr rfl rfl (fo rfl)) ?_; refine xel rfl (ev_loadK rfl rfl (sc rfl) (memF (.head _)) rfl) ?_; refine xel rfl (ev_len rfl rfl (se rfl)) ?_; refine xep rfl rfl ?_; refine runL_nil ?_; refine then_normal ?_; refine run_block ?_)
  rename_i xt
  have hIn : BkIn ((A1 ++ A2 ++ (H2 ++ A3)) ++ F) b X2 := hH2.in fun y m => by simp [m]
  have src := own3.src (H := (A1 ++ A2 ++ (H2 ++ A3)) ++ F) fun y m => by simp [m]
  clear hH2 own3 own1 own2 hH
  refine RunC.perm (h' := [blk xt [Value.int .i64 xq.trader, .int .i64 xq.id, .int .i64 xq.firm, .int .i64 xq.side, .int .i64 xq.kind, .int .i64 xq.price, .int .i64 xq.qty, .int .i64 xq.show_, .int .i64 xq.stop, .slice a3 xf.length c3, .int .i64 xl, .bool xr, .bool xw, .bool xs, .int .i64 xe] 29, blk xo o.cells 25] ++ (A1 ++ A2 ++ (H2 ++ A3) ++ [blk x (cellsV (.agg ⟨ints r⟩)) 43])) (fun y => by (first | rfl | (simp only [List.append_eq, cnt_append, cnt_cons, cnt_nil, blk]; omega) | (simp only [List.append_eq, cnt_append, cnt_cons, cnt_nil, blk]; done))) ?_
  generalize hM4 : A1 ++ A2 ++ (H2 ++ A3) ++ [blk x (cellsV (.agg ⟨ints r⟩)) 43] = M4 at *
  have hIn : BkIn (M4 ++ F) b X2 := hIn.mono fun y m => by rw [← hM4]; simp only [List.mem_append] at m ⊢; rcases m with m | m <;> simp [m]
  have src : SrcIs (M4 ++ F) a3 xf.length 21 (rows fcell xf) := src.mono fun y m => by rw [← hM4]; simp only [List.mem_append] at m ⊢; rcases m with m | m <;> simp [m]
  clear hM4
  refine RunC.freezeR ?_
  refine run_loopK (σ := Nat) [5, 6, 7, 8, 9, 10, 11, 12, 40, 41, 42] (fun i => [(5, .pointer (some ⟨b, 0, none⟩)), (6, .pointer (some ⟨xo, 0, none⟩)), (7, .int .i64 (3 - o.side)), (8, .int .i64 (sumO (ordersL (B.side o.side)))), (9, .int .i64 (sumO (ordersL (B.side (3 - o.side))))), (10, .int .i64 B.no), (11, .pointer (some ⟨xt, 0, none⟩)), (12, .int .i64 (sumF (xf.take i))), (40, .slice a3 xf.length c3), (41, .int .i64 xf.length), (42, .int .i64 i)])
    (fun _ => [blk xt [Value.int .i64 xq.trader, .int .i64 xq.id, .int .i64 xq.firm, .int .i64 xq.side, .int .i64 xq.kind, .int .i64 xq.price, .int .i64 xq.qty, .int .i64 xq.show_, .int .i64 xq.stop, .slice a3 xf.length c3, .int .i64 xl, .bool xr, .bool xw, .bool xs, .int .i64 xe] 29, blk xo o.cells 25])
    (fun i => i ≤ xf.length) (fun i => xf.length - i) 0 (Nat.zero_le _) rfl (fun _ => rfl) ?_
  intro i gi
  have hp := flsOk_le k1 i
  have ct1 : 0 ≤ sumO (ordersL (B.side o.side)) ∧ sumO (ordersL (B.side o.side)) ≤ 67108864 := by have := sumO_part hq1 (ordersL (B.side o.side)).length; rw [List.take_length] at this; omega
  have ct2 : 0 ≤ sumO (ordersL (B.side (3 - o.side))) ∧ sumO (ordersL (B.side (3 - o.side))) ≤ 67108864 := by have := sumO_part hq2 (ordersL (B.side (3 - o.side))).length; rw [List.take_length] at this; omega
  (refine run_seq ?_; refine run_region ?_; refine xep rfl rfl ?_; refine runL_nil ?_; refine then_normal ?_; refine run_seq ?_)
  (refine run_cond rfl (fun hc => ?_) (fun hc => ?_) <;> (try simp only [z0, z1, z2, z3, z4, z5, z6, z7, z8, z9, Bool.not_true, Bool.not_false, Bool.false_or, Bool.true_and, true_and, and_true, false_or, or_false, reduceCtorEq, Bool.false_eq_true] at hc))
  · obtain ⟨b2, off, _, _, _, rfl, _⟩ := src.pos (by omega)
    obtain ⟨f, hf⟩ : ∃ f, xf[i]? = some f := ⟨xf[i]'(by omega), List.getElem?_eq_getElem _⟩
    have l1 := SrcIs.row fcell_len src rfl hf
    obtain ⟨f1, f2, f3, f4, f5, f6⟩ := flsOk_at k1 hf
    have hst := sumF_take hf
    have hp2 := flsOk_le k1 (i + 1)
    (refine run_skip ?_; refine then_normal ?_; refine run_seq ?_; refine run_block ?_; refine run_seq ?_; refine run_region ?_; refine xep rfl rfl ?_; refine xel rfl (ev_indexAddr rfl rfl rfl (se rfl) (by omega) (by omega)) ?_; refine xel rfl (ev_loadAF rfl rfl (ag rfl) (sz rfl) l1 rfl) ?_; refine runL_alloc rfl rfl rfl rfl rfl ze36 (fun _ => ?_); refine xep rfl rfl ?_; refine runL_store0 rfl rfl rfl rfl rfl (sz rfl) rfl rfl rfl rfl rfl ?_; refine runL_nil ?_; refine then_normal ?_; (iterate 2 refine run_seq ?_); refine run_region ?_; refine xel rfl (ev_fieldAddr rfl rfl (fo rfl)) ?_; refine xel rfl (ev_loadK rfl rfl (sc rfl) (memF (.head _)) rfl) ?_; (iterate 2 refine xep rfl rfl ?_); (iterate 2 refine xgl rfl rfl (fun hq => ev_fieldAddr rfl rfl (fo rfl)) ?_); refine xgl rfl rfl (fun hq => ev_loadK rfl rfl (sc rfl) (memF (.head _)) rfl) ?_; refine xgl rfl rfl (fun hq => ev_fieldAddr rfl rfl (fo rfl)) ?_; refine xgl rfl rfl (fun hq => ev_loadK rfl rfl (sc rfl) (memF (.tail _ (.tail _ (.head _)))) rfl) ?_; refine xgp rfl rfl rfl ?_; (iterate 2 refine xep rfl rfl ?_); (iterate 2 refine xgl rfl rfl (fun hq => ev_fieldAddr rfl rfl (fo rfl)) ?_); refine xgl rfl rfl (fun hq => ev_loadK rfl rfl (sc rfl) (memF (.head _)) rfl) ?_; (iterate 2 refine xgp rfl rfl rfl ?_); (iterate 2 refine xep rfl rfl ?_); refine xgl rfl rfl (fun hq => ev_fieldAddr rfl rfl (fo rfl)) ?_; refine xgl rfl rfl (fun hq => ev_loadK rfl rfl (sc rfl) (memF (.head _)) rfl) ?_; (iterate 2 refine xgp rfl rfl rfl ?_); (iterate 2 refine xgl rfl rfl (fun hq => ev_add rfl rfl rfl (by (try simp only [z0, z1, z2, z3, z4, z5, z6, z7, z8, z9, Bool.not_true, Bool.not_false, Bool.false_or, Bool.true_and, true_and, and_true, false_or, or_false, reduceCtorEq, Bool.false_eq_true] at hq); omega)) ?_); refine xgp rfl rfl rfl ?_; (iterate 2 refine xep rfl rfl ?_); refine xgl rfl rfl (fun hq => ev_fieldAddr rfl rfl (fo rfl)) ?_; refine xgl rfl rfl (fun hq => ev_loadK rfl rfl (sc rfl) (memF (.head _)) rfl) ?_; (iterate 2 refine xgl rfl rfl (fun hq => ev_fieldAddr rfl rfl (fo rfl)) ?_); refine xgl rfl rfl (fun hq => ev_loadK rfl rfl (sc rfl) (memF (.head _)) rfl) ?_; refine xgp rfl rfl rfl ?_; (iterate 2 refine xep rfl rfl ?_); (iterate 2 refine xgl rfl rfl (fun hq => ev_fieldAddr rfl rfl (fo rfl)) ?_); refine xgl rfl rfl (fun hq => ev_loadK rfl rfl (sc rfl) (memF (.head _)) rfl) ?_; refine xgl rfl rfl (fun hq => ev_fieldAddr rfl rfl (fo rfl)) ?_; refine xgl rfl rfl (fun hq => ev_loadK rfl rfl (sc rfl) (memF (.tail _ (.tail _ (.head _)))) rfl) ?_; refine xgp rfl rfl rfl ?_; refine xgl rfl rfl (fun hq => ev_sub rfl rfl rfl (by (try simp only [z0, z1, z2, z3, z4, z5, z6, z7, z8, z9, Bool.not_true, Bool.not_false, Bool.false_or, Bool.true_and, true_and, and_true, false_or, or_false, reduceCtorEq, Bool.false_eq_true] at hq); omega)) ?_; refine xgp rfl rfl rfl ?_; refine xep rfl rfl ?_; refine runL_nil ?_; refine then_normal ?_)
    refine run_condF rfl ?_ ?_
    · have e1 : ¬ f.qty < 1 := by omega
      simp only [decide_eq_false e1, decide_eq_false f2, decide_eq_true f3, decide_eq_true f4, decide_eq_true f5, decide_eq_true f6]; rfl
    (refine run_skip ?_; refine then_normal ?_; refine run_region ?_; refine xep rfl rfl ?_; refine xel rfl (ev_fieldAddr rfl rfl (fo rfl)) ?_; refine xel rfl (ev_loadK rfl rfl (sc rfl) (memF (.head _)) rfl) ?_; refine xel rfl (ev_add rfl rfl rfl (by omega)) ?_; refine xep rfl rfl ?_; refine runL_nil ?_; refine in_normal ?_; refine then_normal ?_; refine run_region ?_; refine xel rfl (ev_add rfl rfl rfl (by omega)) ?_; refine xep rfl rfl ?_; refine runL_nil ?_; refine then_normal ?_)
    rename_i xg
    refine ⟨i + 1, by omega, by omega, ?_, [blk xg (fcell f) 36], fun y => by show cnt y (blk xg (fcell f) 36 :: _) = _; (first | rfl | (simp only [List.append_eq, cnt_append, cnt_cons, cnt_nil, blk]; omega) | (simp only [List.append_eq, cnt_append, cnt_cons, cnt_nil, blk]; done))⟩
    rw [hst]; rfl
  · have : i = xf.length := by omega
    subst this
    rw [List.take_length]
    (refine run_exit ?_; (iterate 2 refine then_exit ?_); refine in_exit ?_; refine then_normal ?_)
    clear hp
    have hl5 : (ordersL (X2.side (3 - o.side))).length ≤ 64 := by have := (hw2.side (3 - o.side)).2; rw [ordersL_len]; exact this
    have hl6 : (ordersL (X2.side o.side)).length ≤ 64 := by have := (hw2.side o.side).2; rw [ordersL_len]; exact this
    have hq5 : ∀ x ∈ ordersL (X2.side (3 - o.side)), 1 ≤ x.qty ∧ x.qty ≤ 1048576 := fun x m => orders_qty (hw2.side (3 - o.side)).1 m
    have hq6 : ∀ x ∈ ordersL (X2.side o.side), 1 ≤ x.qty ∧ x.qty ≤ 1048576 := fun x m => orders_qty (hw2.side o.side).1 m
    ((iterate 2 refine run_seq ?_); refine run_region ?_; refine xel rfl (ev_fieldAddr rfl rfl (fo rfl)) ?_; refine xel rfl (ev_loadK rfl rfl (sc rfl) (memF (.head _)) rfl) ?_; refine xep rfl rfl ?_; refine runL_nil ?_; refine then_normal ?_; refine RunC.whole rfl ?_)
    by_cases he : xe = 0
    · subst he
      refine run_condF rfl rfl ?_
      (refine run_skip ?_; refine then_normal ?_)
      (refine run_seq ?_; refine run_region ?_; refine xep rfl rfl ?_; refine runL_nil ?_; refine then_normal ?_; (iterate 2 refine run_seq ?_); refine run_region ?_; refine xel rfl (ev_fieldAddr rfl rfl (fo rfl)) ?_; refine xel rfl (ev_loadK rfl rfl (sc rfl) (memF (.head _)) rfl) ?_; refine runL_nil ?_; refine then_normal ?_)
      refine run_midO (σ := Unit) [5, 6, 7, 8, 9, 10, 11, 12] (fun _ => [(15, .int .i64 (if xr = true then xl else 0))]) (fun _ => [blk xt [Value.int .i64 xq.trader, .int .i64 xq.id, .int .i64 xq.firm, .int .i64 xq.side, .int .i64 xq.kind, .int .i64 xq.price, .int .i64 xq.qty, .int .i64 xq.show_, .int .i64 xq.stop, .slice a3 xf.length c3, .int .i64 xl, .bool xr, .bool xw, .bool xs, .int .i64 0] 29, blk xo o.cells 25] ++ M4) (fun _ => True) rfl ?_ ?_
      · cases xr with
        | true =>
          refine run_condT rfl rfl ?_
          (refine run_region ?_; refine xel rfl (ev_fieldAddr rfl rfl (fo rfl)) ?_; refine xel rfl (ev_loadK rfl rfl (sc rfl) (memF (.head _)) rfl) ?_; refine xep rfl rfl ?_; refine runL_nil ?_)
          exact midN () [] trivial rfl (fun x => by (first | rfl | (simp only [List.append_eq, cnt_append, cnt_cons, cnt_nil, blk]; omega) | (simp only [List.append_eq, cnt_append, cnt_cons, cnt_nil, blk]; done)))
        | false =>
          refine run_condF rfl rfl ?_
          (refine run_skip ?_)
          exact midN () [] trivial rfl (fun x => by (first | rfl | (simp only [List.append_eq, cnt_append, cnt_cons, cnt_nil, blk]; omega) | (simp only [List.append_eq, cnt_append, cnt_cons, cnt_nil, blk]; done)))
      · intro fr' h' hm
        (refine then_normal ?_)
        refine midN_out hm ?_
        rintro ⟨⟩ -
        refine RunC.perm (h' := [] ++ ([blk xt [Value.int .i64 xq.trader, .int .i64 xq.id, .int .i64 xq.firm, .int .i64 xq.side, .int .i64 xq.kind, .int .i64 xq.price, .int .i64 xq.qty, .int .i64 xq.show_, .int .i64 xq.stop, .slice a3 xf.length c3, .int .i64 xl, .bool xr, .bool xw, .bool xs, .int .i64 0] 29, blk xo o.cells 25] ++ M4)) (fun y => by (first | rfl | (simp only [List.append_eq, cnt_append, cnt_cons, cnt_nil, blk]; omega) | (simp only [List.append_eq, cnt_append, cnt_cons, cnt_nil, blk]; done))) ?_
        have lt : AggF (([blk xt [Value.int .i64 xq.trader, .int .i64 xq.id, .int .i64 xq.firm, .int .i64 xq.side, .int .i64 xq.kind, .int .i64 xq.price, .int .i64 xq.qty, .int .i64 xq.show_, .int .i64 xq.stop, .slice a3 xf.length c3, .int .i64 xl, .bool xr, .bool xw, .bool xs, .int .i64 0] 29, blk xo o.cells 25] ++ M4) ++ F) xt 0 [Value.int .i64 xq.trader, .int .i64 xq.id, .int .i64 xq.firm, .int .i64 xq.side, .int .i64 xq.kind, .int .i64 xq.price, .int .i64 xq.qty, .int .i64 xq.show_, .int .i64 xq.stop, .slice a3 xf.length c3, .int .i64 xl, .bool xr, .bool xw, .bool xs, .int .i64 0] := ⟨_, _, _, memF (.head _), Nat.le_refl _, rfl⟩
        have lo : AggF (([blk xt [Value.int .i64 xq.trader, .int .i64 xq.id, .int .i64 xq.firm, .int .i64 xq.side, .int .i64 xq.kind, .int .i64 xq.price, .int .i64 xq.qty, .int .i64 xq.show_, .int .i64 xq.stop, .slice a3 xf.length c3, .int .i64 xl, .bool xr, .bool xw, .bool xs, .int .i64 0] 29, blk xo o.cells 25] ++ M4) ++ F) xo 0 o.cells := ⟨_, _, _, memF (.tail _ (.head _)), Nat.le_refl _, rfl⟩
        have hIn : BkIn (([blk xt [Value.int .i64 xq.trader, .int .i64 xq.id, .int .i64 xq.firm, .int .i64 xq.side, .int .i64 xq.kind, .int .i64 xq.price, .int .i64 xq.qty, .int .i64 xq.show_, .int .i64 xq.stop, .slice a3 xf.length c3, .int .i64 xl, .bool xr, .bool xw, .bool xs, .int .i64 0] 29, blk xo o.cells 25] ++ M4) ++ F) b X2 := hIn.mono fun y m => by simp only [List.mem_append] at m ⊢; rcases m with m | m <;> simp [m]
        generalize [blk xt [Value.int .i64 xq.trader, .int .i64 xq.id, .int .i64 xq.firm, .int .i64 xq.side, .int .i64 xq.kind, .int .i64 xq.price, .int .i64 xq.qty, .int .i64 xq.show_, .int .i64 xq.stop, .slice a3 xf.length c3, .int .i64 xl, .bool xr, .bool xw, .bool xs, .int .i64 0] 29, blk xo o.cells 25] ++ M4 = M5 at *
        refine RunC.freezeR ?_
        have l1 := lt.at 9 _ rfl
        have l2 := lt.at 10 _ rfl
        have l3 := lt.at 11 _ rfl
        have l4 := lo.at 3 _ rfl
        have l5 := lo.at 6 _ rfl
        have q2 := fun G => sp_bno (G ++ (M5 ++ F)) b X2 hIn.up
        refine run_seq ?_
        have y1 : decide (sumF xf + xl = o.qty) = true := decide_eq_true (by omega)
        have y2 : (decide (sumF xf + xl = o.qty) && decide (sumO (ordersL (X2.side (3 - o.side))) = sumO (ordersL (B.side (3 - o.side))) - sumF xf)) = true := by rw [y1, decide_eq_true k7]; rfl
        have y3 : (decide (sumF xf + xl = o.qty) && decide (sumO (ordersL (X2.side (3 - o.side))) = sumO (ordersL (B.side (3 - o.side))) - sumF xf) && decide (sumO (ordersL (X2.side o.side)) = sumO (ordersL (B.side o.side)) + (if xr = true then xl else 0))) = true := by rw [y2, decide_eq_true k6]; rfl
        have y4 : (decide (sumF xf + xl = o.qty) && decide (sumO (ordersL (X2.side (3 - o.side))) = sumO (ordersL (B.side (3 - o.side))) - sumF xf) && decide (sumO (ordersL (X2.side o.side)) = sumO (ordersL (B.side o.side)) + (if xr = true then xl else 0)) && decide (X2.no = B.no + (xf.length : Nat))) = true := by rw [y3, decide_eq_true k8]; rfl
        have hxr : 0 ≤ (if xr = true then xl else 0) ∧ (if xr = true then xl else 0) ≤ 1048576 := by split <;> omega
        generalize (if xr = true then xl else 0) = xrl at *
        refine run_region_D mo ?_
        (refine runD_q 0 rfl rfl (by kernel_rfl) ?_; refine ⟨_, fun _ => ev_pure rfl, ?_⟩; refine runD_q 1 rfl rfl (by kernel_rfl) ?_; refine ⟨_, fun _ => ev_fieldAddr rfl rfl (fo rfl), ?_⟩; refine runD_q 2 rfl rfl (by kernel_rfl) ?_; refine ⟨_, fun _ => ev_loadF rfl rfl (sc rfl) l2, ?_⟩; refine runD_q 3 rfl rfl (by kernel_rfl) ?_; refine ⟨_, fun _ => ev_add rfl rfl rfl (by omega), ?_⟩; refine runD_q 4 rfl rfl (by kernel_rfl) ?_; refine ⟨_, fun _ => ev_fieldAddr rfl rfl (fo rfl), ?_⟩; refine runD_q 5 rfl rfl (by kernel_rfl) ?_; refine ⟨_, fun _ => ev_loadF rfl rfl (sc rfl) l5, ?_⟩; refine runD_q 6 rfl rfl (by kernel_rfl) ?_; refine ⟨_, fun _ => ev_pure rfl, ?_⟩; refine runD_q 7 rfl rfl (by kernel_rfl) ?_; refine ⟨_, fun _ => ev_pure rfl, ?_⟩; refine runD_gq 8 rfl rfl rfl rfl rfl rfl y1 (by kernel_rfl) ?_; refine ⟨_, fun _ => ev_pure rfl, ?_⟩; refine runD_gq 9 rfl rfl rfl rfl rfl rfl y1 (by kernel_rfl) ?_; refine ⟨_, fun _ => ev_pure rfl, ?_⟩; refine runD_gq 12 rfl rfl rfl rfl rfl rfl y1 (by kernel_rfl) ?_; refine ⟨_, fun _ => ev_pure rfl, ?_⟩; refine runD_gq 13 rfl rfl rfl rfl rfl rfl y1 (by kernel_rfl) ?_; refine ⟨_, fun _ => ev_pure rfl, ?_⟩; refine runD_gq 14 rfl rfl rfl rfl rfl rfl y1 (by kernel_rfl) ?_; refine ⟨_, fun _ => ev_sub rfl rfl rfl (by omega), ?_⟩; refine runD_g1 10 (by kernel_rfl) rfl rfl rfl rfl y1 rfl rfl ?_)
        refine runL_callZ [] [] rfl rfl rfl rfl rfl rfl rfl (pf rfl) (fun y => rfl) (sp_borders _ b X2 hIn.up hw2 (3 - o.side)) ?_
        rintro v A5 own5
        obtain ⟨a5, c5, rfl, own5⟩ := own5.at
        (refine runL_nil ?_; refine endS_d rfl ?_; refine runD_g1 11 (by kernel_rfl) rfl rfl rfl rfl y1 rfl rfl ?_)
        refine runL_ev rfl rfl rfl rfl (ev_callQ rfl rfl rfl (pf rfl) (sp_owhole _ a5 _ c5 _ rfl (by omega) hq5 (own5.src fun y m => by simp [m]))) ?_
        (refine runL_nil ?_; refine endS_d rfl ?_; refine runD_gq 15 rfl rfl rfl rfl rfl rfl y1 (by kernel_rfl) ?_; refine ⟨_, fun _ => ev_pure rfl, ?_⟩; refine runD_q 16 rfl rfl (by kernel_rfl) ?_; refine ⟨_, fun _ => ev_pure rfl, ?_⟩; refine runD_q 17 rfl rfl (by kernel_rfl) ?_; refine ⟨_, fun _ => ev_pure rfl, ?_⟩; refine runD_gq 18 rfl rfl rfl rfl rfl rfl y2 (by kernel_rfl) ?_; refine ⟨_, fun _ => ev_pure rfl, ?_⟩; refine runD_gq 19 rfl rfl rfl rfl rfl rfl y2 (by kernel_rfl) ?_; refine ⟨_, fun _ => ev_fieldAddr rfl rfl (fo rfl), ?_⟩; refine runD_gq 20 rfl rfl rfl rfl rfl rfl y2 (by kernel_rfl) ?_; refine ⟨_, fun _ => ev_loadF rfl rfl (sc rfl) l4, ?_⟩; refine runD_gq 23 rfl rfl rfl rfl rfl rfl y2 (by kernel_rfl) ?_; refine ⟨_, fun _ => ev_pure rfl, ?_⟩; refine runD_gq 24 rfl rfl rfl rfl rfl rfl y2 (by kernel_rfl) ?_; refine ⟨_, fun _ => ev_pure rfl, ?_⟩; refine runD_gq 25 rfl rfl rfl rfl rfl rfl y2 (by kernel_rfl) ?_; refine ⟨_, fun _ => ev_add rfl rfl rfl (by omega), ?_⟩; refine runD_g1 21 (by kernel_rfl) rfl rfl rfl rfl y2 rfl rfl ?_)
        refine runL_callZ A5 [] rfl rfl rfl rfl rfl rfl rfl (pf rfl) (fun y => by (first | rfl | (simp only [List.append_eq, cnt_append, cnt_cons, cnt_nil, blk]; omega) | (simp only [List.append_eq, cnt_append, cnt_cons, cnt_nil, blk]; done))) (sp_borders _ b X2 hIn.up hw2 o.side) ?_
        rintro v A6 own6
        obtain ⟨a6, c6, rfl, own6⟩ := own6.at
        (refine runL_nil ?_; refine endS_d rfl ?_; refine runD_g1 22 (by kernel_rfl) rfl rfl rfl rfl y2 rfl rfl ?_)
        refine runL_ev rfl rfl rfl rfl (ev_callQ rfl rfl rfl (pf rfl) (sp_owhole _ a6 _ c6 _ rfl (by omega) hq6 (own6.src fun y m => by simp [m]))) ?_
        (refine runL_nil ?_; refine endS_d rfl ?_; refine runD_gq 26 rfl rfl rfl rfl rfl rfl y2 (by kernel_rfl) ?_; refine ⟨_, fun _ => ev_pure rfl, ?_⟩; refine runD_q 27 rfl rfl (by kernel_rfl) ?_; refine ⟨_, fun _ => ev_pure rfl, ?_⟩; refine runD_q 28 rfl rfl (by kernel_rfl) ?_; refine ⟨_, fun _ => ev_pure rfl, ?_⟩; refine runD_gq 29 rfl rfl rfl rfl rfl rfl y3 (by kernel_rfl) ?_; refine ⟨_, fun _ => ev_pure rfl, ?_⟩; refine runD_gq 30 rfl rfl rfl rfl rfl rfl y3 (by kernel_rfl) ?_; refine ⟨_, fun _ => ev_callQ rfl rfl rfl (pf rfl) (q2 ..), ?_⟩; refine runD_gq 31 rfl rfl rfl rfl rfl rfl y3 (by kernel_rfl) ?_; refine ⟨_, fun _ => ev_pure rfl, ?_⟩; refine runD_gq 32 rfl rfl rfl rfl rfl rfl y3 (by kernel_rfl) ?_; refine ⟨_, fun _ => ev_fieldAddr rfl rfl (fo rfl), ?_⟩; refine runD_gq 33 rfl rfl rfl rfl rfl rfl y3 (by kernel_rfl) ?_; refine ⟨_, fun _ => ev_loadF rfl rfl (sc rfl) l1, ?_⟩; refine runD_gq 34 rfl rfl rfl rfl rfl rfl y3 (by kernel_rfl) ?_; refine ⟨_, fun _ => ev_len rfl rfl (se rfl), ?_⟩; refine runD_gq 35 rfl rfl rfl rfl rfl rfl y3 (by kernel_rfl) ?_; refine ⟨_, fun _ => ev_add rfl rfl rfl (by omega), ?_⟩; refine runD_gq 36 rfl rfl rfl rfl rfl rfl y3 (by kernel_rfl) ?_; refine ⟨_, fun _ => ev_pure rfl, ?_⟩; refine runD_q 37 rfl rfl (by kernel_rfl) ?_; refine ⟨_, fun _ => ev_pure rfl, ?_⟩; refine runD_q 38 rfl rfl (by kernel_rfl) ?_; refine ⟨_, fun _ => ev_pure rfl, ?_⟩; refine runD_gq 39 rfl rfl rfl rfl rfl rfl y4 (by kernel_rfl) ?_; refine ⟨_, fun _ => ev_callQ rfl rfl rfl (pf rfl) (q3 ..), ?_⟩; refine runD_q 40 rfl rfl (by kernel_rfl) ?_; refine ⟨_, fun _ => ev_pure rfl, ?_⟩; refine runD_q 41 rfl rfl (by kernel_rfl) ?_; refine ⟨_, fun _ => ev_pure rfl, ?_⟩; refine runD_done (by kernel_rfl) ?_; refine then_normal ?_; refine run_ret ?_)
        exact ⟨_, rfl, congrArg Value.bool (by rw [y4]; rfl)⟩
    · obtain ⟨rfl, rfl, rfl, rfl⟩ := k4 he
      refine run_condT rfl (by simp [he]) ?_
      refine RunC.perm (h' := [] ++ ([blk xt [Value.int .i64 xq.trader, .int .i64 xq.id, .int .i64 xq.firm, .int .i64 xq.side, .int .i64 xq.kind, .int .i64 xq.price, .int .i64 xq.qty, .int .i64 xq.show_, .int .i64 xq.stop, .slice a3 ([] : List Fl).length c3, .int .i64 o.qty, .bool false, .bool xw, .bool xs, .int .i64 xe] 29, blk xo o.cells 25] ++ M4)) (fun y => by (first | rfl | (simp only [List.append_eq, cnt_append, cnt_cons, cnt_nil, blk]; omega) | (simp only [List.append_eq, cnt_append, cnt_cons, cnt_nil, blk]; done))) ?_
      have lt : AggF (([blk xt [Value.int .i64 xq.trader, .int .i64 xq.id, .int .i64 xq.firm, .int .i64 xq.side, .int .i64 xq.kind, .int .i64 xq.price, .int .i64 xq.qty, .int .i64 xq.show_, .int .i64 xq.stop, .slice a3 ([] : List Fl).length c3, .int .i64 o.qty, .bool false, .bool xw, .bool xs, .int .i64 xe] 29, blk xo o.cells 25] ++ M4) ++ F) xt 0 [Value.int .i64 xq.trader, .int .i64 xq.id, .int .i64 xq.firm, .int .i64 xq.side, .int .i64 xq.kind, .int .i64 xq.price, .int .i64 xq.qty, .int .i64 xq.show_, .int .i64 xq.stop, .slice a3 ([] : List Fl).length c3, .int .i64 o.qty, .bool false, .bool xw, .bool xs, .int .i64 xe] := ⟨_, _, _, memF (.head _), Nat.le_refl _, rfl⟩
      have lo : AggF (([blk xt [Value.int .i64 xq.trader, .int .i64 xq.id, .int .i64 xq.firm, .int .i64 xq.side, .int .i64 xq.kind, .int .i64 xq.price, .int .i64 xq.qty, .int .i64 xq.show_, .int .i64 xq.stop, .slice a3 ([] : List Fl).length c3, .int .i64 o.qty, .bool false, .bool xw, .bool xs, .int .i64 xe] 29, blk xo o.cells 25] ++ M4) ++ F) xo 0 o.cells := ⟨_, _, _, memF (.tail _ (.head _)), Nat.le_refl _, rfl⟩
      have hIn : BkIn (([blk xt [Value.int .i64 xq.trader, .int .i64 xq.id, .int .i64 xq.firm, .int .i64 xq.side, .int .i64 xq.kind, .int .i64 xq.price, .int .i64 xq.qty, .int .i64 xq.show_, .int .i64 xq.stop, .slice a3 ([] : List Fl).length c3, .int .i64 o.qty, .bool false, .bool xw, .bool xs, .int .i64 xe] 29, blk xo o.cells 25] ++ M4) ++ F) b X2 := hIn.mono fun y m => by simp only [List.mem_append] at m ⊢; rcases m with m | m <;> simp [m]
      generalize [blk xt [Value.int .i64 xq.trader, .int .i64 xq.id, .int .i64 xq.firm, .int .i64 xq.side, .int .i64 xq.kind, .int .i64 xq.price, .int .i64 xq.qty, .int .i64 xq.show_, .int .i64 xq.stop, .slice a3 ([] : List Fl).length c3, .int .i64 o.qty, .bool false, .bool xw, .bool xs, .int .i64 xe] 29, blk xo o.cells 25] ++ M4 = M5 at *
      refine RunC.freezeR ?_
      have l1 := lt.at 9 _ rfl
      have l2 := lt.at 10 _ rfl
      have l3 := lt.at 11 _ rfl
      have l4 := lo.at 3 _ rfl
      have l5 := lo.at 6 _ rfl
      have q2 := fun G => sp_bno (G ++ (M5 ++ F)) b X2 hIn.up
      have y1 : (decide (sumF [] = 0) && decide (o.qty = o.qty) && !false) = true := by simp [sumF]
      have y2 : (decide (sumF [] = 0) && decide (o.qty = o.qty) && !false && decide (sumO (ordersL (X2.side o.side)) = sumO (ordersL (X2.side o.side)))) = true := by simp [sumF]
      have y3 : (decide (sumF [] = 0) && decide (o.qty = o.qty) && !false && decide (sumO (ordersL (X2.side o.side)) = sumO (ordersL (X2.side o.side))) && decide (sumO (ordersL (X2.side (3 - o.side))) = sumO (ordersL (X2.side (3 - o.side))))) = true := by simp [sumF]
      have y4 : (decide (sumF [] = 0) && decide (o.qty = o.qty) && !false && decide (sumO (ordersL (X2.side o.side)) = sumO (ordersL (X2.side o.side))) && decide (sumO (ordersL (X2.side (3 - o.side))) = sumO (ordersL (X2.side (3 - o.side)))) && decide (X2.no = X2.no)) = true := by simp [sumF]
      (refine run_seq ?_; refine run_region ?_; (iterate 3 refine xep rfl rfl ?_); refine xgl rfl rfl (fun hq => ev_fieldAddr rfl rfl (fo rfl)) ?_; refine xgl rfl rfl (fun hq => ev_loadF rfl rfl (sc rfl) l2) ?_; refine xgl rfl rfl (fun hq => ev_fieldAddr rfl rfl (fo rfl)) ?_; refine xgl rfl rfl (fun hq => ev_loadF rfl rfl (sc rfl) l5) ?_; refine xgp rfl rfl rfl ?_; (iterate 2 refine xep rfl rfl ?_); refine xgl rfl rfl (fun hq => ev_fieldAddr rfl rfl (fo rfl)) ?_; refine xgl rfl rfl (fun hq => ev_loadF rfl rfl (sc rfl) l3) ?_; refine xgp rfl rfl rfl ?_; (iterate 2 refine xep rfl rfl ?_); refine runL_yes rfl rfl y1 ?_; refine xep rfl rfl ?_; refine runL_yes rfl rfl y1 ?_; refine xel rfl (ev_fieldAddr rfl rfl (fo rfl)) ?_; refine runL_yes rfl rfl y1 ?_; refine xel rfl (ev_loadF rfl rfl (sc rfl) l4) ?_; refine runL_yes rfl rfl y1 ?_)
      refine runL_callZ [] [] rfl rfl rfl rfl rfl rfl rfl (pf rfl) (fun y => by (first | rfl | (simp only [List.append_eq, cnt_append, cnt_cons, cnt_nil, blk]; omega) | (simp only [List.append_eq, cnt_append, cnt_cons, cnt_nil, blk]; done))) (sp_borders _ b X2 hIn.up hw2 o.side) ?_
      rintro v A5 own5
      obtain ⟨a5, c5, rfl, own5⟩ := own5.at
      (refine runL_yes rfl rfl y1 ?_)
      refine runL_ev rfl rfl rfl rfl (ev_callQ rfl rfl rfl (pf rfl) (sp_owhole _ a5 _ c5 _ rfl (by omega) hq6 (own5.src fun y m => by simp [m]))) ?_
      (refine runL_yes rfl rfl y1 ?_; refine xep rfl rfl ?_; refine runL_yes rfl rfl y1 ?_; (iterate 3 refine xep rfl rfl ?_); refine runL_yes rfl rfl y2 ?_; refine xep rfl rfl ?_; refine runL_yes rfl rfl y2 ?_; refine xep rfl rfl ?_; refine runL_yes rfl rfl y2 ?_)
      refine runL_callZ A5 [] rfl rfl rfl rfl rfl rfl rfl (pf rfl) (fun y => by (first | rfl | (simp only [List.append_eq, cnt_append, cnt_cons, cnt_nil, blk]; omega) | (simp only [List.append_eq, cnt_append, cnt_cons, cnt_nil, blk]; done))) (sp_borders _ b X2 hIn.up hw2 (3 - o.side)) ?_
      rintro v A6 own6
      obtain ⟨a6, c6, rfl, own6⟩ := own6.at
      (refine runL_yes rfl rfl y2 ?_)
      refine runL_ev rfl rfl rfl rfl (ev_callQ rfl rfl rfl (pf rfl) (sp_owhole _ a6 _ c6 _ rfl (by omega) hq5 (own6.src fun y m => by simp [m]))) ?_
      (refine runL_yes rfl rfl y2 ?_; refine xep rfl rfl ?_; refine runL_yes rfl rfl y2 ?_; (iterate 3 refine xep rfl rfl ?_); refine runL_yes rfl rfl y3 ?_; refine xep rfl rfl ?_; refine runL_yes rfl rfl y3 ?_; refine xel rfl (ev_callQ rfl rfl rfl (pf rfl) (q2 ..)) ?_; refine runL_yes rfl rfl y3 ?_; refine xep rfl rfl ?_; refine runL_yes rfl rfl y3 ?_; (iterate 3 refine xep rfl rfl ?_); refine runL_yes rfl rfl y4 ?_; refine xel rfl (ev_callQ rfl rfl rfl (pf rfl) (q3 ..)) ?_; (iterate 2 refine xep rfl rfl ?_); refine runL_nil ?_; refine then_normal ?_; refine run_ret ?_; refine then_ret ?_)
      exact ⟨_, rfl, congrArg Value.bool (by rw [y4]; rfl)⟩
end Go.Proofs.Ytiilndlgfgikbaa
