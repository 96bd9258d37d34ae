/- Contracts of functions of the given program over its translation, each proved by walking its text; used by the laws' rows. It proves no given statement by itself. -/
import Derived.Test.YtiilndlgfgikbaaSLPlR
import Derived.Test.YtiilndlgfgikbaaSLBk6
set_option autoImplicit false
set_option linter.unusedSectionVars false
set_option linter.unusedSimpArgs false
set_option linter.unusedVariables false
set_option maxRecDepth 4000
set_option maxHeartbeats 100000000
namespace Go.Proofs.Ytiilndlgfgikbaa
open Go Go.SL Go.Proofs
variable [Base]
theorem bookBack_sp (F : Heap) (a : Option Addr) (len cap : Nat) (rs : List (List Int)) (r : List Int) (hR : RowsF F a len 7 rs) (hC : len ≤ cap) (hM : cap ≤ 9223372036854775807) (hr7 : r.length = 7) (hz : ∀ z ∈ r, InI z) :
    Sp Try.prog F 11 [.slice a len cap, .agg ⟨ints r⟩] [] (Ret (.bool true)) := by
  have q3 := bookRuns_sp
  have q1 := fun F => sp_kOrder F r hr7
  refine sp_of_code Try.func11 rfl rfl ?_
  (refine run_seq ?_; refine run_region ?_; refine runL_box rfl rfl rfl rfl rfl rfl (fun _ => ?_); refine xep rfl rfl ?_; refine runL_nil ?_; refine then_normal ?_; refine run_seq ?_; refine run_region ?_; refine xep rfl rfl ?_)
  refine runL_call0 rfl rfl rfl rfl rfl rfl rfl (pf rfl) (sp_bfilled _ a len cap rs (RowsF.mono hR fun x m => by simp [m]) (by omega) 40 (by omega)) ?_
  rintro v H ⟨b, rfl, hH⟩
  obtain ⟨hw, hn0, hn1⟩ := bfill_ok rs 40
  generalize bfill rs 40 = B at *
  have hkr := (kO_right r).1
  (refine xep rfl rfl ?_; refine runL_nil ?_; refine then_normal ?_; (iterate 2 refine run_seq ?_); refine run_region ?_; refine xep rfl rfl ?_; refine xel rfl (ev_eqNil rfl rfl rfl (pt rfl)) ?_; refine runL_nil ?_; refine then_normal ?_)
  refine run_condF rfl rfl ?_
  (refine run_skip ?_; refine then_normal ?_; refine run_seq ?_; refine run_region ?_; refine xep rfl rfl ?_)
  rename_i x
  refine runL_callZ (blk x (cellsV (.agg ⟨ints r⟩)) 43 :: H) [] rfl rfl rfl rfl rfl rfl rfl (pf rfl) (fun y => by (first | rfl | (simp only [List.append_eq, cnt_append, cnt_cons, cnt_nil, blk]; omega) | (simp only [List.append_eq, cnt_append, cnt_cons, cnt_nil, blk]; done))) (sp_borders _ b B (hH.in fun y m => by simp [m]) hw 1) ?_
  rintro v A1 own1
  obtain ⟨a1, c1, rfl, own1⟩ := own1.at
  (refine xep rfl rfl ?_)
  refine runL_callZ (blk x (cellsV (.agg ⟨ints r⟩)) 43 :: (H ++ A1)) [] rfl rfl rfl rfl rfl rfl rfl (pf rfl) (fun y => by (first | rfl | (simp only [List.append_eq, cnt_append, cnt_cons, cnt_nil, blk]; omega) | (simp only [List.append_eq, cnt_append, cnt_cons, cnt_nil, blk]; done))) (sp_borders _ b B (hH.in fun y m => by simp [m]) hw 2) ?_
  rintro v A2 own2
  obtain ⟨a2, c2, rfl, own2⟩ := own2.at
  (refine xep rfl rfl ?_)
  refine runL_ev rfl rfl rfl rfl (ev_callQ rfl rfl rfl (pf rfl) (sp_blast _ b B (hH.in fun y m => by simp [m]))) ?_
  (refine xep rfl rfl ?_)
  refine runL_ev rfl rfl rfl rfl (ev_callQ rfl rfl rfl (pf rfl) (sp_bno _ b B (hH.in fun y m => by simp [m]))) ?_
  ((iterate 4 refine xep rfl rfl ?_); refine runL_nil ?_; refine then_normal ?_; refine run_seq ?_; refine run_region ?_)
  refine RunL.perm (h' := blk x (cellsV (.agg ⟨ints r⟩)) 43 :: (A1 ++ A2 ++ H)) (fun y => by (first | rfl | (simp only [List.append_eq, cnt_append, cnt_cons, cnt_nil, blk]; omega) | (simp only [List.append_eq, cnt_append, cnt_cons, cnt_nil, blk]; done))) ?_
  refine runL_ev rfl rfl rfl rfl (ev_loadA (n := 7) (off := 0) (c := ints r) (l := ints r) rfl rfl (ag rfl) (sz rfl) (memF (.head _)) (by rw [ints_len, hr7]; omega) (by rw [List.drop_zero, List.take_of_length_le (by rw [ints_len, hr7]; omega)])) ?_
  clear hz
  generalize kO r = o at *
  have hk : InI o.kind := by unfold rightP at hkr; unfold InI; omega
  have hback := back_is hw hkr
  have hw2 := (badd_BW (o := o) hw hn0).1
  (refine xel rfl (ev_callQ rfl rfl rfl (pf rfl) (q1 ..)) ?_; refine runL_alloc rfl rfl rfl rfl rfl ze25 (fun _ => ?_); refine runL_store0 rfl rfl rfl rfl rfl (sz rfl) rfl rfl rfl rfl rfl ?_; refine runL_nil ?_; refine then_normal ?_; refine run_seq ?_; refine run_region ?_; refine xep rfl rfl ?_; refine xel rfl (ev_loadAK rfl rfl (ag rfl) (sz rfl) (memF (.head _)) rfl) ?_)
  rename_i xo
  refine RunL.perm (h' := blk xo o.cells 25 :: blk x (cellsV (.agg ⟨ints r⟩)) 43 :: (A1 ++ A2 ++ H)) (fun y => rfl) ?_
  refine runL_callZ (blk xo o.cells 25 :: blk x (cellsV (.agg ⟨ints r⟩)) 43 :: (A1 ++ A2)) H rfl rfl rfl rfl rfl rfl rfl (pf rfl) (fun y => by (first | rfl | (simp only [List.append_eq, cnt_append, cnt_cons, cnt_nil, blk]; omega) | (simp only [List.append_eq, cnt_append, cnt_cons, cnt_nil, blk]; done))) (sp_badd _ H b _ hH hw o hk hn0 (by omega)) ?_
  rintro v _ ⟨a3, c3, A3, H2, rfl, -, hH2, rfl⟩
  generalize badd o B = X at *
  obtain ⟨⟨xq, xf, xl, xr, xw, xs, xe⟩, X2⟩ := X
  unfold outV
  dsimp only at *
  (refine runL_alloc rfl rfl rfl rfl rfl ze29 (fun _ => ?_); refine runL_store0 rfl rfl rfl rfl rfl (sz rfl) rfl rfl rfl rfl rfl ?_; refine runL_nil ?_; refine then_normal ?_; (iterate 2 refine run_seq ?_); refine run_region ?_; refine xel rfl (ev_fieldAddr rfl rfl (fo rfl)) ?_; refine xel rfl (ev_loadK rfl rfl (sc rfl) (memF (.head _)) rfl) ?_; (iterate 2 refine xep rfl rfl ?_); refine xgl rfl rfl (fun hq => ev_fieldAddr rfl rfl (fo rfl)) ?_; refine xgl rfl rfl (fun hq => ev_loadK rfl rfl (sc rfl) (memF (.head _)) rfl) ?_; refine xgl rfl rfl (fun hq => ev_len rfl rfl (se rfl)) ?_; refine xgp rfl rfl rfl ?_; refine xep rfl rfl ?_; refine runL_nil ?_; refine then_normal ?_)
  rename_i xt
  by_cases hc : xr = true ∧ xf = []
  · obtain ⟨rfl, rfl⟩ := hc
    obtain ⟨e1, e2⟩ := hback rfl rfl
    refine run_condF rfl rfl ?_
    have q2 := fun G (h : BkIn G b X2) => sp_bFind G b _ h hw2 o.trader o.id
    rw [e1] at q2
    (refine run_skip ?_; refine then_normal ?_; refine run_seq ?_; refine run_region ?_; refine xep rfl rfl ?_; refine xel rfl (ev_fieldAddr rfl rfl (fo rfl)) ?_; refine xel rfl (ev_loadK rfl rfl (sc rfl) (memF (.tail _ (.head _))) rfl) ?_; refine xel rfl (ev_fieldAddr rfl rfl (fo rfl)) ?_; refine xel rfl (ev_loadK rfl rfl (sc rfl) (memF (.tail _ (.head _))) rfl) ?_)
    refine runL_ev rfl rfl rfl rfl (ev_callQ rfl rfl rfl (pf rfl) (q2 _ (hH2.in fun y m => by simp [m]))) ?_
    ((iterate 3 refine xep rfl rfl ?_); refine runL_alloc rfl rfl rfl rfl rfl ze25 (fun _ => ?_); refine runL_store0 rfl rfl rfl rfl rfl (sz rfl) rfl rfl rfl rfl rfl ?_; refine xep rfl rfl ?_; refine runL_nil ?_; refine then_normal ?_; refine run_seq ?_; refine run_region ?_; refine xep rfl rfl ?_; refine xel rfl (ev_fieldAddr rfl rfl (fo rfl)) ?_; refine xel rfl (ev_loadK rfl rfl (sc rfl) (memF (.tail _ (.tail _ (.head _)))) rfl) ?_; refine xel rfl (ev_fieldAddr rfl rfl (fo rfl)) ?_; refine xel rfl (ev_loadK rfl rfl (sc rfl) (memF (.tail _ (.tail _ (.head _)))) rfl) ?_)
    rename_i xf1
    refine RunL.perm (h' := blk xf1 o.cells 25 :: blk xt [Value.int .i64 xq.trader, .int .i64 xq.id, .int .i64 xq.firm, .int .i64 xq.side, .int .i64 xq.kind, .int .i64 xq.price, .int .i64 xq.qty, .int .i64 xq.show_, .int .i64 xq.stop, .slice a3 ([] : List Fl).length c3, .int .i64 xl, .bool true, .bool xw, .bool xs, .int .i64 xe] 29 :: blk xo o.cells 25 :: blk x (cellsV (.agg ⟨ints r⟩)) 43 :: (A1 ++ A2 ++ (H2 ++ A3))) (fun y => rfl) ?_
    have rm := sp_bremove (blk xf1 o.cells 25 :: blk xt [Value.int .i64 xq.trader, .int .i64 xq.id, .int .i64 xq.firm, .int .i64 xq.side, .int .i64 xq.kind, .int .i64 xq.price, .int .i64 xq.qty, .int .i64 xq.show_, .int .i64 xq.stop, .slice a3 ([] : List Fl).length c3, .int .i64 xl, .bool true, .bool xw, .bool xs, .int .i64 xe] 29 :: blk xo o.cells 25 :: blk x (cellsV (.agg ⟨ints r⟩)) 43 :: (A1 ++ A2 ++ A3) ++ F) H2 b X2 hH2 hw2 o.trader o.id
    rw [e2] at rm
    refine runL_callZ (blk xf1 o.cells 25 :: blk xt [Value.int .i64 xq.trader, .int .i64 xq.id, .int .i64 xq.firm, .int .i64 xq.side, .int .i64 xq.kind, .int .i64 xq.price, .int .i64 xq.qty, .int .i64 xq.show_, .int .i64 xq.stop, .slice a3 ([] : List Fl).length c3, .int .i64 xl, .bool true, .bool xw, .bool xs, .int .i64 xe] 29 :: blk xo o.cells 25 :: blk x (cellsV (.agg ⟨ints r⟩)) 43 :: (A1 ++ A2 ++ A3)) H2 rfl rfl rfl rfl rfl rfl rfl (pf rfl) (fun y => by (first | rfl | (simp only [List.append_eq, cnt_append, cnt_cons, cnt_nil, blk]; omega) | (simp only [List.append_eq, cnt_append, cnt_cons, cnt_nil, blk]; done))) rm ?_
    rintro v H3 ⟨rfl, hH3⟩
    have hgd : true = true := rfl
    have hge : false = false := rfl
    have k1 := ctOrd
    have k2 := tyOrd o
    have k3 := eqOrd o
    have hl1 : (ordersL (B.side 1)).length ≤ 64 := by have := (hw.side 1).2; rw [ordersL_len]; exact this
    have hl2 : (ordersL (B.side 2)).length ≤ 64 := by have := (hw.side 2).2; rw [ordersL_len]; exact this
    ((iterate 3 refine xep rfl rfl ?_); refine runL_alloc rfl rfl rfl rfl rfl ze25 (fun _ => ?_); refine runL_store0 rfl rfl rfl rfl rfl (sz rfl) rfl rfl rfl rfl rfl ?_; refine xep rfl rfl ?_; refine runL_nil ?_; refine then_normal ?_; refine run_seq ?_; refine run_region ?_; (iterate 2 refine xep rfl rfl ?_); refine runL_yes rfl rfl hgd ?_; (iterate 3 refine xep rfl rfl ?_); refine runL_yes rfl rfl hgd ?_; refine xel rfl (ev_loadAK rfl rfl (ag rfl) (sz rfl) (memF (.tail _ (.head _))) rfl) ?_; refine runL_yes rfl rfl hgd ?_; refine xel rfl (ev_loadAK rfl rfl (ag rfl) (sz rfl) (memF (.tail _ (.tail _ (.tail _ (.head _))))) rfl) ?_; refine runL_yes rfl rfl hgd ?_; refine xel rfl (ev_eqQ rfl rfl rfl k1 rfl k2 k3) ?_; (iterate 2 refine xep rfl rfl ?_); refine runL_yes rfl rfl hgd ?_; refine xel rfl (ev_loadAK rfl rfl (ag rfl) (sz rfl) (memF (.head _)) rfl) ?_; refine runL_yes rfl rfl hgd ?_; refine xel rfl (ev_loadAK rfl rfl (ag rfl) (sz rfl) (memF (.tail _ (.tail _ (.tail _ (.head _))))) rfl) ?_; refine runL_yes rfl rfl hgd ?_; refine xel rfl (ev_eqQ rfl rfl rfl k1 rfl k2 k3) ?_; (iterate 2 refine xep rfl rfl ?_); refine runL_yes rfl rfl hgd ?_; refine xep rfl rfl ?_; refine runL_yes rfl rfl hgd ?_)
    rename_i xr1
    refine RunL.perm (h' := blk xr1 o.cells 25 :: blk xf1 o.cells 25 :: blk xt [Value.int .i64 xq.trader, .int .i64 xq.id, .int .i64 xq.firm, .int .i64 xq.side, .int .i64 xq.kind, .int .i64 xq.price, .int .i64 xq.qty, .int .i64 xq.show_, .int .i64 xq.stop, .slice a3 ([] : List Fl).length c3, .int .i64 xl, .bool true, .bool xw, .bool xs, .int .i64 xe] 29 :: blk xo o.cells 25 :: blk x (cellsV (.agg ⟨ints r⟩)) 43 :: (A1 ++ A2 ++ A3 ++ H3)) (fun y => by show cnt y (blk xr1 o.cells 25 :: blk xf1 o.cells 25 :: blk xt [Value.int .i64 xq.trader, .int .i64 xq.id, .int .i64 xq.firm, .int .i64 xq.side, .int .i64 xq.kind, .int .i64 xq.price, .int .i64 xq.qty, .int .i64 xq.show_, .int .i64 xq.stop, .slice a3 ([] : List Fl).length c3, .int .i64 xl, .bool true, .bool xw, .bool xs, .int .i64 xe] 29 :: blk xo o.cells 25 :: blk x (cellsV (.agg ⟨ints r⟩)) 43 :: ((A1 ++ A2 ++ A3) ++ H3)) = _; (first | rfl | (simp only [List.append_eq, cnt_append, cnt_cons, cnt_nil, blk]; omega) | (simp only [List.append_eq, cnt_append, cnt_cons, cnt_nil, blk]; done))) ?_
    refine runL_callZ (blk xr1 o.cells 25 :: blk xf1 o.cells 25 :: blk xt [Value.int .i64 xq.trader, .int .i64 xq.id, .int .i64 xq.firm, .int .i64 xq.side, .int .i64 xq.kind, .int .i64 xq.price, .int .i64 xq.qty, .int .i64 xq.show_, .int .i64 xq.stop, .slice a3 ([] : List Fl).length c3, .int .i64 xl, .bool true, .bool xw, .bool xs, .int .i64 xe] 29 :: blk xo o.cells 25 :: blk x (cellsV (.agg ⟨ints r⟩)) 43 :: (A1 ++ A2 ++ A3 ++ H3)) [] rfl rfl rfl rfl rfl rfl rfl (pf rfl) (fun y => by (first | rfl | (simp only [List.append_eq, cnt_append, cnt_cons, cnt_nil, blk]; omega) | (simp only [List.append_eq, cnt_append, cnt_cons, cnt_nil, blk]; done))) (sp_borders _ b B (hH3.in fun y m => by simp [m]) hw 1) ?_
    rintro v A5 own5
    obtain ⟨a5, c5, rfl, own5⟩ := own5.at
    (refine runL_yes rfl rfl hgd ?_; refine xep rfl rfl ?_; refine runL_yes rfl rfl hgd ?_)
    refine runL_ev rfl rfl rfl rfl (ev_callQ rfl rfl rfl (pf rfl) (sp_sameOrd _ a5 a1 _ c5 c1 (ordersL (B.side 1)) rfl (by omega) (own5.src fun y m => by simp [m]) (own1.src fun y m => by simp [m]))) ?_
    ((iterate 2 refine xep rfl rfl ?_); refine runL_yes rfl rfl hgd ?_; refine xep rfl rfl ?_; refine runL_yes rfl rfl hgd ?_)
    refine runL_callZ (blk xr1 o.cells 25 :: blk xf1 o.cells 25 :: blk xt [Value.int .i64 xq.trader, .int .i64 xq.id, .int .i64 xq.firm, .int .i64 xq.side, .int .i64 xq.kind, .int .i64 xq.price, .int .i64 xq.qty, .int .i64 xq.show_, .int .i64 xq.stop, .slice a3 ([] : List Fl).length c3, .int .i64 xl, .bool true, .bool xw, .bool xs, .int .i64 xe] 29 :: blk xo o.cells 25 :: blk x (cellsV (.agg ⟨ints r⟩)) 43 :: (A1 ++ A2 ++ A3 ++ H3 ++ A5)) [] rfl rfl rfl rfl rfl rfl rfl (pf rfl) (fun y => by (first | rfl | (simp only [List.append_eq, cnt_append, cnt_cons, cnt_nil, blk]; omega) | (simp only [List.append_eq, cnt_append, cnt_cons, cnt_nil, blk]; done))) (sp_borders _ b B (hH3.in fun y m => by simp [m]) hw 2) ?_
    rintro v A6 own6
    obtain ⟨a6, c6, rfl, own6⟩ := own6.at
    (refine runL_yes rfl rfl hgd ?_; refine xep rfl rfl ?_; refine runL_yes rfl rfl hgd ?_)
    refine runL_ev rfl rfl rfl rfl (ev_callQ rfl rfl rfl (pf rfl) (sp_sameOrd _ a6 a2 _ c6 c2 (ordersL (B.side 2)) rfl (by omega) (own6.src fun y m => by simp [m]) (own2.src fun y m => by simp [m]))) ?_
    ((iterate 2 refine xep rfl rfl ?_); refine runL_yes rfl rfl hgd ?_; refine xep rfl rfl ?_; refine runL_yes rfl rfl hgd ?_)
    refine runL_ev rfl rfl rfl rfl (ev_callQ rfl rfl rfl (pf rfl) (sp_blast _ b B (hH3.in fun y m => by simp [m]))) ?_
    have y1 : decide (B.last = B.last) = true := decide_eq_true rfl
    have y2 : decide (B.no = B.no) = true := decide_eq_true rfl
    have y3 : (decide (B.last = B.last) && decide (B.no = B.no)) = true := by rw [y1, y2]; rfl
    (refine runL_yes rfl rfl hgd ?_; refine xep rfl rfl ?_; refine runL_yes rfl rfl hgd ?_; (iterate 3 refine xep rfl rfl ?_); refine runL_yes rfl rfl y1 ?_; refine xep rfl rfl ?_; refine runL_yes rfl rfl y1 ?_)
    refine runL_ev rfl rfl rfl rfl (ev_callQ rfl rfl rfl (pf rfl) (sp_bno _ b B (hH3.in fun y m => by simp [m]))) ?_
    (refine runL_yes rfl rfl y1 ?_; refine xep rfl rfl ?_; refine runL_yes rfl rfl y1 ?_; (iterate 3 refine xep rfl rfl ?_); refine runL_yes rfl rfl y3 ?_; refine xel rfl (ev_callQ rfl rfl rfl (pf rfl) (q3 ..)) ?_; (iterate 2 refine xep rfl rfl ?_); refine runL_nil ?_; refine then_normal ?_; refine run_ret ?_)
    exact ⟨_, rfl, congrArg Value.bool (by rw [y1, y2]; rfl)⟩
  · refine run_condT rfl ?_ ?_
    · cases xr with
      | false => rfl
      | true =>
        cases xf with
        | nil => exact absurd ⟨rfl, rfl⟩ hc
        | cons f fs =>
          show (!true || decide ((0 : Int) < ((fs.length + 1 : Nat) : Int))) = true
          rw [decide_eq_true (by push_cast; omega)]; rfl
    (refine run_seq ?_; refine run_region ?_; refine xel rfl (ev_callQ rfl rfl rfl (pf rfl) (q3 ..)) ?_; refine xep rfl rfl ?_; refine runL_nil ?_; refine then_normal ?_; refine run_ret ?_; refine then_ret ?_)
    exact ⟨_, rfl, rfl⟩
end Go.Proofs.Ytiilndlgfgikbaa
