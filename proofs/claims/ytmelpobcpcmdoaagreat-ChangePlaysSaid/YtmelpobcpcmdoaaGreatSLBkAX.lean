/- Contracts of functions of the given program over its translation, each proved by walking its text; used by the laws' rows. It proves no given statement by itself. -/
import Derived.Test.YtmelpobcpcmdoaaGreatSLBkN
import Derived.Test.YtmelpobcpcmdoaaGreatSLBkR
set_option autoImplicit false
set_option linter.unusedSectionVars false
set_option linter.unusedSimpArgs false
set_option linter.unusedVariables false
set_option maxRecDepth 4000
set_option maxHeartbeats 32000000
namespace Go.Proofs.YtmelpobcpcmdoaaGreat
open Go Go.SL Go.Proofs
/-- What comes of an order. -/
structure Out where
  order : Ord
  fs : List Fl
  left : Int
  rests : Bool
  waits : Bool
  self : Bool
  err : Int
def outV (a : Option Addr) (c : Nat) (x : Out) : List Value := [.int .i64 x.order.trader, .int .i64 x.order.id, .int .i64 x.order.firm, .int .i64 x.order.side, .int .i64 x.order.kind, .int .i64 x.order.price, .int .i64 x.order.qty, .int .i64 x.order.show_, .int .i64 x.order.stop,
  .slice a x.fs.length c, .int .i64 x.left, .bool x.rests, .bool x.waits, .bool x.self, .int .i64 x.err]
def wqs (o : Ord) (q s : Int) : Ord := ⟨o.trader, o.id, o.firm, o.side, o.kind, o.price, q, s, o.stop⟩
/-- What a book makes of an order. -/
def badd (o : Ord) (B : Bk) : Out × Bk :=
  if brefused o B ≠ 0 then (⟨o, [], o.qty, false, false, false, brefused o B⟩, B)
  else
    let m := matchL o (B.side (3 - o.side)) B.last B.no
    let B1 := (B.put (3 - o.side) m.lvs).tell m.last m.no
    let r := decide (0 < m.qty) && !m.self && rests o
    (⟨o, m.fs, m.qty, r, false, m.self, 0⟩, if r = true then B1.put o.side (restL (wqs o m.qty (min o.show_ m.qty)) (B1.side o.side)) else B1)
variable [Base]
theorem sp_bin1 (F H : Heap) (b : Nat) (B : Bk) (hH : BkH b B H) (hw : BW B) (o : Ord) (hk : InI o.kind) (hn : 0 ≤ B.no) (hn2 : B.no ≤ 1099511627776) (hr : brefused o B = 0) (hs : o.side = 2) :
    Sp Tryz.prog F 52 [.pointer (some ⟨b, 0, none⟩), ov o] H (fun v h' => ∃ a c A H', v = .agg ⟨outV a c (badd o B).1⟩ ∧ OwnS 93 21 (.slice a (badd o B).1.fs.length c) (badd o B).1.fs.length (rows fcell (badd o B).1.fs) A ∧ BkH b (badd o B).2 H' ∧ h' = H' ++ A) := by
  have hr2 : right o = 0 := by
    unfold brefused at hr
    split at hr
    · cases hr
    · rename_i h; omega
  obtain ⟨-, -, -, -, -, -, -, -, -, -, hq1, hq2, -⟩ := right_zero hr2
  have hb : badd o B = (⟨o, (matchL o (B.side 1) B.last B.no).fs, (matchL o (B.side 1) B.last B.no).qty, decide (0 < (matchL o (B.side 1) B.last B.no).qty) && !(matchL o (B.side 1) B.last B.no).self && rests o, false, (matchL o (B.side 1) B.last B.no).self, 0⟩,
      if (decide (0 < (matchL o (B.side 1) B.last B.no).qty) && !(matchL o (B.side 1) B.last B.no).self && rests o) = true then ((B.put 1 (matchL o (B.side 1) B.last B.no).lvs).tell (matchL o (B.side 1) B.last B.no).last (matchL o (B.side 1) B.last B.no).no).put 2 (restL (wqs o (matchL o (B.side 1) B.last B.no).qty (min o.show_ (matchL o (B.side 1) B.last B.no).qty)) B.sells)
      else (B.put 1 (matchL o (B.side 1) B.last B.no).lvs).tell (matchL o (B.side 1) B.last B.no).last (matchL o (B.side 1) B.last B.no).no) := by
    unfold badd
    rw [if_neg (by rw [hr]; simp), hs]; rfl
  rw [hb]
  have q2 := fun F => sp_brests F o
  refine Sp.up ?_
  refine sp_of_codeR Tryz.func52 rfl rfl ?_
  (refine run_seq ?_; refine run_region ?_; refine runL_box rfl rfl rfl rfl rfl rfl (fun _ => ?_); refine runL_alloc rfl rfl rfl rfl rfl ze66 (fun _ => ?_); refine runL_nil ?_; refine then_normal ?_; refine run_seq ?_; refine run_region ?_; refine xel rfl (ev_loadAK rfl rfl (ag rfl) (sz rfl) (memF (.tail _ (.head _))) rfl) ?_; refine xel rfl (ev_fieldAddr rfl rfl (fo rfl)) ?_; refine xel rfl (ev_loadK rfl rfl (sc rfl) (memF (.tail _ (.head _))) rfl) ?_; refine xel rfl (ev_build rfl pl66 rfl) ?_; refine runL_alloc rfl rfl rfl rfl rfl ze66 (fun _ => ?_); refine runL_store0 rfl rfl rfl rfl rfl (sz rfl) rfl rfl rfl rfl rfl ?_; refine runL_nil ?_; refine then_normal ?_; (iterate 2 refine run_seq ?_); refine run_region ?_; refine xep rfl rfl ?_; refine xel rfl (ev_loadAK rfl rfl (ag rfl) (sz rfl) (memF (.tail _ (.tail _ (.head _)))) rfl) ?_)
  rename_i b3 b4 b5
  refine runL_ev rfl rfl rfl rfl (ev_callQ rfl rfl rfl (pf rfl) (sp_brefused _ b B (hH.in fun x m => by simp [m]) hw o hk)) ?_
  rw [hr]
  (refine xel rfl (ev_fieldAddr rfl rfl (fo rfl)) ?_; refine runL_store0 rfl rfl rfl rfl rfl (sz rfl) rfl rfl rfl rfl rfl ?_; refine runL_nil ?_; refine then_normal ?_; refine run_seq ?_; refine run_region ?_; refine xel rfl (ev_fieldAddr rfl rfl (fo rfl)) ?_; refine xel rfl (ev_loadK rfl rfl (sc rfl) (memF (.head _)) rfl) ?_; refine xep rfl rfl ?_; refine runL_nil ?_; refine then_normal ?_)
  refine run_condF rfl rfl ?_
  (refine run_skip ?_; refine then_normal ?_; refine run_seq ?_; refine run_region ?_; refine xep rfl rfl ?_; refine xel rfl (ev_loadAK rfl rfl (ag rfl) (sz rfl) (memF (.tail _ (.tail _ (.head _)))) rfl) ?_)
  obtain ⟨v, w, H0, H1, h0, h1, rfl⟩ := hH
  have hsd := hw.side 1
  refine runL_callZ (blk b5 (outV none 0 ⟨o, [], o.qty, false, false, false, 0⟩) 66 :: blk b4 (outV none 0 ⟨o0, [], 0, false, false, false, 0⟩) 66 :: [blk b3 o.cells 35]) (blk b [v,w, .int .i64 B.last, .int .i64 B.no] 90 :: (H0 ++ H1)) rfl rfl rfl rfl rfl rfl rfl (pf rfl) (fun x => by
    show cnt x (blk b5 (outV none 0 ⟨o, [], o.qty, false, false, false, 0⟩) 66 :: blk b4 (outV none 0 ⟨o0, [], 0, false, false, false, 0⟩) 66 :: blk b3 o.cells 35 :: _) = _
    (first | rfl | (simp only [List.append_eq, cnt_append, cnt_cons, cnt_nil, blk]; omega) | (simp only [List.append_eq, cnt_append, cnt_cons, cnt_nil, blk]; done))) (sp_bmatch1 _ H0 H1 b w v B.last B.no (B.side 1) h0 hsd.1 hsd.2 o (by omega) (by omega) hq2 hn hn2) ?_
  rintro r _ ⟨a, c, A, v', H0', rfl, own, h0', rfl⟩
  generalize matchL o (B.side 1) B.last B.no = m at *
  ((iterate 4 refine xep rfl rfl ?_); refine xel rfl (ev_fieldAddr rfl rfl (fo rfl)) ?_; refine runL_store0 rfl rfl rfl rfl rfl (sz rfl) rfl rfl rfl rfl rfl ?_; refine xel rfl (ev_fieldAddr rfl rfl (fo rfl)) ?_; refine runL_store0 rfl rfl rfl rfl rfl (sz rfl) rfl rfl rfl rfl rfl ?_; refine xel rfl (ev_fieldAddr rfl rfl (fo rfl)) ?_; refine runL_store0 rfl rfl rfl rfl rfl (sz rfl) rfl rfl rfl rfl rfl ?_; refine runL_nil ?_; refine then_normal ?_; refine run_seq ?_; refine run_region ?_; refine xel rfl (ev_fieldAddr rfl rfl (fo rfl)) ?_; refine xel rfl (ev_loadK rfl rfl (sc rfl) (memF (.head _)) rfl) ?_; (iterate 2 refine xep rfl rfl ?_); refine xgl rfl rfl (fun hq => ev_fieldAddr rfl rfl (fo rfl)) ?_; refine xgl rfl rfl (fun hq => ev_loadK rfl rfl (sc rfl) (memF (.head _)) rfl) ?_; refine xgp rfl rfl rfl ?_; (iterate 2 refine xep rfl rfl ?_); refine xgl rfl rfl (fun hq => ev_loadAK rfl rfl (ag rfl) (sz rfl) (memF (.tail _ (.tail _ (.head _)))) rfl) ?_; refine xgl rfl rfl (fun hq => ev_callQ rfl rfl rfl (pf rfl) (q2 ..)) ?_; refine xep rfl rfl ?_; refine xel rfl (ev_fieldAddr rfl rfl (fo rfl)) ?_; refine runL_store0 rfl rfl rfl rfl rfl (sz rfl) rfl rfl rfl rfl rfl ?_; refine runL_nil ?_; refine then_normal ?_; (iterate 2 refine run_seq ?_); refine run_region ?_; refine xel rfl (ev_fieldAddr rfl rfl (fo rfl)) ?_; refine xel rfl (ev_loadK rfl rfl (sc rfl) (memF (.head _)) rfl) ?_; refine runL_nil ?_; refine then_normal ?_)
  generalize (decide (0 < m.qty) && !m.self && rests o) = rr at *
  refine RunC.perm (h' := blk b5 (outV a c ⟨o, m.fs, m.qty, rr, false, m.self, 0⟩) 66 :: blk b4 (outV none 0 ⟨o0, [], 0, false, false, false, 0⟩) 66 :: blk b3 o.cells 35 :: (blk b [v',w, .int .i64 m.last, .int .i64 m.no] 90 :: (H0' ++ H1) ++ A)) (fun x => rfl) ?_
  cases rr with
  | false =>
    refine run_condF rfl rfl ?_
    (refine run_skip ?_; refine then_normal ?_; refine run_seq ?_; refine run_region ?_; refine xel rfl (ev_loadAK rfl rfl (ag rfl) (sz rfl) (memF (.head _)) rfl) ?_; refine runL_store1 rfl rfl rfl rfl rfl (sz rfl) rfl rfl rfl rfl rfl ?_; refine runL_nil ?_; refine then_normal ?_; refine run_ret ?_)
    exact ⟨_, .agg rfl (memF (.tail _ (.head _))) (ag rfl) (sz rfl) rfl .nil, blk b [v',w, .int .i64 m.last, .int .i64 m.no] 90 :: (H0' ++ H1) ++ A, [blk b5 (outV a c ⟨o, m.fs, m.qty, false, false, m.self, 0⟩) 66, blk b4 (outV a c ⟨o, m.fs, m.qty, false, false, m.self, 0⟩) 66, blk b3 o.cells 35], ⟨a, c, A, blk b [v',w, .int .i64 m.last, .int .i64 m.no] 90 :: (H0' ++ H1), rfl, own, ⟨v', w, H0', H1, h0', h1, rfl⟩, rfl⟩, fun x => by simp only [List.append_eq, cnt_append, cnt_cons, cnt_nil, blk, outV, Ord.cells]; omega⟩
  | true =>
    refine run_condT rfl rfl ?_
    (refine run_seq ?_)
    refine RunC.perm (h' := [blk b3 o.cells 35] ++ (blk b5 (outV a c ⟨o, m.fs, m.qty, true, false, m.self, 0⟩) 66 :: blk b4 (outV none 0 ⟨o0, [], 0, false, false, false, 0⟩) 66 :: (blk b [v',w, .int .i64 m.last, .int .i64 m.no] 90 :: (H0' ++ H1) ++ A))) (fun x => by (first | rfl | (simp only [List.append_eq, cnt_append, cnt_cons, cnt_nil, blk]; omega) | (simp only [List.append_eq, cnt_append, cnt_cons, cnt_nil, blk]; done))) ?_
    refine RunC.freezeR ?_
    refine run_region_D mo ?_
    (refine runD_q 0 rfl rfl (by kernel_rfl) ?_; refine ⟨_, fun _ => ev_fieldAddr rfl rfl (fo rfl), ?_⟩; refine runD_q 1 rfl rfl (by kernel_rfl) ?_; refine ⟨_, fun _ => ev_loadK rfl rfl (sc rfl) (memR (memF (.head _))) rfl, ?_⟩; refine runD_q 2 rfl rfl (by kernel_rfl) ?_; refine ⟨_, fun _ => ev_fieldAddr rfl rfl (fo rfl), ?_⟩; refine runD_q 4 rfl rfl (by kernel_rfl) ?_; refine ⟨_, fun _ => ev_fieldAddr rfl rfl (fo rfl), ?_⟩; refine runD_q 5 rfl rfl (by kernel_rfl) ?_; refine ⟨_, fun _ => ev_loadK rfl rfl (sc rfl) (memR (memF (.head _))) rfl, ?_⟩; refine runD_1 3 (by kernel_rfl) rfl rfl rfl ?_; refine xel rfl (ev_loadK rfl rfl (sc rfl) (memF (.head _)) rfl) ?_; refine runL_nil ?_; refine endS_d rfl ?_; refine runD_q 6 rfl rfl (by kernel_rfl) ?_; refine ⟨_, fun _ => ev_min rfl rfl rfl, ?_⟩; refine runD_q 7 rfl rfl (by kernel_rfl) ?_; refine ⟨_, fun _ => ev_fieldAddr rfl rfl (fo rfl), ?_⟩; refine runD_1 8 (by kernel_rfl) rfl rfl rfl ?_; refine runL_store0 rfl rfl rfl rfl rfl (sz rfl) rfl rfl rfl rfl rfl ?_; refine runL_nil ?_; refine endS_n rfl ?_; refine runD_q 9 rfl rfl (by kernel_rfl) ?_; refine ⟨_, fun _ => ev_fieldAddr rfl rfl (fo rfl), ?_⟩; refine runD_1 10 (by kernel_rfl) rfl rfl rfl ?_; refine runL_store0 rfl rfl rfl rfl rfl (sz rfl) rfl rfl rfl rfl rfl ?_; refine runL_nil ?_; refine endS_n rfl ?_; refine runD_done (by kernel_rfl) ?_; refine then_normal ?_; refine run_region ?_; refine xep rfl rfl ?_; refine xel rfl (ev_loadAK rfl rfl (ag rfl) (sz rfl) (memF (.head _)) rfl) ?_)
    refine runL_callZ (blk b3 (wqs o m.qty (min o.show_ m.qty)).cells 35 :: blk b5 (outV a c ⟨o, m.fs, m.qty, true, false, m.self, 0⟩) 66 :: blk b4 (outV none 0 ⟨o0, [], 0, false, false, false, 0⟩) 66 :: A) (blk b [v',w, .int .i64 m.last, .int .i64 m.no] 90 :: (H1 ++ H0')) rfl rfl rfl rfl rfl rfl rfl (pf rfl) (fun x => by
      show cnt x ([blk b3 (wqs o m.qty (min o.show_ m.qty)).cells 35] ++ _) = _
      (first | rfl | (simp only [List.append_eq, cnt_append, cnt_cons, cnt_nil, blk]; omega) | (simp only [List.append_eq, cnt_append, cnt_cons, cnt_nil, blk]; done))) (sp_brest2 _ H1 H0' b v' w m.last m.no B.sells h1 (hw.side 2).1 (hw.side 2).2 (wqs o m.qty (min o.show_ m.qty)) hs) ?_
    rintro v3 _ ⟨v2', H1', h1', rfl⟩
    (refine runL_nil ?_; refine then_normal ?_; refine run_seq ?_; refine run_region ?_; refine xel rfl (ev_loadAK rfl rfl (ag rfl) (sz rfl) (memF (.tail _ (.head _))) rfl) ?_; refine runL_store2 rfl rfl rfl rfl rfl (sz rfl) rfl rfl rfl rfl rfl ?_; refine runL_nil ?_; refine then_normal ?_; refine run_ret ?_)
    exact ⟨_, .agg rfl (memF (.tail _ (.tail _ (.head _)))) (ag rfl) (sz rfl) rfl .nil, blk b [v',v2', .int .i64 m.last, .int .i64 m.no] 90 :: (H0' ++ H1') ++ A, [blk b3 (wqs o m.qty (min o.show_ m.qty)).cells 35, blk b5 (outV a c ⟨o, m.fs, m.qty, true, false, m.self, 0⟩) 66, blk b4 (outV a c ⟨o, m.fs, m.qty, true, false, m.self, 0⟩) 66], ⟨a, c, A, blk b [v',v2', .int .i64 m.last, .int .i64 m.no] 90 :: (H0' ++ H1'), rfl, own, ⟨v', v2', H0', H1', h0', h1', rfl⟩, rfl⟩, fun x => by simp only [List.append_eq, cnt_append, cnt_cons, cnt_nil, blk, outV, Ord.cells]; omega⟩
theorem sp_bin2 (F H : Heap) (b : Nat) (B : Bk) (hH : BkH b B H) (hw : BW B) (o : Ord) (hk : InI o.kind) (hn : 0 ≤ B.no) (hn2 : B.no ≤ 1099511627776) (hr : brefused o B = 0) (hs : o.side = 1) :
    Sp Tryz.prog F 52 [.pointer (some ⟨b, 0, none⟩), ov o] H (fun v h' => ∃ a c A H', v = .agg ⟨outV a c (badd o B).1⟩ ∧ OwnS 93 21 (.slice a (badd o B).1.fs.length c) (badd o B).1.fs.length (rows fcell (badd o B).1.fs) A ∧ BkH b (badd o B).2 H' ∧ h' = H' ++ A) := by
  have hr2 : right o = 0 := by
    unfold brefused at hr
    split at hr
    · cases hr
    · rename_i h; omega
  obtain ⟨-, -, -, -, -, -, -, -, -, -, hq1, hq2, -⟩ := right_zero hr2
  have hb : badd o B = (⟨o, (matchL o (B.side 2) B.last B.no).fs, (matchL o (B.side 2) B.last B.no).qty, decide (0 < (matchL o (B.side 2) B.last B.no).qty) && !(matchL o (B.side 2) B.last B.no).self && rests o, false, (matchL o (B.side 2) B.last B.no).self, 0⟩,
      if (decide (0 < (matchL o (B.side 2) B.last B.no).qty) && !(matchL o (B.side 2) B.last B.no).self && rests o) = true then ((B.put 2 (matchL o (B.side 2) B.last B.no).lvs).tell (matchL o (B.side 2) B.last B.no).last (matchL o (B.side 2) B.last B.no).no).put 1 (restL (wqs o (matchL o (B.side 2) B.last B.no).qty (min o.show_ (matchL o (B.side 2) B.last B.no).qty)) B.buys)
      else (B.put 2 (matchL o (B.side 2) B.last B.no).lvs).tell (matchL o (B.side 2) B.last B.no).last (matchL o (B.side 2) B.last B.no).no) := by
    unfold badd
    rw [if_neg (by rw [hr]; simp), hs]; rfl
  rw [hb]
  have q2 := fun F => sp_brests F o
  refine Sp.up ?_
  refine sp_of_codeR Tryz.func52 rfl rfl ?_
  (refine run_seq ?_; refine run_region ?_; refine runL_box rfl rfl rfl rfl rfl rfl (fun _ => ?_); refine runL_alloc rfl rfl rfl rfl rfl ze66 (fun _ => ?_); refine runL_nil ?_; refine then_normal ?_; refine run_seq ?_; refine run_region ?_; refine xel rfl (ev_loadAK rfl rfl (ag rfl) (sz rfl) (memF (.tail _ (.head _))) rfl) ?_; refine xel rfl (ev_fieldAddr rfl rfl (fo rfl)) ?_; refine xel rfl (ev_loadK rfl rfl (sc rfl) (memF (.tail _ (.head _))) rfl) ?_; refine xel rfl (ev_build rfl pl66 rfl) ?_; refine runL_alloc rfl rfl rfl rfl rfl ze66 (fun _ => ?_); refine runL_store0 rfl rfl rfl rfl rfl (sz rfl) rfl rfl rfl rfl rfl ?_; refine runL_nil ?_; refine then_normal ?_; (iterate 2 refine run_seq ?_); refine run_region ?_; refine xep rfl rfl ?_; refine xel rfl (ev_loadAK rfl rfl (ag rfl) (sz rfl) (memF (.tail _ (.tail _ (.head _)))) rfl) ?_)
  rename_i b3 b4 b5
  refine runL_ev rfl rfl rfl rfl (ev_callQ rfl rfl rfl (pf rfl) (sp_brefused _ b B (hH.in fun x m => by simp [m]) hw o hk)) ?_
  rw [hr]
  (refine xel rfl (ev_fieldAddr rfl rfl (fo rfl)) ?_; refine runL_store0 rfl rfl rfl rfl rfl (sz rfl) rfl rfl rfl rfl rfl ?_; refine runL_nil ?_; refine then_normal ?_; refine run_seq ?_; refine run_region ?_; refine xel rfl (ev_fieldAddr rfl rfl (fo rfl)) ?_; refine xel rfl (ev_loadK rfl rfl (sc rfl) (memF (.head _)) rfl) ?_; refine xep rfl rfl ?_; refine runL_nil ?_; refine then_normal ?_)
  refine run_condF rfl rfl ?_
  (refine run_skip ?_; refine then_normal ?_; refine run_seq ?_; refine run_region ?_; refine xep rfl rfl ?_; refine xel rfl (ev_loadAK rfl rfl (ag rfl) (sz rfl) (memF (.tail _ (.tail _ (.head _)))) rfl) ?_)
  obtain ⟨w, v, H1, H0, h1, h0, rfl⟩ := hH
  have hsd := hw.side 2
  refine runL_callZ (blk b5 (outV none 0 ⟨o, [], o.qty, false, false, false, 0⟩) 66 :: blk b4 (outV none 0 ⟨o0, [], 0, false, false, false, 0⟩) 66 :: [blk b3 o.cells 35]) (blk b [w,v, .int .i64 B.last, .int .i64 B.no] 90 :: (H0 ++ H1)) rfl rfl rfl rfl rfl rfl rfl (pf rfl) (fun x => by
    show cnt x (blk b5 (outV none 0 ⟨o, [], o.qty, false, false, false, 0⟩) 66 :: blk b4 (outV none 0 ⟨o0, [], 0, false, false, false, 0⟩) 66 :: blk b3 o.cells 35 :: _) = _
    (first | rfl | (simp only [List.append_eq, cnt_append, cnt_cons, cnt_nil, blk]; omega) | (simp only [List.append_eq, cnt_append, cnt_cons, cnt_nil, blk]; done))) (sp_bmatch2 _ H0 H1 b w v B.last B.no (B.side 2) h0 hsd.1 hsd.2 o (by omega) (by omega) hq2 hn hn2) ?_
  rintro r _ ⟨a, c, A, v', H0', rfl, own, h0', rfl⟩
  generalize matchL o (B.side 2) B.last B.no = m at *
  ((iterate 4 refine xep rfl rfl ?_); refine xel rfl (ev_fieldAddr rfl rfl (fo rfl)) ?_; refine runL_store0 rfl rfl rfl rfl rfl (sz rfl) rfl rfl rfl rfl rfl ?_; refine xel rfl (ev_fieldAddr rfl rfl (fo rfl)) ?_; refine runL_store0 rfl rfl rfl rfl rfl (sz rfl) rfl rfl rfl rfl rfl ?_; refine xel rfl (ev_fieldAddr rfl rfl (fo rfl)) ?_; refine runL_store0 rfl rfl rfl rfl rfl (sz rfl) rfl rfl rfl rfl rfl ?_; refine runL_nil ?_; refine then_normal ?_; refine run_seq ?_; refine run_region ?_; refine xel rfl (ev_fieldAddr rfl rfl (fo rfl)) ?_; refine xel rfl (ev_loadK rfl rfl (sc rfl) (memF (.head _)) rfl) ?_; (iterate 2 refine xep rfl rfl ?_); refine xgl rfl rfl (fun hq => ev_fieldAddr rfl rfl (fo rfl)) ?_; refine xgl rfl rfl (fun hq => ev_loadK rfl rfl (sc rfl) (memF (.head _)) rfl) ?_; refine xgp rfl rfl rfl ?_; (iterate 2 refine xep rfl rfl ?_); refine xgl rfl rfl (fun hq => ev_loadAK rfl rfl (ag rfl) (sz rfl) (memF (.tail _ (.tail _ (.head _)))) rfl) ?_; refine xgl rfl rfl (fun hq => ev_callQ rfl rfl rfl (pf rfl) (q2 ..)) ?_; refine xep rfl rfl ?_; refine xel rfl (ev_fieldAddr rfl rfl (fo rfl)) ?_; refine runL_store0 rfl rfl rfl rfl rfl (sz rfl) rfl rfl rfl rfl rfl ?_; refine runL_nil ?_; refine then_normal ?_; (iterate 2 refine run_seq ?_); refine run_region ?_; refine xel rfl (ev_fieldAddr rfl rfl (fo rfl)) ?_; refine xel rfl (ev_loadK rfl rfl (sc rfl) (memF (.head _)) rfl) ?_; refine runL_nil ?_; refine then_normal ?_)
  generalize (decide (0 < m.qty) && !m.self && rests o) = rr at *
  refine RunC.perm (h' := blk b5 (outV a c ⟨o, m.fs, m.qty, rr, false, m.self, 0⟩) 66 :: blk b4 (outV none 0 ⟨o0, [], 0, false, false, false, 0⟩) 66 :: blk b3 o.cells 35 :: (blk b [w,v', .int .i64 m.last, .int .i64 m.no] 90 :: (H0' ++ H1) ++ A)) (fun x => rfl) ?_
  cases rr with
  | false =>
    refine run_condF rfl rfl ?_
    (refine run_skip ?_; refine then_normal ?_; refine run_seq ?_; refine run_region ?_; refine xel rfl (ev_loadAK rfl rfl (ag rfl) (sz rfl) (memF (.head _)) rfl) ?_; refine runL_store1 rfl rfl rfl rfl rfl (sz rfl) rfl rfl rfl rfl rfl ?_; refine runL_nil ?_; refine then_normal ?_; refine run_ret ?_)
    exact ⟨_, .agg rfl (memF (.tail _ (.head _))) (ag rfl) (sz rfl) rfl .nil, blk b [w,v', .int .i64 m.last, .int .i64 m.no] 90 :: (H1 ++ H0') ++ A, [blk b5 (outV a c ⟨o, m.fs, m.qty, false, false, m.self, 0⟩) 66, blk b4 (outV a c ⟨o, m.fs, m.qty, false, false, m.self, 0⟩) 66, blk b3 o.cells 35], ⟨a, c, A, blk b [w,v', .int .i64 m.last, .int .i64 m.no] 90 :: (H1 ++ H0'), rfl, own, ⟨w, v', H1, H0', h1, h0', rfl⟩, rfl⟩, fun x => by simp only [List.append_eq, cnt_append, cnt_cons, cnt_nil, blk, outV, Ord.cells]; omega⟩
  | true =>
    refine run_condT rfl rfl ?_
    (refine run_seq ?_)
    refine RunC.perm (h' := [blk b3 o.cells 35] ++ (blk b5 (outV a c ⟨o, m.fs, m.qty, true, false, m.self, 0⟩) 66 :: blk b4 (outV none 0 ⟨o0, [], 0, false, false, false, 0⟩) 66 :: (blk b [w,v', .int .i64 m.last, .int .i64 m.no] 90 :: (H0' ++ H1) ++ A))) (fun x => by (first | rfl | (simp only [List.append_eq, cnt_append, cnt_cons, cnt_nil, blk]; omega) | (simp only [List.append_eq, cnt_append, cnt_cons, cnt_nil, blk]; done))) ?_
    refine RunC.freezeR ?_
    refine run_region_D mo ?_
    (refine runD_q 0 rfl rfl (by kernel_rfl) ?_; refine ⟨_, fun _ => ev_fieldAddr rfl rfl (fo rfl), ?_⟩; refine runD_q 1 rfl rfl (by kernel_rfl) ?_; refine ⟨_, fun _ => ev_loadK rfl rfl (sc rfl) (memR (memF (.head _))) rfl, ?_⟩; refine runD_q 2 rfl rfl (by kernel_rfl) ?_; refine ⟨_, fun _ => ev_fieldAddr rfl rfl (fo rfl), ?_⟩; refine runD_q 4 rfl rfl (by kernel_rfl) ?_; refine ⟨_, fun _ => ev_fieldAddr rfl rfl (fo rfl), ?_⟩; refine runD_q 5 rfl rfl (by kernel_rfl) ?_; refine ⟨_, fun _ => ev_loadK rfl rfl (sc rfl) (memR (memF (.head _))) rfl, ?_⟩; refine runD_1 3 (by kernel_rfl) rfl rfl rfl ?_; refine xel rfl (ev_loadK rfl rfl (sc rfl) (memF (.head _)) rfl) ?_; refine runL_nil ?_; refine endS_d rfl ?_; refine runD_q 6 rfl rfl (by kernel_rfl) ?_; refine ⟨_, fun _ => ev_min rfl rfl rfl, ?_⟩; refine runD_q 7 rfl rfl (by kernel_rfl) ?_; refine ⟨_, fun _ => ev_fieldAddr rfl rfl (fo rfl), ?_⟩; refine runD_1 8 (by kernel_rfl) rfl rfl rfl ?_; refine runL_store0 rfl rfl rfl rfl rfl (sz rfl) rfl rfl rfl rfl rfl ?_; refine runL_nil ?_; refine endS_n rfl ?_; refine runD_q 9 rfl rfl (by kernel_rfl) ?_; refine ⟨_, fun _ => ev_fieldAddr rfl rfl (fo rfl), ?_⟩; refine runD_1 10 (by kernel_rfl) rfl rfl rfl ?_; refine runL_store0 rfl rfl rfl rfl rfl (sz rfl) rfl rfl rfl rfl rfl ?_; refine runL_nil ?_; refine endS_n rfl ?_; refine runD_done (by kernel_rfl) ?_; refine then_normal ?_; refine run_region ?_; refine xep rfl rfl ?_; refine xel rfl (ev_loadAK rfl rfl (ag rfl) (sz rfl) (memF (.head _)) rfl) ?_)
    refine runL_callZ (blk b3 (wqs o m.qty (min o.show_ m.qty)).cells 35 :: blk b5 (outV a c ⟨o, m.fs, m.qty, true, false, m.self, 0⟩) 66 :: blk b4 (outV none 0 ⟨o0, [], 0, false, false, false, 0⟩) 66 :: A) (blk b [w,v', .int .i64 m.last, .int .i64 m.no] 90 :: (H1 ++ H0')) rfl rfl rfl rfl rfl rfl rfl (pf rfl) (fun x => by
      show cnt x ([blk b3 (wqs o m.qty (min o.show_ m.qty)).cells 35] ++ _) = _
      (first | rfl | (simp only [List.append_eq, cnt_append, cnt_cons, cnt_nil, blk]; omega) | (simp only [List.append_eq, cnt_append, cnt_cons, cnt_nil, blk]; done))) (sp_brest1 _ H1 H0' b v' w m.last m.no B.buys h1 (hw.side 1).1 (hw.side 1).2 (wqs o m.qty (min o.show_ m.qty)) hs) ?_
    rintro v3 _ ⟨v2', H1', h1', rfl⟩
    (refine runL_nil ?_; refine then_normal ?_; refine run_seq ?_; refine run_region ?_; refine xel rfl (ev_loadAK rfl rfl (ag rfl) (sz rfl) (memF (.tail _ (.head _))) rfl) ?_; refine runL_store2 rfl rfl rfl rfl rfl (sz rfl) rfl rfl rfl rfl rfl ?_; refine runL_nil ?_; refine then_normal ?_; refine run_ret ?_)
    exact ⟨_, .agg rfl (memF (.tail _ (.tail _ (.head _)))) (ag rfl) (sz rfl) rfl .nil, blk b [v2',v', .int .i64 m.last, .int .i64 m.no] 90 :: (H1' ++ H0') ++ A, [blk b3 (wqs o m.qty (min o.show_ m.qty)).cells 35, blk b5 (outV a c ⟨o, m.fs, m.qty, true, false, m.self, 0⟩) 66, blk b4 (outV a c ⟨o, m.fs, m.qty, true, false, m.self, 0⟩) 66], ⟨a, c, A, blk b [v2',v', .int .i64 m.last, .int .i64 m.no] 90 :: (H1' ++ H0'), rfl, own, ⟨v2', v', H1', H0', h1', h0', rfl⟩, rfl⟩, fun x => by simp only [List.append_eq, cnt_append, cnt_cons, cnt_nil, blk, outV, Ord.cells]; omega⟩
theorem sp_badd (F H : Heap) (b : Nat) (B : Bk) (hH : BkH b B H) (hw : BW B) (o : Ord) (hk : InI o.kind) (hn : 0 ≤ B.no) (hn2 : B.no ≤ 1099511627776) :
    Sp Tryz.prog F 52 [.pointer (some ⟨b, 0, none⟩), ov o] H (fun v h' => ∃ a c A H', v = .agg ⟨outV a c (badd o B).1⟩ ∧ OwnS 93 21 (.slice a (badd o B).1.fs.length c) (badd o B).1.fs.length (rows fcell (badd o B).1.fs) A ∧ BkH b (badd o B).2 H' ∧ h' = H' ++ A) := by
  by_cases hr : brefused o B = 0
  · have hr2 : right o = 0 := by
      unfold brefused at hr
      split at hr
      · cases hr
      · rename_i h; omega
    obtain ⟨-, -, -, -, -, -, hs1, hs2, -⟩ := right_zero hr2
    rcases (by omega : o.side = 2 ∨ o.side = 1) with hs | hs
    · exact sp_bin1 F H b B hH hw o hk hn hn2 hr hs
    · exact sp_bin2 F H b B hH hw o hk hn hn2 hr hs
  · have hb : badd o B = (⟨o, [], o.qty, false, false, false, brefused o B⟩, B) := by unfold badd; rw [if_pos hr]
    rw [hb]
    refine Sp.up ?_
    refine sp_of_codeR Tryz.func52 rfl rfl ?_
    (refine run_seq ?_; refine run_region ?_; refine runL_box rfl rfl rfl rfl rfl rfl (fun _ => ?_); refine runL_alloc rfl rfl rfl rfl rfl ze66 (fun _ => ?_); refine runL_nil ?_; refine then_normal ?_; refine run_seq ?_; refine run_region ?_; refine xel rfl (ev_loadAK rfl rfl (ag rfl) (sz rfl) (memF (.tail _ (.head _))) rfl) ?_; refine xel rfl (ev_fieldAddr rfl rfl (fo rfl)) ?_; refine xel rfl (ev_loadK rfl rfl (sc rfl) (memF (.tail _ (.head _))) rfl) ?_; refine xel rfl (ev_build rfl pl66 rfl) ?_; refine runL_alloc rfl rfl rfl rfl rfl ze66 (fun _ => ?_); refine runL_store0 rfl rfl rfl rfl rfl (sz rfl) rfl rfl rfl rfl rfl ?_; refine runL_nil ?_; refine then_normal ?_; (iterate 2 refine run_seq ?_); refine run_region ?_; refine xep rfl rfl ?_; refine xel rfl (ev_loadAK rfl rfl (ag rfl) (sz rfl) (memF (.tail _ (.tail _ (.head _)))) rfl) ?_)
    rename_i b3 b4 b5
    refine runL_ev rfl rfl rfl rfl (ev_callQ rfl rfl rfl (pf rfl) (sp_brefused _ b B (hH.in fun x m => by simp [m]) hw o hk)) ?_
    generalize brefused o B = e at *
    (refine xel rfl (ev_fieldAddr rfl rfl (fo rfl)) ?_; refine runL_store0 rfl rfl rfl rfl rfl (sz rfl) rfl rfl rfl rfl rfl ?_; refine runL_nil ?_; refine then_normal ?_; refine run_seq ?_; refine run_region ?_; refine xel rfl (ev_fieldAddr rfl rfl (fo rfl)) ?_; refine xel rfl (ev_loadK rfl rfl (sc rfl) (memF (.head _)) rfl) ?_; refine xep rfl rfl ?_; refine runL_nil ?_; refine then_normal ?_)
    refine run_condT rfl (by simp [hr]) ?_
    (refine run_seq ?_; refine run_region ?_; refine xel rfl (ev_loadAK rfl rfl (ag rfl) (sz rfl) (memF (.head _)) rfl) ?_; refine runL_store1 rfl rfl rfl rfl rfl (sz rfl) rfl rfl rfl rfl rfl ?_; refine runL_nil ?_; refine then_normal ?_; refine run_ret ?_; refine then_ret ?_)
    exact ⟨_, .agg rfl (memF (.tail _ (.head _))) (ag rfl) (sz rfl) rfl .nil, H, [blk b5 (outV none 0 ⟨o, [], o.qty, false, false, false, e⟩) 66, blk b4 (outV none 0 ⟨o, [], o.qty, false, false, false, e⟩) 66, blk b3 o.cells 35], ⟨none, 0, [], H, rfl, .nil _ _, hH, by rw [List.append_nil]⟩, fun x => by
      show cnt x (blk b5 (outV none 0 ⟨o, [], o.qty, false, false, false, e⟩) 66 :: blk b4 (outV none 0 ⟨o, [], o.qty, false, false, false, e⟩) 66 :: blk b3 o.cells 35 :: H) = _
      (first | rfl | (simp only [List.append_eq, cnt_append, cnt_cons, cnt_nil, blk]; omega) | (simp only [List.append_eq, cnt_append, cnt_cons, cnt_nil, blk]; done))⟩
end Go.Proofs.YtmelpobcpcmdoaaGreat

set_option autoImplicit false
set_option linter.unusedSectionVars false
set_option linter.unusedSimpArgs false
set_option linter.unusedVariables false
set_option maxRecDepth 4000
namespace Go.Proofs.YtmelpobcpcmdoaaGreat
open Go Go.SL Go.Proofs
variable [Base]
/-- What is so of every match. -/
structure MatchIs (o : Ord) (l : List Lv) (no : Int) (m : MR) : Prop where
  ok : ∀ lv ∈ m.lvs, lv.Ok
  len : lenL m.lvs ≤ lenL l
  qty : 0 ≤ m.qty ∧ m.qty ≤ o.qty
  num : (m.fs.length : Int) ≤ o.qty - m.qty
  no : m.no = no + m.fs.length
theorem match_is : ∀ (l : List Lv) (o : Ord) (last no : Int), (∀ lv ∈ l, lv.Ok) → 0 ≤ o.qty → MatchIs o l no (matchL o l last no)
  | [], o, last, no, _, hq => ⟨fun lv m => (nomatch m), Nat.le_refl _, ⟨hq, Int.le_refl _⟩, by simp [matchL], by simp [matchL]⟩
  | lv :: r, o, last, no, hok, hq => by
    have hl := hok lv (by simp)
    have hr : ∀ lv ∈ r, lv.Ok := fun x m => hok x (List.mem_cons_of_mem _ m)
    unfold matchL
    split
    · have t := take_is (firm := o.firm) o.qty.toNat o.qty lv.es (Nat.le_refl _) hq hl.1
      generalize take o.firm o.qty lv.es = T at *
      have hfl := flls_len o lv.p no T.1
      split
      · refine ⟨fun x m => ?_, ?_, ⟨by have := t.le; show 0 ≤ o.qty - _; omega, by have := t.le; show o.qty - _ ≤ _; omega⟩, by have := t.num; show ((flls o lv.p no T.1).length : Int) ≤ o.qty - (o.qty - sumH T.1); omega, by show no + (T.1.length : Int) = no + ((flls o lv.p no T.1).length : Int); omega⟩
        · dsimp only at m
          split at m
          · exact hr x m
          · rename_i he
            rcases List.mem_cons.1 m with rfl | m
            · exact ⟨t.lb, he⟩
            · exact hr x m
        · dsimp only
          have := t.len
          split
          · simp only [lenL]; omega
          · simp only [lenL]; omega
      · split
        · have ih := match_is r (wq o (o.qty - sumH T.1)) (if T.1 = [] then last else lv.p) (no + T.1.length) hr (by have := t.le; show 0 ≤ o.qty - _; omega)
          obtain ⟨i1, i2, i3, i4, i5⟩ := ih
          have hwq : (wq o (o.qty - sumH T.1)).qty = o.qty - sumH T.1 := rfl
          have t1 := t.le
          have t2 := t.num
          refine ⟨i1, by simp only [lenL]; show lenL (matchL _ _ _ _).lvs ≤ _; omega, ⟨i3.1, by show (matchL _ _ _ _).qty ≤ _; omega⟩, ?_, ?_⟩
          · show (((flls o lv.p no T.1 ++ _).length : Nat) : Int) ≤ o.qty - (matchL _ _ _ _).qty
            rw [List.length_append, hfl]; push_cast; omega
          · show (matchL _ _ _ _).no = no + (((flls o lv.p no T.1 ++ _).length : Nat) : Int)
            rw [List.length_append, hfl, i5]; push_cast; omega
        · rename_i he
          refine ⟨fun x m => ?_, ?_, ⟨by have := t.le; show 0 ≤ o.qty - _; omega, by have := t.le; show o.qty - _ ≤ _; omega⟩, by have := t.num; show ((flls o lv.p no T.1).length : Int) ≤ o.qty - (o.qty - sumH T.1); omega, by show no + (T.1.length : Int) = no + ((flls o lv.p no T.1).length : Int); omega⟩
          · rcases List.mem_cons.1 m with rfl | m
            · exact ⟨t.lb, he⟩
            · exact hr x m
          · have := t.len
            simp only [lenL]; omega
    · exact ⟨hok, Nat.le_refl _, ⟨hq, Int.le_refl _⟩, by simp, by simp⟩
theorem lenL_set {l : List Lv} {k : Nat} {x y : Lv} (h : l[k]? = some x) : lenL (l.set k y) + x.es.length = lenL l + y.es.length := by
  have hi := (List.getElem?_eq_some_iff.1 h).1
  conv => rhs; rw [split_at h]
  rw [List.set_eq_take_append_cons_drop, if_pos hi, lenL_append, lenL_append]; simp only [lenL]; omega
theorem restL_is {o : Ord} {l : List Lv} (hok : ∀ lv ∈ l, lv.Ok) (h64 : lenL l ≤ 65000) (hq : 1 ≤ o.qty ∧ o.qty ≤ 1048576) (hs : 0 ≤ o.show_) : (∀ lv ∈ restL o l, lv.Ok) ∧ lenL (restL o l) = lenL l + 1 := by
  obtain ⟨lv, hlv, h1, h2⟩ := restP_get o l
  have hres : restL o l = (restP o l).set (restK o l) ⟨lv.p, lv.es ++ [⟨o, tip o⟩]⟩ := by unfold restL; rw [hlv]
  have hlen := lenL_set (y := ⟨lv.p, lv.es ++ [⟨o, tip o⟩]⟩) hlv
  have htip : 1 ≤ tip o ∧ tip o ≤ o.qty := by unfold tip; split <;> omega
  rw [hres]
  have key : ∀ es : List Ent, (es = [] ∨ LB es) → es.length ≤ 65000 → LB (es ++ [⟨o, tip o⟩]) ∧ es ++ [⟨o, tip o⟩] ≠ [] := by
    intro es he hl
    refine ⟨⟨by rw [List.length_append]; show _ + 1 ≤ _; omega, fun x m => ?_⟩, by simp⟩
    rcases List.mem_append.1 m with m | m
    · rcases he with rfl | he
      · cases m
      · exact he.2 x m
    · simp only [List.mem_singleton] at m
      subst m; exact ⟨hq.1, hq.2, htip.1, htip.2⟩
  have hlves : (lv.es = [] ∨ LB lv.es) ∧ lv.es.length ≤ 65000 := by
    cases hri : restI o l with
    | false =>
      have hm := List.mem_of_getElem? (h1 hri)
      have := lenL_mem hm
      exact ⟨.inr (hok lv hm).1, by omega⟩
    | true => rw [h2 hri]; exact ⟨.inl rfl, by simp⟩
  have hP : lenL (restP o l) = lenL l ∧ ∀ x ∈ restP o l, x.Ok ∨ x = lv := by
    cases hri : restI o l with
    | false =>
      have e : restP o l = l := by unfold restP; rw [if_neg (by rw [hri]; simp)]
      rw [e]; exact ⟨rfl, fun x m => .inl (hok x m)⟩
    | true =>
      have e : restP o l = l.take (restK o l) ++ ⟨o.price, []⟩ :: l.drop (restK o l) := by unfold restP; rw [if_pos hri]
      rw [e]
      refine ⟨?_, fun x m => ?_⟩
      · conv => rhs; rw [← List.take_append_drop (restK o l) l]
        rw [lenL_append, lenL_append]; simp [lenL]
      · rcases List.mem_append.1 m with m | m
        · exact .inl (hok x (List.mem_of_mem_take m))
        · rcases List.mem_cons.1 m with rfl | m
          · exact .inr (h2 hri).symm
          · exact .inl (hok x (List.mem_of_mem_drop m))
  refine ⟨fun x m => ?_, ?_⟩
  · obtain ⟨i, hi⟩ := List.mem_iff_getElem?.1 m
    by_cases e : restK o l = i
    · subst e
      rw [List.getElem?_set_self (List.getElem?_eq_some_iff.1 hlv).1] at hi
      cases hi
      exact key _ hlves.1 hlves.2
    · rw [List.getElem?_set_ne e] at hi
      rcases hP.2 x (List.mem_of_getElem? hi) with h | h
      · exact h
      · subst h
        -- the level at hand stands elsewhere too: it is one of the old ones
        cases hri : restI o l with
        | false => exact hok x (List.mem_of_getElem? (h1 hri))
        | true =>
          exfalso
          have e2 : restP o l = l.take (restK o l) ++ ⟨o.price, []⟩ :: l.drop (restK o l) := by unfold restP; rw [if_pos hri]
          have hk := restK_le o l
          rw [e2] at hi
          have hx0 := h2 hri
          have hne : ∀ y ∈ l, y.es ≠ [] := fun y m => (hok y m).2
          rcases Nat.lt_or_ge i (restK o l) with hlt | hge
          · rw [List.getElem?_append_left (by rw [List.length_take]; omega)] at hi
            exact hne x (List.mem_of_mem_take (List.mem_of_getElem? hi)) (by rw [hx0])
          · rw [List.getElem?_append_right (by rw [List.length_take]; omega), List.length_take, Nat.min_eq_left hk] at hi
            obtain ⟨d, hd⟩ : ∃ d, i - restK o l = d + 1 := ⟨i - restK o l - 1, by omega⟩
            rw [hd, List.getElem?_cons_succ] at hi
            exact hne x (List.mem_of_mem_drop (List.mem_of_getElem? hi)) (by rw [hx0])
  · simp only [List.length_append, List.length_singleton] at hlen
    have := hP.1
    omega
theorem empty_BW : BW empty := ⟨fun _ m => (nomatch m), fun _ m => (nomatch m), by decide⟩
theorem refused_zero {o : Ord} {B : Bk} (h : brefused o B = 0) : right o = 0 ∧ o.stop = 0 ∧ (bfind o.trader o.id B).2 = false ∧ (rests o = true → lenL B.buys + lenL B.sells < 64) ∧ (o.kind = 5 → meets o (B.side (3 - o.side)) = false) ∧ (o.kind = 4 → fillsL o (B.side (3 - o.side)) = true) := by
  unfold brefused at h
  split at h
  · cases h
  split at h
  · cases h
  split at h
  · cases h
  split at h
  · cases h
  split at h
  · cases h
  rename_i h1 h2 h3 h4 h5
  refine ⟨by omega, by omega, by simpa using h2, fun h => ?_, fun h => ?_, fun h => ?_⟩
  · have : ¬ 64 ≤ lenL B.buys + lenL B.sells := fun h9 => h3 ⟨h, h9⟩
    omega
  · simpa using fun h9 => h4 ⟨h, h9⟩
  · simpa using fun h9 => h5 ⟨h, h9⟩
/-- A book stays one that its functions can work on. -/
theorem badd_BW {o : Ord} {B : Bk} (hw : BW B) (hn : 0 ≤ B.no) : BW (badd o B).2 ∧ B.no ≤ (badd o B).2.no ∧ (badd o B).2.no ≤ B.no + 1048576 := by
  unfold badd
  split
  · exact ⟨hw, Int.le_refl _, by show B.no ≤ B.no + _; omega⟩
  rename_i hr
  obtain ⟨r1, r2, r3, r4, -, -⟩ := refused_zero (o := o) (B := B) (by simpa using hr)
  obtain ⟨-, -, -, -, -, -, hs1, hs2, -, -, hq1, hq2, hsh, -⟩ := right_zero r1
  have hlen := hw.len
  have M := match_is (B.side (3 - o.side)) o B.last B.no (hw.side _).1 (by omega)
  generalize matchL o (B.side (3 - o.side)) B.last B.no = m at *
  obtain ⟨m1, m2, m3, m4, m5⟩ := M
  dsimp only
  have hno : B.no ≤ m.no ∧ m.no ≤ B.no + 1048576 := by omega
  rcases (by omega : o.side = 1 ∨ o.side = 2) with hs | hs
  all_goals rw [hs] at m2 ⊢
  · have m2 : lenL m.lvs ≤ lenL B.sells := m2
    split
    · rename_i hrr
      simp only [Bool.and_eq_true, decide_eq_true_eq] at hrr
      have h64 := r4 hrr.2
      obtain ⟨k1, k2⟩ := restL_is (o := wqs o m.qty (min o.show_ m.qty)) (l := B.buys) hw.buys (by omega) (by show 1 ≤ m.qty ∧ m.qty ≤ _; omega) (by show 0 ≤ min o.show_ m.qty; omega)
      exact ⟨⟨k1, m1, by show lenL (restL _ B.buys) + lenL m.lvs ≤ 64; omega⟩, hno⟩
    · exact ⟨⟨hw.buys, m1, by show lenL B.buys + lenL m.lvs ≤ 64; omega⟩, hno⟩
  · have m2 : lenL m.lvs ≤ lenL B.buys := m2
    split
    · rename_i hrr
      simp only [Bool.and_eq_true, decide_eq_true_eq] at hrr
      have h64 := r4 hrr.2
      obtain ⟨k1, k2⟩ := restL_is (o := wqs o m.qty (min o.show_ m.qty)) (l := B.sells) hw.sells (by omega) (by show 1 ≤ m.qty ∧ m.qty ≤ _; omega) (by show 0 ≤ min o.show_ m.qty; omega)
      exact ⟨⟨m1, k1, by show lenL m.lvs + lenL (restL _ B.sells) ≤ 64; omega⟩, hno⟩
    · exact ⟨⟨m1, hw.sells, by show lenL m.lvs + lenL B.sells ≤ 64; omega⟩, hno⟩
end Go.Proofs.YtmelpobcpcmdoaaGreat
