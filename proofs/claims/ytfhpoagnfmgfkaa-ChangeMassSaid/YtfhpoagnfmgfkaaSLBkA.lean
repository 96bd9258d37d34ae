/- Contracts of functions of the given program over its translation, each proved by walking its text; used by the laws' rows. It proves no given statement by itself. -/
import Derived.Test.YtfhpoagnfmgfkaaSLBkN
import Derived.Test.YtfhpoagnfmgfkaaSLBkR
set_option autoImplicit false
set_option linter.unusedSectionVars false
set_option linter.unusedSimpArgs false
set_option linter.unusedVariables false
set_option maxRecDepth 4000
set_option maxHeartbeats 32000000
namespace Go.Proofs.Ytfhpoagnfmgfkaa
open Go Go.SL Go.Proofs
/-- What comes of an order. -/
structure Out where
  order : Ord
  fs : List Fl
  left : Int
  rests : Bool
  waits : Bool
  self : Bool
  err : Int
def outV (a : Option Addr) (c : Nat) (x : Out) : List Value := [.int .i64 x.order.trader, .int .i64 x.order.id, .int .i64 x.order.firm, .int .i64 x.order.side, .int .i64 x.order.kind, .int .i64 x.order.price, .int .i64 x.order.qty, .int .i64 x.order.show_, .int .i64 x.order.stop,
  .slice a x.fs.length c, .int .i64 x.left, .bool x.rests, .bool x.waits, .bool x.self, .int .i64 x.err]
def wqs (o : Ord) (q s : Int) : Ord := ⟨o.trader, o.id, o.firm, o.side, o.kind, o.price, q, s, o.stop⟩
/-- What a book makes of an order. -/
def badd (o : Ord) (B : Bk) : Out × Bk :=
  if brefused o B ≠ 0 then (⟨o, [], o.qty, false, false, false, brefused o B⟩, B)
  else
    let m := matchL o (B.side (3 - o.side)) B.last B.no
    let B1 := (B.put (3 - o.side) m.lvs).tell m.last m.no
    let r := decide (0 < m.qty) && !m.self && rests o
    (⟨o, m.fs, m.qty, r, false, m.self, 0⟩, if r = true then B1.put o.side (restL (wqs o m.qty (min o.show_ m.qty)) (B1.side o.side)) else B1)
variable [Base]
theorem sp_bin1 (F H : Heap) (b : Nat) (B : Bk) (hH : BkH b B H) (hw : BW B) (o : Ord) (hk : InI o.kind) (hn : 0 ≤ B.no) (hn2 : B.no ≤ 1099511627776) (hr : brefused o B = 0) (hs : o.side = 2) :
    Sp Try.prog F 57 [.pointer (some ⟨b, 0, none⟩), ov o] H (fun v h' => ∃ a c A H', v = .agg ⟨outV a c (badd o B).1⟩ ∧ OwnS 61 21 (.slice a (badd o B).1.fs.length c) (badd o B).1.fs.length (rows fcell (badd o B).1.fs) A ∧ BkH b (badd o B).2 H' ∧ h' = H' ++ A) := by
  have hr2 : right o = 0 := by
    unfold brefused at hr
    split at hr
    · cases hr
    · rename_i h; omega
  obtain ⟨-, -, -, -, -, -, -, -, -, -, hq1, hq2, -⟩ := right_zero hr2
  have hb : badd o B = (⟨o, (matchL o (B.side 1) B.last B.no).fs, (matchL o (B.side 1) B.last B.no).qty, decide (0 < (matchL o (B.side 1) B.last B.no).qty) && !(matchL o (B.side 1) B.last B.no).self && rests o, false, (matchL o (B.side 1) B.last B.no).self, 0⟩,
      if (decide (0 < (matchL o (B.side 1) B.last B.no).qty) && !(matchL o (B.side 1) B.last B.no).self && rests o) = true then ((B.put 1 (matchL o (B.side 1) B.last B.no).lvs).tell (matchL o (B.side 1) B.last B.no).last (matchL o (B.side 1) B.last B.no).no).put 2 (restL (wqs o (matchL o (B.side 1) B.last B.no).qty (min o.show_ (matchL o (B.side 1) B.last B.no).qty)) B.sells)
      else (B.put 1 (matchL o (B.side 1) B.last B.no).lvs).tell (matchL o (B.side 1) B.last B.no).last (matchL o (B.side 1) B.last B.no).no) := by
    unfold badd
    rw [if_neg (by rw [hr]; simp), hs]; rfl
  rw [hb]
  have q2 := fun F => sp_brests F o
  refine Sp.up ?_
  refine sp_of_codeR Try.func57 rfl rfl ?_
  (refine run_seq ?_; refine run_region ?_; refine runL_box rfl rfl rfl rfl rfl rfl (fun _ => ?_); refine runL_alloc rfl rfl rfl rfl rfl ze51 (fun _ => ?_); refine runL_nil ?_; refine then_normal ?_; refine run_seq ?_; refine run_region ?_; refine xel rfl (ev_loadAK rfl rfl (ag rfl) (sz rfl) (memF (.tail _ (.head _))) rfl) ?_; refine xel rfl (ev_fieldAddr rfl rfl (fo rfl)) ?_; refine xel rfl (ev_loadK rfl rfl (sc rfl) (memF (.tail _ (.head _))) rfl) ?_; refine xel rfl (ev_build rfl pl51 rfl) ?_; refine runL_alloc rfl rfl rfl rfl rfl ze51 (fun _ => ?_); refine runL_store0 rfl rfl rfl rfl rfl (sz rfl) rfl rfl rfl rfl rfl ?_; refine runL_nil ?_; refine then_normal ?_; (iterate 2 refine run_seq ?_); refine run_region ?_; refine xep rfl rfl ?_; refine xel rfl (ev_loadAK rfl rfl (ag rfl) (sz rfl) (memF (.tail _ (.tail _ (.head _)))) rfl) ?_)
  rename_i b3 b4 b5
  refine runL_ev rfl rfl rfl rfl (ev_callQ rfl rfl rfl (pf rfl) (sp_brefused _ b B (hH.in fun x m => by simp [m]) hw o hk)) ?_
  rw [hr]
  (refine xel rfl (ev_fieldAddr rfl rfl (fo rfl)) ?_; refine runL_store0 rfl rfl rfl rfl rfl (sz rfl) rfl rfl rfl rfl rfl ?_; refine runL_nil ?_; refine then_normal ?_; refine run_seq ?_; refine run_region ?_; refine xel rfl (ev_fieldAddr rfl rfl (fo rfl)) ?_; refine xel rfl (ev_loadK rfl rfl (sc rfl) (memF (.head _)) rfl) ?_; refine xep rfl rfl ?_; refine runL_nil ?_; refine then_normal ?_)
  refine run_condF rfl rfl ?_
  (refine run_skip ?_; refine then_normal ?_; refine run_seq ?_; refine run_region ?_; refine xep rfl rfl ?_; refine xel rfl (ev_loadAK rfl rfl (ag rfl) (sz rfl) (memF (.tail _ (.tail _ (.head _)))) rfl) ?_)
  obtain ⟨v, w, H0, H1, h0, h1, rfl⟩ := hH
  have hsd := hw.side 1
  refine runL_callZ (blk b5 (outV none 0 ⟨o, [], o.qty, false, false, false, 0⟩) 51 :: blk b4 (outV none 0 ⟨o0, [], 0, false, false, false, 0⟩) 51 :: [blk b3 o.cells 24]) (blk b [v,w, .int .i64 B.last, .int .i64 B.no] 84 :: (H0 ++ H1)) rfl rfl rfl rfl rfl rfl rfl (pf rfl) (fun x => by
    show cnt x (blk b5 (outV none 0 ⟨o, [], o.qty, false, false, false, 0⟩) 51 :: blk b4 (outV none 0 ⟨o0, [], 0, false, false, false, 0⟩) 51 :: blk b3 o.cells 24 :: _) = _
    (first | rfl | (simp only [List.append_eq, cnt_append, cnt_cons, cnt_nil, blk]; omega) | (simp only [List.append_eq, cnt_append, cnt_cons, cnt_nil, blk]; done))) (sp_bmatch1 _ H0 H1 b w v B.last B.no (B.side 1) h0 hsd.1 hsd.2 o (by omega) (by omega) hq2 hn hn2) ?_
  rintro r _ ⟨a, c, A, v', H0', rfl, own, h0', rfl⟩
  generalize matchL o (B.side 1) B.last B.no = m at *
  ((iterate 4 refine xep rfl rfl ?_); refine xel rfl (ev_fieldAddr rfl rfl (fo rfl)) ?_; refine runL_store0 rfl rfl rfl rfl rfl (sz rfl) rfl rfl rfl rfl rfl ?_; refine xel rfl (ev_fieldAddr rfl rfl (fo rfl)) ?_; refine runL_store0 rfl rfl rfl rfl rfl (sz rfl) rfl rfl rfl rfl rfl ?_; refine xel rfl (ev_fieldAddr rfl rfl (fo rfl)) ?_; refine runL_store0 rfl rfl rfl rfl rfl (sz rfl) rfl rfl rfl rfl rfl ?_; refine runL_nil ?_; refine then_normal ?_; refine run_seq ?_; refine run_region ?_; refine xel rfl (ev_fieldAddr rfl rfl (fo rfl)) ?_; refine xel rfl (ev_loadK rfl rfl (sc rfl) (memF (.head _)) rfl) ?_; (iterate 2 refine xep rfl rfl ?_); refine xgl rfl rfl (fun hq => ev_fieldAddr rfl rfl (fo rfl)) ?_; refine xgl rfl rfl (fun hq => ev_loadK rfl rfl (sc rfl) (memF (.head _)) rfl) ?_; refine xgp rfl rfl rfl ?_; (iterate 2 refine xep rfl rfl ?_); refine xgl rfl rfl (fun hq => ev_loadAK rfl rfl (ag rfl) (sz rfl) (memF (.tail _ (.tail _ (.head _)))) rfl) ?_; refine xgl rfl rfl (fun hq => ev_callQ rfl rfl rfl (pf rfl) (q2 ..)) ?_; refine xep rfl rfl ?_; refine xel rfl (ev_fieldAddr rfl rfl (fo rfl)) ?_; refine runL_store0 rfl rfl rfl rfl rfl (sz rfl) rfl rfl rfl rfl rfl ?_; refine runL_nil ?_; refine then_normal ?_; (iterate 2 refine run_seq ?_); refine run_region ?_; refine xel rfl (ev_fieldAddr rfl rfl (fo rfl)) ?_; refine xel rfl (ev_loadK rfl rfl (sc rfl) (memF (.head _)) rfl) ?_; refine runL_nil ?_; refine then_normal ?_)
  generalize (decide (0 < m.qty) && !m.self && rests o) = rr at *
  refine RunC.perm (h' := blk b5 (outV a c ⟨o, m.fs, m.qty, rr, false, m.self, 0⟩) 51 :: blk b4 (outV none 0 ⟨o0, [], 0, false, false, false, 0⟩) 51 :: blk b3 o.cells 24 :: (blk b [v',w, .int .i64 m.last, .int .i64 m.no] 84 :: (H0' ++ H1) ++ A)) (fun x => rfl) ?_
  cases rr with
  | false =>
    refine run_condF rfl rfl ?_
    (refine run_skip ?_; refine then_normal ?_; refine run_seq ?_; refine run_region ?_; refine xel rfl (ev_loadAK rfl rfl (ag rfl) (sz rfl) (memF (.head _)) rfl) ?_; refine runL_store1 rfl rfl rfl rfl rfl (sz rfl) rfl rfl rfl rfl rfl ?_; refine runL_nil ?_; refine then_normal ?_; refine run_ret ?_)
    exact ⟨_, .agg rfl (memF (.tail _ (.head _))) (ag rfl) (sz rfl) rfl .nil, blk b [v',w, .int .i64 m.last, .int .i64 m.no] 84 :: (H0' ++ H1) ++ A, [blk b5 (outV a c ⟨o, m.fs, m.qty, false, false, m.self, 0⟩) 51, blk b4 (outV a c ⟨o, m.fs, m.qty, false, false, m.self, 0⟩) 51, blk b3 o.cells 24], ⟨a, c, A, blk b [v',w, .int .i64 m.last, .int .i64 m.no] 84 :: (H0' ++ H1), rfl, own, ⟨v', w, H0', H1, h0', h1, rfl⟩, rfl⟩, fun x => by simp only [List.append_eq, cnt_append, cnt_cons, cnt_nil, blk, outV, Ord.cells]; omega⟩
  | true =>
    refine run_condT rfl rfl ?_
    (refine run_seq ?_)
    refine RunC.perm (h' := [blk b3 o.cells 24] ++ (blk b5 (outV a c ⟨o, m.fs, m.qty, true, false, m.self, 0⟩) 51 :: blk b4 (outV none 0 ⟨o0, [], 0, false, false, false, 0⟩) 51 :: (blk b [v',w, .int .i64 m.last, .int .i64 m.no] 84 :: (H0' ++ H1) ++ A))) (fun x => by (first | rfl | (simp only [List.append_eq, cnt_append, cnt_cons, cnt_nil, blk]; omega) | (simp only [List.append_eq, cnt_append, cnt_cons, cnt_nil, blk]; done))) ?_
    refine RunC.freezeR ?_
    refine run_region_D mo ?_
    (refine runD_q 0 rfl rfl (by kernel_rfl) ?_; refine ⟨_, fun _ => ev_fieldAddr rfl rfl (fo rfl), ?_⟩; refine runD_q 1 rfl rfl (by kernel_rfl) ?_; refine ⟨_, fun _ => ev_loadK rfl rfl (sc rfl) (memR (memF (.head _))) rfl, ?_⟩; refine runD_q 2 rfl rfl (by kernel_rfl) ?_; refine ⟨_, fun _ => ev_fieldAddr rfl rfl (fo rfl), ?_⟩; refine runD_q 4 rfl rfl (by kernel_rfl) ?_; refine ⟨_, fun _ => ev_fieldAddr rfl rfl (fo rfl), ?_⟩; refine runD_q 5 rfl rfl (by kernel_rfl) ?_; refine ⟨_, fun _ => ev_loadK rfl rfl (sc rfl) (memR (memF (.head _))) rfl, ?_⟩; refine runD_1 3 (by kernel_rfl) rfl rfl rfl ?_; refine xel rfl (ev_loadK rfl rfl (sc rfl) (memF (.head _)) rfl) ?_; refine runL_nil ?_; refine endS_d rfl ?_; refine runD_q 6 rfl rfl (by kernel_rfl) ?_; refine ⟨_, fun _ => ev_min rfl rfl rfl, ?_⟩; refine runD_q 7 rfl rfl (by kernel_rfl) ?_; refine ⟨_, fun _ => ev_fieldAddr rfl rfl (fo rfl), ?_⟩; refine runD_1 8 (by kernel_rfl) rfl rfl rfl ?_; refine runL_store0 rfl rfl rfl rfl rfl (sz rfl) rfl rfl rfl rfl rfl ?_; refine runL_nil ?_; refine endS_n rfl ?_; refine runD_q 9 rfl rfl (by kernel_rfl) ?_; refine ⟨_, fun _ => ev_fieldAddr rfl rfl (fo rfl), ?_⟩; refine runD_1 10 (by kernel_rfl) rfl rfl rfl ?_; refine runL_store0 rfl rfl rfl rfl rfl (sz rfl) rfl rfl rfl rfl rfl ?_; refine runL_nil ?_; refine endS_n rfl ?_; refine runD_done (by kernel_rfl) ?_; refine then_normal ?_; refine run_region ?_; refine xep rfl rfl ?_; refine xel rfl (ev_loadAK rfl rfl (ag rfl) (sz rfl) (memF (.head _)) rfl) ?_)
    refine runL_callZ (blk b3 (wqs o m.qty (min o.show_ m.qty)).cells 24 :: blk b5 (outV a c ⟨o, m.fs, m.qty, true, false, m.self, 0⟩) 51 :: blk b4 (outV none 0 ⟨o0, [], 0, false, false, false, 0⟩) 51 :: A) (blk b [v',w, .int .i64 m.last, .int .i64 m.no] 84 :: (H1 ++ H0')) rfl rfl rfl rfl rfl rfl rfl (pf rfl) (fun x => by
      show cnt x ([blk b3 (wqs o m.qty (min o.show_ m.qty)).cells 24] ++ _) = _
      (first | rfl | (simp only [List.append_eq, cnt_append, cnt_cons, cnt_nil, blk]; omega) | (simp only [List.append_eq, cnt_append, cnt_cons, cnt_nil, blk]; done))) (sp_brest2 _ H1 H0' b v' w m.last m.no B.sells h1 (hw.side 2).1 (hw.side 2).2 (wqs o m.qty (min o.show_ m.qty)) hs) ?_
    rintro v3 _ ⟨v2', H1', h1', rfl⟩
    (refine runL_nil ?_; refine then_normal ?_; refine run_seq ?_; refine run_region ?_; refine xel rfl (ev_loadAK rfl rfl (ag rfl) (sz rfl) (memF (.tail _ (.head _))) rfl) ?_; refine runL_store2 rfl rfl rfl rfl rfl (sz rfl) rfl rfl rfl rfl rfl ?_; refine runL_nil ?_; refine then_normal ?_; refine run_ret ?_)
    exact ⟨_, .agg rfl (memF (.tail _ (.tail _ (.head _)))) (ag rfl) (sz rfl) rfl .nil, blk b [v',v2', .int .i64 m.last, .int .i64 m.no] 84 :: (H0' ++ H1') ++ A, [blk b3 (wqs o m.qty (min o.show_ m.qty)).cells 24, blk b5 (outV a c ⟨o, m.fs, m.qty, true, false, m.self, 0⟩) 51, blk b4 (outV a c ⟨o, m.fs, m.qty, true, false, m.self, 0⟩) 51], ⟨a, c, A, blk b [v',v2', .int .i64 m.last, .int .i64 m.no] 84 :: (H0' ++ H1'), rfl, own, ⟨v', v2', H0', H1', h0', h1', rfl⟩, rfl⟩, fun x => by simp only [List.append_eq, cnt_append, cnt_cons, cnt_nil, blk, outV, Ord.cells]; omega⟩
theorem sp_bin2 (F H : Heap) (b : Nat) (B : Bk) (hH : BkH b B H) (hw : BW B) (o : Ord) (hk : InI o.kind) (hn : 0 ≤ B.no) (hn2 : B.no ≤ 1099511627776) (hr : brefused o B = 0) (hs : o.side = 1) :
    Sp Try.prog F 57 [.pointer (some ⟨b, 0, none⟩), ov o] H (fun v h' => ∃ a c A H', v = .agg ⟨outV a c (badd o B).1⟩ ∧ OwnS 61 21 (.slice a (badd o B).1.fs.length c) (badd o B).1.fs.length (rows fcell (badd o B).1.fs) A ∧ BkH b (badd o B).2 H' ∧ h' = H' ++ A) := by
  have hr2 : right o = 0 := by
    unfold brefused at hr
    split at hr
    · cases hr
    · rename_i h; omega
  obtain ⟨-, -, -, -, -, -, -, -, -, -, hq1, hq2, -⟩ := right_zero hr2
  have hb : badd o B = (⟨o, (matchL o (B.side 2) B.last B.no).fs, (matchL o (B.side 2) B.last B.no).qty, decide (0 < (matchL o (B.side 2) B.last B.no).qty) && !(matchL o (B.side 2) B.last B.no).self && rests o, false, (matchL o (B.side 2) B.last B.no).self, 0⟩,
      if (decide (0 < (matchL o (B.side 2) B.last B.no).qty) && !(matchL o (B.side 2) B.last B.no).self && rests o) = true then ((B.put 2 (matchL o (B.side 2) B.last B.no).lvs).tell (matchL o (B.side 2) B.last B.no).last (matchL o (B.side 2) B.last B.no).no).put 1 (restL (wqs o (matchL o (B.side 2) B.last B.no).qty (min o.show_ (matchL o (B.side 2) B.last B.no).qty)) B.buys)
      else (B.put 2 (matchL o (B.side 2) B.last B.no).lvs).tell (matchL o (B.side 2) B.last B.no).last (matchL o (B.side 2) B.last B.no).no) := by
    unfold badd
    rw [if_neg (by rw [hr]; simp), hs]; rfl
  rw [hb]
  have q2 := fun F => sp_brests F o
  refine Sp.up ?_
  refine sp_of_codeR Try.func57 rfl rfl ?_
  (refine run_seq ?_; refine run_region ?_; refine runL_box rfl rfl rfl rfl rfl rfl (fun _ => ?_); refine runL_alloc rfl rfl rfl rfl rfl ze51 (fun _ => ?_); refine runL_nil ?_; refine then_normal ?_; refine run_seq ?_; refine run_region ?_; refine xel rfl (ev_loadAK rfl rfl (ag rfl) (sz rfl) (memF (.tail _ (.head _))) rfl) ?_; refine xel rfl (ev_fieldAddr rfl rfl (fo rfl)) ?_; refine xel rfl (ev_loadK rfl rfl (sc rfl) (memF (.tail _ (.head _))) rfl) ?_; refine xel rfl (ev_build rfl pl51 rfl) ?_; refine runL_alloc rfl rfl rfl rfl rfl ze51 (fun _ => ?_); refine runL_store0 rfl rfl rfl rfl rfl (sz rfl) rfl rfl rfl rfl rfl ?_; refine runL_nil ?_; refine then_normal ?_; (iterate 2 refine run_seq ?_); refine run_region ?_; refine xep rfl rfl ?_; refine xel rfl (ev_loadAK rfl rfl (ag rfl) (sz rfl) (memF (.tail _ (.tail _ (.head _)))) rfl) ?_)
  rename_i b3 b4 b5
  refine runL_ev rfl rfl rfl rfl (ev_callQ rfl rfl rfl (pf rfl) (sp_brefused _ b B (hH.in fun x m => by simp [m]) hw o hk)) ?_
  rw [hr]
  (refine xel rfl (ev_fieldAddr rfl rfl (fo rfl)) ?_; refine runL_store0 rfl rfl rfl rfl rfl (sz rfl) rfl rfl rfl rfl rfl ?_; refine runL_nil ?_; refine then_normal ?_; refine run_seq ?_; refine run_region ?_; refine xel rfl (ev_fieldAddr rfl rfl (fo rfl)) ?_; refine xel rfl (ev_loadK rfl rfl (sc rfl) (memF (.head _)) rfl) ?_; refine xep rfl rfl ?_; refine runL_nil ?_; refine then_normal ?_)
  refine run_condF rfl rfl ?_
  (refine run_skip ?_; refine then_normal ?_; refine run_seq ?_; refine run_region ?_; refine xep rfl rfl ?_; refine xel rfl (ev_loadAK rfl rfl (ag rfl) (sz rfl) (memF (.tail _ (.tail _ (.head _)))) rfl) ?_)
  obtain ⟨w, v, H1, H0, h1, h0, rfl⟩ := hH
  have hsd := hw.side 2
  refine runL_callZ (blk b5 (outV none 0 ⟨o, [], o.qty, false, false, false, 0⟩) 51 :: blk b4 (outV none 0 ⟨o0, [], 0, false, false, false, 0⟩) 51 :: [blk b3 o.cells 24]) (blk b [w,v, .int .i64 B.last, .int .i64 B.no] 84 :: (H0 ++ H1)) rfl rfl rfl rfl rfl rfl rfl (pf rfl) (fun x => by
    show cnt x (blk b5 (outV none 0 ⟨o, [], o.qty, false, false, false, 0⟩) 51 :: blk b4 (outV none 0 ⟨o0, [], 0, false, false, false, 0⟩) 51 :: blk b3 o.cells 24 :: _) = _
    (first | rfl | (simp only [List.append_eq, cnt_append, cnt_cons, cnt_nil, blk]; omega) | (simp only [List.append_eq, cnt_append, cnt_cons, cnt_nil, blk]; done))) (sp_bmatch2 _ H0 H1 b w v B.last B.no (B.side 2) h0 hsd.1 hsd.2 o (by omega) (by omega) hq2 hn hn2) ?_
  rintro r _ ⟨a, c, A, v', H0', rfl, own, h0', rfl⟩
  generalize matchL o (B.side 2) B.last B.no = m at *
  ((iterate 4 refine xep rfl rfl ?_); refine xel rfl (ev_fieldAddr rfl rfl (fo rfl)) ?_; refine runL_store0 rfl rfl rfl rfl rfl (sz rfl) rfl rfl rfl rfl rfl ?_; refine xel rfl (ev_fieldAddr rfl rfl (fo rfl)) ?_; refine runL_store0 rfl rfl rfl rfl rfl (sz rfl) rfl rfl rfl rfl rfl ?_; refine xel rfl (ev_fieldAddr rfl rfl (fo rfl)) ?_; refine runL_store0 rfl rfl rfl rfl rfl (sz rfl) rfl rfl rfl rfl rfl ?_; refine runL_nil ?_; refine then_normal ?_; refine run_seq ?_; refine run_region ?_; refine xel rfl (ev_fieldAddr rfl rfl (fo rfl)) ?_; refine xel rfl (ev_loadK rfl rfl (sc rfl) (memF (.head _)) rfl) ?_; (iterate 2 refine xep rfl rfl ?_); refine xgl rfl rfl (fun hq => ev_fieldAddr rfl rfl (fo rfl)) ?_; refine xgl rfl rfl (fun hq => ev_loadK rfl rfl (sc rfl) (memF (.head _)) rfl) ?_; refine xgp rfl rfl rfl ?_; (iterate 2 refine xep rfl rfl ?_); refine xgl rfl rfl (fun hq => ev_loadAK rfl rfl (ag rfl) (sz rfl) (memF (.tail _ (.tail _ (.head _)))) rfl) ?_; refine xgl rfl rfl (fun hq => ev_callQ rfl rfl rfl (pf rfl) (q2 ..)) ?_; refine xep rfl rfl ?_; refine xel rfl (ev_fieldAddr rfl rfl (fo rfl)) ?_; refine runL_store0 rfl rfl rfl rfl rfl (sz rfl) rfl rfl rfl rfl rfl ?_; refine runL_nil ?_; refine then_normal ?_; (iterate 2 refine run_seq ?_); refine run_region ?_; refine xel rfl (ev_fieldAddr rfl rfl (fo rfl)) ?_; refine xel rfl (ev_loadK rfl rfl (sc rfl) (memF (.head _)) rfl) ?_; refine runL_nil ?_; refine then_normal ?_)
  generalize (decide (0 < m.qty) && !m.self && rests o) = rr at *
  refine RunC.perm (h' := blk b5 (outV a c ⟨o, m.fs, m.qty, rr, false, m.self, 0⟩) 51 :: blk b4 (outV none 0 ⟨o0, [], 0, false, false, false, 0⟩) 51 :: blk b3 o.cells 24 :: (blk b [w,v', .int .i64 m.last, .int .i64 m.no] 84 :: (H0' ++ H1) ++ A)) (fun x => rfl) ?_
  cases rr with
  | false =>
    refine run_condF rfl rfl ?_
    (refine run_skip ?_; refine then_normal ?_; refine run_seq ?_; refine run_region ?_; refine xel rfl (ev_loadAK rfl rfl (ag rfl) (sz rfl) (memF (.head _)) rfl) ?_; refine runL_store1 rfl rfl rfl rfl rfl (sz rfl) rfl rfl rfl rfl rfl ?_; refine runL_nil ?_; refine then_normal ?_; refine run_ret ?_)
    exact ⟨_, .agg rfl (memF (.tail _ (.head _))) (ag rfl) (sz rfl) rfl .nil, blk b [w,v', .int .i64 m.last, .int .i64 m.no] 84 :: (H1 ++ H0') ++ A, [blk b5 (outV a c ⟨o, m.fs, m.qty, false, false, m.self, 0⟩) 51, blk b4 (outV a c ⟨o, m.fs, m.qty, false, false, m.self, 0⟩) 51, blk b3 o.cells 24], ⟨a, c, A, blk b [w,v', .int .i64 m.last, .int .i64 m.no] 84 :: (H1 ++ H0'), rfl, own, ⟨w, v', H1, H0', h1, h0', rfl⟩, rfl⟩, fun x => by simp only [List.append_eq, cnt_append, cnt_cons, cnt_nil, blk, outV, Ord.cells]; omega⟩
  | true =>
    refine run_condT rfl rfl ?_
    (refine run_seq ?_)
    refine RunC.perm (h' := [blk b3 o.cells 24] ++ (blk b5 (outV a c ⟨o, m.fs, m.qty, true, false, m.self, 0⟩) 51 :: blk b4 (outV none 0 ⟨o0, [], 0, false, false, false, 0⟩) 51 :: (blk b [w,v', .int .i64 m.last, .int .i64 m.no] 84 :: (H0' ++ H1) ++ A))) (fun x => by (first | rfl | (simp only [List.append_eq, cnt_append, cnt_cons, cnt_nil, blk]; omega) | (simp only [List.append_eq, cnt_append, cnt_cons, cnt_nil, blk]; done))) ?_
    refine RunC.freezeR ?_
    refine run_region_D mo ?_
    (refine runD_q 0 rfl rfl (by kernel_rfl) ?_; refine ⟨_, fun _ => ev_fieldAddr rfl rfl (fo rfl), ?_⟩; refine runD_q 1 rfl rfl (by kernel_rfl) ?_; refine ⟨_, fun _ => ev_loadK rfl rfl (sc rfl) (memR (memF (.head _))) rfl, ?_⟩; refine runD_q 2 rfl rfl (by kernel_rfl) ?_; refine ⟨_, fun _ => ev_fieldAddr rfl rfl (fo rfl), ?_⟩; refine runD_q 4 rfl rfl (by kernel_rfl) ?_; refine ⟨_, fun _ => ev_fieldAddr rfl rfl (fo rfl), ?_⟩; refine runD_q 5 rfl rfl (by kernel_rfl) ?_; refine ⟨_, fun _ => ev_loadK rfl rfl (sc rfl) (memR (memF (.head _))) rfl, ?_⟩; refine runD_1 3 (by kernel_rfl) rfl rfl rfl ?_; refine xel rfl (ev_loadK rfl rfl (sc rfl) (memF (.head _)) rfl) ?_; refine runL_nil ?_; refine endS_d rfl ?_; refine runD_q 6 rfl rfl (by kernel_rfl) ?_; refine ⟨_, fun _ => ev_min rfl rfl rfl, ?_⟩; refine runD_q 7 rfl rfl (by kernel_rfl) ?_; refine ⟨_, fun _ => ev_fieldAddr rfl rfl (fo rfl), ?_⟩; refine runD_1 8 (by kernel_rfl) rfl rfl rfl ?_; refine runL_store0 rfl rfl rfl rfl rfl (sz rfl) rfl rfl rfl rfl rfl ?_; refine runL_nil ?_; refine endS_n rfl ?_; refine runD_q 9 rfl rfl (by kernel_rfl) ?_; refine ⟨_, fun _ => ev_fieldAddr rfl rfl (fo rfl), ?_⟩; refine runD_1 10 (by kernel_rfl) rfl rfl rfl ?_; refine runL_store0 rfl rfl rfl rfl rfl (sz rfl) rfl rfl rfl rfl rfl ?_; refine runL_nil ?_; refine endS_n rfl ?_; refine runD_done (by kernel_rfl) ?_; refine then_normal ?_; refine run_region ?_; refine xep rfl rfl ?_; refine xel rfl (ev_loadAK rfl rfl (ag rfl) (sz rfl) (memF (.head _)) rfl) ?_)
    refine runL_callZ (blk b3 (wqs o m.qty (min o.show_ m.qty)).cells 24 :: blk b5 (outV a c ⟨o, m.fs, m.qty, true, false, m.self, 0⟩) 51 :: blk b4 (outV none 0 ⟨o0, [], 0, false, false, false, 0⟩) 51 :: A) (blk b [w,v', .int .i64 m.last, .int .i64 m.no] 84 :: (H1 ++ H0')) rfl rfl rfl rfl rfl rfl rfl (pf rfl) (fun x => by
      show cnt x ([blk b3 (wqs o m.qty (min o.show_ m.qty)).cells 24] ++ _) = _
      (first | rfl | (simp only [List.append_eq, cnt_append, cnt_cons, cnt_nil, blk]; omega) | (simp only [List.append_eq, cnt_append, cnt_cons, cnt_nil, blk]; done))) (sp_brest1 _ H1 H0' b v' w m.last m.no B.buys h1 (hw.side 1).1 (hw.side 1).2 (wqs o m.qty (min o.show_ m.qty)) hs) ?_
    rintro v3 _ ⟨v2', H1', h1', rfl⟩
    (refine runL_nil ?_; refine then_normal ?_; refine run_seq ?_; refine run_region ?_; refine xel rfl (ev_loadAK rfl rfl (ag rfl) (sz rfl) (memF (.tail _ (.head _))) rfl) ?_; refine runL_store2 rfl rfl rfl rfl rfl (sz rfl) rfl rfl rfl rfl rfl ?_; refine runL_nil ?_; refine then_normal ?_; refine run_ret ?_)
    exact ⟨_, .agg rfl (memF (.tail _ (.tail _ (.head _)))) (ag rfl) (sz rfl) rfl .nil, blk b [v2',v', .int .i64 m.last, .int .i64 m.no] 84 :: (H1' ++ H0') ++ A, [blk b3 (wqs o m.qty (min o.show_ m.qty)).cells 24, blk b5 (outV a c ⟨o, m.fs, m.qty, true, false, m.self, 0⟩) 51, blk b4 (outV a c ⟨o, m.fs, m.qty, true, false, m.self, 0⟩) 51], ⟨a, c, A, blk b [v2',v', .int .i64 m.last, .int .i64 m.no] 84 :: (H1' ++ H0'), rfl, own, ⟨v2', v', H1', H0', h1', h0', rfl⟩, rfl⟩, fun x => by simp only [List.append_eq, cnt_append, cnt_cons, cnt_nil, blk, outV, Ord.cells]; omega⟩
theorem sp_badd (F H : Heap) (b : Nat) (B : Bk) (hH : BkH b B H) (hw : BW B) (o : Ord) (hk : InI o.kind) (hn : 0 ≤ B.no) (hn2 : B.no ≤ 1099511627776) :
    Sp Try.prog F 57 [.pointer (some ⟨b, 0, none⟩), ov o] H (fun v h' => ∃ a c A H', v = .agg ⟨outV a c (badd o B).1⟩ ∧ OwnS 61 21 (.slice a (badd o B).1.fs.length c) (badd o B).1.fs.length (rows fcell (badd o B).1.fs) A ∧ BkH b (badd o B).2 H' ∧ h' = H' ++ A) := by
  by_cases hr : brefused o B = 0
  · have hr2 : right o = 0 := by
      unfold brefused at hr
      split at hr
      · cases hr
      · rename_i h; omega
    obtain ⟨-, -, -, -, -, -, hs1, hs2, -⟩ := right_zero hr2
    rcases (by omega : o.side = 2 ∨ o.side = 1) with hs | hs
    · exact sp_bin1 F H b B hH hw o hk hn hn2 hr hs
    · exact sp_bin2 F H b B hH hw o hk hn hn2 hr hs
  · have hb : badd o B = (⟨o, [], o.qty, false, false, false, brefused o B⟩, B) := by unfold badd; rw [if_pos hr]
    rw [hb]
    refine Sp.up ?_
    refine sp_of_codeR Try.func57 rfl rfl ?_
    (refine run_seq ?_; refine run_region ?_; refine runL_box rfl rfl rfl rfl rfl rfl (fun _ => ?_); refine runL_alloc rfl rfl rfl rfl rfl ze51 (fun _ => ?_); refine runL_nil ?_; refine then_normal ?_; refine run_seq ?_; refine run_region ?_; refine xel rfl (ev_loadAK rfl rfl (ag rfl) (sz rfl) (memF (.tail _ (.head _))) rfl) ?_; refine xel rfl (ev_fieldAddr rfl rfl (fo rfl)) ?_; refine xel rfl (ev_loadK rfl rfl (sc rfl) (memF (.tail _ (.head _))) rfl) ?_; refine xel rfl (ev_build rfl pl51 rfl) ?_; refine runL_alloc rfl rfl rfl rfl rfl ze51 (fun _ => ?_); refine runL_store0 rfl rfl rfl rfl rfl (sz rfl) rfl rfl rfl rfl rfl ?_; refine runL_nil ?_; refine then_normal ?_; (iterate 2 refine run_seq ?_); refine run_region ?_; refine xep rfl rfl ?_; refine xel rfl (ev_loadAK rfl rfl (ag rfl) (sz rfl) (memF (.tail _ (.tail _ (.head _)))) rfl) ?_)
    rename_i b3 b4 b5
    refine runL_ev rfl rfl rfl rfl (ev_callQ rfl rfl rfl (pf rfl) (sp_brefused _ b B (hH.in fun x m => by simp [m]) hw o hk)) ?_
    generalize brefused o B = e at *
    (refine xel rfl (ev_fieldAddr rfl rfl (fo rfl)) ?_; refine runL_store0 rfl rfl rfl rfl rfl (sz rfl) rfl rfl rfl rfl rfl ?_; refine runL_nil ?_; refine then_normal ?_; refine run_seq ?_; refine run_region ?_; refine xel rfl (ev_fieldAddr rfl rfl (fo rfl)) ?_; refine xel rfl (ev_loadK rfl rfl (sc rfl) (memF (.head _)) rfl) ?_; refine xep rfl rfl ?_; refine runL_nil ?_; refine then_normal ?_)
    refine run_condT rfl (by simp [hr]) ?_
    (refine run_seq ?_; refine run_region ?_; refine xel rfl (ev_loadAK rfl rfl (ag rfl) (sz rfl) (memF (.head _)) rfl) ?_; refine runL_store1 rfl rfl rfl rfl rfl (sz rfl) rfl rfl rfl rfl rfl ?_; refine runL_nil ?_; refine then_normal ?_; refine run_ret ?_; refine then_ret ?_)
    exact ⟨_, .agg rfl (memF (.tail _ (.head _))) (ag rfl) (sz rfl) rfl .nil, H, [blk b5 (outV none 0 ⟨o, [], o.qty, false, false, false, e⟩) 51, blk b4 (outV none 0 ⟨o, [], o.qty, false, false, false, e⟩) 51, blk b3 o.cells 24], ⟨none, 0, [], H, rfl, .nil _ _, hH, by rw [List.append_nil]⟩, fun x => by
      show cnt x (blk b5 (outV none 0 ⟨o, [], o.qty, false, false, false, e⟩) 51 :: blk b4 (outV none 0 ⟨o, [], o.qty, false, false, false, e⟩) 51 :: blk b3 o.cells 24 :: H) = _
      (first | rfl | (simp only [List.append_eq, cnt_append, cnt_cons, cnt_nil, blk]; omega) | (simp only [List.append_eq, cnt_append, cnt_cons, cnt_nil, blk]; done))⟩
end Go.Proofs.Ytfhpoagnfmgfkaa
