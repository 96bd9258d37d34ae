/- Contracts of functions of the given program over its translation, each proved by walking its text; used by the laws' rows. It proves no given statement by itself. -/
import Derived.Test.YtmelpobcpcmdoaaGreatSLRBk4
import Derived.Test.YtmelpobcpcmdoaaGreatSLRBk5X
import Derived.Test.YtmelpobcpcmdoaaGreatSLRBk7
import Derived.Test.YtmelpobcpcmdoaaGreatSLBkAX
import Derived.Test.YtmelpobcpcmdoaaGreatSLLaw10bX
set_option autoImplicit false
set_option linter.unusedSectionVars false
set_option linter.unusedSimpArgs false
set_option linter.unusedVariables false
set_option maxRecDepth 4000
set_option maxHeartbeats 100000000
namespace Go.Proofs.YtmelpobcpcmdoaaGreat
open Go Go.SL Go.Proofs
variable [Base]
theorem sp_rbmatch (F H : Heap) (b : Nat) (B : Bk) (hH : RbH b B H) (hw : BW B) (o : Ord) (hs : o.side = 1 ∨ o.side = 2) (hq : 0 ≤ o.qty) (hq2 : o.qty ≤ 1048576) (hn : 0 ≤ B.no) (hn2 : B.no ≤ 1099511627776) :
    Sp Tryz.prog F 60 [.pointer (some ⟨b, 0, none⟩), ov o] H (fun r h' => ∃ a c A H', r = .tuple #[.slice a (matchL o (B.side (3 - o.side)) B.last B.no).fs.length c, .int .i64 (matchL o (B.side (3 - o.side)) B.last B.no).qty, .bool (matchL o (B.side (3 - o.side)) B.last B.no).self] ∧
      OwnS 93 21 (.slice a (matchL o (B.side (3 - o.side)) B.last B.no).fs.length c) (matchL o (B.side (3 - o.side)) B.last B.no).fs.length (rows fcell (matchL o (B.side (3 - o.side)) B.last B.no).fs) A ∧
      RbH b ((B.put (3 - o.side) (matchL o (B.side (3 - o.side)) B.last B.no).lvs).tell (matchL o (B.side (3 - o.side)) B.last B.no).last (matchL o (B.side (3 - o.side)) B.last B.no).no) H' ∧ h' = H' ++ A) := by
  obtain ⟨v0, v1, H0, H1, h0, h1, rfl⟩ := hH
  have hl := hw.len
  rcases hs with hs | hs
  · have e : 3 - o.side = 2 := by omega
    rw [e]
    refine Sp.up ?_
    refine Sp.perm (h' := blk b [.slice none 0 0, v0, v1, .int .i64 B.last, .int .i64 B.no] 60 :: (H1 ++ H0)) (fun x => by (first | rfl | (simp only [List.append_eq, cnt_append, cnt_cons, cnt_nil, blk]; omega) | (simp only [List.append_eq, cnt_append, cnt_cons, cnt_nil, blk]; done))) ?_
    refine (sp_rbmatch2 F H1 H0 b v0 v1 B.last B.no B.sells h1 hw.sells (by omega) o e hq hq2 hn hn2).mono ?_
    rintro r _ ⟨a, c, A, v', H0', rfl, own, h', rfl⟩
    exact ⟨blk b [.slice none 0 0, v0, v', .int .i64 (matchL o B.sells B.last B.no).last, .int .i64 (matchL o B.sells B.last B.no).no] 60 :: (H0 ++ H0') ++ A, [], ⟨a, c, A, _, rfl, own, ⟨v0, v', H0, H0', h0, h', rfl⟩, rfl⟩, fun x => by (first | rfl | (simp only [List.append_eq, cnt_append, cnt_cons, cnt_nil, blk]; omega) | (simp only [List.append_eq, cnt_append, cnt_cons, cnt_nil, blk]; done))⟩
  · have e : 3 - o.side = 1 := by omega
    rw [e]
    refine (sp_rbmatch1 F H0 H1 b v1 v0 B.last B.no B.buys h0 hw.buys (by omega) o e hq hq2 hn hn2).mono ?_
    rintro r _ ⟨a, c, A, v', H0', rfl, own, h', rfl⟩
    exact ⟨a, c, A, _, rfl, own, ⟨v', v1, H0', H1, h', h1, rfl⟩, rfl⟩
theorem sp_rbadd (F H : Heap) (b : Nat) (B : Bk) (hH : RbH b B H) (hw : BW B) (o : Ord) (hk : InI o.kind) (hn : 0 ≤ B.no) (hn2 : B.no ≤ 1099511627776) :
    Sp Tryz.prog F 34 [.pointer (some ⟨b, 0, none⟩), ov o] H (fun v h' => ∃ a c A H', v = .agg ⟨outV a c (badd o B).1⟩ ∧ OwnS 93 21 (.slice a (badd o B).1.fs.length c) (badd o B).1.fs.length (rows fcell (badd o B).1.fs) A ∧ RbH b (badd o B).2 H' ∧ h' = H' ++ A) := by
  have q1 := fun F => rp_right F o hk
  have hlen := hw.len
  refine Sp.up ?_
  refine sp_of_codeR Tryz.func34 rfl rfl ?_
  (refine run_seq ?_; refine run_region ?_; refine runL_box rfl rfl rfl rfl rfl rfl (fun _ => ?_); refine runL_alloc rfl rfl rfl rfl rfl ze66 (fun _ => ?_); refine runL_nil ?_; refine then_normal ?_; refine run_seq ?_; refine run_region ?_; refine xel rfl (ev_loadAK rfl rfl (ag rfl) (sz rfl) (memF (.tail _ (.head _))) rfl) ?_; refine xel rfl (ev_fieldAddr rfl rfl (fo rfl)) ?_; refine xel rfl (ev_loadK rfl rfl (sc rfl) (memF (.tail _ (.head _))) rfl) ?_; refine xel rfl (ev_build rfl pl66 rfl) ?_; refine runL_alloc rfl rfl rfl rfl rfl ze66 (fun _ => ?_); refine runL_store0 rfl rfl rfl rfl rfl (sz rfl) rfl rfl rfl rfl rfl ?_; refine runL_nil ?_; refine then_normal ?_; (iterate 2 refine run_seq ?_); refine run_region ?_; refine xel rfl (ev_loadAK rfl rfl (ag rfl) (sz rfl) (memF (.tail _ (.tail _ (.head _)))) rfl) ?_; refine xel rfl (ev_callQ rfl rfl rfl (pf rfl) (q1 ..)) ?_; refine xep rfl rfl ?_; refine runL_nil ?_; refine then_normal ?_; refine run_seq ?_; refine run_region ?_; (iterate 3 refine xep rfl rfl ?_); refine xgl rfl rfl (fun hq => ev_fieldAddr rfl rfl (fo rfl)) ?_; refine xgl rfl rfl (fun hq => ev_loadK rfl rfl (sc rfl) (memF (.tail _ (.tail _ (.head _)))) rfl) ?_; refine xgp rfl rfl rfl ?_; refine xep rfl rfl ?_; refine runL_nil ?_; refine then_normal ?_)
  rename_i b3 b4 b5
  by_cases c1 : right o ≠ 0 ∨ o.stop ≠ 0
  · have e : brefused o B = 1 := by unfold brefused; rw [if_pos c1]
    have hb : badd o B = (⟨o, [], o.qty, false, false, false, 1⟩, B) := by unfold badd; rw [if_pos (by rw [e]; decide), e]
    rw [hb]
    refine run_condT rfl (by rcases c1 with h | h <;> simp [h]) ?_
    (refine run_seq ?_; refine run_region ?_; refine xel rfl (ev_fieldAddr rfl rfl (fo rfl)) ?_; refine runL_store0 rfl rfl rfl rfl rfl (sz rfl) rfl rfl rfl rfl rfl ?_; refine runL_nil ?_; refine then_normal ?_; refine run_seq ?_; refine run_region ?_; refine xel rfl (ev_loadAK rfl rfl (ag rfl) (sz rfl) (memF (.head _)) rfl) ?_; refine runL_store1 rfl rfl rfl rfl rfl (sz rfl) rfl rfl rfl rfl rfl ?_; refine runL_nil ?_; refine then_normal ?_; refine run_ret ?_; refine then_ret ?_)
    exact ⟨_, .agg rfl (memF (.tail _ (.head _))) (ag rfl) (sz rfl) rfl .nil, H, blk b5 (outV none 0 ⟨o, [], o.qty, false, false, false, 1⟩) 66 :: blk b4 (outV none 0 ⟨o, [], o.qty, false, false, false, 1⟩) 66 :: [blk b3 o.cells 35], ⟨none, 0, [], H, rfl, .nil _ _, hH, by rw [List.append_nil]⟩, fun x => by
      show cnt x (blk b5 (outV none 0 ⟨o, [], o.qty, false, false, false, 1⟩) 66 :: blk b4 (outV none 0 ⟨o, [], o.qty, false, false, false, 1⟩) 66 :: ([blk b3 o.cells 35] ++ H)) = _
      (first | rfl | (simp only [List.append_eq, cnt_append, cnt_cons, cnt_nil, blk]; omega) | (simp only [List.append_eq, cnt_append, cnt_cons, cnt_nil, blk]; done))⟩
  have c1a : right o = 0 := by omega
  have c1b : o.stop = 0 := by omega
  obtain ⟨-, -, -, -, -, -, hs1, hs2, -, -, hq1, hq2, -⟩ := right_zero c1a
  have hsd : o.side = 1 ∨ o.side = 2 := by omega
  refine run_condF rfl (by simp [c1a, c1b]) ?_
  (refine run_skip ?_; refine then_normal ?_; (iterate 2 refine run_seq ?_); refine run_region ?_; refine xep rfl rfl ?_; refine xel rfl (ev_fieldAddr rfl rfl (fo rfl)) ?_; refine xel rfl (ev_loadK rfl rfl (sc rfl) (memF (.tail _ (.tail _ (.head _)))) rfl) ?_; refine xel rfl (ev_fieldAddr rfl rfl (fo rfl)) ?_; refine xel rfl (ev_loadK rfl rfl (sc rfl) (memF (.tail _ (.tail _ (.head _)))) rfl) ?_)
  refine runL_ev rfl rfl rfl rfl (ev_callQ rfl rfl rfl (pf rfl) (sp_rbfind _ b B (hH.in fun x m => by simp [m]) hw o.trader o.id)) ?_
  ((iterate 3 refine xep rfl rfl ?_); refine runL_alloc rfl rfl rfl rfl rfl ze35 (fun _ => ?_); refine runL_store0 rfl rfl rfl rfl rfl (sz rfl) rfl rfl rfl rfl rfl ?_; refine xep rfl rfl ?_; refine runL_nil ?_; refine then_normal ?_; refine run_seq ?_; refine run_region ?_; refine xep rfl rfl ?_; refine runL_nil ?_; refine then_normal ?_)
  rename_i b7
  obtain ⟨HH, hHH⟩ : ∃ HH, HH = blk b5 (outV none 0 ⟨o, [], o.qty, false, false, false, 0⟩) 66 :: blk b4 (outV none 0 ⟨o0, [], 0, false, false, false, 0⟩) 66 :: blk b3 o.cells 35 :: blk b7 (bfind o.trader o.id B).1.cells 35 :: H := ⟨_, rfl⟩
  refine RunC.perm (h' := HH) (fun x => by
    rw [hHH]
    show cnt x (blk b7 (bfind o.trader o.id B).1.cells 35 :: blk b5 (outV none 0 ⟨o, [], o.qty, false, false, false, 0⟩) 66 :: blk b4 (outV none 0 ⟨o0, [], 0, false, false, false, 0⟩) 66 :: blk b3 o.cells 35 :: H) = _
    (first | rfl | (simp only [List.append_eq, cnt_append, cnt_cons, cnt_nil, blk]; omega) | (simp only [List.append_eq, cnt_append, cnt_cons, cnt_nil, blk]; done))) ?_
  have hIn : RbIn (HH ++ F) b B := hH.in fun x m => by rw [hHH]; simp [m]
  have l1 : AggF (HH ++ F) b3 0 o.cells := ⟨_, _, _, by rw [hHH]; exact memF (.tail _ (.tail _ (.head _))), by simp, rfl⟩
  have l2 := l1.at 3 _ rfl
  have l3 := l1.at 4 _ rfl
  by_cases c2 : (bfind o.trader o.id B).2 = true
  · have e : brefused o B = 5 := by unfold brefused; rw [if_neg c1, if_pos c2]
    have hb : badd o B = (⟨o, [], o.qty, false, false, false, 5⟩, B) := by unfold badd; rw [if_pos (by rw [e]; decide), e]
    rw [hb]
    refine run_condT rfl c2 ?_
    rw [hHH]
    (refine run_seq ?_; refine run_region ?_; refine xel rfl (ev_fieldAddr rfl rfl (fo rfl)) ?_; refine runL_store0 rfl rfl rfl rfl rfl (sz rfl) rfl rfl rfl rfl rfl ?_; refine runL_nil ?_; refine then_normal ?_; refine run_seq ?_; refine run_region ?_; refine xel rfl (ev_loadAK rfl rfl (ag rfl) (sz rfl) (memF (.head _)) rfl) ?_; refine runL_store1 rfl rfl rfl rfl rfl (sz rfl) rfl rfl rfl rfl rfl ?_; refine runL_nil ?_; refine then_normal ?_; refine run_ret ?_; refine then_ret ?_)
    exact ⟨_, .agg rfl (memF (.tail _ (.head _))) (ag rfl) (sz rfl) rfl .nil, H, blk b5 (outV none 0 ⟨o, [], o.qty, false, false, false, 5⟩) 66 :: blk b4 (outV none 0 ⟨o, [], o.qty, false, false, false, 5⟩) 66 :: [blk b3 o.cells 35, blk b7 (bfind o.trader o.id B).1.cells 35], ⟨none, 0, [], H, rfl, .nil _ _, hH, by rw [List.append_nil]⟩, fun x => by
      show cnt x (blk b5 (outV none 0 ⟨o, [], o.qty, false, false, false, 5⟩) 66 :: blk b4 (outV none 0 ⟨o, [], o.qty, false, false, false, 5⟩) 66 :: ([blk b3 o.cells 35, blk b7 (bfind o.trader o.id B).1.cells 35] ++ H)) = _
      (first | rfl | (simp only [List.append_eq, cnt_append, cnt_cons, cnt_nil, blk]; omega) | (simp only [List.append_eq, cnt_append, cnt_cons, cnt_nil, blk]; done))⟩
  refine run_condF rfl (by simpa using c2) ?_
  (refine run_skip ?_; refine then_normal ?_)
  refine run_seq ?_
  refine run_seq ?_
  refine run_midO (σ := Unit) [0, 3, 4, 5] (fun _ => [(52, .bool (rests o && decide ((64 : Int) ≤ (lenL B.buys + lenL B.sells : Nat))))]) (fun _ => HH) (fun _ => True) rfl ?_ ?_
  · refine RunC.freeze ?_
    have q3 := fun G : Heap => sp_rblen (G ++ (HH ++ F)) b B hIn.up hw
    (refine run_region ?_; refine xel rfl (ev_fieldAddr rfl rfl (fo rfl)) ?_; refine xel rfl (ev_loadF rfl rfl (sc rfl) l3) ?_; (iterate 2 refine xep rfl rfl ?_); refine xgl rfl rfl (fun hq => ev_fieldAddr rfl rfl (fo rfl)) ?_; refine xgl rfl rfl (fun hq => ev_loadF rfl rfl (sc rfl) l3) ?_; refine xgp rfl rfl rfl ?_; (iterate 2 refine xep rfl rfl ?_); refine xgp rfl rfl rfl ?_; refine xgl rfl rfl (fun hq => ev_callQ rfl rfl rfl (pf rfl) (q3 ..)) ?_; refine xgp rfl rfl rfl ?_; refine xep rfl rfl ?_; refine runL_nil ?_)
    exact midN () [] trivial rfl (fun x => by (first | rfl | (simp only [List.append_eq, cnt_append, cnt_cons, cnt_nil, blk]; omega) | (simp only [List.append_eq, cnt_append, cnt_cons, cnt_nil, blk]; done)))
  intro fr' h' hm
  (refine then_normal ?_)
  refine midN_out hm ?_
  clear hm
  rintro ⟨⟩ -
  by_cases c3 : rests o = true ∧ 64 ≤ lenL B.buys + lenL B.sells
  · have e : brefused o B = 4 := by unfold brefused; rw [if_neg c1, if_neg c2, if_pos c3]
    have hb : badd o B = (⟨o, [], o.qty, false, false, false, 4⟩, B) := by unfold badd; rw [if_pos (by rw [e]; decide), e]
    rw [hb]
    refine run_condT rfl (by rw [c3.1, decide_eq_true (by omega)]; rfl) ?_
    rw [hHH]
    (refine run_seq ?_; refine run_region ?_; refine xel rfl (ev_fieldAddr rfl rfl (fo rfl)) ?_; refine runL_store0 rfl rfl rfl rfl rfl (sz rfl) rfl rfl rfl rfl rfl ?_; refine runL_nil ?_; refine then_normal ?_; refine run_seq ?_; refine run_region ?_; refine xel rfl (ev_loadAK rfl rfl (ag rfl) (sz rfl) (memF (.head _)) rfl) ?_; refine runL_store1 rfl rfl rfl rfl rfl (sz rfl) rfl rfl rfl rfl rfl ?_; refine runL_nil ?_; refine then_normal ?_; refine run_ret ?_; refine then_ret ?_)
    exact ⟨_, .agg rfl (memF (.tail _ (.head _))) (ag rfl) (sz rfl) rfl .nil, H, blk b5 (outV none 0 ⟨o, [], o.qty, false, false, false, 4⟩) 66 :: blk b4 (outV none 0 ⟨o, [], o.qty, false, false, false, 4⟩) 66 :: [blk b3 o.cells 35, blk b7 (bfind o.trader o.id B).1.cells 35], ⟨none, 0, [], H, rfl, .nil _ _, hH, by rw [List.append_nil]⟩, fun x => by
      show cnt x (blk b5 (outV none 0 ⟨o, [], o.qty, false, false, false, 4⟩) 66 :: blk b4 (outV none 0 ⟨o, [], o.qty, false, false, false, 4⟩) 66 :: ([blk b3 o.cells 35, blk b7 (bfind o.trader o.id B).1.cells 35] ++ H)) = _
      (first | rfl | (simp only [List.append_eq, cnt_append, cnt_cons, cnt_nil, blk]; omega) | (simp only [List.append_eq, cnt_append, cnt_cons, cnt_nil, blk]; done))⟩
  refine run_condF rfl (by
    cases hr : rests o with
    | false => rfl
    | true => rw [decide_eq_false (fun h9 => c3 ⟨hr, by omega⟩)]; rfl) ?_
  obtain ⟨s, hs9⟩ : ∃ s : Nat, ((s : Nat) : Int) = 3 - o.side := ⟨(3 - o.side).toNat, by omega⟩
  obtain ⟨a, c, bs, l4, hcl, hsrc, hin⟩ := hIn.side s (by omega)
  obtain ⟨hok, h64⟩ := hw.side (3 - o.side)
  have gl := lenL_ge hok
  rw [hs9] at l4 hcl hsrc hin
  have hbr : brefused o B = if o.kind = 5 ∧ meets o (B.side (3 - o.side)) = true then 11 else if o.kind = 4 ∧ fillsL o (B.side (3 - o.side)) = false then 12 else 0 := by
    unfold brefused; rw [if_neg c1, if_neg c2, if_neg c3]
  have hfi := fills_iff (B.side (3 - o.side)) o B.last B.no hok (by omega)
  have hmi := match_is (B.side (3 - o.side)) o B.last B.no hok (by omega)
  (refine run_skip ?_; refine then_normal ?_; refine run_seq ?_)
  refine run_midO (σ := Unit) [0, 3, 4, 5] (fun _ => [(9, .slice a (B.side (3 - o.side)).length c)]) (fun _ => HH) (fun _ => True) rfl ?_ ?_
  · refine RunC.freeze ?_
    refine run_region_D mo ?_
    (refine runD_q 0 rfl rfl (by kernel_rfl) ?_; refine ⟨_, fun _ => ev_pure rfl, ?_⟩; refine runD_q 1 rfl rfl (by kernel_rfl) ?_; refine ⟨_, fun _ => ev_fieldAddr rfl rfl (fo rfl), ?_⟩; refine runD_q 2 rfl rfl (by kernel_rfl) ?_; refine ⟨_, fun _ => ev_loadF rfl rfl (sc rfl) l2, ?_⟩; refine runD_q 3 rfl rfl (by kernel_rfl) ?_; refine ⟨_, fun _ => ev_sub rfl rfl rfl (by omega), ?_⟩; refine runD_q 4 rfl rfl (by kernel_rfl) ?_; refine ⟨_, fun _ => ev_pure rfl, ?_⟩; refine runD_q 5 rfl rfl (by kernel_rfl) ?_; refine ⟨_, fun _ => ev_fieldAddr rfl rfl (fo rfl), ?_⟩; refine runD_q 6 rfl rfl (by kernel_rfl) ?_; refine ⟨_, fun _ => ev_indexAddrA rfl rfl rfl (ar rfl) (by omega) (by omega), ?_⟩; refine runD_q 7 rfl rfl (by kernel_rfl) ?_; refine ⟨_, fun _ => ev_loadF rfl rfl (sc rfl) l4, ?_⟩; refine runD_q 8 rfl rfl (by kernel_rfl) ?_; refine ⟨_, fun _ => ev_pure rfl, ?_⟩; refine runD_done (by kernel_rfl) ?_)
    exact midN () [] trivial rfl (fun x => by (first | rfl | (simp only [List.append_eq, cnt_append, cnt_cons, cnt_nil, blk]; omega) | (simp only [List.append_eq, cnt_append, cnt_cons, cnt_nil, blk]; done)))
  intro fr' h' hm
  (refine then_normal ?_)
  refine midN_out hm ?_
  clear hm
  rintro ⟨⟩ -
  ((iterate 2 refine run_seq ?_))
  clear l4
  refine run_midO (σ := Unit) [0, 3, 4, 5] (fun _ => [(80, .bool (decide (o.kind = 5) && meets o (B.side (3 - o.side))))]) (fun _ => HH) (fun _ => True) rfl ?_ ?_
  · refine RunC.freeze ?_
    clear hbr hfi hmi
    generalize B.side (3 - o.side) = l at *
    by_cases k5 : o.kind = 5
    · have hgd : decide (o.kind = 5) = true := decide_eq_true k5
      match l, hsrc, hin, hok with
      | [], hsrc, hin, hok =>
        have hge : (decide (o.kind = 5) && decide ((0 : Int) < ((([] : List Lv).length : Nat) : Int))) = false := by rw [hgd]; rfl
        refine run_region_D mo ?_
        (refine runD_q 0 rfl rfl (by kernel_rfl) ?_; refine ⟨_, fun _ => ev_fieldAddr rfl rfl (fo rfl), ?_⟩; refine runD_q 1 rfl rfl (by kernel_rfl) ?_; refine ⟨_, fun _ => ev_loadF rfl rfl (sc rfl) l3, ?_⟩; refine runD_q 2 rfl rfl (by kernel_rfl) ?_; refine ⟨_, fun _ => ev_pure rfl, ?_⟩; refine runD_q 3 rfl rfl (by kernel_rfl) ?_; refine ⟨_, fun _ => ev_pure rfl, ?_⟩; refine runD_gq 4 rfl rfl rfl rfl rfl rfl hgd (by kernel_rfl) ?_; refine ⟨_, fun _ => ev_pure rfl, ?_⟩; refine runD_gq 5 rfl rfl rfl rfl rfl rfl hgd (by kernel_rfl) ?_; refine ⟨_, fun _ => ev_len rfl rfl (se rfl), ?_⟩; refine runD_gq 6 rfl rfl rfl rfl rfl rfl hgd (by kernel_rfl) ?_; refine ⟨_, fun _ => ev_pure rfl, ?_⟩; refine runD_q 7 rfl rfl (by kernel_rfl) ?_; refine ⟨_, fun _ => ev_pure rfl, ?_⟩; refine runD_q 8 rfl rfl (by kernel_rfl) ?_; refine ⟨_, fun _ => ev_pure rfl, ?_⟩; refine runD_gn 9 rfl rfl rfl rfl rfl rfl hge (by kernel_rfl) ?_; refine runD_gn 10 rfl rfl rfl rfl rfl rfl hge (by kernel_rfl) ?_; refine runD_gn 11 rfl rfl rfl rfl rfl rfl hge (by kernel_rfl) ?_; refine runD_gn 12 rfl rfl rfl rfl rfl rfl hge (by kernel_rfl) ?_; refine runD_gn 13 rfl rfl rfl rfl rfl rfl hge (by kernel_rfl) ?_; refine runD_gn 14 rfl rfl rfl rfl rfl rfl hge (by kernel_rfl) ?_; refine runD_gn 15 rfl rfl rfl rfl rfl rfl hge (by kernel_rfl) ?_; refine runD_gn 16 rfl rfl rfl rfl rfl rfl hge (by kernel_rfl) ?_; refine runD_q 17 rfl rfl (by kernel_rfl) ?_; refine ⟨_, fun _ => ev_pickF rfl rfl hge rfl, ?_⟩; refine runD_done (by kernel_rfl) ?_)
        exact midN () [] trivial (by rw [show meets o [] = false from rfl, hgd]; rfl) (fun x => by (first | rfl | (simp only [List.append_eq, cnt_append, cnt_cons, cnt_nil, blk]; omega) | (simp only [List.append_eq, cnt_append, cnt_cons, cnt_nil, blk]; done)))
      | lv :: r, hsrc, hin, hok =>
        have hge : (decide (o.kind = 5) && decide ((0 : Int) < (((lv :: r).length : Nat) : Int))) = true := by rw [hgd, decide_eq_true (by simp)]; rfl
        obtain ⟨b2, off, bi, lv', rfl, hlv, l1', hi⟩ := RsIn.level (n := 0) (cap := 0) hsrc hin (i := 0) (by simp)
        simp only [List.getElem?_cons_zero, Option.some.injEq] at hlv
        subst hlv
        have l4 : LoadsF (HH ++ F) b2 (off + (0 : Int).toNat * 1) (.pointer (some ⟨bi, 0, none⟩)) := l1'
        obtain ⟨a3, c3, hc3, hm3, hs3⟩ := hi
        have l5 : LoadsF (HH ++ F) bi (0 + 0) (.int .i64 lv.p) := ⟨_, _, _, hm3, rfl⟩
        have hlen0 : 0 < (lv :: r).length := by simp
        have q8 := fun F => rp_crosses F o lv.p
        refine run_region_D mo ?_
        (refine runD_q 0 rfl rfl (by kernel_rfl) ?_; refine ⟨_, fun _ => ev_fieldAddr rfl rfl (fo rfl), ?_⟩; refine runD_q 1 rfl rfl (by kernel_rfl) ?_; refine ⟨_, fun _ => ev_loadF rfl rfl (sc rfl) l3, ?_⟩; refine runD_q 2 rfl rfl (by kernel_rfl) ?_; refine ⟨_, fun _ => ev_pure rfl, ?_⟩; refine runD_q 3 rfl rfl (by kernel_rfl) ?_; refine ⟨_, fun _ => ev_pure rfl, ?_⟩; refine runD_gq 4 rfl rfl rfl rfl rfl rfl hgd (by kernel_rfl) ?_; refine ⟨_, fun _ => ev_pure rfl, ?_⟩; refine runD_gq 5 rfl rfl rfl rfl rfl rfl hgd (by kernel_rfl) ?_; refine ⟨_, fun _ => ev_len rfl rfl (se rfl), ?_⟩; refine runD_gq 6 rfl rfl rfl rfl rfl rfl hgd (by kernel_rfl) ?_; refine ⟨_, fun _ => ev_pure rfl, ?_⟩; refine runD_q 7 rfl rfl (by kernel_rfl) ?_; refine ⟨_, fun _ => ev_pure rfl, ?_⟩; refine runD_q 8 rfl rfl (by kernel_rfl) ?_; refine ⟨_, fun _ => ev_pure rfl, ?_⟩; refine runD_gq 9 rfl rfl rfl rfl rfl rfl hge (by kernel_rfl) ?_; refine ⟨_, fun _ => ev_loadAF rfl rfl (ag rfl) (sz rfl) l1 rfl, ?_⟩; refine runD_gq 10 rfl rfl rfl rfl rfl rfl hge (by kernel_rfl) ?_; refine ⟨_, fun _ => ev_pure rfl, ?_⟩; refine runD_gq 11 rfl rfl rfl rfl rfl rfl hge (by kernel_rfl) ?_; refine ⟨_, fun _ => ev_indexAddr rfl rfl rfl (se rfl) (by omega) (by omega), ?_⟩; refine runD_gq 12 rfl rfl rfl rfl rfl rfl hge (by kernel_rfl) ?_; refine ⟨_, fun _ => ev_loadF rfl rfl (sc rfl) l4, ?_⟩; refine runD_gq 13 rfl rfl rfl rfl rfl rfl hge (by kernel_rfl) ?_; refine ⟨_, fun _ => ev_pure rfl, ?_⟩; refine runD_gq 14 rfl rfl rfl rfl rfl rfl hge (by kernel_rfl) ?_; refine ⟨_, fun _ => ev_fieldAddr rfl rfl (fo rfl), ?_⟩; refine runD_gq 15 rfl rfl rfl rfl rfl rfl hge (by kernel_rfl) ?_; refine ⟨_, fun _ => ev_loadF rfl rfl (sc rfl) l5, ?_⟩; refine runD_gq 16 rfl rfl rfl rfl rfl rfl hge (by kernel_rfl) ?_; refine ⟨_, fun _ => ev_callQ rfl rfl rfl (pf rfl) (q8 ..), ?_⟩; refine runD_q 17 rfl rfl (by kernel_rfl) ?_; refine ⟨_, fun _ => ev_pure rfl, ?_⟩; refine runD_done (by kernel_rfl) ?_)
        exact midN () [] trivial (by rw [show meets o (lv :: r) = crosses o lv.p from rfl, hge, hgd]; rfl) (fun x => by (first | rfl | (simp only [List.append_eq, cnt_append, cnt_cons, cnt_nil, blk]; omega) | (simp only [List.append_eq, cnt_append, cnt_cons, cnt_nil, blk]; done)))
    · have hgd : decide (o.kind = 5) = false := decide_eq_false k5
      have hge : false = false := rfl
      refine run_region_D mo ?_
      (refine runD_q 0 rfl rfl (by kernel_rfl) ?_; refine ⟨_, fun _ => ev_fieldAddr rfl rfl (fo rfl), ?_⟩; refine runD_q 1 rfl rfl (by kernel_rfl) ?_; refine ⟨_, fun _ => ev_loadF rfl rfl (sc rfl) l3, ?_⟩; refine runD_q 2 rfl rfl (by kernel_rfl) ?_; refine ⟨_, fun _ => ev_pure rfl, ?_⟩; refine runD_q 3 rfl rfl (by kernel_rfl) ?_; refine ⟨_, fun _ => ev_pure rfl, ?_⟩; refine runD_gn 4 rfl rfl rfl rfl rfl rfl hgd (by kernel_rfl) ?_; refine runD_gn 5 rfl rfl rfl rfl rfl rfl hgd (by kernel_rfl) ?_; refine runD_gn 6 rfl rfl rfl rfl rfl rfl hgd (by kernel_rfl) ?_; refine runD_q 7 rfl rfl (by kernel_rfl) ?_; refine ⟨_, fun _ => ev_pickF rfl rfl hgd rfl, ?_⟩; refine runD_q 8 rfl rfl (by kernel_rfl) ?_; refine ⟨_, fun _ => ev_pure rfl, ?_⟩; refine runD_gn 9 rfl rfl rfl rfl rfl rfl hge (by kernel_rfl) ?_; refine runD_gn 10 rfl rfl rfl rfl rfl rfl hge (by kernel_rfl) ?_; refine runD_gn 11 rfl rfl rfl rfl rfl rfl hge (by kernel_rfl) ?_; refine runD_gn 12 rfl rfl rfl rfl rfl rfl hge (by kernel_rfl) ?_; refine runD_gn 13 rfl rfl rfl rfl rfl rfl hge (by kernel_rfl) ?_; refine runD_gn 14 rfl rfl rfl rfl rfl rfl hge (by kernel_rfl) ?_; refine runD_gn 15 rfl rfl rfl rfl rfl rfl hge (by kernel_rfl) ?_; refine runD_gn 16 rfl rfl rfl rfl rfl rfl hge (by kernel_rfl) ?_; refine runD_q 17 rfl rfl (by kernel_rfl) ?_; refine ⟨_, fun _ => ev_pickF rfl rfl hge rfl, ?_⟩; refine runD_done (by kernel_rfl) ?_)
      exact midN () [] trivial (by rw [hgd]; rfl) (fun x => by (first | rfl | (simp only [List.append_eq, cnt_append, cnt_cons, cnt_nil, blk]; omega) | (simp only [List.append_eq, cnt_append, cnt_cons, cnt_nil, blk]; done)))
  intro fr' h' hm
  (refine then_normal ?_)
  refine midN_out hm ?_
  clear hm hsrc hin
  rintro ⟨⟩ -
  by_cases c4 : o.kind = 5 ∧ meets o (B.side (3 - o.side)) = true
  · have e : brefused o B = 11 := by rw [hbr, if_pos c4]
    have hb : badd o B = (⟨o, [], o.qty, false, false, false, 11⟩, B) := by unfold badd; rw [if_pos (by rw [e]; decide), e]
    rw [hb]
    refine run_condT rfl (by rw [c4.2, decide_eq_true c4.1]; rfl) ?_
    rw [hHH]
    (refine run_seq ?_; refine run_region ?_; refine xel rfl (ev_fieldAddr rfl rfl (fo rfl)) ?_; refine runL_store0 rfl rfl rfl rfl rfl (sz rfl) rfl rfl rfl rfl rfl ?_; refine runL_nil ?_; refine then_normal ?_; refine run_seq ?_; refine run_region ?_; refine xel rfl (ev_loadAK rfl rfl (ag rfl) (sz rfl) (memF (.head _)) rfl) ?_; refine runL_store1 rfl rfl rfl rfl rfl (sz rfl) rfl rfl rfl rfl rfl ?_; refine runL_nil ?_; refine then_normal ?_; refine run_ret ?_; refine then_ret ?_)
    exact ⟨_, .agg rfl (memF (.tail _ (.head _))) (ag rfl) (sz rfl) rfl .nil, H, blk b5 (outV none 0 ⟨o, [], o.qty, false, false, false, 11⟩) 66 :: blk b4 (outV none 0 ⟨o, [], o.qty, false, false, false, 11⟩) 66 :: [blk b3 o.cells 35, blk b7 (bfind o.trader o.id B).1.cells 35], ⟨none, 0, [], H, rfl, .nil _ _, hH, by rw [List.append_nil]⟩, fun x => by
      show cnt x (blk b5 (outV none 0 ⟨o, [], o.qty, false, false, false, 11⟩) 66 :: blk b4 (outV none 0 ⟨o, [], o.qty, false, false, false, 11⟩) 66 :: ([blk b3 o.cells 35, blk b7 (bfind o.trader o.id B).1.cells 35] ++ H)) = _
      (first | rfl | (simp only [List.append_eq, cnt_append, cnt_cons, cnt_nil, blk]; omega) | (simp only [List.append_eq, cnt_append, cnt_cons, cnt_nil, blk]; done))⟩
  rw [if_neg c4] at hbr
  refine run_condF rfl (by
    by_cases k5 : o.kind = 5
    · have : meets o (B.side (3 - o.side)) = false := by simpa using fun h9 => c4 ⟨k5, h9⟩
      rw [this, decide_eq_true k5]; rfl
    · rw [decide_eq_false k5]; rfl) ?_
  rw [hHH]
  (refine run_skip ?_; refine then_normal ?_; (iterate 2 refine run_seq ?_); refine run_region ?_; refine xel rfl (ev_fieldAddr rfl rfl (fo rfl)) ?_; refine xel rfl (ev_loadK rfl rfl (sc rfl) (memF (.tail _ (.tail _ (.head _)))) rfl) ?_; refine xep rfl rfl ?_; refine runL_nil ?_; refine then_normal ?_)
  rw [← hHH]
  by_cases c5 : o.kind = 4 ∧ fillsL o (B.side (3 - o.side)) = false
  · have e : brefused o B = 12 := by rw [hbr, if_pos c5]
    have hb : badd o B = (⟨o, [], o.qty, false, false, false, 12⟩, B) := by unfold badd; rw [if_pos (by rw [e]; decide), e]
    have hmq : 0 < (matchL o (B.side (3 - o.side)) B.last B.no).qty := by
      have h9 : ¬ (matchL o (B.side (3 - o.side)) B.last B.no).qty = 0 := fun h => by rw [hfi.2 h] at c5; cases c5.2
      have := hmi.qty; omega
    rw [hb]
    refine run_condT rfl (decide_eq_true c5.1) ?_
    (refine run_seq ?_)
    refine run_midO (σ := Unit) [0, 3, 4, 5] (fun _ => [(11, .int .i64 (matchL o (B.side (3 - o.side)) B.last B.no).qty)]) (fun _ => HH) (fun _ => True) rfl ?_ ?_
    · skip
      refine RunC.perm (h' := [] ++ HH) (fun x => by (first | rfl | (simp only [List.append_eq, cnt_append, cnt_cons, cnt_nil, blk]; omega) | (simp only [List.append_eq, cnt_append, cnt_cons, cnt_nil, blk]; done))) ?_
      refine RunC.freezeR ?_
      refine run_region_D mo ?_
      (refine runD_q 0 rfl rfl (by kernel_rfl) ?_; refine ⟨_, fun _ => ev_pure rfl, ?_⟩; refine runD_q 2 rfl rfl (by kernel_rfl) ?_; refine ⟨_, fun _ => ev_loadAF rfl rfl (ag rfl) (sz rfl) l1 rfl, ?_⟩; refine runD_1 1 (by kernel_rfl) rfl rfl rfl ?_)
      refine runL_callZ [] [] rfl rfl rfl rfl rfl rfl rfl (pf rfl) (fun x => by (first | rfl | (simp only [List.append_eq, cnt_append, cnt_cons, cnt_nil, blk]; omega) | (simp only [List.append_eq, cnt_append, cnt_cons, cnt_nil, blk]; done))) (sp_rcopied _ b B hIn hw) ?_
      rintro v HC ⟨c9, rfl, hC⟩
      (refine runL_nil ?_; refine endS_d rfl ?_; refine runD_1 3 (by kernel_rfl) rfl rfl rfl ?_)
      refine runL_callZ [] HC rfl rfl rfl rfl rfl rfl rfl (pf rfl) (fun x => by (first | rfl | (simp only [List.append_eq, cnt_append, cnt_cons, cnt_nil, blk]; omega) | (simp only [List.append_eq, cnt_append, cnt_cons, cnt_nil, blk]; done))) (sp_rbmatch _ HC c9 B hC hw o hsd (by omega) hq2 hn hn2) ?_
      rintro r _ ⟨a2, c2, A2, H2, rfl, own2, hH2, rfl⟩
      (refine runL_nil ?_; refine endS_d rfl ?_; refine runD_q 4 rfl rfl (by kernel_rfl) ?_; refine ⟨_, fun _ => ev_pure rfl, ?_⟩; refine runD_q 5 rfl rfl (by kernel_rfl) ?_; refine ⟨_, fun _ => ev_pure rfl, ?_⟩; refine runD_q 6 rfl rfl (by kernel_rfl) ?_; refine ⟨_, fun _ => ev_pure rfl, ?_⟩; refine runD_q 7 rfl rfl (by kernel_rfl) ?_; refine ⟨_, fun _ => ev_pure rfl, ?_⟩; refine runD_q 8 rfl rfl (by kernel_rfl) ?_; refine ⟨_, fun _ => ev_pure rfl, ?_⟩; refine runD_q 9 rfl rfl (by kernel_rfl) ?_; refine ⟨_, fun _ => ev_pure rfl, ?_⟩; refine runD_q 10 rfl rfl (by kernel_rfl) ?_; refine ⟨_, fun _ => ev_pure rfl, ?_⟩; refine runD_done (by kernel_rfl) ?_)
      exact midN () (H2 ++ A2) trivial rfl (fun x => by (first | rfl | (simp only [List.append_eq, cnt_append, cnt_cons, cnt_nil, blk]; omega) | (simp only [List.append_eq, cnt_append, cnt_cons, cnt_nil, blk]; done)))
    intro fr' h' hm
    (refine then_normal ?_)
    refine midN_out hm ?_
    clear hm
    rintro ⟨⟩ -
    rw [hHH]
    (refine run_seq ?_; refine run_region ?_; (iterate 2 refine xep rfl rfl ?_); refine runL_nil ?_; refine then_normal ?_)
    refine run_condT rfl (decide_eq_true hmq) ?_
    (refine run_seq ?_; refine run_region ?_; refine xel rfl (ev_fieldAddr rfl rfl (fo rfl)) ?_; refine runL_store0 rfl rfl rfl rfl rfl (sz rfl) rfl rfl rfl rfl rfl ?_; refine runL_nil ?_; refine then_normal ?_; refine run_seq ?_; refine run_region ?_; refine xel rfl (ev_loadAK rfl rfl (ag rfl) (sz rfl) (memF (.head _)) rfl) ?_; refine runL_store1 rfl rfl rfl rfl rfl (sz rfl) rfl rfl rfl rfl rfl ?_; refine runL_nil ?_; refine then_normal ?_; refine run_ret ?_; refine then_ret ?_)
    exact ⟨_, .agg rfl (memF (.tail _ (.head _))) (ag rfl) (sz rfl) rfl .nil, H, blk b5 (outV none 0 ⟨o, [], o.qty, false, false, false, 12⟩) 66 :: blk b4 (outV none 0 ⟨o, [], o.qty, false, false, false, 12⟩) 66 :: [blk b3 o.cells 35, blk b7 (bfind o.trader o.id B).1.cells 35], ⟨none, 0, [], H, rfl, .nil _ _, hH, by rw [List.append_nil]⟩, fun x => by
      show cnt x (blk b5 (outV none 0 ⟨o, [], o.qty, false, false, false, 12⟩) 66 :: blk b4 (outV none 0 ⟨o, [], o.qty, false, false, false, 12⟩) 66 :: ([blk b3 o.cells 35, blk b7 (bfind o.trader o.id B).1.cells 35] ++ H)) = _
      (first | rfl | (simp only [List.append_eq, cnt_append, cnt_cons, cnt_nil, blk]; omega) | (simp only [List.append_eq, cnt_append, cnt_cons, cnt_nil, blk]; done))⟩
  rw [if_neg c5] at hbr
  refine run_midO (σ := Unit) [0, 3, 4, 5] (fun _ => []) (fun _ => HH) (fun _ => True) rfl ?_ ?_
  · by_cases k4 : o.kind = 4
    · have hmq : (matchL o (B.side (3 - o.side)) B.last B.no).qty = 0 := hfi.1 (by simpa using fun h9 => c5 ⟨k4, h9⟩)
      refine run_condT rfl (decide_eq_true k4) ?_
      (refine run_seq ?_)
      refine run_midO (σ := Unit) [0, 3, 4, 5] (fun _ => [(11, .int .i64 (matchL o (B.side (3 - o.side)) B.last B.no).qty)]) (fun _ => HH) (fun _ => True) rfl ?_ ?_
      · skip
        refine RunC.perm (h' := [] ++ HH) (fun x => by (first | rfl | (simp only [List.append_eq, cnt_append, cnt_cons, cnt_nil, blk]; omega) | (simp only [List.append_eq, cnt_append, cnt_cons, cnt_nil, blk]; done))) ?_
        refine RunC.freezeR ?_
        refine run_region_D mo ?_
        (refine runD_q 0 rfl rfl (by kernel_rfl) ?_; refine ⟨_, fun _ => ev_pure rfl, ?_⟩; refine runD_q 2 rfl rfl (by kernel_rfl) ?_; refine ⟨_, fun _ => ev_loadAF rfl rfl (ag rfl) (sz rfl) l1 rfl, ?_⟩; refine runD_1 1 (by kernel_rfl) rfl rfl rfl ?_)
        refine runL_callZ [] [] rfl rfl rfl rfl rfl rfl rfl (pf rfl) (fun x => by (first | rfl | (simp only [List.append_eq, cnt_append, cnt_cons, cnt_nil, blk]; omega) | (simp only [List.append_eq, cnt_append, cnt_cons, cnt_nil, blk]; done))) (sp_rcopied _ b B hIn hw) ?_
        rintro v HC ⟨c9, rfl, hC⟩
        (refine runL_nil ?_; refine endS_d rfl ?_; refine runD_1 3 (by kernel_rfl) rfl rfl rfl ?_)
        refine runL_callZ [] HC rfl rfl rfl rfl rfl rfl rfl (pf rfl) (fun x => by (first | rfl | (simp only [List.append_eq, cnt_append, cnt_cons, cnt_nil, blk]; omega) | (simp only [List.append_eq, cnt_append, cnt_cons, cnt_nil, blk]; done))) (sp_rbmatch _ HC c9 B hC hw o hsd (by omega) hq2 hn hn2) ?_
        rintro r _ ⟨a2, c2, A2, H2, rfl, own2, hH2, rfl⟩
        (refine runL_nil ?_; refine endS_d rfl ?_; refine runD_q 4 rfl rfl (by kernel_rfl) ?_; refine ⟨_, fun _ => ev_pure rfl, ?_⟩; refine runD_q 5 rfl rfl (by kernel_rfl) ?_; refine ⟨_, fun _ => ev_pure rfl, ?_⟩; refine runD_q 6 rfl rfl (by kernel_rfl) ?_; refine ⟨_, fun _ => ev_pure rfl, ?_⟩; refine runD_q 7 rfl rfl (by kernel_rfl) ?_; refine ⟨_, fun _ => ev_pure rfl, ?_⟩; refine runD_q 8 rfl rfl (by kernel_rfl) ?_; refine ⟨_, fun _ => ev_pure rfl, ?_⟩; refine runD_q 9 rfl rfl (by kernel_rfl) ?_; refine ⟨_, fun _ => ev_pure rfl, ?_⟩; refine runD_q 10 rfl rfl (by kernel_rfl) ?_; refine ⟨_, fun _ => ev_pure rfl, ?_⟩; refine runD_done (by kernel_rfl) ?_)
        exact midN () (H2 ++ A2) trivial rfl (fun x => by (first | rfl | (simp only [List.append_eq, cnt_append, cnt_cons, cnt_nil, blk]; omega) | (simp only [List.append_eq, cnt_append, cnt_cons, cnt_nil, blk]; done)))
      intro fr' h' hm
      (refine then_normal ?_)
      refine midN_out hm ?_
      clear hm
      rintro ⟨⟩ -
      (refine run_seq ?_; refine run_region ?_; (iterate 2 refine xep rfl rfl ?_); refine runL_nil ?_; refine then_normal ?_)
      refine run_condF rfl (decide_eq_false (by omega)) ?_
      (refine run_skip ?_)
      exact midN () [] trivial rfl (fun x => by (first | rfl | (simp only [List.append_eq, cnt_append, cnt_cons, cnt_nil, blk]; omega) | (simp only [List.append_eq, cnt_append, cnt_cons, cnt_nil, blk]; done)))
    · refine run_condF rfl (decide_eq_false k4) ?_
      (refine run_skip ?_)
      exact midN () [] trivial rfl (fun x => by (first | rfl | (simp only [List.append_eq, cnt_append, cnt_cons, cnt_nil, blk]; omega) | (simp only [List.append_eq, cnt_append, cnt_cons, cnt_nil, blk]; done)))
  intro fr' h' hm
  (refine then_normal ?_)
  refine midN_out hm ?_
  clear hm
  rintro ⟨⟩ -
  have hb : badd o B = (⟨o, (matchL o (B.side (3 - o.side)) B.last B.no).fs, (matchL o (B.side (3 - o.side)) B.last B.no).qty, decide (0 < (matchL o (B.side (3 - o.side)) B.last B.no).qty) && !(matchL o (B.side (3 - o.side)) B.last B.no).self && rests o, false, (matchL o (B.side (3 - o.side)) B.last B.no).self, 0⟩,
      if (decide (0 < (matchL o (B.side (3 - o.side)) B.last B.no).qty) && !(matchL o (B.side (3 - o.side)) B.last B.no).self && rests o) = true then ((B.put (3 - o.side) (matchL o (B.side (3 - o.side)) B.last B.no).lvs).tell (matchL o (B.side (3 - o.side)) B.last B.no).last (matchL o (B.side (3 - o.side)) B.last B.no).no).put o.side (restL (wqs o (matchL o (B.side (3 - o.side)) B.last B.no).qty (min o.show_ (matchL o (B.side (3 - o.side)) B.last B.no).qty)) (((B.put (3 - o.side) (matchL o (B.side (3 - o.side)) B.last B.no).lvs).tell (matchL o (B.side (3 - o.side)) B.last B.no).last (matchL o (B.side (3 - o.side)) B.last B.no).no).side o.side))
      else (B.put (3 - o.side) (matchL o (B.side (3 - o.side)) B.last B.no).lvs).tell (matchL o (B.side (3 - o.side)) B.last B.no).last (matchL o (B.side (3 - o.side)) B.last B.no).no) := by
    unfold badd
    rw [if_neg (by rw [hbr]; simp)]
  rw [hb]
  have hB1s : ((B.put (3 - o.side) (matchL o (B.side (3 - o.side)) B.last B.no).lvs).tell (matchL o (B.side (3 - o.side)) B.last B.no).last (matchL o (B.side (3 - o.side)) B.last B.no).no).side o.side = B.side o.side := by
    rcases hsd with h | h <;> rw [h] <;> rfl
  clear hb hbr hfi hmi l1 l2 l3 hIn
  rw [hHH]
  (refine run_seq ?_; refine run_region ?_; refine xep rfl rfl ?_; refine xel rfl (ev_loadAK rfl rfl (ag rfl) (sz rfl) (memF (.tail _ (.tail _ (.head _)))) rfl) ?_)
  refine runL_callZ (blk b5 (outV none 0 ⟨o, [], o.qty, false, false, false, 0⟩) 66 :: blk b4 (outV none 0 ⟨o0, [], 0, false, false, false, 0⟩) 66 :: blk b3 o.cells 35 :: [blk b7 (bfind o.trader o.id B).1.cells 35]) H rfl rfl rfl rfl rfl rfl rfl (pf rfl) (fun x => by (first | rfl | (simp only [List.append_eq, cnt_append, cnt_cons, cnt_nil, blk]; omega) | (simp only [List.append_eq, cnt_append, cnt_cons, cnt_nil, blk]; done))) (sp_rbmatch _ H b B hH hw o hsd (by omega) hq2 hn hn2) ?_
  rintro r _ ⟨a9, c9, A, H', rfl, own, hH', rfl⟩
  generalize matchL o (B.side (3 - o.side)) B.last B.no = m at *
  generalize (B.put (3 - o.side) m.lvs).tell m.last m.no = B1 at *
  ((iterate 4 refine xep rfl rfl ?_); refine xel rfl (ev_fieldAddr rfl rfl (fo rfl)) ?_; refine runL_store0 rfl rfl rfl rfl rfl (sz rfl) rfl rfl rfl rfl rfl ?_; refine xel rfl (ev_fieldAddr rfl rfl (fo rfl)) ?_; refine runL_store0 rfl rfl rfl rfl rfl (sz rfl) rfl rfl rfl rfl rfl ?_; refine xel rfl (ev_fieldAddr rfl rfl (fo rfl)) ?_; refine runL_store0 rfl rfl rfl rfl rfl (sz rfl) rfl rfl rfl rfl rfl ?_; refine runL_nil ?_; refine then_normal ?_; (iterate 2 refine run_seq ?_); refine run_region ?_; refine xel rfl (ev_fieldAddr rfl rfl (fo rfl)) ?_; refine xel rfl (ev_loadK rfl rfl (sc rfl) (memF (.head _)) rfl) ?_; (iterate 2 refine xep rfl rfl ?_); refine xgl rfl rfl (fun hq => ev_fieldAddr rfl rfl (fo rfl)) ?_; refine xgl rfl rfl (fun hq => ev_loadK rfl rfl (sc rfl) (memF (.head _)) rfl) ?_; refine xgp rfl rfl rfl ?_; (iterate 2 refine xep rfl rfl ?_); refine xgl rfl rfl (fun hq => ev_fieldAddr rfl rfl (fo rfl)) ?_; refine xgl rfl rfl (fun hq => ev_loadK rfl rfl (sc rfl) (memF (.tail _ (.tail _ (.head _)))) rfl) ?_; (iterate 2 refine xgp rfl rfl rfl ?_); refine xgl rfl rfl (fun hq => ev_fieldAddr rfl rfl (fo rfl)) ?_; refine xgl rfl rfl (fun hq => ev_loadK rfl rfl (sc rfl) (memF (.tail _ (.tail _ (.head _)))) rfl) ?_; (iterate 2 refine xgp rfl rfl rfl ?_); refine xep rfl rfl ?_; refine runL_nil ?_; refine then_normal ?_)
  rw [show (decide (o.kind = 1) || decide (o.kind = 5)) = rests o from rfl]
  generalize (decide (0 < m.qty) && !m.self && rests o) = rr at *
  obtain ⟨Z, hZ⟩ : ∃ Z, Z = [blk b7 (bfind o.trader o.id B).1.cells 35] := ⟨_, rfl⟩
  refine RunC.perm (h' := blk b5 (outV a9 c9 ⟨o, m.fs, m.qty, false, false, m.self, 0⟩) 66 :: blk b4 (outV none 0 ⟨o0, [], 0, false, false, false, 0⟩) 66 :: blk b3 o.cells 35 :: (Z ++ (H' ++ A))) (fun x => by
    rw [hZ]
    show cnt x (blk b5 (outV a9 c9 ⟨o, m.fs, m.qty, false, false, m.self, 0⟩) 66 :: blk b4 (outV none 0 ⟨o0, [], 0, false, false, false, 0⟩) 66 :: blk b3 o.cells 35 :: (_ ++ (H' ++ A))) = _
    (first | rfl | (simp only [List.append_eq, cnt_append, cnt_cons, cnt_nil, blk]; omega) | (simp only [List.append_eq, cnt_append, cnt_cons, cnt_nil, blk]; done))) ?_
  cases rr with
  | false =>
    refine run_condF rfl rfl ?_
    (refine run_skip ?_; refine then_normal ?_; refine run_seq ?_; refine run_region ?_; refine xel rfl (ev_loadAK rfl rfl (ag rfl) (sz rfl) (memF (.head _)) rfl) ?_; refine runL_store1 rfl rfl rfl rfl rfl (sz rfl) rfl rfl rfl rfl rfl ?_; refine runL_nil ?_; refine then_normal ?_; refine run_ret ?_)
    exact ⟨_, .agg rfl (memF (.tail _ (.head _))) (ag rfl) (sz rfl) rfl .nil, H' ++ A, blk b5 (outV a9 c9 ⟨o, m.fs, m.qty, false, false, m.self, 0⟩) 66 :: blk b4 (outV a9 c9 ⟨o, m.fs, m.qty, false, false, m.self, 0⟩) 66 :: blk b3 o.cells 35 :: Z, ⟨a9, c9, A, H', rfl, own, hH', rfl⟩, fun x => by
      show cnt x (blk b5 (outV a9 c9 ⟨o, m.fs, m.qty, false, false, m.self, 0⟩) 66 :: blk b4 (outV a9 c9 ⟨o, m.fs, m.qty, false, false, m.self, 0⟩) 66 :: blk b3 o.cells 35 :: (Z ++ (H' ++ A))) = _
      (first | rfl | (simp only [List.append_eq, cnt_append, cnt_cons, cnt_nil, blk]; omega) | (simp only [List.append_eq, cnt_append, cnt_cons, cnt_nil, blk]; done))⟩
  | true =>
    obtain ⟨s2, hs2⟩ : ∃ s2 : Nat, o.side = s2 := ⟨o.side.toNat, by omega⟩
    have hokB := hw.side o.side
    rw [← hB1s, hs2] at hokB
    refine run_condT rfl rfl ?_
    (refine run_seq ?_; refine run_region ?_; refine xel rfl (ev_fieldAddr rfl rfl (fo rfl)) ?_; refine xel rfl (ev_loadK rfl rfl (sc rfl) (memF (.head _)) rfl) ?_; refine xel rfl (ev_fieldAddr rfl rfl (fo rfl)) ?_; refine runL_store2 rfl rfl rfl rfl rfl (sz rfl) rfl rfl rfl rfl rfl ?_; refine runL_nil ?_; refine then_normal ?_; refine run_seq ?_; refine run_region ?_; refine xel rfl (ev_fieldAddr rfl rfl (fo rfl)) ?_; refine xel rfl (ev_loadK rfl rfl (sc rfl) (memF (.tail _ (.tail _ (.head _)))) rfl) ?_; refine xel rfl (ev_fieldAddr rfl rfl (fo rfl)) ?_; refine xel rfl (ev_loadK rfl rfl (sc rfl) (memF (.tail _ (.tail _ (.head _)))) rfl) ?_; refine xel rfl (ev_min rfl rfl rfl) ?_; refine xel rfl (ev_fieldAddr rfl rfl (fo rfl)) ?_; refine runL_store2 rfl rfl rfl rfl rfl (sz rfl) rfl rfl rfl rfl rfl ?_; refine runL_nil ?_; refine then_normal ?_; refine run_seq ?_; refine run_region ?_; refine xep rfl rfl ?_; refine xel rfl (ev_loadAK rfl rfl (ag rfl) (sz rfl) (memF (.tail _ (.tail _ (.head _)))) rfl) ?_)
    refine runL_callZ (blk b3 (wqs o m.qty (min o.show_ m.qty)).cells 35 :: blk b5 (outV a9 c9 ⟨o, m.fs, m.qty, false, false, m.self, 0⟩) 66 :: blk b4 (outV none 0 ⟨o0, [], 0, false, false, false, 0⟩) 66 :: (Z ++ A)) H' rfl rfl rfl rfl rfl rfl rfl (pf rfl) (fun x => by
      show cnt x (blk b5 (outV a9 c9 ⟨o, m.fs, m.qty, false, false, m.self, 0⟩) 66 :: blk b4 (outV none 0 ⟨o0, [], 0, false, false, false, 0⟩) 66 :: blk b3 (wqs o m.qty (min o.show_ m.qty)).cells 35 :: (Z ++ (H' ++ A))) = _
      (first | rfl | (simp only [List.append_eq, cnt_append, cnt_cons, cnt_nil, blk]; omega) | (simp only [List.append_eq, cnt_append, cnt_cons, cnt_nil, blk]; done))) (sp_rbrest _ H' b B1 hH' s2 hokB.1 hokB.2 (wqs o m.qty (min o.show_ m.qty)) (by omega) hs2) ?_
    rintro v3 H5 hH5
    rw [← hs2] at hH5
    (refine runL_nil ?_; refine then_normal ?_; refine run_region ?_; refine xel rfl (ev_fieldAddr rfl rfl (fo rfl)) ?_; refine runL_store1 rfl rfl rfl rfl rfl (sz rfl) rfl rfl rfl rfl rfl ?_; refine runL_nil ?_; refine then_normal ?_; refine run_seq ?_; refine run_region ?_; refine xel rfl (ev_loadAK rfl rfl (ag rfl) (sz rfl) (memF (.tail _ (.head _))) rfl) ?_; refine runL_store2 rfl rfl rfl rfl rfl (sz rfl) rfl rfl rfl rfl rfl ?_; refine runL_nil ?_; refine then_normal ?_; refine run_ret ?_)
    exact ⟨_, .agg rfl (memF (.tail _ (.tail _ (.head _)))) (ag rfl) (sz rfl) rfl .nil, H5 ++ A, blk b5 (outV a9 c9 ⟨o, m.fs, m.qty, true, false, m.self, 0⟩) 66 :: blk b4 (outV a9 c9 ⟨o, m.fs, m.qty, true, false, m.self, 0⟩) 66 :: blk b3 (wqs o m.qty (min o.show_ m.qty)).cells 35 :: Z, ⟨a9, c9, A, H5, rfl, own, hH5, rfl⟩, fun x => by
      show cnt x (blk b3 (wqs o m.qty (min o.show_ m.qty)).cells 35 :: blk b5 (outV a9 c9 ⟨o, m.fs, m.qty, true, false, m.self, 0⟩) 66 :: blk b4 (outV a9 c9 ⟨o, m.fs, m.qty, true, false, m.self, 0⟩) 66 :: (Z ++ A ++ H5)) = _
      (first | rfl | (simp only [List.append_eq, cnt_append, cnt_cons, cnt_nil, blk]; omega) | (simp only [List.append_eq, cnt_append, cnt_cons, cnt_nil, blk]; done))⟩
end Go.Proofs.YtmelpobcpcmdoaaGreat
