/- Contracts of functions of the given program over its translation, each proved by walking its text; used by the laws' rows. It proves no given statement by itself. -/
import Derived.Test.YtmelpobcpcmdoaaGreatSLRMk3
import Derived.Test.YtmelpobcpcmdoaaGreatSLPlRPX
set_option autoImplicit false
set_option linter.unusedSectionVars false
set_option linter.unusedSimpArgs false
set_option linter.unusedVariables false
set_option maxRecDepth 4000
set_option maxHeartbeats 200000000
namespace Go.Proofs.YtmelpobcpcmdoaaGreat
open Go Go.SL Go.Proofs
variable [Base]
theorem mfind_two (t i : Int) (M : Mk) : (mfind t i M).2 = ((bfind t i M.B).2 || decide ((0 : Int) ≤ idxI (isO t i) M.W)) := by
  unfold mfind
  cases hb : (bfind t i M.B).2 with
  | true => rw [if_pos rfl]; rfl
  | false =>
    rw [if_neg (by simp), Bool.false_or]
    rcases idxI_cases (isO t i) M.W with ⟨hk, hno⟩ | ⟨k, x, hk, hx, hp, hn⟩
    · have e : M.W.findIdx? (isO t i) = none := by rw [List.findIdx?_eq_none_iff]; exact hno
      rw [hk, e]; rfl
    · rw [hk, idx_some hx hp hn]
      dsimp only
      rw [hx, decide_eq_true (by omega)]
theorem sp_rmadd (F H : Heap) (m : Nat) (M : Mk) (hH : RmH m M H) (hw : MW M) (hn2 : M.B.no ≤ 1099442421760) (o : Ord) (hk : InI o.kind) :
    Sp Tryz.prog F 9 [.pointer (some ⟨m, 0, none⟩), ov o] H (fun v h' => ∃ a c ts A HF H', v = .slice a ts.length c ∧ ts.map (·.2) = (madd o M).1 ∧ ts.length ≤ 65 ∧ OwnS 66 15 (.slice a ts.length c) ts.length (rows orow ts) A ∧ FsH ts HF ∧ RmH m (madd o M).2 H' ∧ h' = H' ++ A ++ HF) := by
  have hln := hw.len
  have hWl : M.W.length ≤ 64 := by unfold mlen at hln; omega
  have hok := mfirst_ok (o := o) hw
  have hmf := mfind_two o.trader o.id M
  unfold madd
  refine Sp.up ?_
  refine sp_of_code Tryz.func9 rfl rfl ?_
  (refine run_seq ?_; refine run_region ?_; refine runL_box rfl rfl rfl rfl rfl rfl (fun _ => ?_); refine xep rfl rfl ?_; refine runL_nil ?_; refine then_normal ?_; refine run_seq ?_; refine run_region ?_; refine xel rfl (ev_loadAK rfl rfl (ag rfl) (sz rfl) (memF (.head _)) rfl) ?_; refine xel rfl (ev_fieldAddr rfl rfl (fo rfl)) ?_; refine xel rfl (ev_loadK rfl rfl (sc rfl) (memF (.head _)) rfl) ?_; refine xel rfl (ev_build rfl pl66 rfl) ?_; refine runL_alloc rfl rfl rfl rfl rfl ze66 (fun _ => ?_); refine runL_store0 rfl rfl rfl rfl rfl (sz rfl) rfl rfl rfl rfl rfl ?_; refine runL_nil ?_; refine then_normal ?_; refine run_seq ?_)
  rename_i b3 b5
  obtain ⟨HH, hHH⟩ : ∃ HH, HH = blk b5 (outV none 0 ⟨o, [], o.qty, false, false, false, 0⟩) 66 :: blk b3 o.cells 35 :: H := ⟨_, rfl⟩
  refine RunC.perm (h' := HH) (fun y => by rw [hHH]; show cnt y (blk b5 (outV none 0 ⟨o, [], o.qty, false, false, false, 0⟩) 66 :: blk b3 o.cells 35 :: H) = _; simp only [cnt_cons]) ?_
  have hIn : RmIn (HH ++ F) m M := hH.in fun y my => by rw [hHH]; simp [my]
  have hH0 := hH
  obtain ⟨b, aw, cw, HB, AW, hB, ownW, hHe⟩ := hH0
  have hBi : RbIn (HH ++ F) b M.B := hB.in fun y my => by rw [hHH, hHe]; simp [my]
  have hmm : blk m [.pointer (some ⟨b, 0, none⟩), .slice aw M.W.length cw] 62 ∈ HH ++ F := by rw [hHH, hHe]; simp
  have lo : AggF (HH ++ F) b3 0 o.cells := ⟨_, _, _, by rw [hHH]; exact memF (.tail _ (.head _)), Nat.le_refl _, rfl⟩
  refine run_midO (σ := Unit) [0, 3, 5] (fun _ => [(7, .bool (bfind o.trader o.id M.B).2)]) (fun _ => HH) (fun _ => True) rfl ?_ ?_
  · refine RunC.perm (h' := [] ++ HH) (fun y => by (first | rfl | (simp only [List.append_eq, cnt_append, cnt_cons, cnt_nil, blk]; omega) | (simp only [List.append_eq, cnt_append, cnt_cons, cnt_nil, blk]; done))) ?_
    refine RunC.freezeR ?_
    have l1 : LoadsF (HH ++ F) m (0 + 0) (.pointer (some ⟨b, 0, none⟩)) := ⟨_, _, _, hmm, rfl⟩
    have l2 := lo.at 0 _ rfl
    have l3 := lo.at 1 _ rfl
    have q1 := fun G : Heap => sp_rbfind (G ++ (HH ++ F)) b M.B hBi.up hw.b o.trader o.id
    refine run_region_D mo ?_
    (refine runD_q 0 rfl rfl (by kernel_rfl) ?_; refine ⟨_, fun _ => ev_pure rfl, ?_⟩; refine runD_q 1 rfl rfl (by kernel_rfl) ?_; refine ⟨_, fun _ => ev_pure rfl, ?_⟩; refine runD_q 2 rfl rfl (by kernel_rfl) ?_; refine ⟨_, fun _ => ev_fieldAddr rfl rfl (fo rfl), ?_⟩; refine runD_q 3 rfl rfl (by kernel_rfl) ?_; refine ⟨_, fun _ => ev_loadF rfl rfl (sc rfl) l1, ?_⟩; refine runD_q 4 rfl rfl (by kernel_rfl) ?_; refine ⟨_, fun _ => ev_fieldAddr rfl rfl (fo rfl), ?_⟩; refine runD_q 5 rfl rfl (by kernel_rfl) ?_; refine ⟨_, fun _ => ev_loadF rfl rfl (sc rfl) l2, ?_⟩; refine runD_q 6 rfl rfl (by kernel_rfl) ?_; refine ⟨_, fun _ => ev_fieldAddr rfl rfl (fo rfl), ?_⟩; refine runD_q 7 rfl rfl (by kernel_rfl) ?_; refine ⟨_, fun _ => ev_loadF rfl rfl (sc rfl) l3, ?_⟩; refine runD_q 8 rfl rfl (by kernel_rfl) ?_; refine ⟨_, fun _ => ev_callQ rfl rfl rfl (pf rfl) (q1 ..), ?_⟩; refine runD_q 9 rfl rfl (by kernel_rfl) ?_; refine ⟨_, fun _ => ev_pure rfl, ?_⟩; refine runD_q 10 rfl rfl (by kernel_rfl) ?_; refine ⟨_, fun _ => ev_pure rfl, ?_⟩; refine runD_q 11 rfl rfl (by kernel_rfl) ?_; refine ⟨_, fun _ => ev_pure rfl, ?_⟩; refine runD_1 12 (by kernel_rfl) rfl rfl rfl ?_; refine runL_alloc rfl rfl rfl rfl rfl ze35 (fun _ => ?_); refine runL_nil ?_; refine endS_d rfl ?_; refine runD_1 13 (by kernel_rfl) rfl rfl rfl ?_; refine runL_store0 rfl rfl rfl rfl rfl (sz rfl) rfl rfl rfl rfl rfl ?_; refine runL_nil ?_; refine endS_n rfl ?_; refine runD_q 14 rfl rfl (by kernel_rfl) ?_; refine ⟨_, fun _ => ev_pure rfl, ?_⟩; refine runD_done (by kernel_rfl) ?_)
    rename_i b6
    exact midN () [blk b6 (bfind o.trader o.id M.B).1.cells 35] trivial rfl (fun y => by simp only [List.append_eq, cnt_append, cnt_cons, cnt_nil, blk, outV, Ord.cells]; omega)
  intro fr' h' hm
  (refine then_normal ?_)
  refine midN_out hm ?_
  clear hm
  rintro ⟨⟩ -
  refine run_seq ?_
  refine run_midO (σ := (Option Addr × Nat × Heap) × Heap) [0, 5] (fun _ => [])
    (fun s => blk b5 (outV s.1.1 s.1.2.1 (mfirst o M).1) 66 :: (s.2 ++ s.1.2.2))
    (fun s => OwnS 93 21 (.slice s.1.1 (mfirst o M).1.fs.length s.1.2.1) (mfirst o M).1.fs.length (rows fcell (mfirst o M).1.fs) s.1.2.2 ∧ RmH m (mfirst o M).2 s.2) rfl ?_ ?_
  · have q1 := fun F => rp_right F o hk
    rw [hHH]
    (refine run_block ?_; refine run_seq ?_; refine run_region ?_; refine xel rfl (ev_loadAK rfl rfl (ag rfl) (sz rfl) (memF (.tail _ (.head _))) rfl) ?_; refine xel rfl (ev_callQ rfl rfl rfl (pf rfl) (q1 ..)) ?_; (iterate 2 refine xep rfl rfl ?_); refine runL_nil ?_; refine then_normal ?_)
    rw [← hHH]
    by_cases c1 : right o ≠ 0
    · skip
      have e : mfirst o M = (⟨o, [], o.qty, false, false, false, 1⟩, M) := by
        have e0 : mrefused o M = 1 := by unfold mrefused; rw [if_pos c1]
        unfold mfirst; rw [if_pos (by rw [e0]; decide), e0]
      rw [e]
      refine run_condT rfl (by simp [c1]) ?_
      rw [hHH]
      (refine run_region ?_; refine xel rfl (ev_fieldAddr rfl rfl (fo rfl)) ?_; refine runL_store0 rfl rfl rfl rfl rfl (sz rfl) rfl rfl rfl rfl rfl ?_; refine runL_nil ?_; refine in_normal ?_)
      exact midN ((none, 0, []), H) [blk b3 o.cells 35] ⟨.nil _ _, hH⟩ rfl (fun x => by simp only [List.append_eq, cnt_append, cnt_cons, cnt_nil, blk, outV, Ord.cells]; omega)
    have c1' : right o = 0 := by omega
    clear q1
    refine run_condF rfl (by simp [c1']) ?_
    skip
    refine run_seq ?_
    refine run_midO (σ := Unit) [0, 3, 5, 7] (fun _ => [(41, .bool (mfind o.trader o.id M).2)]) (fun _ => HH) (fun _ => True) rfl ?_ ?_
    · refine RunC.freeze ?_
      have l2 := lo.at 0 _ rfl
      have l3 := lo.at 1 _ rfl
      have q1 := fun G : Heap => sp_rwaits (G ++ (HH ++ F)) m M hIn.up (by omega) o.trader o.id
      (refine run_region ?_; (iterate 2 refine xep rfl rfl ?_); refine xgp rfl rfl rfl ?_; refine xgl rfl rfl (fun hq => ev_fieldAddr rfl rfl (fo rfl)) ?_; refine xgl rfl rfl (fun hq => ev_loadF rfl rfl (sc rfl) l2) ?_; refine xgl rfl rfl (fun hq => ev_fieldAddr rfl rfl (fo rfl)) ?_; refine xgl rfl rfl (fun hq => ev_loadF rfl rfl (sc rfl) l3) ?_; refine xgl rfl rfl (fun hq => ev_callQ rfl rfl rfl (pf rfl) (q1 ..)) ?_; refine xgp rfl rfl rfl ?_; (iterate 2 refine xep rfl rfl ?_); refine runL_nil ?_)
      exact midN () [] trivial (by rw [hmf]; rfl) (fun y => by (first | rfl | (simp only [List.append_eq, cnt_append, cnt_cons, cnt_nil, blk]; omega) | (simp only [List.append_eq, cnt_append, cnt_cons, cnt_nil, blk]; done)))
    intro fr' h' hm
    (refine then_normal ?_)
    refine midN_out hm ?_
    clear hm
    rintro ⟨⟩ -
    by_cases c2 : (mfind o.trader o.id M).2 = true
    · skip
      have e : mfirst o M = (⟨o, [], o.qty, false, false, false, 5⟩, M) := by
        have e0 : mrefused o M = 5 := by unfold mrefused; rw [if_neg c1, if_pos c2]
        unfold mfirst; rw [if_pos (by rw [e0]; decide), e0]
      rw [e]
      refine run_condT rfl c2 ?_
      rw [hHH]
      (refine run_region ?_; refine xel rfl (ev_fieldAddr rfl rfl (fo rfl)) ?_; refine runL_store0 rfl rfl rfl rfl rfl (sz rfl) rfl rfl rfl rfl rfl ?_; refine runL_nil ?_; refine in_normal ?_)
      exact midN ((none, 0, []), H) [blk b3 o.cells 35] ⟨.nil _ _, hH⟩ rfl (fun x => by simp only [List.append_eq, cnt_append, cnt_cons, cnt_nil, blk, outV, Ord.cells]; omega)
    refine run_condF rfl (by simpa using c2) ?_
    skip
    refine run_seq ?_
    refine run_midO (σ := Unit) [0, 3, 5] (fun _ => [(53, .bool ((decide (0 < o.stop) || decide (o.kind = 1) || decide (o.kind = 5)) && decide ((64 : Int) ≤ (mlen M : Nat))))]) (fun _ => HH) (fun _ => True) rfl ?_ ?_
    · refine RunC.freeze ?_
      have l2 := lo.at 8 _ rfl
      have l3 := lo.at 4 _ rfl
      have q1 := fun G : Heap => sp_rmlen (G ++ (HH ++ F)) m M hIn.up hw.b hw.len
      (refine run_region ?_; refine xel rfl (ev_fieldAddr rfl rfl (fo rfl)) ?_; refine xel rfl (ev_loadF rfl rfl (sc rfl) l2) ?_; (iterate 2 refine xep rfl rfl ?_); refine xgl rfl rfl (fun hq => ev_fieldAddr rfl rfl (fo rfl)) ?_; refine xgl rfl rfl (fun hq => ev_loadF rfl rfl (sc rfl) l3) ?_; refine xgp rfl rfl rfl ?_; (iterate 2 refine xep rfl rfl ?_); refine xgl rfl rfl (fun hq => ev_fieldAddr rfl rfl (fo rfl)) ?_; refine xgl rfl rfl (fun hq => ev_loadF rfl rfl (sc rfl) l3) ?_; refine xgp rfl rfl rfl ?_; (iterate 2 refine xep rfl rfl ?_); refine xgp rfl rfl rfl ?_; refine xgl rfl rfl (fun hq => ev_callQ rfl rfl rfl (pf rfl) (q1 ..)) ?_; refine xgp rfl rfl rfl ?_; (iterate 2 refine xep rfl rfl ?_); refine runL_nil ?_)
      exact midN () [] trivial rfl (fun y => by (first | rfl | (simp only [List.append_eq, cnt_append, cnt_cons, cnt_nil, blk]; omega) | (simp only [List.append_eq, cnt_append, cnt_cons, cnt_nil, blk]; done)))
    intro fr' h' hm
    (refine then_normal ?_)
    refine midN_out hm ?_
    clear hm
    rintro ⟨⟩ -
    by_cases c3 : 64 ≤ mlen M ∧ (0 < o.stop ∨ o.kind = 1 ∨ o.kind = 5)
    · skip
      have e : mfirst o M = (⟨o, [], o.qty, false, false, false, 4⟩, M) := by
        have e0 : mrefused o M = 4 := by unfold mrefused; rw [if_neg c1, if_neg c2, if_pos c3]
        unfold mfirst; rw [if_pos (by rw [e0]; decide), e0]
      rw [e]
      refine run_condT rfl ?_ ?_
      · have h64 : decide ((64 : Int) ≤ (mlen M : Nat)) = true := decide_eq_true (by omega)
        rw [h64]
        rcases c3.2 with h | h | h <;> simp [h]
      rw [hHH]
      (refine run_region ?_; refine xel rfl (ev_fieldAddr rfl rfl (fo rfl)) ?_; refine runL_store0 rfl rfl rfl rfl rfl (sz rfl) rfl rfl rfl rfl rfl ?_; refine runL_nil ?_; refine in_normal ?_)
      exact midN ((none, 0, []), H) [blk b3 o.cells 35] ⟨.nil _ _, hH⟩ rfl (fun x => by simp only [List.append_eq, cnt_append, cnt_cons, cnt_nil, blk, outV, Ord.cells]; omega)
    have hr : mrefused o M = 0 := by unfold mrefused; rw [if_neg c1, if_neg c2, if_neg c3]
    refine run_condF rfl ?_ ?_
    · by_cases h64 : 64 ≤ mlen M
      · have h9 : ¬ (0 < o.stop ∨ o.kind = 1 ∨ o.kind = 5) := fun h => c3 ⟨h64, h⟩
        have n1 : ¬ 0 < o.stop := fun h => h9 (.inl h)
        have n2 : ¬ o.kind = 1 := fun h => h9 (.inr (.inl h))
        have n3 : ¬ o.kind = 5 := fun h => h9 (.inr (.inr h))
        simp [n1, n2, n3]
      · rw [decide_eq_false (by omega : ¬ (64 : Int) ≤ (mlen M : Nat)), Bool.and_false]
    skip
    refine run_seq ?_
    refine run_midO (σ := Unit) [0, 3, 5] (fun _ => [(73, .bool (decide (0 < o.stop) && !hit o M.B.last))]) (fun _ => HH) (fun _ => True) rfl ?_ ?_
    · obtain ⟨v0, v1, -, -, hbm⟩ := hBi
      refine RunC.freeze ?_
      have l2 := lo.at 8 _ rfl
      have l3 : LoadsF (HH ++ F) m (0 + 0) (.pointer (some ⟨b, 0, none⟩)) := ⟨_, _, _, hmm, rfl⟩
      have l4 : LoadsF (HH ++ F) b (0 + 3) (.int .i64 M.B.last) := ⟨_, _, _, hbm, rfl⟩
      have l5 := lo
      have q2 := fun F => rp_hit F o M.B.last
      by_cases c3 : 0 < o.stop
      · have hgd : decide (0 < o.stop) = true := decide_eq_true c3
        refine run_region_D mo ?_
        (refine runD_q 0 rfl rfl (by kernel_rfl) ?_; refine ⟨_, fun _ => ev_fieldAddr rfl rfl (fo rfl), ?_⟩; refine runD_q 1 rfl rfl (by kernel_rfl) ?_; refine ⟨_, fun _ => ev_loadF rfl rfl (sc rfl) l2, ?_⟩; refine runD_q 2 rfl rfl (by kernel_rfl) ?_; refine ⟨_, fun _ => ev_pure rfl, ?_⟩; refine runD_q 3 rfl rfl (by kernel_rfl) ?_; refine ⟨_, fun _ => ev_pure rfl, ?_⟩; refine runD_gq 4 rfl rfl rfl rfl rfl rfl hgd (by kernel_rfl) ?_; refine ⟨_, fun _ => ev_loadAF rfl rfl (ag rfl) (sz rfl) l5 rfl, ?_⟩; refine runD_gq 5 rfl rfl rfl rfl rfl rfl hgd (by kernel_rfl) ?_; refine ⟨_, fun _ => ev_pure rfl, ?_⟩; refine runD_gq 6 rfl rfl rfl rfl rfl rfl hgd (by kernel_rfl) ?_; refine ⟨_, fun _ => ev_pure rfl, ?_⟩; refine runD_gq 7 rfl rfl rfl rfl rfl rfl hgd (by kernel_rfl) ?_; refine ⟨_, fun _ => ev_fieldAddr rfl rfl (fo rfl), ?_⟩; refine runD_gq 8 rfl rfl rfl rfl rfl rfl hgd (by kernel_rfl) ?_; refine ⟨_, fun _ => ev_loadF rfl rfl (sc rfl) l3, ?_⟩; refine runD_gq 9 rfl rfl rfl rfl rfl rfl hgd (by kernel_rfl) ?_; refine ⟨_, fun _ => ev_pure rfl, ?_⟩; refine runD_gq 10 rfl rfl rfl rfl rfl rfl hgd (by kernel_rfl) ?_; refine ⟨_, fun _ => ev_fieldAddr rfl rfl (fo rfl), ?_⟩; refine runD_gq 11 rfl rfl rfl rfl rfl rfl hgd (by kernel_rfl) ?_; refine ⟨_, fun _ => ev_loadF rfl rfl (sc rfl) l4, ?_⟩; refine runD_gq 12 rfl rfl rfl rfl rfl rfl hgd (by kernel_rfl) ?_; refine ⟨_, fun _ => ev_callQ rfl rfl rfl (pf rfl) (q2 ..), ?_⟩; refine runD_gq 13 rfl rfl rfl rfl rfl rfl hgd (by kernel_rfl) ?_; refine ⟨_, fun _ => ev_pure rfl, ?_⟩; refine runD_q 14 rfl rfl (by kernel_rfl) ?_; refine ⟨_, fun _ => ev_pure rfl, ?_⟩; refine runD_q 15 rfl rfl (by kernel_rfl) ?_; refine ⟨_, fun _ => ev_pure rfl, ?_⟩; refine runD_done (by kernel_rfl) ?_)
        exact midN () [] trivial (by rw [hgd]; rfl) (fun x => by (first | rfl | (simp only [List.append_eq, cnt_append, cnt_cons, cnt_nil, blk]; omega) | (simp only [List.append_eq, cnt_append, cnt_cons, cnt_nil, blk]; done)))
      · have hge : decide (0 < o.stop) = false := decide_eq_false c3
        refine run_region_D mo ?_
        (refine runD_q 0 rfl rfl (by kernel_rfl) ?_; refine ⟨_, fun _ => ev_fieldAddr rfl rfl (fo rfl), ?_⟩; refine runD_q 1 rfl rfl (by kernel_rfl) ?_; refine ⟨_, fun _ => ev_loadF rfl rfl (sc rfl) l2, ?_⟩; refine runD_q 2 rfl rfl (by kernel_rfl) ?_; refine ⟨_, fun _ => ev_pure rfl, ?_⟩; refine runD_q 3 rfl rfl (by kernel_rfl) ?_; refine ⟨_, fun _ => ev_pure rfl, ?_⟩; refine runD_gn 4 rfl rfl rfl rfl rfl rfl hge (by kernel_rfl) ?_; refine runD_gn 5 rfl rfl rfl rfl rfl rfl hge (by kernel_rfl) ?_; refine runD_gn 6 rfl rfl rfl rfl rfl rfl hge (by kernel_rfl) ?_; refine runD_gn 7 rfl rfl rfl rfl rfl rfl hge (by kernel_rfl) ?_; refine runD_gn 8 rfl rfl rfl rfl rfl rfl hge (by kernel_rfl) ?_; refine runD_gn 9 rfl rfl rfl rfl rfl rfl hge (by kernel_rfl) ?_; refine runD_gn 10 rfl rfl rfl rfl rfl rfl hge (by kernel_rfl) ?_; refine runD_gn 11 rfl rfl rfl rfl rfl rfl hge (by kernel_rfl) ?_; refine runD_gn 12 rfl rfl rfl rfl rfl rfl hge (by kernel_rfl) ?_; refine runD_gn 13 rfl rfl rfl rfl rfl rfl hge (by kernel_rfl) ?_; refine runD_q 14 rfl rfl (by kernel_rfl) ?_; refine ⟨_, fun _ => ev_pickF rfl rfl hge rfl, ?_⟩; refine runD_q 15 rfl rfl (by kernel_rfl) ?_; refine ⟨_, fun _ => ev_pure rfl, ?_⟩; refine runD_done (by kernel_rfl) ?_)
        exact midN () [] trivial (by rw [hge]; rfl) (fun x => by (first | rfl | (simp only [List.append_eq, cnt_append, cnt_cons, cnt_nil, blk]; omega) | (simp only [List.append_eq, cnt_append, cnt_cons, cnt_nil, blk]; done)))
    intro fr' h' hm
    (refine then_normal ?_)
    refine midN_out hm ?_
    clear hm
    rintro ⟨⟩ -
    clear hIn hBi hmm lo
    subst hHe
    by_cases c2 : 0 < o.stop ∧ hit o M.B.last = false
    · refine run_condT rfl (by simp [c2.1, c2.2]) ?_
      have e : mfirst o M = (⟨o, [], o.qty, false, true, false, 0⟩, ⟨M.B, M.W ++ [o]⟩) := by unfold mfirst; rw [if_neg (by rw [hr]; decide), if_pos c2]
      rw [e]
      obtain ⟨AA, hAA⟩ : ∃ AA, AA = blk m [.pointer (some ⟨b, 0, none⟩), .slice aw M.W.length cw] 62 :: blk b3 o.cells 35 :: blk b5 (outV none 0 ⟨o, [], o.qty, false, false, false, 0⟩) 66 :: (HB ++ AW) := ⟨_, rfl⟩
      refine RunC.perm (h' := [] ++ AA) (fun y => by rw [hAA, hHH]; simp only [List.append_eq, cnt_append, cnt_cons, cnt_nil, blk, outV, Ord.cells]; omega) ?_
      skip
      have src := ownW.src (H := AA ++ F) fun y my => by rw [hAA]; simp [my]
      have l1 : LoadsF (AA ++ F) m (0 + 1) (.slice aw M.W.length cw) := ⟨_, _, _, by rw [hAA]; exact memF (.head _), rfl⟩
      have l2 : AggF (AA ++ F) b3 0 o.cells := ⟨_, _, _, by rw [hAA]; exact memF (.tail _ (.head _)), Nat.le_refl _, rfl⟩
      refine run_seq ?_
      refine run_region_D3 (σ := Option Addr × Nat × Heap × Heap) 10 3 [0, 5] (fun s => [(98, .slice s.1 (M.W ++ [o]).length s.2.1), (89, .pointer (some ⟨m, 0, none⟩))])
        (fun s => s.2.2.1 ++ s.2.2.2) (fun s => OwnS 35 9 (.slice s.1 (M.W ++ [o]).length s.2.1) (M.W ++ [o]).length (rows Ord.cells (M.W ++ [o])) s.2.2.1) mo rfl (by kernel_rfl) rfl ?_ ?_
      · (refine runD_q 0 rfl rfl (by kernel_rfl) ?_; refine ⟨_, fun _ => ev_pure rfl, ?_⟩; refine runD_q 2 rfl rfl (by kernel_rfl) ?_; refine ⟨_, fun _ => ev_pure rfl, ?_⟩; refine runD_q 3 rfl rfl (by kernel_rfl) ?_; refine ⟨_, fun _ => ev_pure rfl, ?_⟩; refine runD_q 4 rfl rfl (by kernel_rfl) ?_; refine ⟨_, fun _ => ev_fieldAddr rfl rfl (fo rfl), ?_⟩; refine runD_q 5 rfl rfl (by kernel_rfl) ?_; refine ⟨_, fun _ => ev_loadF rfl rfl (sc rfl) l1, ?_⟩; refine runD_q 7 rfl rfl (by kernel_rfl) ?_; refine ⟨_, fun _ => ev_loadAF rfl rfl (ag rfl) (sz rfl) l2 rfl, ?_⟩)
        refine runD_2 1 8 (by kernel_rfl) (oneD rfl rfl rfl ?_) (oneD rfl rfl rfl ?_)
        · skip
          refine runL_buildSlice (n := 9) (l := []) rfl rfl rfl rfl rfl (se rfl) ze35 rfl rfl rfl rfl rfl (fun b90 => ?_)
          (refine runL_nil ?_; refine endS_d rfl ?_)
          refine runD_2 6 8 (by kernel_rfl) (oneD rfl rfl rfl ?_) (oneD rfl rfl rfl ?_)
          · skip
            refine runL_append (sl := rows Ord.cells M.W) [] rfl rfl rfl rfl rfl rfl rfl (se rfl) (se rfl) ze35 rfl (byt rfl) (OwnS.lit (l := []) rfl) (fun y => by show cnt y ([blk b90 [] 35]) = _; (first | rfl | (simp only [List.append_eq, cnt_append, cnt_cons, cnt_nil, blk]; omega) | (simp only [List.append_eq, cnt_append, cnt_cons, cnt_nil, blk]; done))) (src.mono fun x m => by simp [m]) (rows_cells oc_cells _) (by decide) (by decide) (by omega) ?_
            rintro v' A' own'
            rw [List.nil_append, Nat.zero_add] at own'
            obtain ⟨a6, c6, rfl, own6⟩ := own'.at
            (refine runL_nil ?_; refine endS_d rfl ?_; refine runD_1 8 (by kernel_rfl) rfl rfl rfl ?_)
            refine runL_buildSlice (l := o.cells) rfl rfl rfl rfl rfl (se rfl) ze35 rfl rfl rfl rfl rfl (fun b97 => ?_)
            (refine runL_nil ?_; refine endS_d rfl ?_; refine runD_1 9 (by kernel_rfl) rfl rfl rfl ?_)
            refine runL_append (sl := o.cells) [blk b97 o.cells 35] rfl rfl rfl rfl rfl rfl rfl (se rfl) (se rfl) ze35 rfl (byt rfl) own6 (fun y => by show cnt y (blk b97 o.cells 35 :: (A' ++ [])) = _; (first | rfl | (simp only [List.append_eq, cnt_append, cnt_cons, cnt_nil, blk]; omega) | (simp only [List.append_eq, cnt_append, cnt_cons, cnt_nil, blk]; done))) ⟨rfl, .inr ⟨b97, 0, _, _, _, rfl, memF (.head _), by simp [Ord.cells], rfl⟩⟩ rfl (by decide) (by decide) (by omega) ?_
            rintro v' A8 own'
            obtain ⟨a8, c8, rfl, own8⟩ := (own'.snoc (f := Ord.cells) (x := o) rfl).at
            (refine runL_nil ?_; refine endS_d rfl ?_; refine runD_done (by kernel_rfl) ?_)
            exact midX (a8, c8, A8, [blk b97 o.cells 35]) own8 rfl (fun x => by (first | rfl | (simp only [List.append_eq, cnt_append, cnt_cons, cnt_nil, blk]; omega) | (simp only [List.append_eq, cnt_append, cnt_cons, cnt_nil, blk]; done)))
          · skip
            refine runL_buildSlice (l := o.cells) rfl rfl rfl rfl rfl (se rfl) ze35 rfl rfl rfl rfl rfl (fun b97 => ?_)
            (refine runL_nil ?_; refine endS_d rfl ?_; refine runD_1 6 (by kernel_rfl) rfl rfl rfl ?_)
            refine runL_append (sl := rows Ord.cells M.W) [blk b97 o.cells 35] rfl rfl rfl rfl rfl rfl rfl (se rfl) (se rfl) ze35 rfl (byt rfl) (OwnS.lit (l := []) rfl) (fun y => by show cnt y (blk b97 o.cells 35 :: [blk b90 [] 35]) = _; (first | rfl | (simp only [List.append_eq, cnt_append, cnt_cons, cnt_nil, blk]; omega) | (simp only [List.append_eq, cnt_append, cnt_cons, cnt_nil, blk]; done))) (src.mono fun x m => by simp [m]) (rows_cells oc_cells _) (by decide) (by decide) (by omega) ?_
            rintro v' A' own'
            rw [List.nil_append, Nat.zero_add] at own'
            obtain ⟨a6, c6, rfl, own6⟩ := own'.at
            (refine runL_nil ?_; refine endS_d rfl ?_; refine runD_1 9 (by kernel_rfl) rfl rfl rfl ?_)
            refine runL_append (sl := o.cells) [blk b97 o.cells 35] rfl rfl rfl rfl rfl rfl rfl (se rfl) (se rfl) ze35 rfl (byt rfl) own6 (fun y => by show cnt y (A' ++ [blk b97 o.cells 35]) = _; (first | rfl | (simp only [List.append_eq, cnt_append, cnt_cons, cnt_nil, blk]; omega) | (simp only [List.append_eq, cnt_append, cnt_cons, cnt_nil, blk]; done))) ⟨rfl, .inr ⟨b97, 0, _, _, _, rfl, memF (List.mem_append_right _ (.head _)), by simp [Ord.cells], rfl⟩⟩ rfl (by decide) (by decide) (by omega) ?_
            rintro v' A8 own'
            obtain ⟨a8, c8, rfl, own8⟩ := (own'.snoc (f := Ord.cells) (x := o) rfl).at
            (refine runL_nil ?_; refine endS_d rfl ?_; refine runD_done (by kernel_rfl) ?_)
            exact midX (a8, c8, A8, [blk b97 o.cells 35]) own8 rfl (fun x => by (first | rfl | (simp only [List.append_eq, cnt_append, cnt_cons, cnt_nil, blk]; omega) | (simp only [List.append_eq, cnt_append, cnt_cons, cnt_nil, blk]; done)))
        · skip
          refine runL_buildSlice (l := o.cells) rfl rfl rfl rfl rfl (se rfl) ze35 rfl rfl rfl rfl rfl (fun b97 => ?_)
          (refine runL_nil ?_; refine endS_d rfl ?_; refine runD_1 1 (by kernel_rfl) rfl rfl rfl ?_)
          refine runL_buildSlice (n := 9) (l := []) rfl rfl rfl rfl rfl (se rfl) ze35 rfl rfl rfl rfl rfl (fun b90 => ?_)
          (refine runL_nil ?_; refine endS_d rfl ?_; refine runD_1 6 (by kernel_rfl) rfl rfl rfl ?_)
          refine runL_append (sl := rows Ord.cells M.W) [blk b97 o.cells 35] rfl rfl rfl rfl rfl rfl rfl (se rfl) (se rfl) ze35 rfl (byt rfl) (OwnS.lit (l := []) rfl) (fun y => by show cnt y (blk b90 [] 35 :: [blk b97 o.cells 35]) = _; (first | rfl | (simp only [List.append_eq, cnt_append, cnt_cons, cnt_nil, blk]; omega) | (simp only [List.append_eq, cnt_append, cnt_cons, cnt_nil, blk]; done))) (src.mono fun x m => by simp [m]) (rows_cells oc_cells _) (by decide) (by decide) (by omega) ?_
          rintro v' A' own'
          rw [List.nil_append, Nat.zero_add] at own'
          obtain ⟨a6, c6, rfl, own6⟩ := own'.at
          (refine runL_nil ?_; refine endS_d rfl ?_; refine runD_1 9 (by kernel_rfl) rfl rfl rfl ?_)
          refine runL_append (sl := o.cells) [blk b97 o.cells 35] rfl rfl rfl rfl rfl rfl rfl (se rfl) (se rfl) ze35 rfl (byt rfl) own6 (fun y => by show cnt y (A' ++ [blk b97 o.cells 35]) = _; (first | rfl | (simp only [List.append_eq, cnt_append, cnt_cons, cnt_nil, blk]; omega) | (simp only [List.append_eq, cnt_append, cnt_cons, cnt_nil, blk]; done))) ⟨rfl, .inr ⟨b97, 0, _, _, _, rfl, memF (List.mem_append_right _ (.head _)), by simp [Ord.cells], rfl⟩⟩ rfl (by decide) (by decide) (by omega) ?_
          rintro v' A8 own'
          obtain ⟨a8, c8, rfl, own8⟩ := (own'.snoc (f := Ord.cells) (x := o) rfl).at
          (refine runL_nil ?_; refine endS_d rfl ?_; refine runD_done (by kernel_rfl) ?_)
          exact midX (a8, c8, A8, [blk b97 o.cells 35]) own8 rfl (fun x => by (first | rfl | (simp only [List.append_eq, cnt_append, cnt_cons, cnt_nil, blk]; omega) | (simp only [List.append_eq, cnt_append, cnt_cons, cnt_nil, blk]; done)))
      · rintro ⟨a8, c8, A8, G8⟩ own8
        dsimp only at own8 ⊢
        subst hAA
        refine RunD.same (M' := blk m [.pointer (some ⟨b, 0, none⟩), .slice aw M.W.length cw] 62 :: blk b5 (outV none 0 ⟨o, [], o.qty, false, false, false, 0⟩) 66 :: blk b3 o.cells 35 :: (HB ++ AW ++ A8 ++ G8)) (fun _ _ h => h) (fun x => by (first | rfl | (simp only [List.append_eq, cnt_append, cnt_cons, cnt_nil, blk]; omega) | (simp only [List.append_eq, cnt_append, cnt_cons, cnt_nil, blk]; done))) ?_
        (refine runD_q 10 rfl rfl (by kernel_rfl) ?_; refine ⟨_, fun _ => ev_pure rfl, ?_⟩; refine runD_q 11 rfl rfl (by kernel_rfl) ?_; refine ⟨_, fun _ => ev_fieldAddr rfl rfl (fo rfl), ?_⟩; refine runD_1 12 (by kernel_rfl) rfl rfl rfl ?_; refine runL_store0 rfl rfl rfl rfl rfl (sz rfl) rfl rfl rfl rfl rfl ?_; refine runL_nil ?_; refine endS_n rfl ?_; refine runD_done (by kernel_rfl) ?_; refine then_normal ?_; refine run_region ?_; refine xel rfl (ev_fieldAddr rfl rfl (fo rfl)) ?_; refine runL_store1 rfl rfl rfl rfl rfl (sz rfl) rfl rfl rfl rfl rfl ?_; refine runL_nil ?_; refine in_normal ?_)
        exact midN ((none, 0, []), blk m [.pointer (some ⟨b, 0, none⟩), .slice a8 (M.W ++ [o]).length c8] 62 :: (HB ++ A8)) (blk b3 o.cells 35 :: (AW ++ G8)) ⟨.nil _ _, b, a8, c8, HB, A8, hB, own8, rfl⟩ rfl (fun x => by simp only [List.append_eq, cnt_append, cnt_cons, cnt_nil, blk, outV, Ord.cells]; omega)
    · refine run_condF rfl (by rw [Bool.and_eq_false_iff]; by_cases c3 : 0 < o.stop <;> simp_all) ?_
      have e : mfirst o M = ((menter o M.B).1, ⟨(menter o M.B).2, M.W⟩) := by unfold mfirst; rw [if_neg (by rw [hr]; decide), if_neg c2]
      rw [e]
      have cA := fun G => sp_rbadd G HB b M.B hB hw.b (bare o) hk hw.no (by omega)
      have hmen : menter o M.B = (⟨o, (badd (bare o) M.B).1.fs, (badd (bare o) M.B).1.left, (badd (bare o) M.B).1.rests, (badd (bare o) M.B).1.waits, (badd (bare o) M.B).1.self, (badd (bare o) M.B).1.err⟩, (badd (bare o) M.B).2) := rfl
      rw [hmen]
      clear hmen
      generalize badd (bare o) M.B = X at *
      rw [hHH]
      (refine run_seq ?_; refine run_region ?_; refine xel rfl (ev_loadAK rfl rfl (ag rfl) (sz rfl) (memF (.tail _ (.head _))) rfl) ?_; refine runL_alloc rfl rfl rfl rfl rfl ze35 (fun _ => ?_); refine runL_store0 rfl rfl rfl rfl rfl (sz rfl) rfl rfl rfl rfl rfl ?_; refine runL_nil ?_; refine then_normal ?_; refine run_seq ?_; refine run_region ?_; refine xel rfl (ev_fieldAddr rfl rfl (fo rfl)) ?_; refine runL_store0 rfl rfl rfl rfl rfl (sz rfl) rfl rfl rfl rfl rfl ?_; refine runL_nil ?_; refine then_normal ?_; refine run_seq ?_)
      rename_i b8
      obtain ⟨AA, hAA⟩ : ∃ AA, AA = blk b8 (bare o).cells 35 :: blk b3 o.cells 35 :: blk m [.pointer (some ⟨b, 0, none⟩), .slice aw M.W.length cw] 62 :: AW := ⟨_, rfl⟩
      refine RunC.perm (h' := (blk b5 (outV none 0 ⟨o, [], o.qty, false, false, false, 0⟩) 66 :: HB) ++ AA) (fun y => by rw [hAA]; simp only [List.append_eq, cnt_append, cnt_cons, cnt_nil, blk, outV, Ord.cells, bare]; omega) ?_
      refine run_midO (σ := Option Addr × Nat × Heap × Heap) [0, 3, 5] (fun _ => []) (fun s => blk b5 (outV s.1 s.2.1 X.1) 66 :: blk b3 o.cells 35 :: blk m [.pointer (some ⟨b, 0, none⟩), .slice aw M.W.length cw] 62 :: (s.2.2.2 ++ (s.2.2.1 ++ AW)))
        (fun s => OwnS 93 21 (.slice s.1 X.1.fs.length s.2.1) X.1.fs.length (rows fcell X.1.fs) s.2.2.1 ∧ RbH b X.2 s.2.2.2) rfl ?_ ?_
      · refine RunC.freezeR ?_
        have l1 : LoadsF (AA ++ F) m (0 + 0) (.pointer (some ⟨b, 0, none⟩)) := ⟨_, _, _, by rw [hAA]; exact memF (.tail _ (.tail _ (.head _))), rfl⟩
        have l2 : AggF (AA ++ F) b8 0 (bare o).cells := ⟨_, _, _, by rw [hAA]; exact memF (.head _), Nat.le_refl _, rfl⟩
        refine run_region_D mo ?_
        (refine runD_q 0 rfl rfl (by kernel_rfl) ?_; refine ⟨_, fun _ => ev_pure rfl, ?_⟩; refine runD_q 1 rfl rfl (by kernel_rfl) ?_; refine ⟨_, fun _ => ev_pure rfl, ?_⟩; refine runD_q 2 rfl rfl (by kernel_rfl) ?_; refine ⟨_, fun _ => ev_fieldAddr rfl rfl (fo rfl), ?_⟩; refine runD_q 3 rfl rfl (by kernel_rfl) ?_; refine ⟨_, fun _ => ev_loadF rfl rfl (sc rfl) l1, ?_⟩; refine runD_q 4 rfl rfl (by kernel_rfl) ?_; refine ⟨_, fun _ => ev_loadAF rfl rfl (ag rfl) (sz rfl) l2 rfl, ?_⟩; refine runD_1 5 (by kernel_rfl) rfl rfl rfl ?_)
        refine runL_callZ [blk b5 (outV none 0 ⟨o, [], o.qty, false, false, false, 0⟩) 66] HB rfl rfl rfl rfl rfl rfl rfl (pf rfl) (fun x => by (first | rfl | (simp only [List.append_eq, cnt_append, cnt_cons, cnt_nil, blk]; omega) | (simp only [List.append_eq, cnt_append, cnt_cons, cnt_nil, blk]; done))) (cA _) ?_
        rintro v _ ⟨a1, c1, A1, H1, rfl, own1, hH1, rfl⟩
        (refine runL_nil ?_; refine endS_d rfl ?_; refine runD_1 6 (by kernel_rfl) rfl rfl rfl ?_; refine runL_store0 rfl rfl rfl rfl rfl (sz rfl) rfl rfl rfl rfl rfl ?_; refine runL_nil ?_; refine endS_n rfl ?_; refine runD_done (by kernel_rfl) ?_)
        exact midN (a1, c1, A1, H1) [blk b8 (bare o).cells 35] ⟨own1, hH1⟩ rfl (fun x => by rw [hAA]; simp only [List.append_eq, cnt_append, cnt_cons, cnt_nil, blk, outV, Ord.cells, bare]; omega)
      · intro fr' h' hm
        (refine then_normal ?_)
        refine midN_out hm ?_
        clear hm hAA AA
        rintro ⟨a1, c1, A1, H1⟩ ⟨own1, hH1⟩
        dsimp only at own1 hH1 ⊢
        (refine run_region ?_; refine xel rfl (ev_loadAK rfl rfl (ag rfl) (sz rfl) (memF (.tail _ (.head _))) rfl) ?_; refine xel rfl (ev_fieldAddr rfl rfl (fo rfl)) ?_; refine runL_store0 rfl rfl rfl rfl rfl (sz rfl) rfl rfl rfl rfl rfl ?_; refine runL_nil ?_; refine in_normal ?_)
        exact midN ((a1, c1, A1), blk m [.pointer (some ⟨b, 0, none⟩), .slice aw M.W.length cw] 62 :: (H1 ++ AW)) [blk b3 o.cells 35] ⟨own1, b, aw, cw, H1, AW, hH1, ownW, rfl⟩ rfl (fun x => by simp only [List.append_eq, cnt_append, cnt_cons, cnt_nil, blk, outV, Ord.cells, bare]; omega)
  · intro fr h' hmid
    (refine then_normal ?_)
    refine midN_out hmid ?_
    clear hmid
    rintro ⟨⟨a1, c1, A1⟩, H1⟩ ⟨own1, hH1⟩
    dsimp only at own1 hH1 ⊢
    obtain ⟨hw1, hno1, hno2⟩ := hok
    generalize mfirst o M = X at *
    have cT := fun G => sp_rcasc G H1 m X.2 hH1 hw1 (by omega)
    (refine run_seq ?_; refine run_region ?_; refine xel rfl (ev_loadAK rfl rfl (ag rfl) (sz rfl) (memF (.head _)) rfl) ?_)
    refine runL_buildSlice (l := outV a1 c1 X.1) rfl rfl rfl rfl rfl (se rfl) ze66 rfl rfl rfl rfl rfl (fun b46 => ?_)
    (refine xep rfl rfl ?_; refine runL_nil ?_; refine then_normal ?_; refine run_seq ?_; refine run_region ?_; (iterate 2 refine xep rfl rfl ?_))
    refine runL_callZ (blk b46 (outV a1 c1 X.1) 66 :: blk b5 (outV a1 c1 X.1) 66 :: A1) H1 rfl rfl rfl rfl rfl rfl rfl (pf rfl) (fun y => by (first | rfl | (simp only [List.append_eq, cnt_append, cnt_cons, cnt_nil, blk]; omega) | (simp only [List.append_eq, cnt_append, cnt_cons, cnt_nil, blk]; done))) (cT _) ?_
    rintro v _ ⟨a, c, ts, A, HF, H', rfl, hts, hlen, own, hF, hH', rfl⟩
    skip
    refine runL_append (sl := rows orow ts) (blk b5 (outV a1 c1 X.1) 66 :: A1 ++ (H' ++ A ++ HF)) rfl rfl rfl rfl rfl rfl rfl (se rfl) (se rfl) ze66 rfl (byt rfl) (OwnS.lit (l := outV a1 c1 X.1) (b := b46) rfl) (fun y => by (first | rfl | (simp only [List.append_eq, cnt_append, cnt_cons, cnt_nil, blk]; omega) | (simp only [List.append_eq, cnt_append, cnt_cons, cnt_nil, blk]; done))) (own.src fun x mx => by simp [mx]) (rows_cells (fun _ => rfl) _) (by decide) (by decide) (by omega) ?_
    rintro v' A8 own'
    obtain ⟨a8, c8, rfl, own8⟩ := (own' : OwnS 66 15 v' (1 + ts.length) (rows orow (((a1, c1), X.1) :: ts)) A8).at
    rw [Nat.add_comm 1] at own8 ⊢
    (refine xep rfl rfl ?_; refine runL_nil ?_; refine then_normal ?_; refine run_ret ?_)
    refine ⟨_, rfl, H' ++ A8 ++ (A1 ++ HF), [blk b5 (outV a1 c1 X.1) 66] ++ A, ⟨a8, c8, ((a1, c1), X.1) :: ts, A8, A1 ++ HF, H', rfl, by rw [List.map_cons, hts], by rw [List.length_cons]; omega, own8, ⟨A1, HF, own1, hF, rfl⟩, hH', rfl⟩, fun y => by (first | rfl | (simp only [List.append_eq, cnt_append, cnt_cons, cnt_nil, blk]; omega) | (simp only [List.append_eq, cnt_append, cnt_cons, cnt_nil, blk]; done))⟩
end Go.Proofs.YtmelpobcpcmdoaaGreat
