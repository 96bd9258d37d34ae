/- Contracts of functions of the given program over its translation, each proved by walking its text; used by the laws' rows. It proves no given statement by itself. -/
import Derived.Test.YtmelpobcpcmdoaaGreatSLPlSCX
import Derived.Test.YtmelpobcpcmdoaaGreatSLPlRPX
import Derived.Test.YtmelpobcpcmdoaaGreatSLSlcCX
import Derived.Test.YtmelpobcpcmdoaaGreatSLShift
import Derived.Test.YtmelpobcpcmdoaaGreatSLRBk5X
import Derived.Test.YtmelpobcpcmdoaaGreatSLRLvl5X
set_option autoImplicit false
set_option linter.unusedSectionVars false
set_option linter.unusedSimpArgs false
set_option linter.unusedVariables false
set_option maxRecDepth 4000
set_option maxHeartbeats 100000000
namespace Go.Proofs.YtmelpobcpcmdoaaGreat
open Go Go.SL Go.Proofs
variable [Base]
theorem sp_cwaits (F : Heap) (m : Nat) (M : Mk) (h : MkIn F m M) (hw : BW M.B) (t i : Int) :
    Sp Tryz.prog F 38 [.pointer (some ⟨m, 0, none⟩), .int .i64 t, .int .i64 i] [] (Ret (.bool (!(bfind t i M.B).2))) := by
  obtain ⟨b, a, c, h1, h2, hs, hm⟩ := h
  have q1 := fun G : Heap => sp_sbook (G ++ F) m b a _ c (List.mem_append_right G hm)
  have q2 := fun G : Heap => sp_bFind (G ++ F) b M.B h1.up hw t i
  refine sp_of_code Tryz.func38 rfl rfl ?_
  (refine run_seq ?_; refine run_region ?_; refine xep rfl rfl ?_; refine runL_nil ?_; refine then_normal ?_; refine run_seq ?_; refine run_region ?_; refine xep rfl rfl ?_; refine xel rfl (ev_callQ rfl rfl rfl (pf rfl) (q1 ..)) ?_; (iterate 2 refine xep rfl rfl ?_); refine xel rfl (ev_callQ rfl rfl rfl (pf rfl) (q2 ..)) ?_; (iterate 3 refine xep rfl rfl ?_); refine runL_alloc rfl rfl rfl rfl rfl ze35 (fun _ => ?_); refine runL_store0 rfl rfl rfl rfl rfl (sz rfl) rfl rfl rfl rfl rfl ?_; refine xep rfl rfl ?_; refine runL_nil ?_; refine then_normal ?_; refine run_seq ?_; refine run_region ?_; (iterate 3 refine xep rfl rfl ?_); refine runL_nil ?_; refine then_normal ?_; refine run_ret ?_)
  exact ⟨_, rfl, rfl⟩
theorem sp_amend (F H : Heap) (m : Nat) (M : Mk) (hH : MkH m M H) (hw : MW M) (hn2 : M.B.no ≤ 1099442421760) (t i p q : Int) (hp : InI p) (hq : InI q) (hk : InI (mfind t i M).1.kind) :
    Sp Tryz.prog F 10 [.pointer (some ⟨m, 0, none⟩), .int .i64 t, .int .i64 i, .int .i64 p, .int .i64 q] H (fun v h' => ∃ a c ts A HF H', v = .tuple #[.slice a ts.length c, .int .i64 (mamend t i p q M).2.1] ∧ ts.map (·.2) = (mamend t i p q M).1 ∧ ts.length ≤ 65 ∧ OwnS 66 15 (.slice a ts.length c) ts.length (rows orow ts) A ∧ FsH ts HF ∧ MkH m (mamend t i p q M).2.2 H' ∧ h' = H' ++ A ++ HF) := by
  have hl : M.W.length ≤ 65536 := by have := hw.len; unfold mlen at this; omega
  have hmw := mremove_MW (t := t) (i := i) hw
  have hmn := mremove_no t i M
  refine Sp.up ?_
  refine sp_of_code Tryz.func10 rfl rfl ?_
  (refine run_seq ?_; refine run_region ?_; (iterate 2 refine xep rfl rfl ?_); refine runL_nil ?_; refine then_normal ?_; refine run_seq ?_; refine run_region ?_; (iterate 3 refine xep rfl rfl ?_))
  refine runL_ev rfl rfl rfl rfl (ev_callQ rfl rfl rfl (pf rfl) (sp_sFind _ m M (hH.in fun x mx => List.mem_append_left _ mx) hw.b hl t i)) ?_
  unfold mamend
  generalize hf : mfind t i M = X at *
  obtain ⟨w, is⟩ := X
  dsimp only at hk ⊢
  ((iterate 3 refine xep rfl rfl ?_); refine runL_alloc rfl rfl rfl rfl rfl ze35 (fun _ => ?_); refine runL_store0 rfl rfl rfl rfl rfl (sz rfl) rfl rfl rfl rfl rfl ?_; refine xep rfl rfl ?_; refine runL_nil ?_; refine then_normal ?_; (iterate 2 refine run_seq ?_); refine run_region ?_; (iterate 2 refine xep rfl rfl ?_); refine runL_nil ?_; refine then_normal ?_)
  rename_i b12
  cases is with
  | false =>
    rw [if_pos rfl]
    refine run_condT rfl rfl ?_
    (refine run_seq ?_; refine run_region ?_; (iterate 2 refine xep rfl rfl ?_); refine runL_nil ?_; refine then_normal ?_; refine run_ret ?_; refine then_ret ?_)
    exact ⟨_, rfl, H ++ [] ++ [], [blk b12 w.cells 35], ⟨none, 0, [], [], [], H, rfl, rfl, by decide, .nil _ _, rfl, hH, rfl⟩, fun y => by
      show cnt y (blk b12 w.cells 35 :: H) = _
      (first | rfl | (simp only [List.append_eq, cnt_append, cnt_cons, cnt_nil, blk]; omega) | (simp only [List.append_eq, cnt_append, cnt_cons, cnt_nil, blk]; done))⟩
  | true =>
    rw [if_neg (by simp)]
    refine run_condF rfl rfl ?_
    refine RunC.perm (h' := blk b12 w.cells 35 :: H) (fun y => rfl) ?_
    (refine run_skip ?_; refine then_normal ?_; refine run_seq ?_; refine run_region ?_; refine xel rfl (ev_loadAK rfl rfl (ag rfl) (sz rfl) (memF (.head _)) rfl) ?_; refine runL_alloc rfl rfl rfl rfl rfl ze35 (fun _ => ?_); refine runL_store0 rfl rfl rfl rfl rfl (sz rfl) rfl rfl rfl rfl rfl ?_; refine runL_nil ?_; refine then_normal ?_; refine run_seq ?_)
    rename_i b14
    refine RunC.perm (h' := (blk b14 w.cells 35 :: H) ++ [blk b12 w.cells 35]) (fun y => by show cnt y (blk b14 w.cells 35 :: blk b12 w.cells 35 :: H) = _; (first | rfl | (simp only [List.append_eq, cnt_append, cnt_cons, cnt_nil, blk]; omega) | (simp only [List.append_eq, cnt_append, cnt_cons, cnt_nil, blk]; done))) ?_
    refine run_midO (σ := Unit) [0, 1, 2, 3, 4, 10, 11, 12, 14] (fun _ => []) (fun _ => blk b14 (amO w p q).cells 35 :: blk b12 w.cells 35 :: H) (fun _ => True) rfl ?_ ?_
    · refine RunC.freezeR ?_
      have l1 : AggF ([blk b12 w.cells 35] ++ F) b12 0 w.cells := ⟨_, _, _, memF (.head _), Nat.le_refl _, rfl⟩
      have l2 := l1.at 7 _ rfl
      refine run_region_D mo ?_
      (refine runD_q 0 rfl rfl (by kernel_rfl) ?_; refine ⟨_, fun _ => ev_pure rfl, ?_⟩; refine runD_q 1 rfl rfl (by kernel_rfl) ?_; refine ⟨_, fun _ => ev_pure rfl, ?_⟩; refine runD_q 2 rfl rfl (by kernel_rfl) ?_; refine ⟨_, fun _ => ev_fieldAddr rfl rfl (fo rfl), ?_⟩; refine runD_q 3 rfl rfl (by kernel_rfl) ?_; refine ⟨_, fun _ => ev_loadK rfl rfl (sc rfl) (memR (memF (.head _))) rfl, ?_⟩; refine runD_q 4 rfl rfl (by kernel_rfl) ?_; refine ⟨_, fun _ => ev_pure rfl, ?_⟩; refine runD_q 5 rfl rfl (by kernel_rfl) ?_; refine ⟨_, fun _ => ev_max rfl rfl rfl, ?_⟩; refine runD_q 6 rfl rfl (by kernel_rfl) ?_; refine ⟨_, fun _ => ev_min rfl rfl rfl, ?_⟩; refine runD_q 7 rfl rfl (by kernel_rfl) ?_; refine ⟨_, fun _ => ev_fieldAddr rfl rfl (fo rfl), ?_⟩; refine runD_1 8 (by kernel_rfl) rfl rfl rfl ?_; refine runL_store0 rfl rfl rfl rfl rfl (sz rfl) rfl rfl rfl rfl rfl ?_; refine runL_nil ?_; refine endS_n rfl ?_; refine runD_q 9 rfl rfl (by kernel_rfl) ?_; refine ⟨_, fun _ => ev_fieldAddr rfl rfl (fo rfl), ?_⟩; refine runD_1 10 (by kernel_rfl) rfl rfl rfl ?_; refine runL_store0 rfl rfl rfl rfl rfl (sz rfl) rfl rfl rfl rfl rfl ?_; refine runL_nil ?_; refine endS_n rfl ?_; refine runD_q 11 rfl rfl (by kernel_rfl) ?_; refine ⟨_, fun _ => ev_fieldAddr rfl rfl (fo rfl), ?_⟩; refine runD_1 12 (by kernel_rfl) rfl rfl rfl ?_; refine runL_store0 rfl rfl rfl rfl rfl (sz rfl) rfl rfl rfl rfl rfl ?_; refine runL_nil ?_; refine endS_n rfl ?_; refine runD_done (by kernel_rfl) ?_)
      exact midN () [] trivial rfl (fun x => by show cnt x (blk b14 (amO w p q).cells 35 :: H ++ [blk b12 w.cells 35]) = _; (first | rfl | (simp only [List.append_eq, cnt_append, cnt_cons, cnt_nil, blk]; omega) | (simp only [List.append_eq, cnt_append, cnt_cons, cnt_nil, blk]; done)))
    · intro fr' h' hm
      (refine then_normal ?_)
      refine midN_out hm ?_
      clear hm
      rintro ⟨⟩ -
      have ham : (amO w p q).kind = w.kind := rfl
      have q1 := fun F => sp_right F (amO w p q) hk
      generalize hO : amO w p q = o at *
      ((iterate 2 refine run_seq ?_); refine run_region ?_; refine xel rfl (ev_loadAK rfl rfl (ag rfl) (sz rfl) (memF (.head _)) rfl) ?_; refine xel rfl (ev_callQ rfl rfl rfl (pf rfl) (q1 ..)) ?_; refine xep rfl rfl ?_; refine runL_nil ?_; refine then_normal ?_)
      by_cases hr : right o ≠ 0
      · rw [if_pos hr]
        refine run_condT rfl (by simp [hr]) ?_
        (refine run_seq ?_; refine run_region ?_; (iterate 2 refine xep rfl rfl ?_); refine runL_nil ?_; refine then_normal ?_; refine run_ret ?_; refine then_ret ?_)
        exact ⟨_, rfl, H ++ [] ++ [], [blk b14 o.cells 35, blk b12 w.cells 35], ⟨none, 0, [], [], [], H, rfl, rfl, by decide, .nil _ _, rfl, hH, rfl⟩, fun y => by (first | rfl | (simp only [List.append_eq, cnt_append, cnt_cons, cnt_nil, blk]; omega) | (simp only [List.append_eq, cnt_append, cnt_cons, cnt_nil, blk]; done))⟩
      · rw [if_neg hr]
        refine run_condF rfl (by simp at hr; simp [hr]) ?_
        (refine run_skip ?_; refine then_normal ?_)
        refine run_seq ?_
        refine run_seq ?_
        refine run_midO (σ := Unit) [0, 1, 2, 4, 14] (fun _ => [(54, .bool (decide (p = w.price) && decide (q ≤ w.qty) && !(!(bfind t i M.B).2)))]) (fun _ => blk b14 o.cells 35 :: H) (fun _ => True) rfl ?_ ?_
        · refine RunC.freeze ?_
          have hMi : MkIn ((blk b14 o.cells 35 :: blk b12 w.cells 35 :: H) ++ F) m M := hH.in fun z mz => List.mem_append_left _ (.tail _ (.tail _ mz))
          have l1 : AggF ((blk b14 o.cells 35 :: blk b12 w.cells 35 :: H) ++ F) b12 0 w.cells := ⟨_, _, _, memF (.tail _ (.head _)), Nat.le_refl _, rfl⟩
          have l2 := l1.at 5 _ rfl
          have l3 := l1.at 6 _ rfl
          have q1 := fun Z : Heap => sp_cwaits (Z ++ ((blk b14 o.cells 35 :: blk b12 w.cells 35 :: H) ++ F)) m M hMi.up hw.b t i
          (refine run_region ?_; refine xep rfl rfl ?_; refine xel rfl (ev_fieldAddr rfl rfl (fo rfl)) ?_; refine xel rfl (ev_loadF rfl rfl (sc rfl) l2) ?_; (iterate 2 refine xep rfl rfl ?_); refine xgp rfl rfl rfl ?_; refine xgl rfl rfl (fun hq => ev_fieldAddr rfl rfl (fo rfl)) ?_; refine xgl rfl rfl (fun hq => ev_loadF rfl rfl (sc rfl) l3) ?_; refine xgp rfl rfl rfl ?_; (iterate 2 refine xep rfl rfl ?_); (iterate 3 refine xgp rfl rfl rfl ?_); refine xgl rfl rfl (fun hq => ev_callQ rfl rfl rfl (pf rfl) (q1 ..)) ?_; refine xgp rfl rfl rfl ?_; refine xep rfl rfl ?_; refine runL_nil ?_)
          exact midN () [blk b12 w.cells 35] trivial rfl (fun x => by (first | rfl | (simp only [List.append_eq, cnt_append, cnt_cons, cnt_nil, blk]; omega) | (simp only [List.append_eq, cnt_append, cnt_cons, cnt_nil, blk]; done)))
        · intro fr' h' hm
          (refine then_normal ?_)
          refine midN_out hm ?_
          clear hm
          rintro ⟨⟩ -
          by_cases hc : p = w.price ∧ q ≤ w.qty ∧ (bfind t i M.B).2 = true
          · rw [if_pos hc]
            refine run_condT rfl (by rw [decide_eq_true hc.1, decide_eq_true hc.2.1, hc.2.2]; rfl) ?_
            skip
            obtain ⟨b, aw, cw, HB, AW, hB, ownW, rfl⟩ := hH
            refine RunC.perm (h' := blk m [.pointer (some ⟨b, 0, none⟩), .slice aw M.W.length cw] 55 :: blk b14 o.cells 35 :: (HB ++ AW)) (fun y => by (first | rfl | (simp only [List.append_eq, cnt_append, cnt_cons, cnt_nil, blk]; omega) | (simp only [List.append_eq, cnt_append, cnt_cons, cnt_nil, blk]; done))) ?_
            (refine run_seq ?_; refine run_region ?_; refine xep rfl rfl ?_)
            refine runL_ev rfl rfl rfl rfl (ev_callQ rfl rfl rfl (pf rfl) (sp_sbook _ m b aw _ cw (List.mem_cons_self ..))) ?_
            ((iterate 3 refine xep rfl rfl ?_))
            refine runL_callZ (blk m [.pointer (some ⟨b, 0, none⟩), .slice aw M.W.length cw] 55 :: blk b14 o.cells 35 :: AW) HB rfl rfl rfl rfl rfl rfl rfl (pf rfl) (fun y => by (first | rfl | (simp only [List.append_eq, cnt_append, cnt_cons, cnt_nil, blk]; omega) | (simp only [List.append_eq, cnt_append, cnt_cons, cnt_nil, blk]; done))) (sp_bless _ HB b M.B hB hw.b t i q) ?_
            rintro v HB2 ⟨rfl, hB2⟩
            (refine runL_nil ?_; refine then_normal ?_; refine run_seq ?_; refine run_region ?_; (iterate 2 refine xep rfl rfl ?_); refine runL_nil ?_; refine then_normal ?_; refine run_ret ?_; refine then_ret ?_)
            exact ⟨_, rfl, (blk m [.pointer (some ⟨b, 0, none⟩), .slice aw M.W.length cw] 55 :: (HB2 ++ AW)) ++ [] ++ [], [blk b14 o.cells 35], ⟨none, 0, [], [], [], blk m [.pointer (some ⟨b, 0, none⟩), .slice aw M.W.length cw] 55 :: (HB2 ++ AW), rfl, rfl, by decide, .nil _ _, rfl, ⟨b, aw, cw, HB2, AW, hB2, ownW, rfl⟩, rfl⟩, fun y => by (first | rfl | (simp only [List.append_eq, cnt_append, cnt_cons, cnt_nil, blk]; omega) | (simp only [List.append_eq, cnt_append, cnt_cons, cnt_nil, blk]; done))⟩
          · rw [if_neg hc]
            refine run_condF rfl (by
              cases hb : (bfind t i M.B).2 with
              | false => simp
              | true =>
                by_cases h1 : p = w.price
                · rw [decide_eq_false (fun h2 : q ≤ w.qty => hc ⟨h1, h2, hb⟩)]; simp
                · rw [decide_eq_false h1]; rfl) ?_
            (refine run_skip ?_; refine then_normal ?_; refine run_seq ?_; refine run_region ?_; (iterate 3 refine xep rfl rfl ?_))
            refine runL_callZ [blk b14 o.cells 35] H rfl rfl rfl rfl rfl rfl rfl (pf rfl) (fun y => by (first | rfl | (simp only [List.append_eq, cnt_append, cnt_cons, cnt_nil, blk]; omega) | (simp only [List.append_eq, cnt_append, cnt_cons, cnt_nil, blk]; done))) (sp_sremove _ H m M hH hw.b hl t i) ?_
            rintro v H2 ⟨rfl, hH2⟩
            have hO2 : InI o.kind := by rw [ham]; exact hk
            have K := madd_ok (o := o) hmw
            have cA := fun Y => sp_sadd Y H2 m (mremove t i M).2.2 hH2 hmw (by omega) o hO2
            generalize madd o (mremove t i M).2.2 = X at *
            (refine runL_nil ?_; refine then_normal ?_; refine run_seq ?_; refine run_region ?_; refine xep rfl rfl ?_; refine xel rfl (ev_loadAK rfl rfl (ag rfl) (sz rfl) (memF (.head _)) rfl) ?_)
            refine runL_callZ [blk b14 o.cells 35] H2 rfl rfl rfl rfl rfl rfl rfl (pf rfl) (fun y => by (first | rfl | (simp only [List.append_eq, cnt_append, cnt_cons, cnt_nil, blk]; omega) | (simp only [List.append_eq, cnt_append, cnt_cons, cnt_nil, blk]; done))) (cA _) ?_
            rintro v _ ⟨a, c, ts, A, HF, H3, rfl, hts, htl, own, hF, hH3, rfl⟩
            ((iterate 2 refine xep rfl rfl ?_); refine runL_nil ?_; refine then_normal ?_; refine run_ret ?_)
            exact ⟨_, rfl, H3 ++ A ++ HF, [blk b14 o.cells 35], ⟨a, c, ts, A, HF, H3, rfl, hts, htl, own, hF, hH3, rfl⟩, fun y => by (first | rfl | (simp only [List.append_eq, cnt_append, cnt_cons, cnt_nil, blk]; omega) | (simp only [List.append_eq, cnt_append, cnt_cons, cnt_nil, blk]; done))⟩
end Go.Proofs.YtmelpobcpcmdoaaGreat

set_option autoImplicit false
set_option linter.unusedSectionVars false
set_option linter.unusedSimpArgs false
set_option linter.unusedVariables false
set_option maxRecDepth 4000
set_option maxHeartbeats 100000000
namespace Go.Proofs.YtmelpobcpcmdoaaGreat
open Go Go.SL Go.Proofs
variable [Base]
theorem sp_open (F : Heap) (m : Nat) (M : Mk) (h : MkIn F m M) (hw : MW M) (t : Int) : Sp Tryz.prog F 17 [.pointer (some ⟨m, 0, none⟩), .int .i64 t] [] (Ret (.int .i64 (openS t (mall M)))) := by
  have hml := mall_len M
  have hl64 := hw.len
  have hsq := (sumM_pos hw).2
  have hop := fun j hj => openS_in hsq (t := t) j hj
  refine sp_of_code Tryz.func17 rfl rfl ?_
  (refine run_seq ?_; refine run_region ?_; refine xep rfl rfl ?_; refine runL_nil ?_; refine then_normal ?_; refine run_seq ?_; refine run_region ?_; refine xep rfl rfl ?_; refine runL_nil ?_; refine then_normal ?_; (iterate 2 refine run_seq ?_); refine run_region ?_; refine xep rfl rfl ?_)
  refine runL_callZ [] [] rfl rfl rfl rfl rfl rfl rfl (pf rfl) (fun y => by (first | rfl | (simp only [List.append_eq, cnt_append, cnt_cons, cnt_nil, blk]; omega) | (simp only [List.append_eq, cnt_append, cnt_cons, cnt_nil, blk]; done))) (sp_sall _ m M h.up hw.b hw.len) ?_
  rintro v A9 own9
  obtain ⟨a9, c9, rfl, own9⟩ := own9.at
  generalize mall M = all at *
  (refine xel rfl (ev_len rfl rfl (se rfl)) ?_; refine xep rfl rfl ?_; refine runL_nil ?_; refine then_normal ?_; refine run_block ?_; refine RunC.whole rfl ?_)
  refine run_loopK (σ := Nat) [1, 5, 9, 10, 11] (fun j => [(1, .int .i64 t), (5, .int .i64 (openS t (all.take j))), (9, .slice a9 all.length c9), (10, .int .i64 all.length), (11, .int .i64 j)])
    (fun _ => A9) (fun j => j ≤ all.length) (fun j => all.length - j) 0 (Nat.zero_le _) rfl (fun x => by (first | rfl | (simp only [List.append_eq, cnt_append, cnt_cons, cnt_nil, blk]; omega) | (simp only [List.append_eq, cnt_append, cnt_cons, cnt_nil, blk]; done))) ?_
  intro j gj
  have hp1 := hop j gj
  (refine run_seq ?_; refine run_region ?_; refine xep rfl rfl ?_; refine runL_nil ?_; refine then_normal ?_; refine run_seq ?_)
  (refine run_cond rfl (fun hc => ?_) (fun hc => ?_) <;> (try simp only [z0, z1, z2, z3, z4, z5, z6, z7, z8, z9, Bool.not_true, Bool.not_false, Bool.false_or, Bool.true_and, true_and, and_true, false_or, or_false, reduceCtorEq, Bool.false_eq_true] at hc))
  · obtain ⟨b9, rest9, cap9, hv9, rfl, -, -, -⟩ := own9.pos (by omega)
    cases hv9
    obtain ⟨o, ho⟩ : ∃ o, all[j]? = some o := ⟨all[j]'(by omega), List.getElem?_eq_getElem _⟩
    have r1 : RowAt (rows Ord.cells all ++ rest9) (0 + (j : Int).toNat * 9) o.cells := by
      rw [Nat.zero_add]; exact rows_at oc_len ho rest9
    have hst := openS_take (t := t) ho
    have hoq := hsq o (List.mem_of_getElem? ho)
    (refine run_skip ?_; refine then_normal ?_; refine run_seq ?_; refine run_block ?_; refine run_seq ?_; refine run_region ?_; refine xel rfl (ev_indexAddr rfl rfl rfl (se rfl) (by omega) (by omega)) ?_; refine xel rfl (ev_loadAR rfl rfl (ag rfl) (sz rfl) (memF (.head _)) r1 rfl) ?_; refine runL_alloc rfl rfl rfl rfl rfl ze35 (fun _ => ?_); refine runL_store0 rfl rfl rfl rfl rfl (sz rfl) rfl rfl rfl rfl rfl ?_; refine runL_nil ?_; refine then_normal ?_; refine run_seq ?_; refine run_region ?_; refine xel rfl (ev_fieldAddr rfl rfl (fo rfl)) ?_; refine xel rfl (ev_loadK rfl rfl (sc rfl) (memF (.head _)) rfl) ?_; (iterate 2 refine xep rfl rfl ?_); refine runL_nil ?_; refine then_normal ?_)
    rename_i x7
    by_cases hot : o.trader = t
    · rw [if_pos hot] at hst
      refine run_condT rfl (decide_eq_true hot) ?_
      (refine run_region ?_; refine xep rfl rfl ?_; refine xel rfl (ev_fieldAddr rfl rfl (fo rfl)) ?_; refine xel rfl (ev_loadK rfl rfl (sc rfl) (memF (.head _)) rfl) ?_; refine xel rfl (ev_add rfl rfl rfl (by omega)) ?_; refine xep rfl rfl ?_; refine runL_nil ?_; refine in_normal ?_; refine then_normal ?_; refine run_region ?_; refine xel rfl (ev_add rfl rfl rfl (by omega)) ?_; refine xep rfl rfl ?_; refine runL_nil ?_; refine then_normal ?_)
      exact ⟨j + 1, by show j + 1 ≤ _; omega, by show all.length - (j + 1) < all.length - j; omega, by rw [hst]; rfl, [blk x7 o.cells 35], fun y => by show cnt y (blk x7 o.cells 35 :: [blk b9 (rows Ord.cells all ++ rest9) 35]) = _; (first | rfl | (simp only [List.append_eq, cnt_append, cnt_cons, cnt_nil, blk]; omega) | (simp only [List.append_eq, cnt_append, cnt_cons, cnt_nil, blk]; done))⟩
    · rw [if_neg hot, Int.add_zero] at hst
      refine run_condF rfl (decide_eq_false hot) ?_
      (refine run_skip ?_; refine in_normal ?_; refine then_normal ?_; refine run_region ?_; refine xel rfl (ev_add rfl rfl rfl (by omega)) ?_; refine xep rfl rfl ?_; refine runL_nil ?_; refine then_normal ?_)
      exact ⟨j + 1, by show j + 1 ≤ _; omega, by show all.length - (j + 1) < all.length - j; omega, by rw [hst]; rfl, [blk x7 o.cells 35], fun y => by show cnt y (blk x7 o.cells 35 :: [blk b9 (rows Ord.cells all ++ rest9) 35]) = _; (first | rfl | (simp only [List.append_eq, cnt_append, cnt_cons, cnt_nil, blk]; omega) | (simp only [List.append_eq, cnt_append, cnt_cons, cnt_nil, blk]; done))⟩
  · (refine run_exit ?_; (iterate 2 refine then_exit ?_); refine in_exit ?_; refine then_normal ?_)
    have ej : all.take j = all := List.take_of_length_le (by omega)
    rw [ej]
    (refine run_seq ?_; refine run_region ?_; (iterate 2 refine xep rfl rfl ?_); refine runL_nil ?_; refine then_normal ?_; refine run_ret ?_)
    exact ⟨_, rfl, rfl⟩
theorem sp_mass (F H : Heap) (m : Nat) (M : Mk) (hH : MkH m M H) (hw : MW M) (hu : Uq M) (hr : RB M.B) (T : Int) : Sp Tryz.prog F 13 [.pointer (some ⟨m, 0, none⟩), .int .u64 T] H (fun v h' => ∃ a c A H', v = .slice a (wentL (tbit T) (mall M)).length c ∧ OwnS 35 9 (.slice a (wentL (tbit T) (mall M)).length c) (wentL (tbit T) (mall M)).length (rows Ord.cells (wentL (tbit T) (mall M))) A ∧ MkH m (massM (tbit T) M (mall M)) H' ∧ h' = H' ++ A) := by
  have hml := mall_len M
  have hl64 := hw.len
  have hms := fun j hj => mass_is (f := tbit T) hw hu j hj
  have hoa : ∀ x ∈ mall M, okP x := fun x mx => all_ok hw hr mx
  refine Sp.up ?_
  refine sp_of_code Tryz.func13 rfl rfl ?_
  (refine run_seq ?_; refine run_region ?_; refine xep rfl rfl ?_; refine runL_nil ?_; refine then_normal ?_; refine run_seq ?_; refine run_region ?_; refine xep rfl rfl ?_; refine runL_nil ?_; refine then_normal ?_; (iterate 2 refine run_seq ?_); refine run_region ?_; refine xep rfl rfl ?_)
  refine runL_callZ H [] rfl rfl rfl rfl rfl rfl rfl (pf rfl) (fun y => by (first | rfl | (simp only [List.append_eq, cnt_append, cnt_cons, cnt_nil, blk]; omega) | (simp only [List.append_eq, cnt_append, cnt_cons, cnt_nil, blk]; done))) (sp_sall _ m M (hH.in fun x mx => by simp [mx]) hw.b hw.len) ?_
  rintro v A9 own9
  obtain ⟨a9, c9, rfl, own9⟩ := own9.at
  generalize hall : mall M = all at *
  (refine xel rfl (ev_len rfl rfl (se rfl)) ?_; refine xep rfl rfl ?_; refine runL_nil ?_; refine then_normal ?_; refine run_block ?_)
  refine run_loopK (σ := Nat × (Option Addr × Nat × Heap) × Heap) [0, 1, 4, 5, 9, 10, 11] (fun s => [(0, .pointer (some ⟨m, 0, none⟩)), (1, .int .u64 T), (4, .slice none 0 0), (5, .slice s.2.1.1 (wentL (tbit T) (all.take s.1)).length s.2.1.2.1), (9, .slice a9 all.length c9), (10, .int .i64 all.length), (11, .int .i64 s.1)])
    (fun s => A9 ++ (s.2.1.2.2 ++ s.2.2)) (fun s => s.1 ≤ all.length ∧ OwnS 35 9 (.slice s.2.1.1 (wentL (tbit T) (all.take s.1)).length s.2.1.2.1) (wentL (tbit T) (all.take s.1)).length (rows Ord.cells (wentL (tbit T) (all.take s.1))) s.2.1.2.2 ∧ MkH m (massM (tbit T) M (all.take s.1)) s.2.2) (fun s => all.length - s.1) (0, (none, 0, []), H) ⟨Nat.zero_le _, .nil _ _, hH⟩ rfl (fun x => by (first | rfl | (simp only [List.append_eq, cnt_append, cnt_cons, cnt_nil, blk]; omega) | (simp only [List.append_eq, cnt_append, cnt_cons, cnt_nil, blk]; done))) ?_
  rintro ⟨j, ⟨a5, c5, A5⟩, G⟩ ⟨gj, own5, hG⟩
  dsimp only at gj own5 hG ⊢
  obtain ⟨i1, i2, i3, i4⟩ := hms j gj
  have hgl : (wentL (tbit T) (all.take j)).length ≤ 64 := by
    unfold wentL
    have := List.length_filter_le (fun x : Ord => tbit T x.trader) (all.take j)
    rw [List.length_take] at this
    omega
  (refine run_seq ?_; refine run_region ?_; refine xep rfl rfl ?_; refine runL_nil ?_; refine then_normal ?_; refine run_seq ?_)
  (refine run_cond rfl (fun hc => ?_) (fun hc => ?_) <;> (try simp only [z0, z1, z2, z3, z4, z5, z6, z7, z8, z9, Bool.not_true, Bool.not_false, Bool.false_or, Bool.true_and, true_and, and_true, false_or, or_false, reduceCtorEq, Bool.false_eq_true] at hc))
  · obtain ⟨b9, rest9, cap9, hv9, rfl, -, -, -⟩ := own9.pos (by omega)
    cases hv9
    obtain ⟨x, hx⟩ : ∃ x, all[j]? = some x := ⟨all[j]'(by omega), List.getElem?_eq_getElem _⟩
    have r1 : RowAt (rows Ord.cells all ++ rest9) (0 + (j : Int).toNat * 9) x.cells := by
      rw [Nat.zero_add]; exact rows_at oc_len hx rest9
    have hxo := hoa x (List.mem_of_getElem? hx)
    have hx0 : 0 ≤ x.trader ∧ x.trader ≤ 31 := ⟨hxo.1, hxo.2.1⟩
    have hmt := massM_take (f := tbit T) (M := M) hx
    have hwt : wentL (tbit T) (all.take (j + 1)) = wentL (tbit T) (all.take j) ++ (if tbit T x.trader = true then [x] else []) := filter_take hx
    have hNl : (massM (tbit T) M (all.take j)).W.length ≤ 65536 := by have := i2.len; unfold mlen at this; omega
    (refine run_skip ?_; refine then_normal ?_; refine run_seq ?_; refine run_block ?_; refine run_seq ?_; refine run_region ?_; refine xel rfl (ev_indexAddr rfl rfl rfl (se rfl) (by omega) (by omega)) ?_; refine xel rfl (ev_loadAR rfl rfl (ag rfl) (sz rfl) (memF (.head _)) r1 rfl) ?_; refine runL_alloc rfl rfl rfl rfl rfl ze35 (fun _ => ?_); refine runL_store0 rfl rfl rfl rfl rfl (sz rfl) rfl rfl rfl rfl rfl ?_; refine runL_nil ?_; refine then_normal ?_; refine run_seq ?_; refine run_region ?_; refine xep rfl rfl ?_; refine xel rfl (ev_fieldAddr rfl rfl (fo rfl)) ?_; refine xel rfl (ev_loadK rfl rfl (sc rfl) (memF (.head _)) rfl) ?_)
    rename_i x7
    have hwr : IntKind.u64.wrap x.trader = x.trader := by rw [IntKind.wrap_u64]; omega
    refine RunL.perm (h' := blk x7 x.cells 35 :: ([blk b9 (rows Ord.cells all ++ rest9) 35] ++ (A5 ++ G))) (fun y => rfl) ?_
    refine runL_ev rfl rfl rfl rfl (ev_conv (k' := .u64) (u := .int .i64) rfl rfl (by kernel_rfl) (by kernel_rfl) hwr) ?_
    skip
    refine runL_ev rfl rfl rfl rfl (ev_shr rfl rfl rfl hx0.1) ?_
    (refine xel rfl (ev_bits rfl rfl rfl rfl) ?_; refine xep rfl rfl ?_; refine runL_nil ?_; refine then_normal ?_)
    by_cases hb : tbit T x.trader = true
    · rw [if_pos hb] at hmt hwt
      refine run_condT rfl hb ?_
      (refine run_seq ?_; refine run_region ?_; refine xep rfl rfl ?_; refine xel rfl (ev_fieldAddr rfl rfl (fo rfl)) ?_; refine xel rfl (ev_loadK rfl rfl (sc rfl) (memF (.head _)) rfl) ?_; refine xel rfl (ev_fieldAddr rfl rfl (fo rfl)) ?_; refine xel rfl (ev_loadK rfl rfl (sc rfl) (memF (.head _)) rfl) ?_)
      refine runL_callZ (blk x7 x.cells 35 :: ([blk b9 (rows Ord.cells all ++ rest9) 35] ++ A5)) G rfl rfl rfl rfl rfl rfl rfl (pf rfl) (fun y => by (first | rfl | (simp only [List.append_eq, cnt_append, cnt_cons, cnt_nil, blk]; omega) | (simp only [List.append_eq, cnt_append, cnt_cons, cnt_nil, blk]; done))) (sp_sremove _ G m _ hG i2.b hNl x.trader x.id) ?_
      rintro v G2 ⟨rfl, hG2⟩
      rw [← hmt] at hG2
      (refine runL_nil ?_; refine then_normal ?_; refine run_region ?_; refine xep rfl rfl ?_; refine xel rfl (ev_loadAK rfl rfl (ag rfl) (sz rfl) (memF (.head _)) rfl) ?_)
      refine runL_buildSlice (l := x.cells) rfl rfl rfl rfl rfl (se rfl) ze35 rfl rfl rfl rfl rfl (fun b30 => ?_)
      skip
      refine runL_append (sl := x.cells) (blk b30 x.cells 35 :: blk x7 x.cells 35 :: ([blk b9 (rows Ord.cells all ++ rest9) 35] ++ G2)) rfl rfl rfl rfl rfl rfl rfl (se rfl) (se rfl) ze35 rfl (byt rfl) own5 (fun y => by (first | rfl | (simp only [List.append_eq, cnt_append, cnt_cons, cnt_nil, blk]; omega) | (simp only [List.append_eq, cnt_append, cnt_cons, cnt_nil, blk]; done))) ⟨rfl, .inr ⟨b30, 0, _, _, _, rfl, memF (.head _), by simp [Ord.cells], rfl⟩⟩ rfl (by decide) (by decide) (by omega) ?_
      rintro v' A8 own'
      obtain ⟨a8, c8, rfl, own8⟩ := (own'.snoc (f := Ord.cells) (x := x) rfl).at
      rw [← hwt] at own8
      (refine xep rfl rfl ?_; refine runL_nil ?_; refine in_normal ?_; refine then_normal ?_; refine run_region ?_; refine xel rfl (ev_add rfl rfl rfl (by omega)) ?_; refine xep rfl rfl ?_; refine runL_nil ?_; refine then_normal ?_)
      refine ⟨(j + 1, (a8, c8, A8), G2), ⟨by show j + 1 ≤ _; omega, own8, hG2⟩, by show all.length - (j + 1) < all.length - j; omega, ?_, blk b30 x.cells 35 :: [blk x7 x.cells 35], fun y => by (first | rfl | (simp only [List.append_eq, cnt_append, cnt_cons, cnt_nil, blk]; omega) | (simp only [List.append_eq, cnt_append, cnt_cons, cnt_nil, blk]; done))⟩
      dsimp only
      rw [hwt]; rfl
    · rw [if_neg hb] at hmt hwt
      rw [List.append_nil] at hwt
      refine run_condF rfl (by have h : tbit T x.trader = false := by simpa using hb
                               exact h) ?_
      (refine run_skip ?_; refine in_normal ?_; refine then_normal ?_; refine run_region ?_; refine xel rfl (ev_add rfl rfl rfl (by omega)) ?_; refine xep rfl rfl ?_; refine runL_nil ?_; refine then_normal ?_)
      exact ⟨(j + 1, (a5, c5, A5), G), ⟨by show j + 1 ≤ _; omega, by rw [hwt]; exact own5, by rw [hmt]; exact hG⟩, by show all.length - (j + 1) < all.length - j; omega, by dsimp only; rw [hwt]; rfl, [blk x7 x.cells 35], fun y => by (first | rfl | (simp only [List.append_eq, cnt_append, cnt_cons, cnt_nil, blk]; omega) | (simp only [List.append_eq, cnt_append, cnt_cons, cnt_nil, blk]; done))⟩
  · (refine run_exit ?_; (iterate 2 refine then_exit ?_); refine in_exit ?_; refine then_normal ?_)
    have ej : all.take j = all := List.take_of_length_le (by omega)
    rw [ej] at own5 hG ⊢
    (refine run_seq ?_; refine run_region ?_; (iterate 2 refine xep rfl rfl ?_); refine runL_nil ?_; refine then_normal ?_; refine run_ret ?_)
    exact ⟨_, rfl, G ++ A5, A9, ⟨a5, c5, A5, G, rfl, own5, hG, rfl⟩, fun y => by (first | rfl | (simp only [List.append_eq, cnt_append, cnt_cons, cnt_nil, blk]; omega) | (simp only [List.append_eq, cnt_append, cnt_cons, cnt_nil, blk]; done))⟩
end Go.Proofs.YtmelpobcpcmdoaaGreat

set_option autoImplicit false
set_option linter.unusedSectionVars false
set_option linter.unusedSimpArgs false
set_option linter.unusedVariables false
set_option maxRecDepth 4000
set_option maxHeartbeats 64000000
namespace Go.Proofs.YtmelpobcpcmdoaaGreat
open Go Go.SL Go.Proofs
variable [Base]
/-! The document's market. -/
def RmH (m : Nat) (M : Mk) (H : Heap) : Prop := ∃ b a c HB A, RbH b M.B HB ∧ OwnS 35 9 (.slice a M.W.length c) M.W.length (rows Ord.cells M.W) A ∧ H = blk m [.pointer (some ⟨b, 0, none⟩), .slice a M.W.length c] 62 :: (HB ++ A)
def RmIn (F : Heap) (m : Nat) (M : Mk) : Prop := ∃ b a c, RbIn F b M.B ∧ M.W.length ≤ c ∧ SrcIs F a M.W.length 9 (rows Ord.cells M.W) ∧ blk m [.pointer (some ⟨b, 0, none⟩), .slice a M.W.length c] 62 ∈ F
theorem RmH.in {m : Nat} {M : Mk} {H F : Heap} (h : RmH m M H) (hF : ∀ x ∈ H, x ∈ F) : RmIn F m M := by
  obtain ⟨b, a, c, HB, A, h1, own, rfl⟩ := h
  have hc : M.W.length ≤ c := by
    obtain ⟨_, _, hv, h2⟩ := own.form
    cases hv; exact h2
  exact ⟨b, a, c, h1.in fun x m => hF x (.tail _ (List.mem_append_left _ m)), hc, own.src fun x m => hF x (.tail _ (List.mem_append_right _ m)), hF _ (.head _)⟩
theorem RmIn.mono {F F' : Heap} {m : Nat} {M : Mk} (h : RmIn F m M) (hF : ∀ x ∈ F, x ∈ F') : RmIn F' m M := by
  obtain ⟨b, a, c, h1, h2, h3, h4⟩ := h
  exact ⟨b, a, c, h1.mono hF, h2, h3.mono hF, hF _ h4⟩
theorem RmIn.up {F A : Heap} {m : Nat} {M : Mk} (h : RmIn F m M) : RmIn (A ++ F) m M := h.mono fun x m => List.mem_append_right _ m
theorem sp_rnew (F : Heap) : Sp Tryz.prog F 5 [] [] (fun v h' => ∃ m, v = .pointer (some ⟨m, 0, none⟩) ∧ RmH m emptyM h') := by
  refine Sp.up ?_
  refine sp_of_code Tryz.func5 rfl rfl ?_
  (refine run_seq ?_; refine run_region ?_; refine xep rfl rfl ?_; refine runL_nil ?_; refine then_normal ?_; refine run_seq ?_; refine run_region ?_; refine xel rfl (ev_build rfl pl60 rfl) ?_; refine runL_box rfl rfl rfl rfl rfl rfl (fun _ => ?_); refine xel rfl (ev_build rfl pl62 rfl) ?_; refine runL_box rfl rfl rfl rfl rfl rfl (fun _ => ?_); refine xep rfl rfl ?_; refine runL_nil ?_; refine then_normal ?_; refine run_ret ?_)
  rename_i b m
  exact ⟨_, rfl, blk m [.pointer (some ⟨b, 0, none⟩), .slice none 0 0] 62 :: ([blk b [.slice none 0 0, .slice none 0 0, .slice none 0 0, .int .i64 0, .int .i64 0] 60] ++ []), [], ⟨m, rfl, b, none, 0, _, [], ⟨.slice none 0 0, .slice none 0 0, [], [], ⟨none, 0, [], [], [], rfl, .nil _ _, rfl, rfl⟩, ⟨none, 0, [], [], [], rfl, .nil _ _, rfl, rfl⟩, rfl⟩, .nil _ _, rfl⟩, fun y => rfl⟩
theorem sp_rwaits (F : Heap) (m : Nat) (M : Mk) (h : RmIn F m M) (hl : M.W.length ≤ 65536) (t i : Int) :
    Sp Tryz.prog F 31 [.pointer (some ⟨m, 0, none⟩), .int .i64 t, .int .i64 i] [] (Ret (.int .i64 (idxI (isO t i) M.W))) := by
  obtain ⟨b, a, c, h1, h2, hs, hm⟩ := h
  have l1 : LoadsF F m (0 + 1) (.slice a M.W.length c) := ⟨_, _, _, hm, rfl⟩
  generalize M.W = W at *
  refine Sp.up ?_
  refine sp_of_code Tryz.func31 rfl rfl ?_
  (refine run_seq ?_; refine run_region ?_; refine xep rfl rfl ?_; refine runL_nil ?_; refine then_normal ?_; (iterate 2 refine run_seq ?_); refine run_region ?_; (iterate 2 refine xep rfl rfl ?_); refine xel rfl (ev_fieldAddr rfl rfl (fo rfl)) ?_; refine xel rfl (ev_loadF rfl rfl (sc rfl) l1) ?_; refine xel rfl (ev_len rfl rfl (se rfl)) ?_; refine xep rfl rfl ?_; refine runL_nil ?_; refine then_normal ?_; refine run_block ?_)
  clear l1
  refine run_loopK (σ := Nat) [1, 2, 12, 13, 14] (fun k => [(1, .int .i64 t), (2, .int .i64 i), (12, .slice a W.length c), (13, .int .i64 W.length), (14, .int .i64 k)]) (fun _ => []) (fun k => k ≤ W.length ∧ ∀ j y, j < k → W[j]? = some y → isO t i y = false) (fun k => W.length - k) 0 ⟨Nat.zero_le _, fun j y h => absurd h (Nat.not_lt_zero _)⟩ rfl (fun _ => rfl) ?_
  rintro k ⟨g1, g2⟩
  (refine run_seq ?_; refine run_region ?_; refine xep rfl rfl ?_; refine runL_nil ?_; refine then_normal ?_; refine run_seq ?_)
  (refine run_cond rfl (fun hc => ?_) (fun hc => ?_) <;> (try simp only [z0, z1, z2, z3, z4, z5, z6, z7, z8, z9, Bool.not_true, Bool.not_false, Bool.false_or, Bool.true_and, true_and, and_true, false_or, or_false, reduceCtorEq, Bool.false_eq_true] at hc))
  · obtain ⟨b2, off, _, _, _, rfl, _⟩ := hs.pos (by omega)
    obtain ⟨x, hx⟩ : ∃ x, W[k]? = some x := ⟨W[k]'(by omega), List.getElem?_eq_getElem _⟩
    have l1 := SrcIs.row oc_len hs rfl hx
    (refine run_skip ?_; refine then_normal ?_; refine run_seq ?_; refine run_block ?_; refine run_seq ?_; refine run_region ?_; refine xep rfl rfl ?_; refine xel rfl (ev_indexAddr rfl rfl rfl (se rfl) (by omega) (by omega)) ?_; refine xel rfl (ev_loadAF rfl rfl (ag rfl) (sz rfl) l1 rfl) ?_; refine runL_alloc rfl rfl rfl rfl rfl ze35 (fun _ => ?_); refine xep rfl rfl ?_; refine runL_store0 rfl rfl rfl rfl rfl (sz rfl) rfl rfl rfl rfl rfl ?_; refine runL_nil ?_; refine then_normal ?_; refine run_seq ?_; refine run_region ?_; refine xel rfl (ev_fieldAddr rfl rfl (fo rfl)) ?_; refine xel rfl (ev_loadK rfl rfl (sc rfl) (memF (.head _)) rfl) ?_; (iterate 3 refine xep rfl rfl ?_); refine xgl rfl rfl (fun hq => ev_fieldAddr rfl rfl (fo rfl)) ?_; refine xgl rfl rfl (fun hq => ev_loadK rfl rfl (sc rfl) (memF (.head _)) rfl) ?_; (iterate 2 refine xgp rfl rfl rfl ?_); refine xep rfl rfl ?_; refine runL_nil ?_; refine then_normal ?_)
    rename_i b8
    by_cases hit : isO t i x = true
    · refine run_condT rfl hit ?_
      (refine run_seq ?_; refine run_region ?_; (iterate 2 refine xep rfl rfl ?_); refine runL_nil ?_; refine then_normal ?_; refine run_ret ?_; refine in_ret ?_; (iterate 2 refine then_ret ?_); refine in_ret ?_; refine then_ret ?_)
      refine ⟨_, rfl, [], [blk b8 x.cells 35], ?_, fun y => rfl⟩
      rw [idxI_here hx hit g2]; rfl
    · refine run_condF rfl (by simpa [isO] using hit) ?_
      (refine run_skip ?_; refine in_normal ?_; refine then_normal ?_; refine run_region ?_; refine xel rfl (ev_add rfl rfl rfl (by omega)) ?_; refine xep rfl rfl ?_; refine runL_nil ?_; refine then_normal ?_)
      refine ⟨k + 1, ⟨by omega, fun j y hj hy => ?_⟩, by omega, rfl, [blk b8 x.cells 35], fun y => rfl⟩
      by_cases e : j = k
      · subst e; rw [hx] at hy; cases hy; simpa using hit
      · exact g2 j y (by omega) hy
  · (refine run_exit ?_; (iterate 2 refine then_exit ?_); refine in_exit ?_; refine then_normal ?_)
    (refine run_seq ?_; refine run_region ?_; refine xep rfl rfl ?_; refine runL_nil ?_; refine then_normal ?_; refine run_ret ?_)
    refine ⟨_, rfl, [], [], ?_, fun y => rfl⟩
    rw [idxI_none fun j y hy => g2 j y (by have := (List.getElem?_eq_some_iff.1 hy).1; omega) hy]; rfl
theorem sp_rmlen (F : Heap) (m : Nat) (M : Mk) (h : RmIn F m M) (hw : BW M.B) (hl : mlen M ≤ 64) : Sp Tryz.prog F 32 [.pointer (some ⟨m, 0, none⟩)] [] (Ret (.int .i64 (mlen M : Nat))) := by
  obtain ⟨b, a, c, h1, h2, h3, hm⟩ := h
  have l1 : LoadsF F m (0 + 0) (.pointer (some ⟨b, 0, none⟩)) := ⟨_, _, _, hm, rfl⟩
  have l2 : LoadsF F m (0 + 1) (.slice a M.W.length c) := ⟨_, _, _, hm, rfl⟩
  have q1 := fun G : Heap => sp_rblen (G ++ F) b M.B h1.up hw
  unfold mlen at hl ⊢
  refine sp_of_code Tryz.func32 rfl rfl ?_
  (refine run_seq ?_; refine run_region ?_; refine xep rfl rfl ?_; refine runL_nil ?_; refine then_normal ?_; refine run_seq ?_)
  refine run_region_D mo ?_
  (refine runD_q 0 rfl rfl (by kernel_rfl) ?_; refine ⟨_, fun _ => ev_pure rfl, ?_⟩; refine runD_q 1 rfl rfl (by kernel_rfl) ?_; refine ⟨_, fun _ => ev_pure rfl, ?_⟩; refine runD_q 2 rfl rfl (by kernel_rfl) ?_; refine ⟨_, fun _ => ev_fieldAddr rfl rfl (fo rfl), ?_⟩; refine runD_q 3 rfl rfl (by kernel_rfl) ?_; refine ⟨_, fun _ => ev_loadF rfl rfl (sc rfl) l1, ?_⟩; refine runD_q 4 rfl rfl (by kernel_rfl) ?_; refine ⟨_, fun _ => ev_callQ rfl rfl rfl (pf rfl) (q1 ..), ?_⟩; refine runD_q 5 rfl rfl (by kernel_rfl) ?_; refine ⟨_, fun _ => ev_pure rfl, ?_⟩; refine runD_q 6 rfl rfl (by kernel_rfl) ?_; refine ⟨_, fun _ => ev_pure rfl, ?_⟩; refine runD_q 7 rfl rfl (by kernel_rfl) ?_; refine ⟨_, fun _ => ev_fieldAddr rfl rfl (fo rfl), ?_⟩; refine runD_q 8 rfl rfl (by kernel_rfl) ?_; refine ⟨_, fun _ => ev_loadF rfl rfl (sc rfl) l2, ?_⟩; refine runD_q 9 rfl rfl (by kernel_rfl) ?_; refine ⟨_, fun _ => ev_len rfl rfl (se rfl), ?_⟩; refine runD_q 10 rfl rfl (by kernel_rfl) ?_; refine ⟨_, fun _ => ev_add rfl rfl rfl (by omega), ?_⟩; refine runD_q 11 rfl rfl (by kernel_rfl) ?_; refine ⟨_, fun _ => ev_pure rfl, ?_⟩; refine runD_done (by kernel_rfl) ?_; refine then_normal ?_; refine run_ret ?_)
  refine ⟨_, rfl, congrArg (Value.int .i64) ?_⟩
  push_cast; omega
theorem sp_rall (F : Heap) (m : Nat) (M : Mk) (h : RmIn F m M) (hw : BW M.B) (hl : mlen M ≤ 64) : Sp Tryz.prog F 16 [.pointer (some ⟨m, 0, none⟩)] [] (fun v h' => OwnS 35 9 v (mall M).length (rows Ord.cells (mall M)) h') := by
  obtain ⟨b, a, c, hB, h2, hs, hm⟩ := h
  have l1 : LoadsF F m (0 + 0) (.pointer (some ⟨b, 0, none⟩)) := ⟨_, _, _, hm, rfl⟩
  have l2 : LoadsF F m (0 + 1) (.slice a M.W.length c) := ⟨_, _, _, hm, rfl⟩
  have hml := mall_len M
  have hls := hw.len
  have ho1 := ordersL_len (M.B.side 1)
  have ho2 := ordersL_len (M.B.side 2)
  have hs1 : lenL (M.B.side 1) = lenL M.B.buys := rfl
  have hs2 : lenL (M.B.side 2) = lenL M.B.sells := rfl
  have hWl : M.W.length ≤ 64 := by unfold mlen at hl; omega
  have c1 := fun G : Heap => sp_rborders (G ++ F) b M.B hB.up hw 1 (.inl rfl)
  have c2 := fun G : Heap => sp_rborders (G ++ F) b M.B hB.up hw 2 (.inr rfl)
  refine Sp.up ?_
  refine sp_of_code Tryz.func16 rfl rfl ?_
  (refine run_seq ?_; refine run_region ?_; refine xep rfl rfl ?_; refine runL_nil ?_; refine then_normal ?_; refine run_seq ?_)
  refine run_region_D mo ?_
  (refine runD_q 0 rfl rfl (by kernel_rfl) ?_; refine ⟨_, fun _ => ev_pure rfl, ?_⟩; refine runD_q 1 rfl rfl (by kernel_rfl) ?_; refine ⟨_, fun _ => ev_pure rfl, ?_⟩; refine runD_q 2 rfl rfl (by kernel_rfl) ?_; refine ⟨_, fun _ => ev_fieldAddr rfl rfl (fo rfl), ?_⟩; refine runD_q 3 rfl rfl (by kernel_rfl) ?_; refine ⟨_, fun _ => ev_loadF rfl rfl (sc rfl) l1, ?_⟩; refine runD_q 5 rfl rfl (by kernel_rfl) ?_; refine ⟨_, fun _ => ev_pure rfl, ?_⟩; refine runD_q 6 rfl rfl (by kernel_rfl) ?_; refine ⟨_, fun _ => ev_pure rfl, ?_⟩; refine runD_q 7 rfl rfl (by kernel_rfl) ?_; refine ⟨_, fun _ => ev_fieldAddr rfl rfl (fo rfl), ?_⟩; refine runD_q 8 rfl rfl (by kernel_rfl) ?_; refine ⟨_, fun _ => ev_loadF rfl rfl (sc rfl) l1, ?_⟩; refine runD_q 11 rfl rfl (by kernel_rfl) ?_; refine ⟨_, fun _ => ev_pure rfl, ?_⟩; refine runD_q 12 rfl rfl (by kernel_rfl) ?_; refine ⟨_, fun _ => ev_pure rfl, ?_⟩; refine runD_q 13 rfl rfl (by kernel_rfl) ?_; refine ⟨_, fun _ => ev_fieldAddr rfl rfl (fo rfl), ?_⟩; refine runD_q 14 rfl rfl (by kernel_rfl) ?_; refine ⟨_, fun _ => ev_loadF rfl rfl (sc rfl) l2, ?_⟩; refine runD_1 4 (by kernel_rfl) rfl rfl rfl ?_)
  refine runL_callZ [] [] rfl rfl rfl rfl rfl rfl rfl (pf rfl) (fun x => by (first | rfl | (simp only [List.append_eq, cnt_append, cnt_cons, cnt_nil, blk]; omega) | (simp only [List.append_eq, cnt_append, cnt_cons, cnt_nil, blk]; done))) (c1 _) ?_
  rintro v A1 own1
  obtain ⟨a1, c1', rfl, own1⟩ := own1.at
  (refine runL_nil ?_; refine endS_d rfl ?_; refine runD_1 9 (by kernel_rfl) rfl rfl rfl ?_)
  refine runL_callZ A1 [] rfl rfl rfl rfl rfl rfl rfl (pf rfl) (fun x => by (first | rfl | (simp only [List.append_eq, cnt_append, cnt_cons, cnt_nil, blk]; omega) | (simp only [List.append_eq, cnt_append, cnt_cons, cnt_nil, blk]; done))) (c2 _) ?_
  rintro v A2 own2
  obtain ⟨a2, c2', rfl, own2⟩ := own2.at
  (refine runL_nil ?_; refine endS_d rfl ?_; refine runD_1 10 (by kernel_rfl) rfl rfl rfl ?_)
  refine runL_append (sl := rows Ord.cells (ordersL (M.B.side ((2 : Nat) : Int)))) A2 rfl rfl rfl rfl rfl rfl rfl (se rfl) (se rfl) ze35 rfl (byt rfl) own1 (fun y => by (first | rfl | (simp only [List.append_eq, cnt_append, cnt_cons, cnt_nil, blk]; omega) | (simp only [List.append_eq, cnt_append, cnt_cons, cnt_nil, blk]; done))) (own2.src fun x m => by simp [m]) (rows_cells oc_cells _) (by decide) (by decide) (by show (2 * ((ordersL (M.B.side 1)).length + (ordersL (M.B.side 2)).length) + 768) * _ ≤ _; omega) ?_
  rintro v' A3 own3
  obtain ⟨a3, c3, rfl, own3⟩ := own3.at
  (refine runL_nil ?_; refine endS_d rfl ?_; refine runD_1 15 (by kernel_rfl) rfl rfl rfl ?_)
  refine runL_append (sl := rows Ord.cells M.W) A2 rfl rfl rfl rfl rfl rfl rfl (se rfl) (se rfl) ze35 rfl (byt rfl) own3 (fun y => by (first | rfl | (simp only [List.append_eq, cnt_append, cnt_cons, cnt_nil, blk]; omega) | (simp only [List.append_eq, cnt_append, cnt_cons, cnt_nil, blk]; done))) hs.up (rows_cells oc_cells _) (by decide) (by decide) (by show (2 * ((ordersL (M.B.side 1)).length + (ordersL (M.B.side 2)).length + M.W.length) + 768) * _ ≤ _; omega) ?_
  rintro v' A4 own4
  have e1 : (rows Ord.cells (ordersL (M.B.side ((1 : Nat) : Int))) ++ rows Ord.cells (ordersL (M.B.side ((2 : Nat) : Int)))) ++ rows Ord.cells M.W = rows Ord.cells (mall M) := by
    unfold mall; rw [rows_append, rows_append, List.append_assoc]; rfl
  have e2 : (ordersL (M.B.side ((1 : Nat) : Int))).length + (ordersL (M.B.side ((2 : Nat) : Int))).length + M.W.length = (mall M).length := by
    unfold mall; rw [List.length_append, List.length_append, ← Nat.add_assoc]; rfl
  rw [e1, e2] at own4
  obtain ⟨a4, c4, rfl, own4⟩ := own4.at
  (refine runL_nil ?_; refine endS_d rfl ?_; refine runD_q 16 rfl rfl (by kernel_rfl) ?_; refine ⟨_, fun _ => ev_pure rfl, ?_⟩; refine runD_done (by kernel_rfl) ?_; refine then_normal ?_; refine run_ret ?_)
  exact ⟨_, rfl, A4, A2, own4, fun y => by (first | rfl | (simp only [List.append_eq, cnt_append, cnt_cons, cnt_nil, blk]; omega) | (simp only [List.append_eq, cnt_append, cnt_cons, cnt_nil, blk]; done))⟩
end Go.Proofs.YtmelpobcpcmdoaaGreat
