/- Contracts of functions of the given program over its translation, each proved by walking its text; used by the laws' rows. It proves no given statement by itself. -/
import Derived.Test.YtmelpobcpcmdoaaGreatSLRMk4
import Derived.Test.YtmelpobcpcmdoaaGreatSLStAX
import Derived.Test.YtmelpobcpcmdoaaGreatSLPlRPX
import Derived.Test.YtmelpobcpcmdoaaGreatSLSlcCX
import Derived.Test.YtmelpobcpcmdoaaGreatSLOrdBX
import Derived.Test.YtmelpobcpcmdoaaGreatSLLaw10bX
set_option autoImplicit false
set_option linter.unusedSectionVars false
set_option linter.unusedSimpArgs false
set_option linter.unusedVariables false
set_option maxRecDepth 4000
set_option maxHeartbeats 200000000
namespace Go.Proofs.YtmelpobcpcmdoaaGreat
open Go Go.SL Go.Proofs
variable [Base]
theorem waits_is {t i : Int} {M : Mk} (hu : Uq M) (h : (mfind t i M).2 = true) : decide (idxI (isO t i) M.W < 0) = (bfind t i M.B).2 := by
  have h2 := mfind_two t i M
  rw [h] at h2
  cases hb : (bfind t i M.B).2 with
  | false =>
    rw [hb, Bool.false_or] at h2
    have h3 := of_decide_eq_true h2.symm
    exact decide_eq_false (by omega)
  | true =>
    rcases idxI_cases (isO t i) M.W with ⟨hk, hno⟩ | ⟨k, x, hk, hx, hp, hn⟩
    · rw [hk]; rfl
    · exfalso
      have h3 : 0 < M.W.countP (isO t i) := List.countP_pos_iff.2 ⟨x, List.mem_of_getElem? hx, hp⟩
      have h4 : cB t i M.B ≠ 0 := fun h9 => by rw [cB_zero.1 h9] at hb; cases hb
      have h5 := hu t i
      unfold cM at h5
      omega
theorem less_pre {t i p q : Int} {M : Mk} (hr : right (amO (mfind t i M).1 p q) = 0) (hq : q ≤ (mfind t i M).1.qty) (hb : (bfind t i M.B).2 = true) : ∀ s k o, findB t i M.B = some (s, k, o) → 1 ≤ q ∧ q ≤ o.qty := by
  intro s k o hf
  have e : (mfind t i M).1 = o := by
    have e0 : bfind t i M.B = (o, true) := by unfold bfind; rw [hf]
    unfold mfind; rw [e0, if_pos rfl]
  have h1 := right_zero hr
  unfold rightP amO at h1
  dsimp only at h1
  rw [e] at hq
  exact ⟨by omega, hq⟩
theorem sp_rmamend (F H : Heap) (m : Nat) (M : Mk) (hH : RmH m M H) (hw : MW M) (hu : Uq M) (hn2 : M.B.no ≤ 1099442421760) (t i p q : Int) (hp : InI p) (hq : InI q) (hk : InI (mfind t i M).1.kind) :
    Sp Tryz.prog F 11 [.pointer (some ⟨m, 0, none⟩), .int .i64 t, .int .i64 i, .int .i64 p, .int .i64 q] H (fun v h' => ∃ a c ts A HF H', v = .tuple #[.slice a ts.length c, .int .i64 (mamend t i p q M).2.1] ∧ ts.map (·.2) = (mamend t i p q M).1 ∧ ts.length ≤ 65 ∧ OwnS 66 15 (.slice a ts.length c) ts.length (rows orow ts) A ∧ FsH ts HF ∧ RmH m (mamend t i p q M).2.2 H' ∧ h' = H' ++ A ++ HF) := by
  have hl : M.W.length ≤ 65536 := by have := hw.len; unfold mlen at this; omega
  have hmw := mremove_MW (t := t) (i := i) hw
  have hmn := mremove_no t i M
  have hwt := waits_is (t := t) (i := i) hu
  have hlp := less_pre (t := t) (i := i) (p := p) (q := q) (M := M)
  refine Sp.up ?_
  refine sp_of_code Tryz.func11 rfl rfl ?_
  (refine run_seq ?_; refine run_region ?_; (iterate 2 refine xep rfl rfl ?_); refine runL_nil ?_; refine then_normal ?_; refine run_seq ?_; refine run_region ?_; (iterate 3 refine xep rfl rfl ?_))
  refine runL_ev rfl rfl rfl rfl (ev_callQ rfl rfl rfl (pf rfl) (sp_rmfind _ m M (hH.in fun x mx => List.mem_append_left _ mx) hw.b hl t i)) ?_
  unfold mamend
  generalize hf : mfind t i M = X at *
  obtain ⟨w, is⟩ := X
  dsimp only at hk hwt hlp ⊢
  ((iterate 3 refine xep rfl rfl ?_); refine runL_alloc rfl rfl rfl rfl rfl ze35 (fun _ => ?_); refine runL_store0 rfl rfl rfl rfl rfl (sz rfl) rfl rfl rfl rfl rfl ?_; refine xep rfl rfl ?_; refine runL_nil ?_; refine then_normal ?_; (iterate 2 refine run_seq ?_); refine run_region ?_; (iterate 2 refine xep rfl rfl ?_); refine runL_nil ?_; refine then_normal ?_)
  rename_i b12
  cases is with
  | false =>
    rw [if_pos rfl]
    refine run_condT rfl rfl ?_
    (refine run_seq ?_; refine run_region ?_; (iterate 2 refine xep rfl rfl ?_); refine runL_nil ?_; refine then_normal ?_; refine run_ret ?_; refine then_ret ?_)
    exact ⟨_, rfl, H ++ [] ++ [], [blk b12 w.cells 35], ⟨none, 0, [], [], [], H, rfl, rfl, by decide, .nil _ _, rfl, hH, rfl⟩, fun y => by
      show cnt y (blk b12 w.cells 35 :: H) = _
      (first | rfl | (simp only [List.append_eq, cnt_append, cnt_cons, cnt_nil, blk]; omega) | (simp only [List.append_eq, cnt_append, cnt_cons, cnt_nil, blk]; done))⟩
  | true =>
    rw [if_neg (by simp)]
    have hwt := hwt rfl
    refine run_condF rfl rfl ?_
    refine RunC.perm (h' := blk b12 w.cells 35 :: H) (fun y => rfl) ?_
    have ham : (amO w p q).kind = w.kind := rfl
    have q1 := fun F => rp_right F (amO w p q) hk
    (refine run_skip ?_; refine then_normal ?_; refine run_seq ?_; refine run_region ?_; refine xel rfl (ev_loadAK rfl rfl (ag rfl) (sz rfl) (memF (.head _)) rfl) ?_; refine runL_alloc rfl rfl rfl rfl rfl ze35 (fun _ => ?_); refine runL_store0 rfl rfl rfl rfl rfl (sz rfl) rfl rfl rfl rfl rfl ?_; refine runL_nil ?_; refine then_normal ?_; refine run_seq ?_; refine run_region ?_; (iterate 2 refine xep rfl rfl ?_); refine xel rfl (ev_fieldAddr rfl rfl (fo rfl)) ?_; refine runL_store0 rfl rfl rfl rfl rfl (sz rfl) rfl rfl rfl rfl rfl ?_; refine xel rfl (ev_fieldAddr rfl rfl (fo rfl)) ?_; refine runL_store0 rfl rfl rfl rfl rfl (sz rfl) rfl rfl rfl rfl rfl ?_; refine runL_nil ?_; refine then_normal ?_; refine run_seq ?_; refine run_region ?_; refine xel rfl (ev_fieldAddr rfl rfl (fo rfl)) ?_; refine xel rfl (ev_loadK rfl rfl (sc rfl) (memF (.tail _ (.head _))) rfl) ?_; refine xep rfl rfl ?_; refine xel rfl (ev_max rfl rfl rfl) ?_; refine xel rfl (ev_min rfl rfl rfl) ?_; refine xel rfl (ev_fieldAddr rfl rfl (fo rfl)) ?_; refine runL_store0 rfl rfl rfl rfl rfl (sz rfl) rfl rfl rfl rfl rfl ?_; refine runL_nil ?_; refine then_normal ?_; (iterate 2 refine run_seq ?_); refine run_region ?_; refine xel rfl (ev_loadAK rfl rfl (ag rfl) (sz rfl) (memF (.head _)) rfl) ?_; refine xel rfl (ev_callQ rfl rfl rfl (pf rfl) (q1 ..)) ?_; refine xep rfl rfl ?_; refine runL_nil ?_; refine then_normal ?_)
    rename_i b14
    refine RunC.perm (h' := blk b14 (amO w p q).cells 35 :: blk b12 w.cells 35 :: H) (fun y => rfl) ?_
    clear q1
    generalize hO : amO w p q = o at *
    by_cases hr : right o ≠ 0
    · rw [if_pos hr]
      refine run_condT rfl (by simp [hr]) ?_
      (refine run_seq ?_; refine run_region ?_; (iterate 2 refine xep rfl rfl ?_); refine runL_nil ?_; refine then_normal ?_; refine run_ret ?_; refine then_ret ?_)
      exact ⟨_, rfl, H ++ [] ++ [], [blk b14 o.cells 35, blk b12 w.cells 35], ⟨none, 0, [], [], [], H, rfl, rfl, by decide, .nil _ _, rfl, hH, rfl⟩, fun y => by (first | rfl | (simp only [List.append_eq, cnt_append, cnt_cons, cnt_nil, blk]; omega) | (simp only [List.append_eq, cnt_append, cnt_cons, cnt_nil, blk]; done))⟩
    rw [if_neg hr]
    have hr0 : right o = 0 := by omega
    refine run_condF rfl (by simp [hr0]) ?_
    (refine run_skip ?_; refine then_normal ?_)
    refine run_seq ?_
    refine run_seq ?_
    refine run_midO (σ := Unit) [0, 1, 2, 4, 14] (fun _ => [(54, .bool (decide (idxI (isO t i) M.W < 0) && decide (p = w.price) && decide (q ≤ w.qty)))]) (fun _ => blk b14 o.cells 35 :: H) (fun _ => True) rfl ?_ ?_
    · refine RunC.freeze ?_
      have hMi : RmIn ((blk b14 o.cells 35 :: blk b12 w.cells 35 :: H) ++ F) m M := hH.in fun z mz => List.mem_append_left _ (.tail _ (.tail _ mz))
      have l1 : AggF ((blk b14 o.cells 35 :: blk b12 w.cells 35 :: H) ++ F) b12 0 w.cells := ⟨_, _, _, memF (.tail _ (.head _)), Nat.le_refl _, rfl⟩
      have l2 := l1.at 5 _ rfl
      have l3 := l1.at 6 _ rfl
      have q1 := fun Z : Heap => sp_rwaits (Z ++ ((blk b14 o.cells 35 :: blk b12 w.cells 35 :: H) ++ F)) m M hMi.up hl t i
      (refine run_region ?_; (iterate 3 refine xep rfl rfl ?_); refine xel rfl (ev_callQ rfl rfl rfl (pf rfl) (q1 ..)) ?_; (iterate 2 refine xep rfl rfl ?_); refine xgp rfl rfl rfl ?_; refine xgl rfl rfl (fun hq => ev_fieldAddr rfl rfl (fo rfl)) ?_; refine xgl rfl rfl (fun hq => ev_loadF rfl rfl (sc rfl) l2) ?_; refine xgp rfl rfl rfl ?_; (iterate 2 refine xep rfl rfl ?_); refine xgp rfl rfl rfl ?_; refine xgl rfl rfl (fun hq => ev_fieldAddr rfl rfl (fo rfl)) ?_; refine xgl rfl rfl (fun hq => ev_loadF rfl rfl (sc rfl) l3) ?_; refine xgp rfl rfl rfl ?_; refine xep rfl rfl ?_; refine runL_nil ?_)
      exact midN () [blk b12 w.cells 35] trivial rfl (fun x => by (first | rfl | (simp only [List.append_eq, cnt_append, cnt_cons, cnt_nil, blk]; omega) | (simp only [List.append_eq, cnt_append, cnt_cons, cnt_nil, blk]; done)))
    intro fr' h' hm
    (refine then_normal ?_)
    refine midN_out hm ?_
    clear hm
    rintro ⟨⟩ -
    rw [hwt]
    by_cases hc : p = w.price ∧ q ≤ w.qty ∧ (bfind t i M.B).2 = true
    · rw [if_pos hc]
      refine run_condT rfl (by rw [decide_eq_true hc.1, decide_eq_true hc.2.1, hc.2.2]; rfl) ?_
      obtain ⟨b, aw, cw, HB, AW, hB, ownW, rfl⟩ := hH
      refine RunC.perm (h' := blk m [.pointer (some ⟨b, 0, none⟩), .slice aw M.W.length cw] 62 :: blk b14 o.cells 35 :: (HB ++ AW)) (fun y => by (first | rfl | (simp only [List.append_eq, cnt_append, cnt_cons, cnt_nil, blk]; omega) | (simp only [List.append_eq, cnt_append, cnt_cons, cnt_nil, blk]; done))) ?_
      (refine run_seq ?_; refine run_region ?_; (iterate 2 refine xep rfl rfl ?_); refine xel rfl (ev_fieldAddr rfl rfl (fo rfl)) ?_; refine xel rfl (ev_loadK rfl rfl (sc rfl) (memF (.head _)) rfl) ?_; (iterate 3 refine xep rfl rfl ?_))
      refine runL_callZ (blk m [.pointer (some ⟨b, 0, none⟩), .slice aw M.W.length cw] 62 :: blk b14 o.cells 35 :: AW) HB rfl rfl rfl rfl rfl rfl rfl (pf rfl) (fun y => by (first | rfl | (simp only [List.append_eq, cnt_append, cnt_cons, cnt_nil, blk]; omega) | (simp only [List.append_eq, cnt_append, cnt_cons, cnt_nil, blk]; done))) (sp_rbless _ HB b M.B hB hw.b t i q (hlp hr0 hc.2.1 hc.2.2)) ?_
      rintro v HB2 ⟨rfl, hB2⟩
      (refine runL_nil ?_; refine then_normal ?_; refine run_seq ?_; refine run_region ?_; (iterate 2 refine xep rfl rfl ?_); refine runL_nil ?_; refine then_normal ?_; refine run_ret ?_; refine then_ret ?_)
      exact ⟨_, rfl, (blk m [.pointer (some ⟨b, 0, none⟩), .slice aw M.W.length cw] 62 :: (HB2 ++ AW)) ++ [] ++ [], [blk b14 o.cells 35], ⟨none, 0, [], [], [], blk m [.pointer (some ⟨b, 0, none⟩), .slice aw M.W.length cw] 62 :: (HB2 ++ AW), rfl, rfl, by decide, .nil _ _, rfl, ⟨b, aw, cw, HB2, AW, hB2, ownW, rfl⟩, rfl⟩, fun y => by (first | rfl | (simp only [List.append_eq, cnt_append, cnt_cons, cnt_nil, blk]; omega) | (simp only [List.append_eq, cnt_append, cnt_cons, cnt_nil, blk]; done))⟩
    rw [if_neg hc]
    refine run_condF rfl (by
      cases hb : (bfind t i M.B).2 with
      | false => rfl
      | true =>
        by_cases h1 : p = w.price
        · rw [decide_eq_false (fun h2 : q ≤ w.qty => hc ⟨h1, h2, hb⟩)]; simp
        · rw [decide_eq_false h1]; rfl) ?_
    (refine run_skip ?_; refine then_normal ?_; refine run_seq ?_; refine run_region ?_; (iterate 3 refine xep rfl rfl ?_))
    refine runL_callZ [blk b14 o.cells 35] H rfl rfl rfl rfl rfl rfl rfl (pf rfl) (fun y => by (first | rfl | (simp only [List.append_eq, cnt_append, cnt_cons, cnt_nil, blk]; omega) | (simp only [List.append_eq, cnt_append, cnt_cons, cnt_nil, blk]; done))) (sp_rmremove _ H m M hH hw.b hl t i) ?_
    rintro v H2 ⟨rfl, hH2⟩
    have hO2 : InI o.kind := by rw [ham]; exact hk
    have K := madd_ok (o := o) hmw
    have cA := fun Y => sp_rmadd Y H2 m (mremove t i M).2.2 hH2 hmw (by omega) o hO2
    generalize madd o (mremove t i M).2.2 = X at *
    (refine runL_nil ?_; refine then_normal ?_; refine run_seq ?_; refine run_region ?_; refine xep rfl rfl ?_; refine xel rfl (ev_loadAK rfl rfl (ag rfl) (sz rfl) (memF (.head _)) rfl) ?_)
    refine runL_callZ [blk b14 o.cells 35] H2 rfl rfl rfl rfl rfl rfl rfl (pf rfl) (fun y => by (first | rfl | (simp only [List.append_eq, cnt_append, cnt_cons, cnt_nil, blk]; omega) | (simp only [List.append_eq, cnt_append, cnt_cons, cnt_nil, blk]; done))) (cA _) ?_
    rintro v _ ⟨a, c, ts, A, HF, H3, rfl, hts, htl, own, hF, hH3, rfl⟩
    ((iterate 2 refine xep rfl rfl ?_); refine runL_nil ?_; refine then_normal ?_; refine run_ret ?_)
    exact ⟨_, rfl, H3 ++ A ++ HF, [blk b14 o.cells 35], ⟨a, c, ts, A, HF, H3, rfl, hts, htl, own, hF, hH3, rfl⟩, fun y => by (first | rfl | (simp only [List.append_eq, cnt_append, cnt_cons, cnt_nil, blk]; omega) | (simp only [List.append_eq, cnt_append, cnt_cons, cnt_nil, blk]; done))⟩
end Go.Proofs.YtmelpobcpcmdoaaGreat

set_option autoImplicit false
set_option linter.unusedSectionVars false
set_option linter.unusedSimpArgs false
set_option linter.unusedVariables false
set_option maxRecDepth 4000
set_option maxHeartbeats 100000000
namespace Go.Proofs.YtmelpobcpcmdoaaGreat
open Go Go.SL Go.Proofs
variable [Base]
theorem sp_ropen (F : Heap) (m : Nat) (M : Mk) (h : RmIn F m M) (hw : MW M) (t : Int) : Sp Tryz.prog F 18 [.pointer (some ⟨m, 0, none⟩), .int .i64 t] [] (Ret (.int .i64 (openS t (mall M)))) := by
  have hml := mall_len M
  have hl64 := hw.len
  have hsq := (sumM_pos hw).2
  have hop := fun j hj => openS_in hsq (t := t) j hj
  refine sp_of_code Tryz.func18 rfl rfl ?_
  (refine run_seq ?_; refine run_region ?_; refine xep rfl rfl ?_; refine runL_nil ?_; refine then_normal ?_; refine run_seq ?_; refine run_region ?_; refine xep rfl rfl ?_; refine runL_nil ?_; refine then_normal ?_; (iterate 2 refine run_seq ?_); refine run_region ?_; refine xep rfl rfl ?_)
  refine runL_callZ [] [] rfl rfl rfl rfl rfl rfl rfl (pf rfl) (fun y => by (first | rfl | (simp only [List.append_eq, cnt_append, cnt_cons, cnt_nil, blk]; omega) | (simp only [List.append_eq, cnt_append, cnt_cons, cnt_nil, blk]; done))) (sp_rall _ m M h.up hw.b hw.len) ?_
  rintro v A9 own9
  obtain ⟨a9, c9, rfl, own9⟩ := own9.at
  generalize mall M = all at *
  (refine xel rfl (ev_len rfl rfl (se rfl)) ?_; refine xep rfl rfl ?_; refine runL_nil ?_; refine then_normal ?_; refine run_block ?_; refine RunC.whole rfl ?_)
  refine run_loopK (σ := Nat) [1, 5, 9, 10, 11] (fun j => [(1, .int .i64 t), (5, .int .i64 (openS t (all.take j))), (9, .slice a9 all.length c9), (10, .int .i64 all.length), (11, .int .i64 j)])
    (fun _ => A9) (fun j => j ≤ all.length) (fun j => all.length - j) 0 (Nat.zero_le _) rfl (fun x => by (first | rfl | (simp only [List.append_eq, cnt_append, cnt_cons, cnt_nil, blk]; omega) | (simp only [List.append_eq, cnt_append, cnt_cons, cnt_nil, blk]; done))) ?_
  intro j gj
  have hp1 := hop j gj
  (refine run_seq ?_; refine run_region ?_; refine xep rfl rfl ?_; refine runL_nil ?_; refine then_normal ?_; refine run_seq ?_)
  (refine run_cond rfl (fun hc => ?_) (fun hc => ?_) <;> (try simp only [z0, z1, z2, z3, z4, z5, z6, z7, z8, z9, Bool.not_true, Bool.not_false, Bool.false_or, Bool.true_and, true_and, and_true, false_or, or_false, reduceCtorEq, Bool.false_eq_true] at hc))
  · obtain ⟨b9, rest9, cap9, hv9, rfl, -, -, -⟩ := own9.pos (by omega)
    cases hv9
    obtain ⟨o, ho⟩ : ∃ o, all[j]? = some o := ⟨all[j]'(by omega), List.getElem?_eq_getElem _⟩
    have r1 : RowAt (rows Ord.cells all ++ rest9) (0 + (j : Int).toNat * 9) o.cells := by
      rw [Nat.zero_add]; exact rows_at oc_len ho rest9
    have hst := openS_take (t := t) ho
    have hoq := hsq o (List.mem_of_getElem? ho)
    (refine run_skip ?_; refine then_normal ?_; refine run_seq ?_; refine run_block ?_; refine run_seq ?_; refine run_region ?_; refine xel rfl (ev_indexAddr rfl rfl rfl (se rfl) (by omega) (by omega)) ?_; refine xel rfl (ev_loadAR rfl rfl (ag rfl) (sz rfl) (memF (.head _)) r1 rfl) ?_; refine runL_alloc rfl rfl rfl rfl rfl ze35 (fun _ => ?_); refine runL_store0 rfl rfl rfl rfl rfl (sz rfl) rfl rfl rfl rfl rfl ?_; refine runL_nil ?_; refine then_normal ?_; refine run_seq ?_; refine run_region ?_; refine xel rfl (ev_fieldAddr rfl rfl (fo rfl)) ?_; refine xel rfl (ev_loadK rfl rfl (sc rfl) (memF (.head _)) rfl) ?_; (iterate 2 refine xep rfl rfl ?_); refine runL_nil ?_; refine then_normal ?_)
    rename_i x7
    by_cases hot : o.trader = t
    · rw [if_pos hot] at hst
      refine run_condT rfl (decide_eq_true hot) ?_
      (refine run_region ?_; refine xep rfl rfl ?_; refine xel rfl (ev_fieldAddr rfl rfl (fo rfl)) ?_; refine xel rfl (ev_loadK rfl rfl (sc rfl) (memF (.head _)) rfl) ?_; refine xel rfl (ev_add rfl rfl rfl (by omega)) ?_; refine xep rfl rfl ?_; refine runL_nil ?_; refine in_normal ?_; refine then_normal ?_; refine run_region ?_; refine xel rfl (ev_add rfl rfl rfl (by omega)) ?_; refine xep rfl rfl ?_; refine runL_nil ?_; refine then_normal ?_)
      exact ⟨j + 1, by show j + 1 ≤ _; omega, by show all.length - (j + 1) < all.length - j; omega, by rw [hst]; rfl, [blk x7 o.cells 35], fun y => by show cnt y (blk x7 o.cells 35 :: [blk b9 (rows Ord.cells all ++ rest9) 35]) = _; (first | rfl | (simp only [List.append_eq, cnt_append, cnt_cons, cnt_nil, blk]; omega) | (simp only [List.append_eq, cnt_append, cnt_cons, cnt_nil, blk]; done))⟩
    · rw [if_neg hot, Int.add_zero] at hst
      refine run_condF rfl (decide_eq_false hot) ?_
      (refine run_skip ?_; refine in_normal ?_; refine then_normal ?_; refine run_region ?_; refine xel rfl (ev_add rfl rfl rfl (by omega)) ?_; refine xep rfl rfl ?_; refine runL_nil ?_; refine then_normal ?_)
      exact ⟨j + 1, by show j + 1 ≤ _; omega, by show all.length - (j + 1) < all.length - j; omega, by rw [hst]; rfl, [blk x7 o.cells 35], fun y => by show cnt y (blk x7 o.cells 35 :: [blk b9 (rows Ord.cells all ++ rest9) 35]) = _; (first | rfl | (simp only [List.append_eq, cnt_append, cnt_cons, cnt_nil, blk]; omega) | (simp only [List.append_eq, cnt_append, cnt_cons, cnt_nil, blk]; done))⟩
  · (refine run_exit ?_; (iterate 2 refine then_exit ?_); refine in_exit ?_; refine then_normal ?_)
    have ej : all.take j = all := List.take_of_length_le (by omega)
    rw [ej]
    (refine run_seq ?_; refine run_region ?_; (iterate 2 refine xep rfl rfl ?_); refine runL_nil ?_; refine then_normal ?_; refine run_ret ?_)
    exact ⟨_, rfl, rfl⟩
theorem sp_rmass (F H : Heap) (m : Nat) (M : Mk) (hH : RmH m M H) (hw : MW M) (hu : Uq M) (hr : RB M.B) (T : Int) : Sp Tryz.prog F 14 [.pointer (some ⟨m, 0, none⟩), .int .u64 T] H (fun v h' => ∃ a c A H', v = .slice a (wentL (tbit T) (mall M)).length c ∧ OwnS 35 9 (.slice a (wentL (tbit T) (mall M)).length c) (wentL (tbit T) (mall M)).length (rows Ord.cells (wentL (tbit T) (mall M))) A ∧ RmH m (massM (tbit T) M (mall M)) H' ∧ h' = H' ++ A) := by
  have hml := mall_len M
  have hl64 := hw.len
  have hms := fun j hj => mass_is (f := tbit T) hw hu j hj
  have hoa : ∀ x ∈ mall M, okP x := fun x mx => all_ok hw hr mx
  refine Sp.up ?_
  refine sp_of_code Tryz.func14 rfl rfl ?_
  (refine run_seq ?_; refine run_region ?_; refine xep rfl rfl ?_; refine runL_nil ?_; refine then_normal ?_; refine run_seq ?_; refine run_region ?_; refine xep rfl rfl ?_; refine runL_nil ?_; refine then_normal ?_; (iterate 2 refine run_seq ?_); refine run_region ?_; refine xep rfl rfl ?_)
  refine runL_callZ H [] rfl rfl rfl rfl rfl rfl rfl (pf rfl) (fun y => by (first | rfl | (simp only [List.append_eq, cnt_append, cnt_cons, cnt_nil, blk]; omega) | (simp only [List.append_eq, cnt_append, cnt_cons, cnt_nil, blk]; done))) (sp_rall _ m M (hH.in fun x mx => by simp [mx]) hw.b hw.len) ?_
  rintro v A9 own9
  obtain ⟨a9, c9, rfl, own9⟩ := own9.at
  generalize hall : mall M = all at *
  (refine xel rfl (ev_len rfl rfl (se rfl)) ?_; refine xep rfl rfl ?_; refine runL_nil ?_; refine then_normal ?_; refine run_block ?_)
  refine run_loopK (σ := Nat × (Option Addr × Nat × Heap) × Heap) [0, 1, 4, 5, 9, 10, 11] (fun s => [(0, .pointer (some ⟨m, 0, none⟩)), (1, .int .u64 T), (4, .slice none 0 0), (5, .slice s.2.1.1 (wentL (tbit T) (all.take s.1)).length s.2.1.2.1), (9, .slice a9 all.length c9), (10, .int .i64 all.length), (11, .int .i64 s.1)])
    (fun s => A9 ++ (s.2.1.2.2 ++ s.2.2)) (fun s => s.1 ≤ all.length ∧ OwnS 35 9 (.slice s.2.1.1 (wentL (tbit T) (all.take s.1)).length s.2.1.2.1) (wentL (tbit T) (all.take s.1)).length (rows Ord.cells (wentL (tbit T) (all.take s.1))) s.2.1.2.2 ∧ RmH m (massM (tbit T) M (all.take s.1)) s.2.2) (fun s => all.length - s.1) (0, (none, 0, []), H) ⟨Nat.zero_le _, .nil _ _, hH⟩ rfl (fun x => by (first | rfl | (simp only [List.append_eq, cnt_append, cnt_cons, cnt_nil, blk]; omega) | (simp only [List.append_eq, cnt_append, cnt_cons, cnt_nil, blk]; done))) ?_
  rintro ⟨j, ⟨a5, c5, A5⟩, G⟩ ⟨gj, own5, hG⟩
  dsimp only at gj own5 hG ⊢
  obtain ⟨i1, i2, i3, i4⟩ := hms j gj
  have hgl : (wentL (tbit T) (all.take j)).length ≤ 64 := by
    unfold wentL
    have := List.length_filter_le (fun x : Ord => tbit T x.trader) (all.take j)
    rw [List.length_take] at this
    omega
  (refine run_seq ?_; refine run_region ?_; refine xep rfl rfl ?_; refine runL_nil ?_; refine then_normal ?_; refine run_seq ?_)
  (refine run_cond rfl (fun hc => ?_) (fun hc => ?_) <;> (try simp only [z0, z1, z2, z3, z4, z5, z6, z7, z8, z9, Bool.not_true, Bool.not_false, Bool.false_or, Bool.true_and, true_and, and_true, false_or, or_false, reduceCtorEq, Bool.false_eq_true] at hc))
  · obtain ⟨b9, rest9, cap9, hv9, rfl, -, -, -⟩ := own9.pos (by omega)
    cases hv9
    obtain ⟨x, hx⟩ : ∃ x, all[j]? = some x := ⟨all[j]'(by omega), List.getElem?_eq_getElem _⟩
    have r1 : RowAt (rows Ord.cells all ++ rest9) (0 + (j : Int).toNat * 9) x.cells := by
      rw [Nat.zero_add]; exact rows_at oc_len hx rest9
    have hxo := hoa x (List.mem_of_getElem? hx)
    have hx0 : 0 ≤ x.trader ∧ x.trader ≤ 31 := ⟨hxo.1, hxo.2.1⟩
    have hmt := massM_take (f := tbit T) (M := M) hx
    have hwt : wentL (tbit T) (all.take (j + 1)) = wentL (tbit T) (all.take j) ++ (if tbit T x.trader = true then [x] else []) := filter_take hx
    have hNl : (massM (tbit T) M (all.take j)).W.length ≤ 65536 := by have := i2.len; unfold mlen at this; omega
    (refine run_skip ?_; refine then_normal ?_; refine run_seq ?_; refine run_block ?_; refine run_seq ?_; refine run_region ?_; refine xel rfl (ev_indexAddr rfl rfl rfl (se rfl) (by omega) (by omega)) ?_; refine xel rfl (ev_loadAR rfl rfl (ag rfl) (sz rfl) (memF (.head _)) r1 rfl) ?_; refine runL_alloc rfl rfl rfl rfl rfl ze35 (fun _ => ?_); refine runL_store0 rfl rfl rfl rfl rfl (sz rfl) rfl rfl rfl rfl rfl ?_; refine runL_nil ?_; refine then_normal ?_; refine run_seq ?_; refine run_region ?_; refine xep rfl rfl ?_; refine xel rfl (ev_fieldAddr rfl rfl (fo rfl)) ?_; refine xel rfl (ev_loadK rfl rfl (sc rfl) (memF (.head _)) rfl) ?_)
    rename_i x7
    refine RunL.perm (h' := blk x7 x.cells 35 :: ([blk b9 (rows Ord.cells all ++ rest9) 35] ++ (A5 ++ G))) (fun y => rfl) ?_
    refine runL_ev rfl rfl rfl rfl (ev_shr rfl rfl rfl hx0.1) ?_
    (refine xel rfl (ev_bits rfl rfl rfl rfl) ?_; refine xep rfl rfl ?_; refine runL_nil ?_; refine then_normal ?_)
    by_cases hb : tbit T x.trader = true
    · rw [if_pos hb] at hmt hwt
      refine run_condT rfl hb ?_
      (refine run_seq ?_; refine run_region ?_; refine xep rfl rfl ?_; refine xel rfl (ev_fieldAddr rfl rfl (fo rfl)) ?_; refine xel rfl (ev_loadK rfl rfl (sc rfl) (memF (.head _)) rfl) ?_; refine xel rfl (ev_fieldAddr rfl rfl (fo rfl)) ?_; refine xel rfl (ev_loadK rfl rfl (sc rfl) (memF (.head _)) rfl) ?_)
      refine runL_callZ (blk x7 x.cells 35 :: ([blk b9 (rows Ord.cells all ++ rest9) 35] ++ A5)) G rfl rfl rfl rfl rfl rfl rfl (pf rfl) (fun y => by (first | rfl | (simp only [List.append_eq, cnt_append, cnt_cons, cnt_nil, blk]; omega) | (simp only [List.append_eq, cnt_append, cnt_cons, cnt_nil, blk]; done))) (sp_rmremove _ G m _ hG i2.b hNl x.trader x.id) ?_
      rintro v G2 ⟨rfl, hG2⟩
      rw [← hmt] at hG2
      (refine runL_nil ?_; refine then_normal ?_; refine run_region ?_; refine xep rfl rfl ?_; refine xel rfl (ev_loadAK rfl rfl (ag rfl) (sz rfl) (memF (.head _)) rfl) ?_)
      refine runL_buildSlice (l := x.cells) rfl rfl rfl rfl rfl (se rfl) ze35 rfl rfl rfl rfl rfl (fun b30 => ?_)
      skip
      refine runL_append (sl := x.cells) (blk b30 x.cells 35 :: blk x7 x.cells 35 :: ([blk b9 (rows Ord.cells all ++ rest9) 35] ++ G2)) rfl rfl rfl rfl rfl rfl rfl (se rfl) (se rfl) ze35 rfl (byt rfl) own5 (fun y => by (first | rfl | (simp only [List.append_eq, cnt_append, cnt_cons, cnt_nil, blk]; omega) | (simp only [List.append_eq, cnt_append, cnt_cons, cnt_nil, blk]; done))) ⟨rfl, .inr ⟨b30, 0, _, _, _, rfl, memF (.head _), by simp [Ord.cells], rfl⟩⟩ rfl (by decide) (by decide) (by omega) ?_
      rintro v' A8 own'
      obtain ⟨a8, c8, rfl, own8⟩ := (own'.snoc (f := Ord.cells) (x := x) rfl).at
      rw [← hwt] at own8
      (refine xep rfl rfl ?_; refine runL_nil ?_; refine in_normal ?_; refine then_normal ?_; refine run_region ?_; refine xel rfl (ev_add rfl rfl rfl (by omega)) ?_; refine xep rfl rfl ?_; refine runL_nil ?_; refine then_normal ?_)
      refine ⟨(j + 1, (a8, c8, A8), G2), ⟨by show j + 1 ≤ _; omega, own8, hG2⟩, by show all.length - (j + 1) < all.length - j; omega, ?_, blk b30 x.cells 35 :: [blk x7 x.cells 35], fun y => by (first | rfl | (simp only [List.append_eq, cnt_append, cnt_cons, cnt_nil, blk]; omega) | (simp only [List.append_eq, cnt_append, cnt_cons, cnt_nil, blk]; done))⟩
      dsimp only
      rw [hwt]; rfl
    · rw [if_neg hb] at hmt hwt
      rw [List.append_nil] at hwt
      refine run_condF rfl (by have h : tbit T x.trader = false := by simpa using hb
                               exact h) ?_
      (refine run_skip ?_; refine in_normal ?_; refine then_normal ?_; refine run_region ?_; refine xel rfl (ev_add rfl rfl rfl (by omega)) ?_; refine xep rfl rfl ?_; refine runL_nil ?_; refine then_normal ?_)
      exact ⟨(j + 1, (a5, c5, A5), G), ⟨by show j + 1 ≤ _; omega, by rw [hwt]; exact own5, by rw [hmt]; exact hG⟩, by show all.length - (j + 1) < all.length - j; omega, by dsimp only; rw [hwt]; rfl, [blk x7 x.cells 35], fun y => by (first | rfl | (simp only [List.append_eq, cnt_append, cnt_cons, cnt_nil, blk]; omega) | (simp only [List.append_eq, cnt_append, cnt_cons, cnt_nil, blk]; done))⟩
  · (refine run_exit ?_; (iterate 2 refine then_exit ?_); refine in_exit ?_; refine then_normal ?_)
    have ej : all.take j = all := List.take_of_length_le (by omega)
    rw [ej] at own5 hG ⊢
    (refine run_seq ?_; refine run_region ?_; (iterate 2 refine xep rfl rfl ?_); refine runL_nil ?_; refine then_normal ?_; refine run_ret ?_)
    exact ⟨_, rfl, G ++ A5, A9, ⟨a5, c5, A5, G, rfl, own5, hG, rfl⟩, fun y => by (first | rfl | (simp only [List.append_eq, cnt_append, cnt_cons, cnt_nil, blk]; omega) | (simp only [List.append_eq, cnt_append, cnt_cons, cnt_nil, blk]; done))⟩
end Go.Proofs.YtmelpobcpcmdoaaGreat

set_option autoImplicit false
set_option linter.unusedSectionVars false
set_option linter.unusedSimpArgs false
set_option linter.unusedVariables false
set_option maxRecDepth 4000
set_option maxHeartbeats 16000000
namespace Go.Proofs.YtmelpobcpcmdoaaGreat
open Go Go.SL Go.Proofs
/-! An order that rests is made less. -/
theorem lless_split {t i : Int} {es : List Ent} {o : Ord} (n : Int) (h : (es.map (·.o)).find? (isO t i) = some o) : ∃ j x, es[j]? = some x ∧ isO t i x.o = true ∧ lless t i n es = if n < 1 ∨ x.o.qty < n then (false, es) else (true, es.set j ⟨wq x.o n, min x.seen n⟩) := by
  rcases hf : es.findIdx? (isIt t i) with _ | j
  · rw [List.findIdx?_eq_none_iff] at hf
    have hm := List.mem_of_find?_eq_some h
    have hp := List.find?_some h
    obtain ⟨e, me, rfl⟩ := List.mem_map.1 hm
    have := hf e me
    have hp : isIt t i e = true := hp
    rw [this] at hp; cases hp
  · obtain ⟨hj, hp, -⟩ := List.findIdx?_eq_some_iff_getElem.1 hf
    have hx : es[j]? = some es[j] := List.getElem?_eq_getElem hj
    refine ⟨j, es[j], hx, hp, ?_⟩
    unfold lless
    rw [hf]
    dsimp only
    rw [hx]
theorem es_split {α : Type} {es : List α} {j : Nat} {x : α} (hx : es[j]? = some x) : es = es.take j ++ x :: es.drop (j + 1) := by
  have hj := (List.getElem?_eq_some_iff.1 hx).1
  have ex : es[j] = x := (List.getElem?_eq_some_iff.1 hx).2
  conv => lhs; rw [← List.take_append_drop j es, List.drop_eq_getElem_cons hj, ex]
theorem set_split {α : Type} {es : List α} {j : Nat} {x : α} (hx : es[j]? = some x) (y : α) : es.set j y = es.take j ++ y :: es.drop (j + 1) := by
  have hj := (List.getElem?_eq_some_iff.1 hx).1
  rw [List.set_eq_take_append_cons_drop, if_pos hj]
theorem set_here {α : Type} (P Q : List α) (y z : α) : (P ++ y :: Q).set P.length z = P ++ z :: Q := by
  induction P with
  | nil => rfl
  | cons p P ih => simp [ih]
theorem lv_set {lv : Lv} (h : lv.Ok) {j : Nat} {e : Ent} (he : lv.es[j]? = some e) {n : Int} (h1 : 1 ≤ n) (h2 : n ≤ e.o.qty) : (⟨lv.p, lv.es.set j ⟨wq e.o n, min e.seen n⟩⟩ : Lv).Ok := by
  obtain ⟨⟨hl, hb⟩, hn⟩ := h
  have hee := hb e (List.mem_of_getElem? he)
  refine ⟨⟨by show (lv.es.set j _).length ≤ _; rw [List.length_set]; exact hl, fun x m => ?_⟩, fun h0 => hn ?_⟩
  · rcases List.mem_or_eq_of_mem_set m with m | rfl
    · exact hb x m
    · show 1 ≤ n ∧ n ≤ 1048576 ∧ 1 ≤ min e.seen n ∧ min e.seen n ≤ n
      omega
  · have := congrArg List.length h0
    dsimp only at this
    rw [List.length_set] at this
    exact List.length_eq_zero_iff.1 this
variable [Base]
theorem bless_is {M : Mk} (hw : MW M) (hu : Uq M) {k : Nat} {x : Ord} {n : Int} (hk : (mall M)[k]? = some x) (hb : (bfind x.trader x.id M.B).2 = true) (h1 : 1 ≤ n) (h2 : n ≤ x.qty) :
    mall ⟨(bless x.trader x.id n M.B).2, M.W⟩ = (mall M).set k (wq x n) ∧ MW ⟨(bless x.trader x.id n M.B).2, M.W⟩ ∧ (bless x.trader x.id n M.B).2.no = M.B.no := by
  have hu1 : (mall M).countP (isO x.trader x.id) ≤ 1 := by rw [cM_all]; exact hu _ _
  cases hf : findB x.trader x.id M.B with
  | none =>
    unfold bfind at hb
    rw [hf] at hb; cases hb
  | some r =>
    obtain ⟨s, kk, o⟩ := r
    have hs := findB_side hf
    have hl : findL x.trader x.id (M.B.side s) = some (kk, o) := by
      unfold findB at hf
      split at hf
      · rename_i h1
        cases hf; exact h1
      · split at hf
        · rename_i h2
          cases hf; exact h2
        · cases hf
    obtain ⟨lv, hlv, hfo⟩ := findL_get hl
    obtain ⟨j, e, he, hp, hr⟩ := lless_split n hfo
    have o1 := orders_at hlv
    have hsp := es_split he
    have hall : ∃ P Q, mall M = P ++ e.o :: Q ∧ ∀ z : Ent, (s = 1 → ordersL ((M.B.side 1).set kk ⟨lv.p, lv.es.set j z⟩) ++ (ordersL (M.B.side 2) ++ M.W) = P ++ z.o :: Q) ∧ (s = 2 → ordersL (M.B.side 1) ++ (ordersL ((M.B.side 2).set kk ⟨lv.p, lv.es.set j z⟩) ++ M.W) = P ++ z.o :: Q) := by
      have hkk := (List.getElem?_eq_some_iff.1 hlv).1
      have hset : ∀ z : Ent, ordersL ((M.B.side s).set kk ⟨lv.p, lv.es.set j z⟩) = ordersL ((M.B.side s).take kk) ++ ((lv.es.take j).map (·.o) ++ z.o :: ((lv.es.drop (j + 1)).map (·.o) ++ ordersL ((M.B.side s).drop (kk + 1)))) := by
        intro z
        rw [List.set_eq_take_append_cons_drop, if_pos hkk, ordersL_app, ordersL, set_split he]
        simp
      have hold : ordersL (M.B.side s) = ordersL ((M.B.side s).take kk) ++ ((lv.es.take j).map (·.o) ++ e.o :: ((lv.es.drop (j + 1)).map (·.o) ++ ordersL ((M.B.side s).drop (kk + 1)))) := by
        rw [o1]
        conv => lhs; rw [hsp]
        simp
      rcases hs with rfl | rfl
      · refine ⟨ordersL ((M.B.side 1).take kk) ++ (lv.es.take j).map (·.o), (lv.es.drop (j + 1)).map (·.o) ++ ordersL ((M.B.side 1).drop (kk + 1)) ++ (ordersL (M.B.side 2) ++ M.W), ?_, fun z => ⟨fun _ => ?_, fun h => by omega⟩⟩
        · unfold mall; rw [hold]; simp
        · rw [hset z]; simp
      · refine ⟨ordersL (M.B.side 1) ++ (ordersL ((M.B.side 2).take kk) ++ (lv.es.take j).map (·.o)), (lv.es.drop (j + 1)).map (·.o) ++ ordersL ((M.B.side 2).drop (kk + 1)) ++ M.W, ?_, fun z => ⟨fun h => by omega, fun _ => ?_⟩⟩
        · unfold mall; rw [hold]; simp
        · rw [hset z]; simp
    obtain ⟨P, Q, e1, e2⟩ := hall
    have hy2 : (mall M)[P.length]? = some e.o := by rw [e1]; simp
    have hkP := uq_at hu1 hk hy2 (isO_self x) hp
    subst hkP
    rw [hy2] at hk
    have hxe : e.o = x := by cases hk; rfl
    rw [if_neg (by rw [hxe]; omega)] at hr
    have hbl : bless x.trader x.id n M.B = (true, M.B.put s ((M.B.side s).set kk ⟨lv.p, lv.es.set j ⟨wq e.o n, min e.seen n⟩⟩)) := by
      unfold bless
      rw [hf]
      dsimp only
      rw [hlv]
      dsimp only
      rw [hr]
    rw [hbl]
    dsimp only
    have hlok : (⟨lv.p, lv.es.set j ⟨wq e.o n, min e.seen n⟩⟩ : Lv).Ok := lv_set ((hw.b.side s).1 lv (List.mem_of_getElem? hlv)) he h1 (by rw [hxe]; exact h2)
    have hoks : ∀ z ∈ (M.B.side s).set kk ⟨lv.p, lv.es.set j ⟨wq e.o n, min e.seen n⟩⟩, z.Ok := by
      intro z m
      rcases List.mem_or_eq_of_mem_set m with m | rfl
      · exact (hw.b.side s).1 z m
      · exact hlok
    have e3 := e2 ⟨wq e.o n, min e.seen n⟩
    have hmall : mall ⟨M.B.put s ((M.B.side s).set kk ⟨lv.p, lv.es.set j ⟨wq e.o n, min e.seen n⟩⟩), M.W⟩ = (mall M).set P.length (wq x n) := by
      rw [e1, set_here, ← hxe]
      rcases hs with rfl | rfl
      · exact e3.1 rfl
      · exact e3.2 rfl
    have hlen := congrArg List.length hmall
    rw [List.length_set, mall_len, mall_len] at hlen
    have hlm := hw.len
    have hbw : BW (M.B.put s ((M.B.side s).set kk ⟨lv.p, lv.es.set j ⟨wq e.o n, min e.seen n⟩⟩)) := by
      have hll : lenL (M.B.put s ((M.B.side s).set kk ⟨lv.p, lv.es.set j ⟨wq e.o n, min e.seen n⟩⟩)).buys + lenL (M.B.put s ((M.B.side s).set kk ⟨lv.p, lv.es.set j ⟨wq e.o n, min e.seen n⟩⟩)).sells ≤ 64 := by
        unfold mlen at hlen hlm
        dsimp only at hlen
        omega
      rcases hs with rfl | rfl
      · exact ⟨hoks, hw.b.sells, hll⟩
      · exact ⟨hw.b.buys, hoks, hll⟩
    refine ⟨hmall, ⟨hbw, ?_, by rw [hlen]; exact hlm, hw.w⟩, ?_⟩
    · have := hw.no
      rcases hs with rfl | rfl <;> exact this
    · rcases hs with rfl | rfl <;> rfl
end Go.Proofs.YtmelpobcpcmdoaaGreat

set_option autoImplicit false
set_option linter.unusedSectionVars false
set_option linter.unusedSimpArgs false
set_option linter.unusedVariables false
namespace Go.Proofs.YtmelpobcpcmdoaaGreat
open Go Go.SL Go.Proofs
theorem ctHit : CmpOk Tryz.prog 84 10 := ⟨by kernel_rfl, by kernel_rfl, by kernel_rfl, by kernel_rfl⟩
theorem tyHit (h : Ord × Int) : tyQ Tryz.prog 4 84 (hcell h) = true := by kernel_rfl
theorem eqHit (h : Ord × Int) : eqK (hcell h) (hcell h) = some true := by simp [hcell, eqK, kNum]
variable [Base]
set_option maxRecDepth 4000 in
theorem sp_sameHit (F : Heap) (a1 a2 : Option Addr) (k c1 c2 : Nat) (l : List (Ord × Int)) (hl : l.length = k) (hk : k ≤ 2097152) (h1 : SrcIs F a1 k 10 (rows hcell l)) (h2 : SrcIs F a2 k 10 (rows hcell l)) :
    Sp Tryz.prog F 48 [.slice a1 k c1, .slice a2 k c2] [] (Ret (.bool true)) := by
  refine sp_of_code Tryz.func48 rfl rfl ?_
  (refine run_seq ?_; refine run_region ?_; refine xep rfl rfl ?_; refine runL_nil ?_; refine then_normal ?_; (iterate 2 refine run_seq ?_); refine run_region ?_; refine xep rfl rfl ?_; refine xel rfl (ev_len rfl rfl (se rfl)) ?_; refine xep rfl rfl ?_; refine xel rfl (ev_len rfl rfl (se rfl)) ?_; refine xep rfl rfl ?_; refine runL_nil ?_; refine then_normal ?_)
  refine run_condF rfl (by simp) ?_
  (refine run_skip ?_; refine then_normal ?_; (iterate 2 refine run_seq ?_); refine run_region ?_; refine xep rfl rfl ?_; refine runL_nil ?_; refine then_normal ?_; refine run_block ?_)
  refine run_loopK (σ := Nat) [0, 1, 5] (fun i => [(0, .slice a1 k c1), (1, .slice a2 k c2), (5, .int .i64 i)]) (fun _ => []) (fun i => i ≤ k) (fun i => k - i) 0 (Nat.zero_le _) rfl (fun _ => rfl) ?_
  intro i gi
  ((iterate 2 refine run_seq ?_); refine run_region ?_; (iterate 2 refine xep rfl rfl ?_); refine xel rfl (ev_len rfl rfl (se rfl)) ?_; refine xep rfl rfl ?_; refine runL_nil ?_; refine then_normal ?_)
  (refine run_cond rfl (fun hc => ?_) (fun hc => ?_) <;> (try simp only [z0, z1, z2, z3, z4, z5, z6, z7, z8, z9, Bool.not_true, Bool.not_false, Bool.false_or, Bool.true_and, true_and, and_true, false_or, or_false, reduceCtorEq, Bool.false_eq_true] at hc))
  · obtain ⟨b1, o1, _, _, _, rfl, _⟩ := h1.pos (by omega)
    obtain ⟨b2, o2, _, _, _, rfl, _⟩ := h2.pos (by omega)
    obtain ⟨x, hx⟩ : ∃ x, l[i]? = some x := ⟨l[i]'(by omega), List.getElem?_eq_getElem _⟩
    have l1 := SrcIs.row hcell_len h1 hl hx
    have l2 := SrcIs.row hcell_len h2 hl hx
    have k1 := ctHit
    have k2 := tyHit x
    have k3 := eqHit x
    (refine run_skip ?_; refine then_normal ?_; refine run_seq ?_; refine run_block ?_; refine run_seq ?_; refine run_region_draw mo (by kernel_rfl) ?_; (iterate 2 refine xqp rfl rfl ?_); refine xql rfl (ev_indexAddr rfl rfl rfl (se rfl) (by omega) (by omega)) ?_; refine xql rfl (ev_loadAF rfl rfl (ag rfl) (sz rfl) l1 rfl) ?_; (iterate 2 refine xqp rfl rfl ?_); refine xql rfl (ev_indexAddr rfl rfl rfl (se rfl) (by omega) (by omega)) ?_; refine xql rfl (ev_loadAF rfl rfl (ag rfl) (sz rfl) l2 rfl) ?_; refine xql rfl (ev_neqQ rfl rfl rfl k1 rfl k2 k3) ?_; refine runQ_nil ?_; refine then_normal ?_)
    refine run_condF rfl rfl ?_
    (refine run_skip ?_; refine in_normal ?_; refine then_normal ?_; refine run_region ?_; refine xep rfl rfl ?_; refine xel rfl (ev_add rfl rfl rfl (by omega)) ?_; refine xep rfl rfl ?_; refine runL_nil ?_; refine then_normal ?_)
    exact ⟨i + 1, by omega, by omega, rfl, [], fun _ => rfl⟩
  · (refine run_exit ?_; (iterate 2 refine then_exit ?_); refine in_exit ?_; refine then_normal ?_)
    (refine run_seq ?_; refine run_region ?_; refine xep rfl rfl ?_; refine runL_nil ?_; refine then_normal ?_; refine run_ret ?_)
    exact ⟨_, rfl, rfl⟩
end Go.Proofs.YtmelpobcpcmdoaaGreat
