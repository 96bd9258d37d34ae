/- Contracts of functions of the given program over its translation, each proved by walking its text; used by the laws' rows. It proves no given statement by itself. -/
import Derived.Test.YtfhpoagnfmgfkaaSLPlUX
import Derived.Test.YtfhpoagnfmgfkaaSLSt1X
set_option autoImplicit false
set_option linter.unusedSectionVars false
set_option linter.unusedSimpArgs false
set_option linter.unusedVariables false
set_option maxRecDepth 4000
set_option maxHeartbeats 100000000
namespace Go.Proofs.Ytfhpoagnfmgfkaa
open Go Go.SL Go.Proofs
variable [Base]
theorem sp_cwaits (F : Heap) (m : Nat) (M : Mk) (h : MkIn F m M) (hw : BW M.B) (t i : Int) :
    Sp Try.prog F 33 [.pointer (some ⟨m, 0, none⟩), .int .i64 t, .int .i64 i] [] (Ret (.bool (!(bfind t i M.B).2))) := by
  obtain ⟨b, a, c, h1, h2, hs, hm⟩ := h
  have q1 := fun G : Heap => sp_sbook (G ++ F) m b a _ c (List.mem_append_right G hm)
  have q2 := fun G : Heap => sp_bFind (G ++ F) b M.B h1.up hw t i
  refine sp_of_code Try.func33 rfl rfl ?_
  (refine run_seq ?_; refine run_region ?_; refine xep rfl rfl ?_; refine runL_nil ?_; refine then_normal ?_; refine run_seq ?_; refine run_region ?_; refine xep rfl rfl ?_; refine xel rfl (ev_callQ rfl rfl rfl (pf rfl) (q1 ..)) ?_; (iterate 2 refine xep rfl rfl ?_); refine xel rfl (ev_callQ rfl rfl rfl (pf rfl) (q2 ..)) ?_; (iterate 3 refine xep rfl rfl ?_); refine runL_alloc rfl rfl rfl rfl rfl ze24 (fun _ => ?_); refine runL_store0 rfl rfl rfl rfl rfl (sz rfl) rfl rfl rfl rfl rfl ?_; refine xep rfl rfl ?_; refine runL_nil ?_; refine then_normal ?_; refine run_seq ?_; refine run_region ?_; (iterate 3 refine xep rfl rfl ?_); refine runL_nil ?_; refine then_normal ?_; refine run_ret ?_)
  exact ⟨_, rfl, rfl⟩
theorem sp_amend (F H : Heap) (m : Nat) (M : Mk) (hH : MkH m M H) (hw : MW M) (hn2 : M.B.no ≤ 1099442421760) (t i p q : Int) (hp : InI p) (hq : InI q) (hk : InI (mfind t i M).1.kind) :
    Sp Try.prog F 14 [.pointer (some ⟨m, 0, none⟩), .int .i64 t, .int .i64 i, .int .i64 p, .int .i64 q] H (fun v h' => ∃ a c ts A HF H', v = .tuple #[.slice a ts.length c, .int .i64 (mamend t i p q M).2.1] ∧ ts.map (·.2) = (mamend t i p q M).1 ∧ ts.length ≤ 65 ∧ OwnS 51 15 (.slice a ts.length c) ts.length (rows orow ts) A ∧ FsH ts HF ∧ MkH m (mamend t i p q M).2.2 H' ∧ h' = H' ++ A ++ HF) := by
  have hl : M.W.length ≤ 65536 := by have := hw.len; unfold mlen at this; omega
  have hmw := mremove_MW (t := t) (i := i) hw
  have hmn := mremove_no t i M
  refine Sp.up ?_
  refine sp_of_code Try.func14 rfl rfl ?_
  (refine run_seq ?_; refine run_region ?_; (iterate 2 refine xep rfl rfl ?_); refine runL_nil ?_; refine then_normal ?_; refine run_seq ?_; refine run_region ?_; (iterate 3 refine xep rfl rfl ?_))
  refine runL_ev rfl rfl rfl rfl (ev_callQ rfl rfl rfl (pf rfl) (sp_sFind _ m M (hH.in fun x mx => List.mem_append_left _ mx) hw.b hl t i)) ?_
  unfold mamend
  generalize hf : mfind t i M = X at *
  obtain ⟨w, is⟩ := X
  dsimp only at hk ⊢
  ((iterate 3 refine xep rfl rfl ?_); refine runL_alloc rfl rfl rfl rfl rfl ze24 (fun _ => ?_); refine runL_store0 rfl rfl rfl rfl rfl (sz rfl) rfl rfl rfl rfl rfl ?_; refine xep rfl rfl ?_; refine runL_nil ?_; refine then_normal ?_; (iterate 2 refine run_seq ?_); refine run_region ?_; (iterate 2 refine xep rfl rfl ?_); refine runL_nil ?_; refine then_normal ?_)
  rename_i b12
  cases is with
  | false =>
    rw [if_pos rfl]
    refine run_condT rfl rfl ?_
    (refine run_seq ?_; refine run_region ?_; (iterate 2 refine xep rfl rfl ?_); refine runL_nil ?_; refine then_normal ?_; refine run_ret ?_; refine then_ret ?_)
    exact ⟨_, rfl, H ++ [] ++ [], [blk b12 w.cells 24], ⟨none, 0, [], [], [], H, rfl, rfl, by decide, .nil _ _, rfl, hH, rfl⟩, fun y => by
      show cnt y (blk b12 w.cells 24 :: H) = _
      (first | rfl | (simp only [List.append_eq, cnt_append, cnt_cons, cnt_nil, blk]; omega) | (simp only [List.append_eq, cnt_append, cnt_cons, cnt_nil, blk]; done))⟩
  | true =>
    rw [if_neg (by simp)]
    refine run_condF rfl rfl ?_
    refine RunC.perm (h' := blk b12 w.cells 24 :: H) (fun y => rfl) ?_
    (refine run_skip ?_; refine then_normal ?_; refine run_seq ?_; refine run_region ?_; refine xel rfl (ev_loadAK rfl rfl (ag rfl) (sz rfl) (memF (.head _)) rfl) ?_; refine runL_alloc rfl rfl rfl rfl rfl ze24 (fun _ => ?_); refine runL_store0 rfl rfl rfl rfl rfl (sz rfl) rfl rfl rfl rfl rfl ?_; refine runL_nil ?_; refine then_normal ?_; refine run_seq ?_)
    rename_i b14
    refine RunC.perm (h' := (blk b14 w.cells 24 :: H) ++ [blk b12 w.cells 24]) (fun y => by show cnt y (blk b14 w.cells 24 :: blk b12 w.cells 24 :: H) = _; (first | rfl | (simp only [List.append_eq, cnt_append, cnt_cons, cnt_nil, blk]; omega) | (simp only [List.append_eq, cnt_append, cnt_cons, cnt_nil, blk]; done))) ?_
    refine run_midO (σ := Unit) [0, 1, 2, 3, 4, 10, 11, 12, 14] (fun _ => []) (fun _ => blk b14 (amO w p q).cells 24 :: blk b12 w.cells 24 :: H) (fun _ => True) rfl ?_ ?_
    · refine RunC.freezeR ?_
      have l1 : AggF ([blk b12 w.cells 24] ++ F) b12 0 w.cells := ⟨_, _, _, memF (.head _), Nat.le_refl _, rfl⟩
      have l2 := l1.at 7 _ rfl
      refine run_region_D mo ?_
      (refine runD_q 0 rfl rfl (by kernel_rfl) ?_; refine ⟨_, fun _ => ev_pure rfl, ?_⟩; refine runD_q 1 rfl rfl (by kernel_rfl) ?_; refine ⟨_, fun _ => ev_pure rfl, ?_⟩; refine runD_q 2 rfl rfl (by kernel_rfl) ?_; refine ⟨_, fun _ => ev_fieldAddr rfl rfl (fo rfl), ?_⟩; refine runD_q 3 rfl rfl (by kernel_rfl) ?_; refine ⟨_, fun _ => ev_loadK rfl rfl (sc rfl) (memR (memF (.head _))) rfl, ?_⟩; refine runD_q 4 rfl rfl (by kernel_rfl) ?_; refine ⟨_, fun _ => ev_pure rfl, ?_⟩; refine runD_q 5 rfl rfl (by kernel_rfl) ?_; refine ⟨_, fun _ => ev_max rfl rfl rfl, ?_⟩; refine runD_q 6 rfl rfl (by kernel_rfl) ?_; refine ⟨_, fun _ => ev_min rfl rfl rfl, ?_⟩; refine runD_q 7 rfl rfl (by kernel_rfl) ?_; refine ⟨_, fun _ => ev_fieldAddr rfl rfl (fo rfl), ?_⟩; refine runD_1 8 (by kernel_rfl) rfl rfl rfl ?_; refine runL_store0 rfl rfl rfl rfl rfl (sz rfl) rfl rfl rfl rfl rfl ?_; refine runL_nil ?_; refine endS_n rfl ?_; refine runD_q 9 rfl rfl (by kernel_rfl) ?_; refine ⟨_, fun _ => ev_fieldAddr rfl rfl (fo rfl), ?_⟩; refine runD_1 10 (by kernel_rfl) rfl rfl rfl ?_; refine runL_store0 rfl rfl rfl rfl rfl (sz rfl) rfl rfl rfl rfl rfl ?_; refine runL_nil ?_; refine endS_n rfl ?_; refine runD_q 11 rfl rfl (by kernel_rfl) ?_; refine ⟨_, fun _ => ev_fieldAddr rfl rfl (fo rfl), ?_⟩; refine runD_1 12 (by kernel_rfl) rfl rfl rfl ?_; refine runL_store0 rfl rfl rfl rfl rfl (sz rfl) rfl rfl rfl rfl rfl ?_; refine runL_nil ?_; refine endS_n rfl ?_; refine runD_done (by kernel_rfl) ?_)
      exact midN () [] trivial rfl (fun x => by show cnt x (blk b14 (amO w p q).cells 24 :: H ++ [blk b12 w.cells 24]) = _; (first | rfl | (simp only [List.append_eq, cnt_append, cnt_cons, cnt_nil, blk]; omega) | (simp only [List.append_eq, cnt_append, cnt_cons, cnt_nil, blk]; done)))
    · intro fr' h' hm
      (refine then_normal ?_)
      refine midN_out hm ?_
      clear hm
      rintro ⟨⟩ -
      have ham : (amO w p q).kind = w.kind := rfl
      have q1 := fun F => sp_right F (amO w p q) hk
      generalize hO : amO w p q = o at *
      ((iterate 2 refine run_seq ?_); refine run_region ?_; refine xel rfl (ev_loadAK rfl rfl (ag rfl) (sz rfl) (memF (.head _)) rfl) ?_; refine xel rfl (ev_callQ rfl rfl rfl (pf rfl) (q1 ..)) ?_; refine xep rfl rfl ?_; refine runL_nil ?_; refine then_normal ?_)
      by_cases hr : right o ≠ 0
      · rw [if_pos hr]
        refine run_condT rfl (by simp [hr]) ?_
        (refine run_seq ?_; refine run_region ?_; (iterate 2 refine xep rfl rfl ?_); refine runL_nil ?_; refine then_normal ?_; refine run_ret ?_; refine then_ret ?_)
        exact ⟨_, rfl, H ++ [] ++ [], [blk b14 o.cells 24, blk b12 w.cells 24], ⟨none, 0, [], [], [], H, rfl, rfl, by decide, .nil _ _, rfl, hH, rfl⟩, fun y => by (first | rfl | (simp only [List.append_eq, cnt_append, cnt_cons, cnt_nil, blk]; omega) | (simp only [List.append_eq, cnt_append, cnt_cons, cnt_nil, blk]; done))⟩
      · rw [if_neg hr]
        refine run_condF rfl (by simp at hr; simp [hr]) ?_
        (refine run_skip ?_; refine then_normal ?_)
        refine run_seq ?_
        refine run_seq ?_
        refine run_midO (σ := Unit) [0, 1, 2, 4, 14] (fun _ => [(54, .bool (decide (p = w.price) && decide (q ≤ w.qty) && !(!(bfind t i M.B).2)))]) (fun _ => blk b14 o.cells 24 :: H) (fun _ => True) rfl ?_ ?_
        · refine RunC.freeze ?_
          have hMi : MkIn ((blk b14 o.cells 24 :: blk b12 w.cells 24 :: H) ++ F) m M := hH.in fun z mz => List.mem_append_left _ (.tail _ (.tail _ mz))
          have l1 : AggF ((blk b14 o.cells 24 :: blk b12 w.cells 24 :: H) ++ F) b12 0 w.cells := ⟨_, _, _, memF (.tail _ (.head _)), Nat.le_refl _, rfl⟩
          have l2 := l1.at 5 _ rfl
          have l3 := l1.at 6 _ rfl
          have q1 := fun Z : Heap => sp_cwaits (Z ++ ((blk b14 o.cells 24 :: blk b12 w.cells 24 :: H) ++ F)) m M hMi.up hw.b t i
          (refine run_region ?_; refine xep rfl rfl ?_; refine xel rfl (ev_fieldAddr rfl rfl (fo rfl)) ?_; refine xel rfl (ev_loadF rfl rfl (sc rfl) l2) ?_; (iterate 2 refine xep rfl rfl ?_); refine xgp rfl rfl rfl ?_; refine xgl rfl rfl (fun hq => ev_fieldAddr rfl rfl (fo rfl)) ?_; refine xgl rfl rfl (fun hq => ev_loadF rfl rfl (sc rfl) l3) ?_; refine xgp rfl rfl rfl ?_; (iterate 2 refine xep rfl rfl ?_); (iterate 3 refine xgp rfl rfl rfl ?_); refine xgl rfl rfl (fun hq => ev_callQ rfl rfl rfl (pf rfl) (q1 ..)) ?_; refine xgp rfl rfl rfl ?_; refine xep rfl rfl ?_; refine runL_nil ?_)
          exact midN () [blk b12 w.cells 24] trivial rfl (fun x => by (first | rfl | (simp only [List.append_eq, cnt_append, cnt_cons, cnt_nil, blk]; omega) | (simp only [List.append_eq, cnt_append, cnt_cons, cnt_nil, blk]; done)))
        · intro fr' h' hm
          (refine then_normal ?_)
          refine midN_out hm ?_
          clear hm
          rintro ⟨⟩ -
          by_cases hc : p = w.price ∧ q ≤ w.qty ∧ (bfind t i M.B).2 = true
          · rw [if_pos hc]
            refine run_condT rfl (by rw [decide_eq_true hc.1, decide_eq_true hc.2.1, hc.2.2]; rfl) ?_
            skip
            obtain ⟨b, aw, cw, HB, AW, hB, ownW, rfl⟩ := hH
            refine RunC.perm (h' := blk m [.pointer (some ⟨b, 0, none⟩), .slice aw M.W.length cw] 67 :: blk b14 o.cells 24 :: (HB ++ AW)) (fun y => by (first | rfl | (simp only [List.append_eq, cnt_append, cnt_cons, cnt_nil, blk]; omega) | (simp only [List.append_eq, cnt_append, cnt_cons, cnt_nil, blk]; done))) ?_
            (refine run_seq ?_; refine run_region ?_; refine xep rfl rfl ?_)
            refine runL_ev rfl rfl rfl rfl (ev_callQ rfl rfl rfl (pf rfl) (sp_sbook _ m b aw _ cw (List.mem_cons_self ..))) ?_
            ((iterate 3 refine xep rfl rfl ?_))
            refine runL_callZ (blk m [.pointer (some ⟨b, 0, none⟩), .slice aw M.W.length cw] 67 :: blk b14 o.cells 24 :: AW) HB rfl rfl rfl rfl rfl rfl rfl (pf rfl) (fun y => by (first | rfl | (simp only [List.append_eq, cnt_append, cnt_cons, cnt_nil, blk]; omega) | (simp only [List.append_eq, cnt_append, cnt_cons, cnt_nil, blk]; done))) (sp_bless _ HB b M.B hB hw.b t i q) ?_
            rintro v HB2 ⟨rfl, hB2⟩
            (refine runL_nil ?_; refine then_normal ?_; refine run_seq ?_; refine run_region ?_; (iterate 2 refine xep rfl rfl ?_); refine runL_nil ?_; refine then_normal ?_; refine run_ret ?_; refine then_ret ?_)
            exact ⟨_, rfl, (blk m [.pointer (some ⟨b, 0, none⟩), .slice aw M.W.length cw] 67 :: (HB2 ++ AW)) ++ [] ++ [], [blk b14 o.cells 24], ⟨none, 0, [], [], [], blk m [.pointer (some ⟨b, 0, none⟩), .slice aw M.W.length cw] 67 :: (HB2 ++ AW), rfl, rfl, by decide, .nil _ _, rfl, ⟨b, aw, cw, HB2, AW, hB2, ownW, rfl⟩, rfl⟩, fun y => by (first | rfl | (simp only [List.append_eq, cnt_append, cnt_cons, cnt_nil, blk]; omega) | (simp only [List.append_eq, cnt_append, cnt_cons, cnt_nil, blk]; done))⟩
          · rw [if_neg hc]
            refine run_condF rfl (by
              cases hb : (bfind t i M.B).2 with
              | false => simp
              | true =>
                by_cases h1 : p = w.price
                · rw [decide_eq_false (fun h2 : q ≤ w.qty => hc ⟨h1, h2, hb⟩)]; simp
                · rw [decide_eq_false h1]; rfl) ?_
            (refine run_skip ?_; refine then_normal ?_; refine run_seq ?_; refine run_region ?_; (iterate 3 refine xep rfl rfl ?_))
            refine runL_callZ [blk b14 o.cells 24] H rfl rfl rfl rfl rfl rfl rfl (pf rfl) (fun y => by (first | rfl | (simp only [List.append_eq, cnt_append, cnt_cons, cnt_nil, blk]; omega) | (simp only [List.append_eq, cnt_append, cnt_cons, cnt_nil, blk]; done))) (sp_sremove _ H m M hH hw.b hl t i) ?_
            rintro v H2 ⟨rfl, hH2⟩
            have hO2 : InI o.kind := by rw [ham]; exact hk
            have K := madd_ok (o := o) hmw
            have cA := fun Y => sp_sadd Y H2 m (mremove t i M).2.2 hH2 hmw (by omega) o hO2
            generalize madd o (mremove t i M).2.2 = X at *
            (refine runL_nil ?_; refine then_normal ?_; refine run_seq ?_; refine run_region ?_; refine xep rfl rfl ?_; refine xel rfl (ev_loadAK rfl rfl (ag rfl) (sz rfl) (memF (.head _)) rfl) ?_)
            refine runL_callZ [blk b14 o.cells 24] H2 rfl rfl rfl rfl rfl rfl rfl (pf rfl) (fun y => by (first | rfl | (simp only [List.append_eq, cnt_append, cnt_cons, cnt_nil, blk]; omega) | (simp only [List.append_eq, cnt_append, cnt_cons, cnt_nil, blk]; done))) (cA _) ?_
            rintro v _ ⟨a, c, ts, A, HF, H3, rfl, hts, htl, own, hF, hH3, rfl⟩
            ((iterate 2 refine xep rfl rfl ?_); refine runL_nil ?_; refine then_normal ?_; refine run_ret ?_)
            exact ⟨_, rfl, H3 ++ A ++ HF, [blk b14 o.cells 24], ⟨a, c, ts, A, HF, H3, rfl, hts, htl, own, hF, hH3, rfl⟩, fun y => by (first | rfl | (simp only [List.append_eq, cnt_append, cnt_cons, cnt_nil, blk]; omega) | (simp only [List.append_eq, cnt_append, cnt_cons, cnt_nil, blk]; done))⟩
end Go.Proofs.Ytfhpoagnfmgfkaa
