/- Contracts of functions of the given program over its translation, each proved by walking its text; used by the laws' rows. It proves no given statement by itself. -/
import Derived.Test.YtlokkniepoeepaaSLPlSP
set_option autoImplicit false
set_option linter.unusedSectionVars false
set_option linter.unusedSimpArgs false
set_option linter.unusedVariables false
set_option maxRecDepth 4000
set_option maxHeartbeats 100000000
namespace Go.Proofs.Ytlokkniepoeepaa
open Go Go.SL Go.Proofs
variable [Base]
theorem badd_fs {o : Ord} {B : Bk} (hw : BW B) (hr : rightP o) : (badd o B).1.fs.length ≤ 2097152 := by
  by_cases h0 : brefused o B = 0
  · have hs : o.side = 1 ∨ o.side = 2 := by unfold rightP at hr; omega
    have hq : 0 ≤ o.qty ∧ o.qty ≤ 1048576 := by unfold rightP at hr; omega
    have M := match_is (B.side (3 - o.side)) o B.last B.no (hw.side _).1 hq.1
    rw [(add_is hs h0).out]
    have h1 := M.num
    have h2 := M.qty
    dsimp only
    omega
  · rw [refused_is h0]; exact Nat.zero_le _
/-- Both outcomes of an order, and both books. -/
structure TwoI (m b : Nat) (X : Out × Bk) (a4 : Option Addr) (c4 : Nat) (A4 : Heap) (a5 : Option Addr) (c5 : Nat) (A5 : Heap) (H : Heap) (a6 : Option Addr) (c6 : Nat) (A6 G : Heap) : Prop where
  o4 : OwnS 32 15 (.slice a4 1 c4) 1 (rows orow [((a5, c5), X.1)]) A4
  o5 : OwnS 34 21 (.slice a5 X.1.fs.length c5) X.1.fs.length (rows fcell X.1.fs) A5
  m : MkH m ⟨X.2, []⟩ H
  o6 : OwnS 34 21 (.slice a6 X.1.fs.length c6) X.1.fs.length (rows fcell X.1.fs) A6
  b : BkH b X.2 G
theorem stopsPlain_sp (F : Heap) (a : Option Addr) (len cap : Nat) (rs : List (List Int)) (hR : RowsF F a len 7 rs) (hC : len ≤ cap) (hM : cap ≤ 9223372036854775807) :
    Sp Try.prog F 5 [.slice a len cap] [] (Ret (.bool true)) := by
  have q3 := stopsRuns_sp
  have hrl := hR.1
  have hgd : true = true := rfl
  refine sp_of_code Try.func5 rfl rfl ?_
  (refine run_seq ?_; refine run_region ?_; refine xep rfl rfl ?_; refine runL_nil ?_; refine then_normal ?_; refine run_seq ?_; refine run_region ?_)
  refine runL_call0 rfl rfl rfl rfl rfl rfl rfl (pf rfl) (sp_snew _) ?_
  rintro v H0 ⟨m, rfl, hH0⟩
  skip
  refine runL_callZ H0 [] rfl rfl rfl rfl rfl rfl rfl (pf rfl) (fun y => by (first | rfl | (simp only [List.append_eq, cnt_append, cnt_cons, cnt_nil, blk]; omega) | (simp only [List.append_eq, cnt_append, cnt_cons, cnt_nil, blk]; done))) (sp_bnew _) ?_
  rintro v G0 ⟨b, rfl, hG0⟩
  have hge : (Option.isNone (some (⟨m, 0, none⟩ : Addr))) = false := rfl
  ((iterate 2 refine xep rfl rfl ?_); refine runL_nil ?_; refine then_normal ?_; (iterate 2 refine run_seq ?_); refine run_region ?_; refine xep rfl rfl ?_; refine xel rfl (ev_eqNil rfl rfl rfl (pt rfl)) ?_; refine xep rfl rfl ?_; refine runL_yes rfl rfl hge ?_; refine xep rfl rfl ?_; refine runL_yes rfl rfl hge ?_; refine xel rfl (ev_eqNil rfl rfl rfl (pt rfl)) ?_; refine xep rfl rfl ?_; refine runL_nil ?_; refine then_normal ?_)
  refine run_condF rfl rfl ?_
  clear hge hgd
  (refine run_skip ?_; refine then_normal ?_; (iterate 2 refine run_seq ?_); refine run_region ?_; refine xep rfl rfl ?_; refine runL_nil ?_; refine then_normal ?_; refine run_block ?_)
  refine run_loopK (σ := (Nat × Bk) × Heap × Heap) [0, 3, 4, 5] (fun s => [(0, .slice a len cap), (3, .pointer (some ⟨m, 0, none⟩)), (4, .pointer (some ⟨b, 0, none⟩)), (5, .int .i64 s.1.1)]) (fun s => s.2.1 ++ s.2.2)
    (fun s => s.1.1 ≤ len ∧ s.1.1 ≤ 50 ∧ MkH m ⟨s.1.2, []⟩ s.2.1 ∧ BkH b s.1.2 s.2.2 ∧ BW s.1.2 ∧ 0 ≤ s.1.2.no ∧ s.1.2.no ≤ s.1.1 * 1048576 ∧ lenL s.1.2.buys + lenL s.1.2.sells ≤ s.1.1) (fun s => 50 - s.1.1) ((0, empty), H0, G0) ⟨Nat.zero_le _, Nat.zero_le _, hH0, hG0, empty_BW, by show (0 : Int) ≤ 0; decide, by show (0 : Int) ≤ ((0 : Nat) : Int) * 1048576; decide, by show 0 ≤ 0; decide⟩ rfl (fun x => by (first | rfl | (simp only [List.append_eq, cnt_append, cnt_cons, cnt_nil, blk]; omega) | (simp only [List.append_eq, cnt_append, cnt_cons, cnt_nil, blk]; done))) ?_
  rintro ⟨⟨i, B⟩, H, G⟩ ⟨g1, g2, hH, hG, hw, hn0, hn1, hl⟩
  dsimp only at g1 g2 hH hG hw hn0 hn1 hl ⊢
  ((iterate 2 refine run_seq ?_); refine run_region ?_; (iterate 2 refine xep rfl rfl ?_); refine xel rfl (ev_len rfl rfl (se rfl)) ?_; (iterate 2 refine xep rfl rfl ?_); (iterate 2 refine xgp rfl rfl rfl ?_); refine xep rfl rfl ?_; refine runL_nil ?_; refine then_normal ?_)
  (refine run_cond rfl (fun hc => ?_) (fun hc => ?_) <;> (try simp only [z0, z1, z2, z3, z4, z5, z6, z7, z8, z9, Bool.not_true, Bool.not_false, Bool.false_or, Bool.true_and, true_and, and_true, false_or, or_false, reduceCtorEq, Bool.false_eq_true] at hc))
  · obtain ⟨zb, off, rfl⟩ := hR.pos (by omega)
    obtain ⟨r, hr, hrl1, hrI, l1⟩ := RowsF.cell hR (i := i) (by omega)
    have q4 := fun F => sp_kOrder F r hrl1
    have ko := kO_right r
    generalize kO r = o at *
    have hkI : InI o.kind := by have h := ko.1; unfold rightP at h; unfold InI; omega
    have hB2 := badd_BW (o := o) hw hn0
    have hL3 : lenL (badd o B).2.buys + lenL (badd o B).2.sells ≤ i + 1 := by
      have h := badd_lenL (o := o) hw
      split at h <;> omega
    have hfl := badd_fs hw ko.1
    have cA := fun Y => sp_saddP Y H m B hH hw hn0 (by omega) (by omega) o hkI ko.2.1
    have cB := fun Y => sp_badd Y G b B hG hw o hkI hn0 (by omega)
    generalize badd o B = X at *
    (refine run_skip ?_; refine then_normal ?_; refine run_seq ?_; refine run_block ?_; refine run_seq ?_; refine run_region ?_; (iterate 2 refine xep rfl rfl ?_); refine xel rfl (ev_indexAddr rfl rfl rfl (se rfl) (by omega) (by omega)) ?_)
    refine runL_ev rfl rfl rfl rfl (ev_loadAF rfl rfl (ag rfl) (sz rfl) l1 (by rw [ints_len]; exact hrl1)) ?_
    (refine xel rfl (ev_callQ rfl rfl rfl (pf rfl) (q4 ..)) ?_; refine runL_alloc rfl rfl rfl rfl rfl ze27 (fun _ => ?_); refine runL_store0 rfl rfl rfl rfl rfl (sz rfl) rfl rfl rfl rfl rfl ?_; refine runL_nil ?_; refine then_normal ?_; refine run_seq ?_)
    rename_i x6
    refine RunC.perm (h' := (H ++ G) ++ [blk x6 o.cells 27]) (fun y => by show cnt y (blk x6 o.cells 27 :: (H ++ G)) = _; (first | rfl | (simp only [List.append_eq, cnt_append, cnt_cons, cnt_nil, blk]; omega) | (simp only [List.append_eq, cnt_append, cnt_cons, cnt_nil, blk]; done))) ?_
    clear l1
    have l1 : AggF ([blk x6 o.cells 27] ++ F) x6 0 o.cells := ⟨_, _, _, memF (.head _), Nat.le_refl _, rfl⟩
    refine run_midO (σ := (Option Addr × Nat × Heap × Option Addr × Nat × Heap × Heap) × (Option Addr × Nat × Heap × Heap) × Nat) [0, 3, 4, 5]
      (fun s => [(7, .slice s.1.1 1 s.1.2.1), (8, .pointer (some ⟨s.2.2, 0, none⟩))])
      (fun s => blk s.2.2 (outV s.2.1.1 s.2.1.2.1 X.1) 32 :: (s.1.2.2.2.2.2.2 ++ s.1.2.2.1 ++ s.1.2.2.2.2.2.1 ++ (s.2.1.2.2.2 ++ s.2.1.2.2.1)))
      (fun s => TwoI m b X s.1.1 s.1.2.1 s.1.2.2.1 s.1.2.2.2.1 s.1.2.2.2.2.1 s.1.2.2.2.2.2.1 s.1.2.2.2.2.2.2 s.2.1.1 s.2.1.2.1 s.2.1.2.2.1 s.2.1.2.2.2) rfl ?_ ?_
    · refine RunC.freezeR ?_
      refine run_region_D mo ?_
      (refine runD_q 0 rfl rfl (by kernel_rfl) ?_; refine ⟨_, fun _ => ev_pure rfl, ?_⟩; refine runD_q 1 rfl rfl (by kernel_rfl) ?_; refine ⟨_, fun _ => ev_loadAK rfl rfl (ag rfl) (sz rfl) (memR (memF (.head _))) rfl, ?_⟩; refine runD_q 3 rfl rfl (by kernel_rfl) ?_; refine ⟨_, fun _ => ev_pure rfl, ?_⟩; refine runD_q 4 rfl rfl (by kernel_rfl) ?_; refine ⟨_, fun _ => ev_loadAK rfl rfl (ag rfl) (sz rfl) (memR (memF (.head _))) rfl, ?_⟩)
      refine runD_2 2 6 (by kernel_rfl) (oneD rfl rfl rfl ?_) (oneD rfl rfl rfl ?_)
      · refine runL_callZ G H rfl rfl rfl rfl rfl rfl rfl (pf rfl) (fun y => by (first | rfl | (simp only [List.append_eq, cnt_append, cnt_cons, cnt_nil, blk]; omega) | (simp only [List.append_eq, cnt_append, cnt_cons, cnt_nil, blk]; done))) (cA _) ?_
        rintro v _ ⟨a4, c4, A4, a5, c5, A5, H1, rfl, own4, own5, hH1, rfl⟩
        (refine runL_nil ?_; refine endS_d rfl ?_)
        refine runD_2 5 6 (by kernel_rfl) (oneD rfl rfl rfl ?_) (oneD rfl rfl rfl ?_)
        · refine runL_callZ (H1 ++ A4 ++ A5) G rfl rfl rfl rfl rfl rfl rfl (pf rfl) (fun y => by (first | rfl | (simp only [List.append_eq, cnt_append, cnt_cons, cnt_nil, blk]; omega) | (simp only [List.append_eq, cnt_append, cnt_cons, cnt_nil, blk]; done))) (cB _) ?_
          rintro v _ ⟨a6, c6, A6, G1, rfl, own6, hG1, rfl⟩
          (refine runL_nil ?_; refine endS_d rfl ?_; refine runD_1 6 (by kernel_rfl) rfl rfl rfl ?_; refine runL_alloc rfl rfl rfl rfl rfl ze32 (fun _ => ?_); refine runL_nil ?_; refine endS_d rfl ?_; refine runD_q 7 rfl rfl (by kernel_rfl) ?_; refine ⟨_, fun _ => ev_pure rfl, ?_⟩; refine runD_1 8 (by kernel_rfl) rfl rfl rfl ?_; refine runL_store0 rfl rfl rfl rfl rfl (sz rfl) rfl rfl rfl rfl rfl ?_; refine runL_nil ?_; refine endS_n rfl ?_; refine runD_done (by kernel_rfl) ?_)
          rename_i b8
          exact midN ((a4, c4, A4, a5, c5, A5, H1), (a6, c6, A6, G1), b8) [blk x6 o.cells 27] ⟨own4, own5, hH1, own6, hG1⟩ rfl (fun x => by simp only [List.append_eq, cnt_append, cnt_cons, cnt_nil, blk, zOut, outV, Ord.cells]; try omega)
        · (refine runL_alloc rfl rfl rfl rfl rfl ze32 (fun _ => ?_); refine runL_nil ?_; refine endS_d rfl ?_; refine runD_1 5 (by kernel_rfl) rfl rfl rfl ?_)
          rename_i b8
          refine RunL.perm (h' := blk b8 zOut 32 :: (G ++ (H1 ++ A4 ++ A5))) (fun x => by simp only [List.append_eq, cnt_append, cnt_cons, cnt_nil, blk, zOut]; try omega) ?_
          refine runL_callZ (blk b8 zOut 32 :: (H1 ++ A4 ++ A5)) G rfl rfl rfl rfl rfl rfl rfl (pf rfl) (fun y => by (first | rfl | (simp only [List.append_eq, cnt_append, cnt_cons, cnt_nil, blk]; omega) | (simp only [List.append_eq, cnt_append, cnt_cons, cnt_nil, blk]; done))) (cB _) ?_
          rintro v _ ⟨a6, c6, A6, G1, rfl, own6, hG1, rfl⟩
          (refine runL_nil ?_; refine endS_d rfl ?_; refine runD_q 7 rfl rfl (by kernel_rfl) ?_; refine ⟨_, fun _ => ev_pure rfl, ?_⟩; refine runD_1 8 (by kernel_rfl) rfl rfl rfl ?_; refine runL_store0 rfl rfl rfl rfl rfl (sz rfl) rfl rfl rfl rfl rfl ?_; refine runL_nil ?_; refine endS_n rfl ?_; refine runD_done (by kernel_rfl) ?_)
          exact midN ((a4, c4, A4, a5, c5, A5, H1), (a6, c6, A6, G1), b8) [blk x6 o.cells 27] ⟨own4, own5, hH1, own6, hG1⟩ rfl (fun x => by simp only [List.append_eq, cnt_append, cnt_cons, cnt_nil, blk, zOut, outV, Ord.cells]; try omega)
      · (refine runL_alloc rfl rfl rfl rfl rfl ze32 (fun _ => ?_); refine runL_nil ?_; refine endS_d rfl ?_; refine runD_1 2 (by kernel_rfl) rfl rfl rfl ?_)
        rename_i b8
        refine RunL.perm (h' := blk b8 zOut 32 :: (H ++ G)) (fun x => by simp only [List.append_eq, cnt_append, cnt_cons, cnt_nil, blk, zOut]; try omega) ?_
        refine runL_callZ (blk b8 zOut 32 :: G) H rfl rfl rfl rfl rfl rfl rfl (pf rfl) (fun y => by (first | rfl | (simp only [List.append_eq, cnt_append, cnt_cons, cnt_nil, blk]; omega) | (simp only [List.append_eq, cnt_append, cnt_cons, cnt_nil, blk]; done))) (cA _) ?_
        rintro v _ ⟨a4, c4, A4, a5, c5, A5, H1, rfl, own4, own5, hH1, rfl⟩
        (refine runL_nil ?_; refine endS_d rfl ?_; refine runD_1 5 (by kernel_rfl) rfl rfl rfl ?_)
        refine runL_callZ (blk b8 zOut 32 :: (H1 ++ A4 ++ A5)) G rfl rfl rfl rfl rfl rfl rfl (pf rfl) (fun y => by (first | rfl | (simp only [List.append_eq, cnt_append, cnt_cons, cnt_nil, blk]; omega) | (simp only [List.append_eq, cnt_append, cnt_cons, cnt_nil, blk]; done))) (cB _) ?_
        rintro v _ ⟨a6, c6, A6, G1, rfl, own6, hG1, rfl⟩
        (refine runL_nil ?_; refine endS_d rfl ?_; refine runD_q 7 rfl rfl (by kernel_rfl) ?_; refine ⟨_, fun _ => ev_pure rfl, ?_⟩; refine runD_1 8 (by kernel_rfl) rfl rfl rfl ?_; refine runL_store0 rfl rfl rfl rfl rfl (sz rfl) rfl rfl rfl rfl rfl ?_; refine runL_nil ?_; refine endS_n rfl ?_; refine runD_done (by kernel_rfl) ?_)
        exact midN ((a4, c4, A4, a5, c5, A5, H1), (a6, c6, A6, G1), b8) [blk x6 o.cells 27] ⟨own4, own5, hH1, own6, hG1⟩ rfl (fun x => by simp only [List.append_eq, cnt_append, cnt_cons, cnt_nil, blk, zOut, outV, Ord.cells]; try omega)
    · intro fr' h' hm
      (refine then_normal ?_)
      refine midN_out hm ?_
      clear hm
      rintro ⟨⟨a4, c4, A4, a5, c5, A5, H1⟩, ⟨a6, c6, A6, G1⟩, b8⟩ ⟨own4, own5, hH1, own6, hG1⟩
      dsimp only at own4 own5 hH1 own6 hG1 ⊢
      obtain ⟨b4, rest4, cap4, hv4, rfl, -, -, -⟩ := own4.pos (by decide)
      cases hv4
      refine run_seq ?_
      refine run_midO (σ := Unit) [0, 3, 4, 5] (fun _ => [(48, .bool false)]) (fun _ => H1 ++ G1) (fun _ => True) rfl ?_ ?_
      · refine RunC.freeze ?_
        generalize hY : blk b8 (outV a6 c6 X.1) 32 :: (H1 ++ [blk b4 (rows orow [((a5, c5), X.1)] ++ rest4) 32] ++ A5 ++ (G1 ++ A6)) = Y
        have hm8 : blk b8 (outV a6 c6 X.1) 32 ∈ Y ++ F := List.mem_append_left _ (by rw [← hY]; exact List.mem_cons_self ..)
        have hm4 : blk b4 (rows orow [((a5, c5), X.1)] ++ rest4) 32 ∈ Y ++ F := List.mem_append_left _ (by rw [← hY]; simp only [List.mem_cons, List.mem_append, List.mem_singleton, true_or, or_true])
        have s5 := own5.src (H := Y ++ F) fun x mx => List.mem_append_left _ (by rw [← hY]; simp only [List.mem_cons, List.mem_append, mx, true_or, or_true])
        have s6 := own6.src (H := Y ++ F) fun x mx => List.mem_append_left _ (by rw [← hY]; simp only [List.mem_cons, List.mem_append, mx, true_or, or_true])
        have l1 : AggF (Y ++ F) b8 0 (outV a6 c6 X.1) := ⟨_, _, _, hm8, Nat.le_refl _, rfl⟩
        have l2 : AggF (Y ++ F) b4 (0 + (0 : Int).toNat * 15) (outV a5 c5 X.1) := ⟨_, _, _, hm4, by rw [List.length_append]; exact Nat.le_add_right_of_le (show 15 ≤ 15 by decide), rfl⟩
        have q5 := fun Z : Heap => sp_kOutcome (Z ++ (Y ++ F)) a5 a6 c5 c6 X.1 hfl s5.up s6.up
        have y1 : (!decide (((1 : Nat) : Int) = 1)) = false := rfl
        refine run_region_D mo ?_
        (refine runD_q 0 rfl rfl (by kernel_rfl) ?_; refine ⟨_, fun _ => ev_pure rfl, ?_⟩; refine runD_q 1 rfl rfl (by kernel_rfl) ?_; refine ⟨_, fun _ => ev_len rfl rfl (se rfl), ?_⟩; refine runD_q 2 rfl rfl (by kernel_rfl) ?_; refine ⟨_, fun _ => ev_pure rfl, ?_⟩; refine runD_q 3 rfl rfl (by kernel_rfl) ?_; refine ⟨_, fun _ => ev_pure rfl, ?_⟩; refine runD_gq 4 rfl rfl rfl rfl rfl rfl y1 (by kernel_rfl) ?_; refine ⟨_, fun _ => ev_pure rfl, ?_⟩; refine runD_gq 5 rfl rfl rfl rfl rfl rfl y1 (by kernel_rfl) ?_; refine ⟨_, fun _ => ev_indexAddr rfl rfl rfl (se rfl) (by omega) (by omega), ?_⟩; refine runD_gq 6 rfl rfl rfl rfl rfl rfl y1 (by kernel_rfl) ?_; refine ⟨_, fun _ => ev_loadAF rfl rfl (ag rfl) (sz rfl) l2 rfl, ?_⟩; refine runD_gq 7 rfl rfl rfl rfl rfl rfl y1 (by kernel_rfl) ?_; refine ⟨_, fun _ => ev_loadAF rfl rfl (ag rfl) (sz rfl) l1 rfl, ?_⟩; refine runD_gq 8 rfl rfl rfl rfl rfl rfl y1 (by kernel_rfl) ?_; refine ⟨_, fun _ => ev_callQ rfl rfl rfl (pf rfl) (q5 ..), ?_⟩; refine runD_gq 9 rfl rfl rfl rfl rfl rfl y1 (by kernel_rfl) ?_; refine ⟨_, fun _ => ev_pure rfl, ?_⟩; refine runD_q 10 rfl rfl (by kernel_rfl) ?_; refine ⟨_, fun _ => ev_pure rfl, ?_⟩; refine runD_done (by kernel_rfl) ?_)
        exact midN () (blk b8 (outV a6 c6 X.1) 32 :: ([blk b4 (rows orow [((a5, c5), X.1)] ++ rest4) 32] ++ A5 ++ A6)) trivial rfl (fun x => by rw [← hY]; (first | rfl | (simp only [List.append_eq, cnt_append, cnt_cons, cnt_nil, blk]; omega) | (simp only [List.append_eq, cnt_append, cnt_cons, cnt_nil, blk]; done)))
      · intro fr' h' hm
        (refine then_normal ?_)
        refine midN_out hm ?_
        clear hm
        rintro ⟨⟩ -
        refine run_condF rfl rfl ?_
        (refine run_skip ?_; refine in_normal ?_; refine then_normal ?_; refine run_region ?_; refine xep rfl rfl ?_; refine xel rfl (ev_add rfl rfl rfl (by omega)) ?_; refine xep rfl rfl ?_; refine runL_nil ?_; refine then_normal ?_)
        exact ⟨((i + 1, X.2), H1, G1), ⟨by show i + 1 ≤ _; omega, by show i + 1 ≤ _; omega, hH1, hG1, hB2.1, by show 0 ≤ X.2.no; omega, by show X.2.no ≤ ((i + 1 : Nat) : Int) * 1048576; omega, hL3⟩, by show 50 - (i + 1) < 50 - i; omega, rfl, [], fun y => by (first | rfl | (simp only [List.append_eq, cnt_append, cnt_cons, cnt_nil, blk]; omega) | (simp only [List.append_eq, cnt_append, cnt_cons, cnt_nil, blk]; done))⟩
  · (refine run_exit ?_; (iterate 2 refine then_exit ?_); refine in_exit ?_; refine then_normal ?_)
    obtain ⟨b2, aw, cw, HB, AW, hB2, ownW, rfl⟩ := hH
    refine RunC.freeze ?_
    have hm0 : blk m [.pointer (some ⟨b2, 0, none⟩), .slice aw ([] : List Ord).length cw] 58 ∈ (blk m [.pointer (some ⟨b2, 0, none⟩), .slice aw ([] : List Ord).length cw] 58 :: (HB ++ AW)) ++ G ++ F := by simp
    have hI2 : BkIn ((blk m [.pointer (some ⟨b2, 0, none⟩), .slice aw ([] : List Ord).length cw] 58 :: (HB ++ AW)) ++ G ++ F) b2 B := hB2.in fun y my => by simp [my]
    have hI1 : BkIn ((blk m [.pointer (some ⟨b2, 0, none⟩), .slice aw ([] : List Ord).length cw] 58 :: (HB ++ AW)) ++ G ++ F) b B := hG.in fun y my => by simp [my]
    have hMi : MkIn ((blk m [.pointer (some ⟨b2, 0, none⟩), .slice aw ([] : List Ord).length cw] 58 :: (HB ++ AW)) ++ G ++ F) m ⟨B, []⟩ := MkH.in ⟨b2, aw, cw, HB, AW, hB2, ownW, rfl⟩ fun y my => by simp only [List.mem_append, my, true_or, or_true]
    clear hB2 hG ownW
    generalize (blk m [.pointer (some ⟨b2, 0, none⟩), .slice aw ([] : List Ord).length cw] 58 :: (HB ++ AW)) ++ G ++ F = Y at *
    have q1 := fun Z : Heap => sp_sbook (Z ++ Y) m b2 aw _ cw (List.mem_append_right Z hm0)
    have y1 : (!Option.isNone (some (⟨b2, 0, none⟩ : Addr))) = true := rfl
    have y2 : ((!Option.isNone (some (⟨b2, 0, none⟩ : Addr))) && true) = true := rfl
    have y3 : ((!Option.isNone (some (⟨b2, 0, none⟩ : Addr))) && true && true) = true := rfl
    have y4 : ((!Option.isNone (some (⟨b2, 0, none⟩ : Addr))) && true && true && true) = true := rfl
    have h64 := hw.len
    have ho1 := ordersL_len (B.side 1)
    have ho2 := ordersL_len (B.side 2)
    have hs1 : lenL (B.side 1) = lenL B.buys := rfl
    have hs2 : lenL (B.side 2) = lenL B.sells := rfl
    (refine run_seq ?_; refine run_region ?_; refine xep rfl rfl ?_; refine xel rfl (ev_callQ rfl rfl rfl (pf rfl) (q1 ..)) ?_; refine xel rfl (ev_neqNil rfl rfl rfl (pt rfl)) ?_; refine xep rfl rfl ?_; refine runL_yes rfl rfl y1 ?_; refine xep rfl rfl ?_; refine runL_yes rfl rfl y1 ?_; refine xel rfl (ev_callQ rfl rfl rfl (pf rfl) (q1 ..)) ?_; refine runL_yes rfl rfl y1 ?_)
    refine runL_callZ [] [] rfl rfl rfl rfl rfl rfl rfl (pf rfl) (fun x => by (first | rfl | (simp only [List.append_eq, cnt_append, cnt_cons, cnt_nil, blk]; omega) | (simp only [List.append_eq, cnt_append, cnt_cons, cnt_nil, blk]; done))) (sp_borders _ b2 B hI2.up hw 1) ?_
    rintro v B1 own1
    obtain ⟨a1, c1, rfl, own1⟩ := own1.at
    (refine runL_yes rfl rfl y1 ?_; refine xep rfl rfl ?_; refine runL_yes rfl rfl y1 ?_)
    refine runL_callZ ([] ++ B1) [] rfl rfl rfl rfl rfl rfl rfl (pf rfl) (fun x => by (first | rfl | (simp only [List.append_eq, cnt_append, cnt_cons, cnt_nil, blk]; omega) | (simp only [List.append_eq, cnt_append, cnt_cons, cnt_nil, blk]; done))) (sp_borders _ b B hI1.up hw 1) ?_
    rintro v B2 own2
    obtain ⟨a2, c2, rfl, own2⟩ := own2.at
    (refine runL_yes rfl rfl y1 ?_)
    refine runL_ev rfl rfl rfl rfl (ev_callQ rfl rfl rfl (pf rfl) (sp_sameOrd _ a1 a2 (ordersL (B.side 1)).length c1 c2 (ordersL (B.side 1)) rfl (by omega) (own1.src fun x mx => by simp only [List.mem_append, mx, true_or, or_true]) (own2.src fun x mx => by simp only [List.mem_append, mx, true_or, or_true]))) ?_
    ((iterate 2 refine xep rfl rfl ?_); refine runL_yes rfl rfl y1 ?_; refine xep rfl rfl ?_; refine runL_yes rfl rfl y1 ?_; refine xel rfl (ev_callQ rfl rfl rfl (pf rfl) (q1 ..)) ?_; refine runL_yes rfl rfl y1 ?_)
    refine runL_callZ ([] ++ B1 ++ B2) [] rfl rfl rfl rfl rfl rfl rfl (pf rfl) (fun x => by (first | rfl | (simp only [List.append_eq, cnt_append, cnt_cons, cnt_nil, blk]; omega) | (simp only [List.append_eq, cnt_append, cnt_cons, cnt_nil, blk]; done))) (sp_borders _ b2 B hI2.up hw 2) ?_
    rintro v B3 own3
    obtain ⟨a3, c3, rfl, own3⟩ := own3.at
    (refine runL_yes rfl rfl y1 ?_; refine xep rfl rfl ?_; refine runL_yes rfl rfl y1 ?_)
    refine runL_callZ (([] ++ B1 ++ B2) ++ B3) [] rfl rfl rfl rfl rfl rfl rfl (pf rfl) (fun x => by (first | rfl | (simp only [List.append_eq, cnt_append, cnt_cons, cnt_nil, blk]; omega) | (simp only [List.append_eq, cnt_append, cnt_cons, cnt_nil, blk]; done))) (sp_borders _ b B hI1.up hw 2) ?_
    rintro v B4 own4
    obtain ⟨a4, c4, rfl, own4⟩ := own4.at
    (refine runL_yes rfl rfl y1 ?_)
    refine runL_ev rfl rfl rfl rfl (ev_callQ rfl rfl rfl (pf rfl) (sp_sameOrd _ a3 a4 (ordersL (B.side 2)).length c3 c4 (ordersL (B.side 2)) rfl (by omega) (own3.src fun x mx => by simp only [List.mem_append, mx, true_or, or_true]) (own4.src fun x mx => by simp only [List.mem_append, mx, true_or, or_true]))) ?_
    ((iterate 2 refine xep rfl rfl ?_); refine runL_yes rfl rfl y1 ?_; refine xep rfl rfl ?_; refine runL_yes rfl rfl y1 ?_)
    refine runL_callZ ([] ++ B1 ++ B2 ++ B3 ++ B4) [] rfl rfl rfl rfl rfl rfl rfl (pf rfl) (fun x => by (first | rfl | (simp only [List.append_eq, cnt_append, cnt_cons, cnt_nil, blk]; omega) | (simp only [List.append_eq, cnt_append, cnt_cons, cnt_nil, blk]; done))) (sp_swaiting _ m _ hMi.up (by show 0 ≤ 65536; decide)) ?_
    rintro v B5 own5
    obtain ⟨a5, c5, rfl, own5⟩ := own5.at
    have y5 : ((!Option.isNone (some (⟨b2, 0, none⟩ : Addr))) && true && true && decide (((([] : List Ord).length : Nat) : Int) = 0)) = true := rfl
    (refine runL_yes rfl rfl y1 ?_; refine xel rfl (ev_len rfl rfl (se rfl)) ?_; refine runL_yes rfl rfl y1 ?_; (iterate 3 refine xep rfl rfl ?_); refine runL_yes rfl rfl y1 ?_; refine xel rfl (ev_callQ rfl rfl rfl (pf rfl) (q3 ..)) ?_; (iterate 2 refine xep rfl rfl ?_); refine runL_nil ?_; refine then_normal ?_; refine run_ret ?_)
    exact ⟨_, rfl, rfl⟩
end Go.Proofs.Ytlokkniepoeepaa
