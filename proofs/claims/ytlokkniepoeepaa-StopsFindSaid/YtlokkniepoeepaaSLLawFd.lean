/- Contracts of functions of the given program over its translation, each proved by walking its text; used by the laws' rows. It proves no given statement by itself. -/
import Derived.Test.YtlokkniepoeepaaSLPlUX
import Derived.Test.YtlokkniepoeepaaSLSt7
import Derived.Test.YtlokkniepoeepaaSLLaw11a
set_option autoImplicit false
set_option linter.unusedSectionVars false
set_option linter.unusedSimpArgs false
set_option linter.unusedVariables false
set_option maxRecDepth 4000
set_option maxHeartbeats 100000000
namespace Go.Proofs.Ytlokkniepoeepaa
open Go Go.SL Go.Proofs
variable [Base]
theorem stopsFind_sp (F : Heap) (a : Option Addr) (len cap : Nat) (rs : List (List Int)) (at_ : Int) (hR : RowsF F a len 7 rs) (hC : len ≤ cap) (hM : cap ≤ 9223372036854775807) (hat : InI at_) :
    Sp Try.prog F 8 [.slice a len cap, .int .i64 at_] [] (Ret (.bool true)) := by
  have q3 := stopsRuns_sp
  have hrl := hR.1
  refine sp_of_code Try.func8 rfl rfl ?_
  (refine run_seq ?_; refine run_region ?_; refine xep rfl rfl ?_; refine runL_nil ?_; refine then_normal ?_; refine run_seq ?_; refine run_region ?_)
  refine runL_call0 rfl rfl rfl rfl rfl rfl rfl (pf rfl) (sp_snew _) ?_
  rintro v H0 ⟨m, rfl, hH0⟩
  (refine xep rfl rfl ?_; refine runL_nil ?_; refine then_normal ?_; (iterate 2 refine run_seq ?_); refine run_region ?_; refine xep rfl rfl ?_; refine xel rfl (ev_eqNil rfl rfl rfl (pt rfl)) ?_; refine runL_nil ?_; refine then_normal ?_)
  refine run_condF rfl rfl ?_
  (refine run_skip ?_; refine then_normal ?_; (iterate 2 refine run_seq ?_); refine run_region ?_; refine xep rfl rfl ?_; refine runL_nil ?_; refine then_normal ?_; refine run_block ?_)
  refine run_loopK (σ := (Nat × Mk) × Heap) [0, 1, 5, 6] (fun s => [(0, .slice a len cap), (1, .int .i64 at_), (5, .pointer (some ⟨m, 0, none⟩)), (6, .int .i64 s.1.1)]) (fun s => s.2)
    (fun s => s.1.1 ≤ len ∧ s.1.1 ≤ 40 ∧ MkH m s.1.2 s.2 ∧ MW s.1.2 ∧ s.1.2.B.no ≤ s.1.1 * 68157440 ∧ Uq s.1.2) (fun s => 40 - s.1.1) ((0, emptyM), H0) ⟨Nat.zero_le _, Nat.zero_le _, hH0, emptyM_ok, by show (0 : Int) ≤ ((0 : Nat) : Int) * 68157440; decide, Uq.empty⟩ rfl (fun x => by (first | rfl | (simp only [List.append_eq, cnt_append, cnt_cons, cnt_nil, blk]; omega) | (simp only [List.append_eq, cnt_append, cnt_cons, cnt_nil, blk]; done))) ?_
  rintro ⟨⟨i, M⟩, H⟩ ⟨g1, g2, hH, hw, hno, hu⟩
  dsimp only at g1 g2 hH hw hno hu ⊢
  ((iterate 2 refine run_seq ?_); refine run_region ?_; (iterate 2 refine xep rfl rfl ?_); refine xel rfl (ev_len rfl rfl (se rfl)) ?_; (iterate 2 refine xep rfl rfl ?_); (iterate 2 refine xgp rfl rfl rfl ?_); refine xep rfl rfl ?_; refine runL_nil ?_; refine then_normal ?_)
  (refine run_cond rfl (fun hc => ?_) (fun hc => ?_) <;> (try simp only [z0, z1, z2, z3, z4, z5, z6, z7, z8, z9, Bool.not_true, Bool.not_false, Bool.false_or, Bool.true_and, true_and, and_true, false_or, or_false, reduceCtorEq, Bool.false_eq_true] at hc))
  · obtain ⟨zb, off, rfl⟩ := hR.pos (by omega)
    obtain ⟨r, hr, hrl1, hrI, l1⟩ := RowsF.cell hR (i := i) (by omega)
    have q4 := fun F => sp_kStop F r hrl1
    have ko := (kS_right r).1
    generalize kS r = o at *
    have hkI : InI o.kind := by have h := ko; unfold rightP at h; unfold InI; omega
    have C1 := madd_Uq (o := o) hu
    have K := madd_ok (o := o) hw
    have cA := fun Y => sp_sadd Y H m M hH hw (by omega) o hkI
    generalize madd o M = X at *
    obtain ⟨outs, M2⟩ := X
    obtain ⟨K1, K2, K3, K4⟩ := K
    dsimp only at C1 K1 K2 K3 K4 cA
    (refine run_skip ?_; refine then_normal ?_; refine run_seq ?_; refine run_block ?_; refine run_region ?_; (iterate 3 refine xep rfl rfl ?_); refine xel rfl (ev_indexAddr rfl rfl rfl (se rfl) (by omega) (by omega)) ?_)
    refine runL_ev rfl rfl rfl rfl (ev_loadAF rfl rfl (ag rfl) (sz rfl) l1 (by rw [ints_len]; exact hrl1)) ?_
    (refine xel rfl (ev_callQ rfl rfl rfl (pf rfl) (q4 ..)) ?_)
    refine runL_callZ [] H rfl rfl rfl rfl rfl rfl rfl (pf rfl) (fun y => by (first | rfl | (simp only [List.append_eq, cnt_append, cnt_cons, cnt_nil, blk]; omega) | (simp only [List.append_eq, cnt_append, cnt_cons, cnt_nil, blk]; done))) (cA _) ?_
    rintro v _ ⟨ao, co, ts, A, HF, H2, rfl, hts, htl, own, hF, hH2, rfl⟩
    (refine runL_nil ?_; refine in_normal ?_; refine then_normal ?_; refine run_region ?_; refine xep rfl rfl ?_; refine xel rfl (ev_add rfl rfl rfl (by omega)) ?_; refine xep rfl rfl ?_; refine runL_nil ?_; refine then_normal ?_)
    exact ⟨((i + 1, M2), H2), ⟨by show i + 1 ≤ _; omega, by show i + 1 ≤ _; omega, hH2, K1, by show M2.B.no ≤ ((i + 1 : Nat) : Int) * 68157440; omega, C1⟩, by show 40 - (i + 1) < 40 - i; omega, rfl, A ++ HF, fun y => by (first | rfl | (simp only [List.append_eq, cnt_append, cnt_cons, cnt_nil, blk]; omega) | (simp only [List.append_eq, cnt_append, cnt_cons, cnt_nil, blk]; done))⟩
  · (refine run_exit ?_; (iterate 2 refine then_exit ?_); refine in_exit ?_; refine then_normal ?_)
    have hml := mall_len M
    have hl64 := hw.len
    (refine run_seq ?_; refine run_region ?_; refine xep rfl rfl ?_)
    refine runL_callZ H [] rfl rfl rfl rfl rfl rfl rfl (pf rfl) (fun y => by (first | rfl | (simp only [List.append_eq, cnt_append, cnt_cons, cnt_nil, blk]; omega) | (simp only [List.append_eq, cnt_append, cnt_cons, cnt_nil, blk]; done))) (sp_sall _ m M (hH.in fun x mx => by simp [mx]) hw.b hw.len) ?_
    rintro v A7 own7
    obtain ⟨a7, c7, rfl, own7⟩ := own7.at
    have hc7 : (mall M).length ≤ c7 := by
      obtain ⟨_, _, hv, h2⟩ := own7.form
      cases hv; exact h2
    (refine xep rfl rfl ?_)
    refine runL_nil ?_
    (refine then_normal ?_)
    refine RunC.freezeR ?_
    have srcA := own7.src (H := A7 ++ F) fun x mx => List.mem_append_left _ mx
    clear own7 hR hrl
    generalize A7 ++ F = Y at *
    have hfa : ∀ {k : Nat} {x : Ord}, (mall M)[k]? = some x → mfind x.trader x.id M = (x, true) := fun h => mfind_at hu h
    have hra : ∀ {k : Nat} {x : Ord}, (mall M)[k]? = some x → _ := fun h => mremove_at hw hu h
    rw [← hml] at hl64
    have hln := hw.b
    have hwl : M.W.length ≤ 65536 := by have := hw.len; unfold mlen at this; omega
    generalize hall : mall M = all at *
    refine run_seq ?_
    refine run_midO (σ := Unit) [1, 5, 7] (fun _ => []) (fun _ => H) (fun _ => True) rfl ?_ ?_
    · refine RunC.freeze ?_
      have hMi : MkIn (H ++ Y) m M := hH.in fun x mx => List.mem_append_left _ mx
      have srcA2 := srcA.up (A := H)
      clear hH hH0 srcA
      generalize H ++ Y = Y2 at *
      (refine run_seq ?_; refine run_region ?_; refine xep rfl rfl ?_; refine xel rfl (ev_len rfl rfl (se rfl)) ?_; refine xep rfl rfl ?_; refine runL_nil ?_; refine then_normal ?_; refine run_block ?_)
      refine run_loopK (σ := Nat) [1, 5, 7, 42, 43, 44] (fun j => [(1, .int .i64 at_), (5, .pointer (some ⟨m, 0, none⟩)), (7, .slice a7 all.length c7), (42, .slice a7 all.length c7), (43, .int .i64 all.length), (44, .int .i64 j)])
        (fun _ => []) (fun j => j ≤ all.length) (fun j => all.length - j) 0 (Nat.zero_le _) rfl (fun _ => rfl) ?_
      intro j gj
      (refine run_seq ?_; refine run_region ?_; refine xep rfl rfl ?_; refine runL_nil ?_; refine then_normal ?_; refine run_seq ?_)
      (refine run_cond rfl (fun hc => ?_) (fun hc => ?_) <;> (try simp only [z0, z1, z2, z3, z4, z5, z6, z7, z8, z9, Bool.not_true, Bool.not_false, Bool.false_or, Bool.true_and, true_and, and_true, false_or, or_false, reduceCtorEq, Bool.false_eq_true] at hc))
      · obtain ⟨b1, off1, _, _, _, rfl, _⟩ := srcA2.pos (by omega)
        obtain ⟨x, hx⟩ : ∃ x, all[j]? = some x := ⟨all[j]'(by omega), List.getElem?_eq_getElem _⟩
        have l1 := SrcIs.row oc_len srcA2 rfl hx
        have q1 := fun Z : Heap => sp_sFind (Z ++ Y2) m M hMi.up hw.b hwl x.trader x.id
        rw [hfa hx] at q1
        have k1 := ctOrd
        have k2 := tyOrd x
        have k3 := eqOrd x
        have hge : (!true) = false := rfl
        (refine run_skip ?_; refine then_normal ?_; refine run_seq ?_; refine run_block ?_; refine run_seq ?_; refine run_region ?_; refine xel rfl (ev_indexAddr rfl rfl rfl (se rfl) (by omega) (by omega)) ?_; refine xel rfl (ev_loadAF rfl rfl (ag rfl) (sz rfl) l1 rfl) ?_; refine runL_alloc rfl rfl rfl rfl rfl ze27 (fun _ => ?_); refine runL_store0 rfl rfl rfl rfl rfl (sz rfl) rfl rfl rfl rfl rfl ?_; refine runL_nil ?_; refine then_normal ?_; refine run_seq ?_; refine run_region ?_; refine xep rfl rfl ?_; refine xel rfl (ev_fieldAddr rfl rfl (fo rfl)) ?_; refine xel rfl (ev_loadK rfl rfl (sc rfl) (memF (.head _)) rfl) ?_; refine xel rfl (ev_fieldAddr rfl rfl (fo rfl)) ?_; refine xel rfl (ev_loadK rfl rfl (sc rfl) (memF (.head _)) rfl) ?_; refine xel rfl (ev_callQ rfl rfl rfl (pf rfl) (q1 ..)) ?_; (iterate 3 refine xep rfl rfl ?_); refine runL_alloc rfl rfl rfl rfl rfl ze27 (fun _ => ?_); refine runL_store0 rfl rfl rfl rfl rfl (sz rfl) rfl rfl rfl rfl rfl ?_; refine xep rfl rfl ?_; refine runL_nil ?_; refine then_normal ?_; refine run_seq ?_; refine run_region ?_; (iterate 3 refine xep rfl rfl ?_); refine runL_yes rfl rfl hge ?_; refine xel rfl (ev_loadAK rfl rfl (ag rfl) (sz rfl) (memF (.head _)) rfl) ?_; refine runL_yes rfl rfl hge ?_; refine xel rfl (ev_loadAK rfl rfl (ag rfl) (sz rfl) (memF (.tail _ (.head _))) rfl) ?_; refine runL_yes rfl rfl hge ?_; refine xel rfl (ev_neqQ rfl rfl rfl k1 rfl k2 k3) ?_; refine xep rfl rfl ?_; refine runL_nil ?_; refine then_normal ?_)
        rename_i x9 x10
        refine run_condF rfl rfl ?_
        (refine run_skip ?_; refine in_normal ?_; refine then_normal ?_; refine run_region ?_; refine xel rfl (ev_add rfl rfl rfl (by omega)) ?_; refine xep rfl rfl ?_; refine runL_nil ?_; refine then_normal ?_)
        exact ⟨j + 1, by show j + 1 ≤ _; omega, by show all.length - (j + 1) < all.length - j; omega, rfl, [blk x10 x.cells 27, blk x9 x.cells 27], fun y => rfl⟩
      · (refine run_exit ?_; (iterate 2 refine then_exit ?_); refine in_exit ?_)
        exact midN () [] trivial rfl (fun x => by (first | rfl | (simp only [List.append_eq, cnt_append, cnt_cons, cnt_nil, blk]; omega) | (simp only [List.append_eq, cnt_append, cnt_cons, cnt_nil, blk]; done)))
    · intro fr' h' hm
      (refine then_normal ?_)
      refine midN_out hm ?_
      clear hm
      rintro ⟨⟩ -
      ((iterate 2 refine run_seq ?_); refine run_region ?_; refine xep rfl rfl ?_; refine xel rfl (ev_len rfl rfl (se rfl)) ?_; refine xep rfl rfl ?_; refine runL_nil ?_; refine then_normal ?_)
      by_cases hn0 : all.length = 0
      · refine run_condT rfl (decide_eq_true (by omega)) ?_
        (refine run_seq ?_; refine run_region ?_; refine xel rfl (ev_callQ rfl rfl rfl (pf rfl) (q3 ..)) ?_; refine xep rfl rfl ?_; refine runL_nil ?_; refine then_normal ?_; refine run_ret ?_; refine then_ret ?_)
        exact ⟨_, rfl, rfl⟩
      · refine run_condF rfl (decide_eq_false (by omega)) ?_
        have q8 := fun F => sp_Win F at_ 0 ((all.length : Int) - 1) (by omega) (by omega) (by omega)
        have wk := win_in at_ (show (0 : Int) ≤ (all.length : Int) - 1 by omega)
        obtain ⟨k, hk⟩ : ∃ k : Nat, win at_ 0 ((all.length : Int) - 1) = k := ⟨(win at_ 0 ((all.length : Int) - 1)).toNat, by omega⟩
        rw [hk] at q8 wk
        obtain ⟨x, hx⟩ : ∃ x, all[k]? = some x := ⟨all[k]'(by omega), List.getElem?_eq_getElem _⟩
        obtain ⟨r1, r2, r3, r4, r5⟩ := mremove_at hw hu (by rw [hall]; exact hx)
        rw [hall] at r3
        have rm := fun Z => sp_sremove Z H m M hH hw.b hwl x.trader x.id
        generalize mremove x.trader x.id M = R at *
        obtain ⟨y1, y2, M2⟩ := R
        dsimp only at r1 r2 r3 r4 r5 rm
        subst r1 r2
        obtain ⟨n1, n2, n3⟩ := gone_no r5
        have hwl2 : M2.W.length ≤ 65536 := by have := r4.len; unfold mlen at this; omega
        obtain ⟨b7, off7, _, _, _, rfl, _⟩ := srcA.pos (by omega)
        have l1 := SrcIs.row oc_len srcA rfl hx
        have l2 : LoadsF Y b7 (off7 + (k : Int).toNat * 9 + 0) (.int .i64 y1.trader) := l1.at 0 _ rfl
        have l3 : LoadsF Y b7 (off7 + (k : Int).toNat * 9 + 1) (.int .i64 y1.id) := l1.at 1 _ rfl
        (refine run_skip ?_; refine then_normal ?_; refine run_seq ?_; refine run_region ?_; (iterate 2 refine xep rfl rfl ?_); refine xel rfl (ev_len rfl rfl (se rfl)) ?_; refine xel rfl (ev_sub rfl rfl rfl (by omega)) ?_; refine xel rfl (ev_callQ rfl rfl rfl (pf rfl) (q8 ..)) ?_; refine xep rfl rfl ?_; refine runL_nil ?_; refine then_normal ?_; refine run_seq ?_)
        refine run_midO (σ := Nat × Heap) [5, 7, 12] (fun s => [(13, .pointer (some ⟨s.1, 0, none⟩)), (14, .bool true)]) (fun s => blk s.1 y1.cells 27 :: s.2) (fun s => MkH m M2 s.2) rfl ?_ ?_
        · refine run_region_D mo ?_
          (refine runD_q 0 rfl rfl (by kernel_rfl) ?_; refine ⟨_, fun _ => ev_pure rfl, ?_⟩; refine runD_q 1 rfl rfl (by kernel_rfl) ?_; refine ⟨_, fun _ => ev_pure rfl, ?_⟩; refine runD_q 2 rfl rfl (by kernel_rfl) ?_; refine ⟨_, fun _ => ev_pure rfl, ?_⟩; refine runD_q 3 rfl rfl (by kernel_rfl) ?_; refine ⟨_, fun _ => ev_indexAddr rfl rfl rfl (se rfl) (by omega) (by omega), ?_⟩; refine runD_q 4 rfl rfl (by kernel_rfl) ?_; refine ⟨_, fun _ => ev_fieldAddr rfl rfl (fo rfl), ?_⟩; refine runD_q 5 rfl rfl (by kernel_rfl) ?_; refine ⟨_, fun _ => ev_loadF rfl rfl (sc rfl) l2, ?_⟩; refine runD_q 6 rfl rfl (by kernel_rfl) ?_; refine ⟨_, fun _ => ev_pure rfl, ?_⟩; refine runD_q 7 rfl rfl (by kernel_rfl) ?_; refine ⟨_, fun _ => ev_pure rfl, ?_⟩; refine runD_q 8 rfl rfl (by kernel_rfl) ?_; refine ⟨_, fun _ => ev_indexAddr rfl rfl rfl (se rfl) (by omega) (by omega), ?_⟩; refine runD_q 9 rfl rfl (by kernel_rfl) ?_; refine ⟨_, fun _ => ev_fieldAddr rfl rfl (fo rfl), ?_⟩; refine runD_q 10 rfl rfl (by kernel_rfl) ?_; refine ⟨_, fun _ => ev_loadF rfl rfl (sc rfl) l3, ?_⟩)
          refine runD_2 11 15 (by kernel_rfl) (oneD rfl rfl rfl ?_) (oneD rfl rfl rfl ?_)
          · refine runL_callZ [] H rfl rfl rfl rfl rfl rfl rfl (pf rfl) (fun y => by (first | rfl | (simp only [List.append_eq, cnt_append, cnt_cons, cnt_nil, blk]; omega) | (simp only [List.append_eq, cnt_append, cnt_cons, cnt_nil, blk]; done))) (rm _) ?_
            rintro v H2 ⟨rfl, hH2⟩
            (refine runL_nil ?_; refine endS_d rfl ?_; refine runD_q 12 rfl rfl (by kernel_rfl) ?_; refine ⟨_, fun _ => ev_pure rfl, ?_⟩; refine runD_q 13 rfl rfl (by kernel_rfl) ?_; refine ⟨_, fun _ => ev_pure rfl, ?_⟩; refine runD_q 14 rfl rfl (by kernel_rfl) ?_; refine ⟨_, fun _ => ev_pure rfl, ?_⟩; refine runD_1 15 (by kernel_rfl) rfl rfl rfl ?_; refine runL_alloc rfl rfl rfl rfl rfl ze27 (fun _ => ?_); refine runL_nil ?_; refine endS_d rfl ?_; refine runD_1 16 (by kernel_rfl) rfl rfl rfl ?_; refine runL_store0 rfl rfl rfl rfl rfl (sz rfl) rfl rfl rfl rfl rfl ?_; refine runL_nil ?_; refine endS_n rfl ?_; refine runD_q 17 rfl rfl (by kernel_rfl) ?_; refine ⟨_, fun _ => ev_pure rfl, ?_⟩; refine runD_done (by kernel_rfl) ?_)
            rename_i b13
            exact midN (b13, H2) [] hH2 rfl (fun x => by show cnt x (blk b13 y1.cells 27 :: H2) = _; (first | rfl | (simp only [List.append_eq, cnt_append, cnt_cons, cnt_nil, blk]; omega) | (simp only [List.append_eq, cnt_append, cnt_cons, cnt_nil, blk]; done)))
          · (refine runL_alloc rfl rfl rfl rfl rfl ze27 (fun _ => ?_); refine runL_nil ?_; refine endS_d rfl ?_; refine runD_1 11 (by kernel_rfl) rfl rfl rfl ?_)
            rename_i b13
            refine RunL.perm (h' := blk b13 o0.cells 27 :: H) (fun x => rfl) ?_
            refine runL_callZ [blk b13 o0.cells 27] H rfl rfl rfl rfl rfl rfl rfl (pf rfl) (fun y => by (first | rfl | (simp only [List.append_eq, cnt_append, cnt_cons, cnt_nil, blk]; omega) | (simp only [List.append_eq, cnt_append, cnt_cons, cnt_nil, blk]; done))) (rm _) ?_
            rintro v H2 ⟨rfl, hH2⟩
            (refine runL_nil ?_; refine endS_d rfl ?_; refine runD_q 12 rfl rfl (by kernel_rfl) ?_; refine ⟨_, fun _ => ev_pure rfl, ?_⟩; refine runD_q 13 rfl rfl (by kernel_rfl) ?_; refine ⟨_, fun _ => ev_pure rfl, ?_⟩; refine runD_q 14 rfl rfl (by kernel_rfl) ?_; refine ⟨_, fun _ => ev_pure rfl, ?_⟩; refine runD_1 16 (by kernel_rfl) rfl rfl rfl ?_; refine runL_store0 rfl rfl rfl rfl rfl (sz rfl) rfl rfl rfl rfl rfl ?_; refine runL_nil ?_; refine endS_n rfl ?_; refine runD_q 17 rfl rfl (by kernel_rfl) ?_; refine ⟨_, fun _ => ev_pure rfl, ?_⟩; refine runD_done (by kernel_rfl) ?_)
            exact midN (b13, H2) [] hH2 rfl (fun x => by show cnt x (blk b13 y1.cells 27 :: H2) = _; (first | rfl | (simp only [List.append_eq, cnt_append, cnt_cons, cnt_nil, blk]; omega) | (simp only [List.append_eq, cnt_append, cnt_cons, cnt_nil, blk]; done)))
        · intro fr' h' hm
          (refine then_normal ?_)
          refine midN_out hm ?_
          clear hm
          rintro ⟨b13, H2⟩ hH2
          dsimp only at hH2 ⊢
          refine run_seq ?_
          refine run_midO (σ := Unit) [5, 7, 12, 13, 14] (fun _ => [(16, .bool false)]) (fun _ => blk b13 y1.cells 27 :: H2) (fun _ => True) rfl ?_ ?_
          · refine RunC.freeze ?_
            have hMi : MkIn ((blk b13 y1.cells 27 :: H2) ++ Y) m M2 := hH2.in fun z mz => List.mem_append_left _ (.tail _ mz)
            have l4 := l2.up (A := blk b13 y1.cells 27 :: H2)
            have l5 := l3.up (A := blk b13 y1.cells 27 :: H2)
            have q1 := fun Z : Heap => sp_sFind (Z ++ ((blk b13 y1.cells 27 :: H2) ++ Y)) m M2 hMi.up r4.b hwl2 y1.trader y1.id
            rw [n1] at q1
            generalize (mfind y1.trader y1.id M2).1 = w at *
            refine run_region_D mo ?_
            (refine runD_q 0 rfl rfl (by kernel_rfl) ?_; refine ⟨_, fun _ => ev_pure rfl, ?_⟩; refine runD_q 1 rfl rfl (by kernel_rfl) ?_; refine ⟨_, fun _ => ev_pure rfl, ?_⟩; refine runD_q 2 rfl rfl (by kernel_rfl) ?_; refine ⟨_, fun _ => ev_pure rfl, ?_⟩; refine runD_q 3 rfl rfl (by kernel_rfl) ?_; refine ⟨_, fun _ => ev_indexAddr rfl rfl rfl (se rfl) (by omega) (by omega), ?_⟩; refine runD_q 4 rfl rfl (by kernel_rfl) ?_; refine ⟨_, fun _ => ev_fieldAddr rfl rfl (fo rfl), ?_⟩; refine runD_q 5 rfl rfl (by kernel_rfl) ?_; refine ⟨_, fun _ => ev_loadF rfl rfl (sc rfl) l2.up, ?_⟩; refine runD_q 6 rfl rfl (by kernel_rfl) ?_; refine ⟨_, fun _ => ev_pure rfl, ?_⟩; refine runD_q 7 rfl rfl (by kernel_rfl) ?_; refine ⟨_, fun _ => ev_pure rfl, ?_⟩; refine runD_q 8 rfl rfl (by kernel_rfl) ?_; refine ⟨_, fun _ => ev_indexAddr rfl rfl rfl (se rfl) (by omega) (by omega), ?_⟩; refine runD_q 9 rfl rfl (by kernel_rfl) ?_; refine ⟨_, fun _ => ev_fieldAddr rfl rfl (fo rfl), ?_⟩; refine runD_q 10 rfl rfl (by kernel_rfl) ?_; refine ⟨_, fun _ => ev_loadF rfl rfl (sc rfl) l3.up, ?_⟩; refine runD_q 11 rfl rfl (by kernel_rfl) ?_; refine ⟨_, fun _ => ev_callQ rfl rfl rfl (pf rfl) (q1 ..), ?_⟩; refine runD_q 12 rfl rfl (by kernel_rfl) ?_; refine ⟨_, fun _ => ev_pure rfl, ?_⟩; refine runD_q 13 rfl rfl (by kernel_rfl) ?_; refine ⟨_, fun _ => ev_pure rfl, ?_⟩; refine runD_q 14 rfl rfl (by kernel_rfl) ?_; refine ⟨_, fun _ => ev_pure rfl, ?_⟩; refine runD_1 15 (by kernel_rfl) rfl rfl rfl ?_; refine runL_alloc rfl rfl rfl rfl rfl ze27 (fun _ => ?_); refine runL_nil ?_; refine endS_d rfl ?_; refine runD_1 16 (by kernel_rfl) rfl rfl rfl ?_; refine runL_store0 rfl rfl rfl rfl rfl (sz rfl) rfl rfl rfl rfl rfl ?_; refine runL_nil ?_; refine endS_n rfl ?_; refine runD_q 17 rfl rfl (by kernel_rfl) ?_; refine ⟨_, fun _ => ev_pure rfl, ?_⟩; refine runD_done (by kernel_rfl) ?_)
            rename_i b15
            exact midN () [blk b15 w.cells 27] trivial rfl (fun x => by show cnt x (blk b15 w.cells 27 :: (blk b13 y1.cells 27 :: H2)) = _; (first | rfl | (simp only [List.append_eq, cnt_append, cnt_cons, cnt_nil, blk]; omega) | (simp only [List.append_eq, cnt_append, cnt_cons, cnt_nil, blk]; done)))
          · intro fr' h' hm
            (refine then_normal ?_)
            refine midN_out hm ?_
            clear hm
            rintro ⟨⟩ -
            have rm2 := fun Z => sp_sremove Z H2 m M2 hH2 r4.b hwl2 y1.trader y1.id
            rw [n2, n3] at rm2
            generalize (mremove y1.trader y1.id M2).1 = w at *
            refine run_seq ?_
            refine run_midO (σ := Heap) [5, 7, 12, 13, 14, 16] (fun _ => [(18, .bool false)]) (fun s => blk b13 y1.cells 27 :: s) (fun s => MkH m M2 s) rfl ?_ ?_
            · refine run_region_D mo ?_
              (refine runD_q 0 rfl rfl (by kernel_rfl) ?_; refine ⟨_, fun _ => ev_pure rfl, ?_⟩; refine runD_q 1 rfl rfl (by kernel_rfl) ?_; refine ⟨_, fun _ => ev_pure rfl, ?_⟩; refine runD_q 2 rfl rfl (by kernel_rfl) ?_; refine ⟨_, fun _ => ev_pure rfl, ?_⟩; refine runD_q 3 rfl rfl (by kernel_rfl) ?_; refine ⟨_, fun _ => ev_indexAddr rfl rfl rfl (se rfl) (by omega) (by omega), ?_⟩; refine runD_q 4 rfl rfl (by kernel_rfl) ?_; refine ⟨_, fun _ => ev_fieldAddr rfl rfl (fo rfl), ?_⟩; refine runD_q 5 rfl rfl (by kernel_rfl) ?_; refine ⟨_, fun _ => ev_loadF rfl rfl (sc rfl) l2, ?_⟩; refine runD_q 6 rfl rfl (by kernel_rfl) ?_; refine ⟨_, fun _ => ev_pure rfl, ?_⟩; refine runD_q 7 rfl rfl (by kernel_rfl) ?_; refine ⟨_, fun _ => ev_pure rfl, ?_⟩; refine runD_q 8 rfl rfl (by kernel_rfl) ?_; refine ⟨_, fun _ => ev_indexAddr rfl rfl rfl (se rfl) (by omega) (by omega), ?_⟩; refine runD_q 9 rfl rfl (by kernel_rfl) ?_; refine ⟨_, fun _ => ev_fieldAddr rfl rfl (fo rfl), ?_⟩; refine runD_q 10 rfl rfl (by kernel_rfl) ?_; refine ⟨_, fun _ => ev_loadF rfl rfl (sc rfl) l3, ?_⟩)
              refine runD_2 11 15 (by kernel_rfl) (oneD rfl rfl rfl ?_) (oneD rfl rfl rfl ?_)
              · refine runL_callZ [blk b13 y1.cells 27] H2 rfl rfl rfl rfl rfl rfl rfl (pf rfl) (fun y => by (first | rfl | (simp only [List.append_eq, cnt_append, cnt_cons, cnt_nil, blk]; omega) | (simp only [List.append_eq, cnt_append, cnt_cons, cnt_nil, blk]; done))) (rm2 _) ?_
                rintro v H3 ⟨rfl, hH3⟩
                (refine runL_nil ?_; refine endS_d rfl ?_; refine runD_q 12 rfl rfl (by kernel_rfl) ?_; refine ⟨_, fun _ => ev_pure rfl, ?_⟩; refine runD_q 13 rfl rfl (by kernel_rfl) ?_; refine ⟨_, fun _ => ev_pure rfl, ?_⟩; refine runD_q 14 rfl rfl (by kernel_rfl) ?_; refine ⟨_, fun _ => ev_pure rfl, ?_⟩; refine runD_1 15 (by kernel_rfl) rfl rfl rfl ?_; refine runL_alloc rfl rfl rfl rfl rfl ze27 (fun _ => ?_); refine runL_nil ?_; refine endS_d rfl ?_; refine runD_1 16 (by kernel_rfl) rfl rfl rfl ?_; refine runL_store0 rfl rfl rfl rfl rfl (sz rfl) rfl rfl rfl rfl rfl ?_; refine runL_nil ?_; refine endS_n rfl ?_; refine runD_q 17 rfl rfl (by kernel_rfl) ?_; refine ⟨_, fun _ => ev_pure rfl, ?_⟩; refine runD_done (by kernel_rfl) ?_)
                rename_i b17
                exact midN H3 [blk b17 w.cells 27] hH3 rfl (fun x => by show cnt x (blk b17 w.cells 27 :: ([blk b13 y1.cells 27] ++ H3)) = _; (first | rfl | (simp only [List.append_eq, cnt_append, cnt_cons, cnt_nil, blk]; omega) | (simp only [List.append_eq, cnt_append, cnt_cons, cnt_nil, blk]; done)))
              · (refine runL_alloc rfl rfl rfl rfl rfl ze27 (fun _ => ?_); refine runL_nil ?_; refine endS_d rfl ?_; refine runD_1 11 (by kernel_rfl) rfl rfl rfl ?_)
                rename_i b17
                refine RunL.perm (h' := blk b17 o0.cells 27 :: (blk b13 y1.cells 27 :: H2)) (fun x => rfl) ?_
                refine runL_callZ [blk b17 o0.cells 27, blk b13 y1.cells 27] H2 rfl rfl rfl rfl rfl rfl rfl (pf rfl) (fun y => by (first | rfl | (simp only [List.append_eq, cnt_append, cnt_cons, cnt_nil, blk]; omega) | (simp only [List.append_eq, cnt_append, cnt_cons, cnt_nil, blk]; done))) (rm2 _) ?_
                rintro v H3 ⟨rfl, hH3⟩
                (refine runL_nil ?_; refine endS_d rfl ?_; refine runD_q 12 rfl rfl (by kernel_rfl) ?_; refine ⟨_, fun _ => ev_pure rfl, ?_⟩; refine runD_q 13 rfl rfl (by kernel_rfl) ?_; refine ⟨_, fun _ => ev_pure rfl, ?_⟩; refine runD_q 14 rfl rfl (by kernel_rfl) ?_; refine ⟨_, fun _ => ev_pure rfl, ?_⟩; refine runD_1 16 (by kernel_rfl) rfl rfl rfl ?_; refine runL_store0 rfl rfl rfl rfl rfl (sz rfl) rfl rfl rfl rfl rfl ?_; refine runL_nil ?_; refine endS_n rfl ?_; refine runD_q 17 rfl rfl (by kernel_rfl) ?_; refine ⟨_, fun _ => ev_pure rfl, ?_⟩; refine runD_done (by kernel_rfl) ?_)
                exact midN H3 [blk b17 w.cells 27] hH3 rfl (fun x => by show cnt x (blk b17 w.cells 27 :: ([blk b13 y1.cells 27] ++ H3)) = _; (first | rfl | (simp only [List.append_eq, cnt_append, cnt_cons, cnt_nil, blk]; omega) | (simp only [List.append_eq, cnt_append, cnt_cons, cnt_nil, blk]; done)))
            · intro fr' h' hm
              (refine then_normal ?_)
              refine midN_out hm ?_
              clear hm
              rintro H3 hH3
              refine run_seq ?_
              refine run_midO (σ := Option Addr × Nat × Heap) [5, 7, 12, 13, 14, 16, 18] (fun s => [(19, .slice s.1 (all.take k ++ all.drop (k + 1)).length s.2.1)]) (fun s => blk b13 y1.cells 27 :: (H3 ++ s.2.2)) (fun s => OwnS 27 9 (.slice s.1 (all.take k ++ all.drop (k + 1)).length s.2.1) (all.take k ++ all.drop (k + 1)).length (rows Ord.cells (all.take k ++ all.drop (k + 1))) s.2.2) rfl ?_ ?_
              · refine run_region_D mo ?_
                (refine runD_q 1 rfl rfl (by kernel_rfl) ?_; refine ⟨_, fun _ => ev_pure rfl, ?_⟩; refine runD_q 2 rfl rfl (by kernel_rfl) ?_; refine ⟨_, fun _ => ev_pure rfl, ?_⟩; refine runD_q 3 rfl rfl (by kernel_rfl) ?_; refine ⟨_, fun _ => ev_sliceHi rfl rfl rfl (se rfl) (by omega) (by omega), ?_⟩; refine runD_q 5 rfl rfl (by kernel_rfl) ?_; refine ⟨_, fun _ => ev_pure rfl, ?_⟩; refine runD_q 6 rfl rfl (by kernel_rfl) ?_; refine ⟨_, fun _ => ev_pure rfl, ?_⟩; refine runD_q 7 rfl rfl (by kernel_rfl) ?_; refine ⟨_, fun _ => ev_add rfl rfl rfl (by omega), ?_⟩; refine runD_q 8 rfl rfl (by kernel_rfl) ?_; refine ⟨_, fun _ => ev_sliceLo rfl rfl rfl (se rfl) (by omega) (by omega), ?_⟩; refine runD_1 0 (by kernel_rfl) rfl rfl rfl ?_)
                have ek : ((k : Int) + 1).toNat = k + 1 := by omega
                have ek0 : (k : Int).toNat = k := by omega
                rw [ek, ek0]
                have s1 := srcA.take (k := k) (by omega)
                rw [rows_take oc_len all (by omega)] at s1
                have s2 := srcA.drop (k := k + 1) (by omega) hc7
                rw [rows_drop oc_len all (by omega)] at s2
                refine runL_buildSlice (l := []) rfl rfl rfl rfl rfl (se rfl) ze27 rfl rfl rfl rfl rfl (fun b119 => ?_)
                (refine runL_nil ?_; refine endS_d rfl ?_; refine runD_1 4 (by kernel_rfl) rfl rfl rfl ?_)
                refine runL_append (blk b13 y1.cells 27 :: H3) rfl rfl rfl rfl rfl rfl rfl (se rfl) (se rfl) ze27 rfl (byt rfl) (OwnS.lit (l := []) (b := b119) rfl) (fun y => by (first | rfl | (simp only [List.append_eq, cnt_append, cnt_cons, cnt_nil, blk]; omega) | (simp only [List.append_eq, cnt_append, cnt_cons, cnt_nil, blk]; done))) s1.up (rows_cells (fun _ => rfl) _) (by decide) (by decide) (by omega) ?_
                rintro v1 A1 own1
                rw [Nat.zero_add, List.nil_append] at own1
                obtain ⟨a1, c1, rfl, own1⟩ := own1.at
                (refine runL_nil ?_; refine endS_d rfl ?_; refine runD_1 9 (by kernel_rfl) rfl rfl rfl ?_)
                refine runL_append (blk b13 y1.cells 27 :: H3) rfl rfl rfl rfl rfl rfl rfl (se rfl) (se rfl) ze27 rfl (byt rfl) own1 (fun y => by (first | rfl | (simp only [List.append_eq, cnt_append, cnt_cons, cnt_nil, blk]; omega) | (simp only [List.append_eq, cnt_append, cnt_cons, cnt_nil, blk]; done))) s2.up (rows_cells (fun _ => rfl) _) (by decide) (by decide) (by omega) ?_
                rintro v2 A2 own2
                rw [← rows_append] at own2
                have hlen : k + (all.length - (k + 1)) = (all.take k ++ all.drop (k + 1)).length := by
                  rw [List.length_append, List.length_take, List.length_drop]; omega
                rw [hlen] at own2
                obtain ⟨a2, c2, rfl, own2⟩ := own2.at
                (refine runL_nil ?_; refine endS_d rfl ?_; refine runD_q 10 rfl rfl (by kernel_rfl) ?_; refine ⟨_, fun _ => ev_pure rfl, ?_⟩; refine runD_done (by kernel_rfl) ?_)
                exact midN (a2, c2, A2) [] own2 rfl (fun x => by (first | rfl | (simp only [List.append_eq, cnt_append, cnt_cons, cnt_nil, blk]; omega) | (simp only [List.append_eq, cnt_append, cnt_cons, cnt_nil, blk]; done)))
              · intro fr' h' hm
                (refine then_normal ?_)
                refine midN_out hm ?_
                clear hm
                rintro ⟨a19, c19, A19⟩ own19
                dsimp only at own19 ⊢
                refine RunC.freeze ?_
                have hMi : MkIn ((blk b13 y1.cells 27 :: (H3 ++ A19)) ++ Y) m M2 := hH3.in fun z mz => List.mem_append_left _ (.tail _ (List.mem_append_left _ mz))
                have s19 := own19.src (H := (blk b13 y1.cells 27 :: (H3 ++ A19)) ++ Y) fun z mz => List.mem_append_left _ (.tail _ (List.mem_append_right _ mz))
                have l4 : AggF ((blk b13 y1.cells 27 :: (H3 ++ A19)) ++ Y) b13 0 y1.cells := ⟨_, _, _, memF (.head _), Nat.le_refl _, rfl⟩
                have l5 := l1.up (A := blk b13 y1.cells 27 :: (H3 ++ A19))
                have hgd : true = true := rfl
                have y1' : (!false) = true := rfl
                have k1 := ctOrd
                have k2 := tyOrd y1
                have k3 := eqOrd y1
                refine run_seq ?_
                refine run_region_D mo ?_
                (refine runD_q 0 rfl rfl (by kernel_rfl) ?_; refine ⟨_, fun _ => ev_pure rfl, ?_⟩; refine runD_q 1 rfl rfl (by kernel_rfl) ?_; refine ⟨_, fun _ => ev_pure rfl, ?_⟩; refine runD_gq 2 rfl rfl rfl rfl rfl rfl hgd (by kernel_rfl) ?_; refine ⟨_, fun _ => ev_loadAK rfl rfl (ag rfl) (sz rfl) (memR (memF (.head _))) rfl, ?_⟩; refine runD_gq 3 rfl rfl rfl rfl rfl rfl hgd (by kernel_rfl) ?_; refine ⟨_, fun _ => ev_pure rfl, ?_⟩; refine runD_gq 4 rfl rfl rfl rfl rfl rfl hgd (by kernel_rfl) ?_; refine ⟨_, fun _ => ev_pure rfl, ?_⟩; refine runD_gq 5 rfl rfl rfl rfl rfl rfl hgd (by kernel_rfl) ?_; refine ⟨_, fun _ => ev_indexAddr rfl rfl rfl (se rfl) (by omega) (by omega), ?_⟩; refine runD_gq 6 rfl rfl rfl rfl rfl rfl hgd (by kernel_rfl) ?_; refine ⟨_, fun _ => ev_loadAF rfl rfl (ag rfl) (sz rfl) l1.up rfl, ?_⟩; refine runD_gq 7 rfl rfl rfl rfl rfl rfl hgd (by kernel_rfl) ?_; refine ⟨_, fun _ => ev_eqQ rfl rfl rfl k1 rfl k2 k3, ?_⟩; refine runD_q 8 rfl rfl (by kernel_rfl) ?_; refine ⟨_, fun _ => ev_pure rfl, ?_⟩; refine runD_q 9 rfl rfl (by kernel_rfl) ?_; refine ⟨_, fun _ => ev_pure rfl, ?_⟩; refine runD_gq 10 rfl rfl rfl rfl rfl rfl hgd (by kernel_rfl) ?_; refine ⟨_, fun _ => ev_pure rfl, ?_⟩; refine runD_gq 11 rfl rfl rfl rfl rfl rfl hgd (by kernel_rfl) ?_; refine ⟨_, fun _ => ev_pure rfl, ?_⟩; refine runD_q 12 rfl rfl (by kernel_rfl) ?_; refine ⟨_, fun _ => ev_pure rfl, ?_⟩; refine runD_q 13 rfl rfl (by kernel_rfl) ?_; refine ⟨_, fun _ => ev_pure rfl, ?_⟩; refine runD_gq 14 rfl rfl rfl rfl rfl rfl hgd (by kernel_rfl) ?_; refine ⟨_, fun _ => ev_pure rfl, ?_⟩; refine runD_gq 15 rfl rfl rfl rfl rfl rfl hgd (by kernel_rfl) ?_; refine ⟨_, fun _ => ev_pure rfl, ?_⟩; refine runD_q 16 rfl rfl (by kernel_rfl) ?_; refine ⟨_, fun _ => ev_pure rfl, ?_⟩; refine runD_q 17 rfl rfl (by kernel_rfl) ?_; refine ⟨_, fun _ => ev_pure rfl, ?_⟩; refine runD_gq 18 rfl rfl rfl rfl rfl rfl hgd (by kernel_rfl) ?_; refine ⟨_, fun _ => ev_pure rfl, ?_⟩; refine runD_gq 20 rfl rfl rfl rfl rfl rfl hgd (by kernel_rfl) ?_; refine ⟨_, fun _ => ev_pure rfl, ?_⟩; refine runD_g1 19 (by kernel_rfl) rfl rfl rfl rfl hgd rfl rfl ?_)
                refine runL_callZ [] [] rfl rfl rfl rfl rfl rfl rfl (pf rfl) (fun y => by (first | rfl | (simp only [List.append_eq, cnt_append, cnt_cons, cnt_nil, blk]; omega) | (simp only [List.append_eq, cnt_append, cnt_cons, cnt_nil, blk]; done))) (sp_sall _ m M2 hMi.up r4.b r4.len) ?_
                rw [r3]
                rintro v A9 own9
                obtain ⟨a9, c9, rfl, own9⟩ := own9.at
                have hll : (all.take k ++ all.drop (k + 1)).length ≤ 2097152 := by
                  rw [List.length_append, List.length_take, List.length_drop]; omega
                generalize all.take k ++ all.drop (k + 1) = left at *
                (refine runL_nil ?_; refine endS_d rfl ?_; refine runD_g1 21 (by kernel_rfl) rfl rfl rfl rfl hgd rfl rfl ?_)
                refine runL_ev rfl rfl rfl rfl (ev_callQ rfl rfl rfl (pf rfl) (sp_sameOrd _ a9 a19 left.length c9 c19 left rfl hll (own9.src fun z mz => by simp only [List.mem_append, mz, true_or, or_true]) s19.up)) ?_
                (refine runL_nil ?_; refine endS_d rfl ?_; refine runD_q 22 rfl rfl (by kernel_rfl) ?_; refine ⟨_, fun _ => ev_pure rfl, ?_⟩; refine runD_q 23 rfl rfl (by kernel_rfl) ?_; refine ⟨_, fun _ => ev_pure rfl, ?_⟩; refine runD_gq 24 rfl rfl rfl rfl rfl rfl hgd (by kernel_rfl) ?_; refine ⟨_, fun _ => ev_callQ rfl rfl rfl (pf rfl) (q3 ..), ?_⟩; refine runD_q 25 rfl rfl (by kernel_rfl) ?_; refine ⟨_, fun _ => ev_pure rfl, ?_⟩; refine runD_q 26 rfl rfl (by kernel_rfl) ?_; refine ⟨_, fun _ => ev_pure rfl, ?_⟩; refine runD_done (by kernel_rfl) ?_; refine then_normal ?_; refine run_ret ?_)
                exact ⟨_, rfl, rfl⟩
end Go.Proofs.Ytlokkniepoeepaa
