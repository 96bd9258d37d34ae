/- Contracts of functions of the given program over its translation, each proved by walking its text; used by the laws' rows. It proves no given statement by itself. -/
import Derived.Test.YtlokkniepoeepaaSLPlN
import Derived.Test.YtlokkniepoeepaaSLLaw11a
set_option autoImplicit false
set_option linter.unusedSectionVars false
set_option linter.unusedSimpArgs false
set_option linter.unusedVariables false
set_option maxRecDepth 4000
set_option maxHeartbeats 100000000
namespace Go.Proofs.Ytlokkniepoeepaa
open Go Go.SL Go.Proofs
variable [Base]
theorem stopsQuiet_sp (F : Heap) (a : Option Addr) (len cap : Nat) (rs : List (List Int)) (hR : RowsF F a len 7 rs) (hC : len ≤ cap) (hM : cap ≤ 9223372036854775807) :
    Sp Try.prog F 7 [.slice a len cap] [] (Ret (.bool true)) := by
  have q3 := stopsRuns_sp
  have hrl := hR.1
  refine sp_of_code Try.func7 rfl rfl ?_
  (refine run_seq ?_; refine run_region ?_; refine xep rfl rfl ?_; refine runL_nil ?_; refine then_normal ?_; refine run_seq ?_; refine run_region ?_)
  refine runL_call0 rfl rfl rfl rfl rfl rfl rfl (pf rfl) (sp_snew _) ?_
  rintro v H0 ⟨m, rfl, hH0⟩
  (refine xep rfl rfl ?_; refine runL_nil ?_; refine then_normal ?_; (iterate 2 refine run_seq ?_); refine run_region ?_; refine xep rfl rfl ?_; refine xel rfl (ev_eqNil rfl rfl rfl (pt rfl)) ?_; refine runL_nil ?_; refine then_normal ?_)
  refine run_condF rfl rfl ?_
  (refine run_skip ?_; refine then_normal ?_; (iterate 2 refine run_seq ?_); refine run_region ?_; refine xep rfl rfl ?_; refine runL_nil ?_; refine then_normal ?_; refine run_block ?_)
  refine run_loopK (σ := (Nat × Mk) × Heap) [0, 3, 4] (fun s => [(0, .slice a len cap), (3, .pointer (some ⟨m, 0, none⟩)), (4, .int .i64 s.1.1)]) (fun s => s.2)
    (fun s => s.1.1 ≤ len ∧ s.1.1 ≤ 60 ∧ MkH m s.1.2 s.2 ∧ MW s.1.2 ∧ s.1.2.B.no ≤ s.1.1 * 68157440 ∧ Uq s.1.2 ∧ Wst s.1.2) (fun s => 60 - s.1.1) ((0, emptyM), H0) ⟨Nat.zero_le _, Nat.zero_le _, hH0, emptyM_ok, by show (0 : Int) ≤ ((0 : Nat) : Int) * 68157440; decide, Uq.empty, fun _ m => nomatch m⟩ rfl (fun x => by (first | rfl | (simp only [List.append_eq, cnt_append, cnt_cons, cnt_nil, blk]; omega) | (simp only [List.append_eq, cnt_append, cnt_cons, cnt_nil, blk]; done))) ?_
  rintro ⟨⟨i, M⟩, H⟩ ⟨g1, g2, hH, hw, hno, hu, hst⟩
  dsimp only at g1 g2 hH hw hno hu hst ⊢
  ((iterate 2 refine run_seq ?_); refine run_region ?_; (iterate 2 refine xep rfl rfl ?_); refine xel rfl (ev_len rfl rfl (se rfl)) ?_; (iterate 2 refine xep rfl rfl ?_); (iterate 2 refine xgp rfl rfl rfl ?_); refine xep rfl rfl ?_; refine runL_nil ?_; refine then_normal ?_)
  (refine run_cond rfl (fun hc => ?_) (fun hc => ?_) <;> (try simp only [z0, z1, z2, z3, z4, z5, z6, z7, z8, z9, Bool.not_true, Bool.not_false, Bool.false_or, Bool.true_and, true_and, and_true, false_or, or_false, reduceCtorEq, Bool.false_eq_true] at hc))
  · obtain ⟨zb, off, rfl⟩ := hR.pos (by omega)
    obtain ⟨r, hr, hrl1, hrI, l1⟩ := RowsF.cell hR (i := i) (by omega)
    have q4 := fun F => sp_kStop F r hrl1
    have ko := (kS_right r).1
    generalize kS r = o at *
    have hkI : InI o.kind := by have h := ko; unfold rightP at h; unfold InI; omega
    have C1 := madd_Uq (o := o) hu
    have C2 := madd_stop (o := o) hst
    have C3 := madd_done o M
    have C4 : 1 ≤ (madd o M).1.length := by unfold madd; rw [List.length_cons]; omega
    have K := madd_ok (o := o) hw
    have cA := fun Y => sp_sadd Y H m M hH hw (by omega) o hkI
    generalize madd o M = X at *
    obtain ⟨outs, M2⟩ := X
    obtain ⟨C2, C5⟩ := C2
    obtain ⟨K1, K2, K3, K4⟩ := K
    dsimp only at C1 C2 C3 C4 C5 K1 K2 K3 K4 cA
    (refine run_skip ?_; refine then_normal ?_; refine run_seq ?_; refine run_block ?_; refine run_seq ?_; refine run_region ?_; (iterate 3 refine xep rfl rfl ?_); refine xel rfl (ev_indexAddr rfl rfl rfl (se rfl) (by omega) (by omega)) ?_)
    refine runL_ev rfl rfl rfl rfl (ev_loadAF rfl rfl (ag rfl) (sz rfl) l1 (by rw [ints_len]; exact hrl1)) ?_
    (refine xel rfl (ev_callQ rfl rfl rfl (pf rfl) (q4 ..)) ?_)
    clear l1
    refine runL_callZ [] H rfl rfl rfl rfl rfl rfl rfl (pf rfl) (fun y => by (first | rfl | (simp only [List.append_eq, cnt_append, cnt_cons, cnt_nil, blk]; omega) | (simp only [List.append_eq, cnt_append, cnt_cons, cnt_nil, blk]; done))) (cA _) ?_
    rintro v _ ⟨ao, co, ts, A, HF, H2, rfl, hts, htl, own, hF, hH2, rfl⟩
    have htl2 : ts.length = outs.length := by rw [← hts, List.length_map]
    (refine xep rfl rfl ?_)
    refine runL_nil ?_
    (refine then_normal ?_)
    refine run_midO (σ := Unit) [0, 3, 4] (fun _ => []) (fun _ => H2) (fun _ => True) rfl ?_ ?_
    · refine RunC.freeze ?_
      have src := own.src (H := ([] ++ (H2 ++ A ++ HF)) ++ F) fun x mx => by simp only [List.mem_append, mx, true_or, or_true]
      have hMi : MkIn (([] ++ (H2 ++ A ++ HF)) ++ F) m M2 := hH2.in fun x mx => by simp only [List.mem_append, mx, true_or, or_true]
      clear own hF hH2 hH hH0
      generalize ([] ++ (H2 ++ A ++ HF)) ++ F = Y at *
      obtain ⟨b, aw, cw, hB, hcw, hsw, hm⟩ := hMi
      have hMi : MkIn Y m M2 := ⟨b, aw, cw, hB, hcw, hsw, hm⟩
      have q1 := fun Z : Heap => sp_sbook (Z ++ Y) m b aw _ cw (List.mem_append_right Z hm)
      have q2 := fun Z : Heap => sp_blast (Z ++ Y) b M2.B hB.up
      have q6 := fun Z : Heap => sp_slen (Z ++ Y) m M2 hMi.up K1.b K1.len
      ((iterate 2 refine run_seq ?_); refine run_region ?_; refine xep rfl rfl ?_; refine xel rfl (ev_len rfl rfl (se rfl)) ?_; (iterate 2 refine xep rfl rfl ?_); refine xgp rfl rfl rfl ?_; refine xgl rfl rfl (fun hq => ev_callQ rfl rfl rfl (pf rfl) (q1 ..)) ?_; refine xgl rfl rfl (fun hq => ev_eqNil rfl rfl rfl (pt rfl)) ?_; refine xep rfl rfl ?_; refine runL_nil ?_; refine then_normal ?_)
      refine run_condF rfl (by rw [decide_eq_false (by omega)]; rfl) ?_
      (refine run_skip ?_; refine then_normal ?_; (iterate 2 refine run_seq ?_); refine run_region ?_; refine xep rfl rfl ?_; refine xel rfl (ev_len rfl rfl (se rfl)) ?_; refine xep rfl rfl ?_; refine runL_nil ?_; refine then_normal ?_; refine run_block ?_)
      refine run_loopK (σ := Nat) [0, 3, 4, 41, 42, 43] (fun k => [(0, .slice (some ⟨zb, off, none⟩) len cap), (3, .pointer (some ⟨m, 0, none⟩)), (4, .int .i64 i), (41, .slice ao ts.length co), (42, .int .i64 ts.length), (43, .int .i64 k)])
        (fun _ => []) (fun k => k ≤ ts.length) (fun k => ts.length - k) 0 (Nat.zero_le _) rfl (fun _ => rfl) ?_
      intro k gk
      (refine run_seq ?_; refine run_region ?_; refine xep rfl rfl ?_; refine runL_nil ?_; refine then_normal ?_; refine run_seq ?_)
      (refine run_cond rfl (fun hc => ?_) (fun hc => ?_) <;> (try simp only [z0, z1, z2, z3, z4, z5, z6, z7, z8, z9, Bool.not_true, Bool.not_false, Bool.false_or, Bool.true_and, true_and, and_true, false_or, or_false, reduceCtorEq, Bool.false_eq_true] at hc))
      · obtain ⟨b1, off1, _, _, _, rfl, _⟩ := src.pos (by omega)
        obtain ⟨⟨⟨a5, c5⟩, x⟩, ht⟩ : ∃ t, ts[k]? = some t := ⟨ts[k]'(by omega), List.getElem?_eq_getElem _⟩
        have l1 := SrcIs.row orow_len src rfl ht
        have hx : outs[k]? = some x := by rw [← hts, List.getElem?_map, ht]; rfl
        have hxs : 0 < k → x.order.stop ≠ 0 ∧ x.waits = false := fun h => C5 k x h hx
        dsimp only [orow] at l1
        (refine run_skip ?_; refine then_normal ?_; refine run_seq ?_; refine run_block ?_; refine run_seq ?_; refine run_region ?_; refine xep rfl rfl ?_; refine xel rfl (ev_indexAddr rfl rfl rfl (se rfl) (by omega) (by omega)) ?_; refine xel rfl (ev_loadAF rfl rfl (ag rfl) (sz rfl) l1 rfl) ?_; refine runL_alloc rfl rfl rfl rfl rfl ze32 (fun _ => ?_); refine xep rfl rfl ?_; refine runL_store0 rfl rfl rfl rfl rfl (sz rfl) rfl rfl rfl rfl rfl ?_; refine runL_nil ?_; refine then_normal ?_; refine run_seq ?_; refine run_region ?_; (iterate 3 refine xep rfl rfl ?_); (iterate 2 refine xgl rfl rfl (fun hq => ev_fieldAddr rfl rfl (fo rfl)) ?_); refine xgl rfl rfl (fun hq => ev_loadK rfl rfl (sc rfl) (memF (.head _)) rfl) ?_; (iterate 2 refine xgp rfl rfl rfl ?_); refine xgl rfl rfl (fun hq => ev_fieldAddr rfl rfl (fo rfl)) ?_; refine xgl rfl rfl (fun hq => ev_loadK rfl rfl (sc rfl) (memF (.head _)) rfl) ?_; refine xgp rfl rfl rfl ?_; refine xep rfl rfl ?_; refine runL_nil ?_; refine then_normal ?_)
        rename_i x8
        refine run_condF rfl (by
          by_cases hk : k = 0
          · subst hk; rfl
          · obtain ⟨h1, h2⟩ := hxs (by omega)
            rw [h2, decide_eq_false h1]; simp) ?_
        (refine run_skip ?_; refine in_normal ?_; refine then_normal ?_; refine run_region ?_; refine xel rfl (ev_add rfl rfl rfl (by omega)) ?_; refine xep rfl rfl ?_; refine runL_nil ?_; refine then_normal ?_)
        exact ⟨k + 1, by show k + 1 ≤ _; omega, by show ts.length - (k + 1) < ts.length - k; omega, rfl, [blk x8 (outV a5 c5 x) 32], fun y => rfl⟩
      · (refine run_exit ?_; (iterate 2 refine then_exit ?_); refine in_exit ?_; refine then_normal ?_)
        ((iterate 2 refine run_seq ?_); refine run_region ?_; refine xep rfl rfl ?_)
        refine runL_callZ [] [] rfl rfl rfl rfl rfl rfl rfl (pf rfl) (fun y => by (first | rfl | (simp only [List.append_eq, cnt_append, cnt_cons, cnt_nil, blk]; omega) | (simp only [List.append_eq, cnt_append, cnt_cons, cnt_nil, blk]; done))) (sp_swaiting _ m M2 hMi.up (by have := K1.len; unfold mlen at this; omega)) ?_
        rintro v A5 own5
        obtain ⟨a5, c5, rfl, own5⟩ := own5.at
        (refine xel rfl (ev_len rfl rfl (se rfl)) ?_)
        (refine xep rfl rfl ?_)
        refine runL_nil ?_
        (refine then_normal ?_)
        refine RunC.perm (h' := [] ++ A5) (fun y => by (first | rfl | (simp only [List.append_eq, cnt_append, cnt_cons, cnt_nil, blk]; omega) | (simp only [List.append_eq, cnt_append, cnt_cons, cnt_nil, blk]; done))) ?_
        refine RunC.freezeR ?_
        have srcW := own5.src (H := A5 ++ Y) fun x mx => List.mem_append_left _ mx
        clear own5
        have hMi2 : MkIn (A5 ++ Y) m M2 := hMi.up
        have hB2 : BkIn (A5 ++ Y) b M2.B := hB.up
        have hm2 := List.mem_append_right A5 hm
        clear src
        generalize A5 ++ Y = Y2 at *
        have hWl : M2.W.length ≤ 64 := by have := K1.len; unfold mlen at this; omega
        (refine run_block ?_)
        refine run_loopK (σ := Nat) [0, 3, 4, 62, 63, 64] (fun j => [(0, .slice (some ⟨zb, off, none⟩) len cap), (3, .pointer (some ⟨m, 0, none⟩)), (4, .int .i64 i), (62, .slice a5 M2.W.length c5), (63, .int .i64 M2.W.length), (64, .int .i64 j)])
          (fun _ => []) (fun j => j ≤ M2.W.length) (fun j => M2.W.length - j) 0 (Nat.zero_le _) rfl (fun _ => rfl) ?_
        intro j gj
        (refine run_seq ?_; refine run_region ?_; refine xep rfl rfl ?_; refine runL_nil ?_; refine then_normal ?_; refine run_seq ?_)
        (refine run_cond rfl (fun hc => ?_) (fun hc => ?_) <;> (try simp only [z0, z1, z2, z3, z4, z5, z6, z7, z8, z9, Bool.not_true, Bool.not_false, Bool.false_or, Bool.true_and, true_and, and_true, false_or, or_false, reduceCtorEq, Bool.false_eq_true] at hc))
        · obtain ⟨b1, off1, _, _, _, rfl, _⟩ := srcW.pos (by omega)
          obtain ⟨x, hx⟩ : ∃ x, M2.W[j]? = some x := ⟨M2.W[j]'(by omega), List.getElem?_eq_getElem _⟩
          have l1 := SrcIs.row oc_len srcW rfl hx
          have hxs := C2 x (List.mem_of_getElem? hx)
          have hxh := C3 x (List.mem_of_getElem? hx)
          (refine run_skip ?_; refine then_normal ?_; refine run_seq ?_; refine run_block ?_; refine run_seq ?_; refine run_region ?_; refine xel rfl (ev_indexAddr rfl rfl rfl (se rfl) (by omega) (by omega)) ?_; refine xel rfl (ev_loadAF rfl rfl (ag rfl) (sz rfl) l1 rfl) ?_; refine runL_alloc rfl rfl rfl rfl rfl ze27 (fun _ => ?_); refine runL_store0 rfl rfl rfl rfl rfl (sz rfl) rfl rfl rfl rfl rfl ?_; refine runL_nil ?_; refine then_normal ?_; refine run_seq ?_)
          rename_i x9
          refine RunC.perm (h' := [] ++ [blk x9 x.cells 27]) (fun y => rfl) ?_
          refine run_midO (σ := Unit) [0, 3, 4, 62, 63, 64] (fun _ => [(77, .bool false)]) (fun _ => []) (fun _ => True) rfl ?_ ?_
          · refine RunC.freezeR ?_
            have l2 : AggF ([blk x9 x.cells 27] ++ Y2) x9 0 x.cells := ⟨_, _, _, memF (.head _), Nat.le_refl _, rfl⟩
            have l3 := l2.at 8 _ rfl
            have q1 := fun Z : Heap => sp_sbook (Z ++ ([blk x9 x.cells 27] ++ Y2)) m b aw _ cw (List.mem_append_right Z (List.mem_append_right _ hm2))
            have q2 := fun Z : Heap => sp_blast (Z ++ ([blk x9 x.cells 27] ++ Y2)) b M2.B (hB2.up.up)
            have q5 := fun F => sp_hit F x M2.B.last
            have hge : decide (x.stop = 0) = false := decide_eq_false (by omega)
            refine run_region_D mo ?_
            (refine runD_q 0 rfl rfl (by kernel_rfl) ?_; refine ⟨_, fun _ => ev_fieldAddr rfl rfl (fo rfl), ?_⟩; refine runD_q 1 rfl rfl (by kernel_rfl) ?_; refine ⟨_, fun _ => ev_loadK rfl rfl (sc rfl) (memR (memF (.head _))) rfl, ?_⟩; refine runD_q 2 rfl rfl (by kernel_rfl) ?_; refine ⟨_, fun _ => ev_pure rfl, ?_⟩; refine runD_q 3 rfl rfl (by kernel_rfl) ?_; refine ⟨_, fun _ => ev_pure rfl, ?_⟩; refine runD_gq 4 rfl rfl rfl rfl rfl rfl hge (by kernel_rfl) ?_; refine ⟨_, fun _ => ev_loadAK rfl rfl (ag rfl) (sz rfl) (memR (memF (.head _))) rfl, ?_⟩; refine runD_gq 5 rfl rfl rfl rfl rfl rfl hge (by kernel_rfl) ?_; refine ⟨_, fun _ => ev_pure rfl, ?_⟩; refine runD_gq 6 rfl rfl rfl rfl rfl rfl hge (by kernel_rfl) ?_; refine ⟨_, fun _ => ev_callQ rfl rfl rfl (pf rfl) (q1 ..), ?_⟩; refine runD_gq 7 rfl rfl rfl rfl rfl rfl hge (by kernel_rfl) ?_; refine ⟨_, fun _ => ev_callQ rfl rfl rfl (pf rfl) (q2 ..), ?_⟩; refine runD_gq 8 rfl rfl rfl rfl rfl rfl hge (by kernel_rfl) ?_; refine ⟨_, fun _ => ev_callQ rfl rfl rfl (pf rfl) (q5 ..), ?_⟩; refine runD_q 9 rfl rfl (by kernel_rfl) ?_; refine ⟨_, fun _ => ev_pure rfl, ?_⟩; refine runD_done (by kernel_rfl) ?_)
            refine midN () [blk x9 x.cells 27] trivial ?_ (fun y => by (first | rfl | (simp only [List.append_eq, cnt_append, cnt_cons, cnt_nil, blk]; omega) | (simp only [List.append_eq, cnt_append, cnt_cons, cnt_nil, blk]; done)))
            rw [hge, hxh]; rfl
          · intro fr' h' hm
            (refine then_normal ?_)
            refine midN_out hm ?_
            clear hm
            rintro ⟨⟩ -
            refine run_condF rfl rfl ?_
            (refine run_skip ?_; refine in_normal ?_; refine then_normal ?_; refine run_region ?_; refine xel rfl (ev_add rfl rfl rfl (by omega)) ?_; refine xep rfl rfl ?_; refine runL_nil ?_; refine then_normal ?_)
            exact ⟨j + 1, by show j + 1 ≤ _; omega, by show M2.W.length - (j + 1) < M2.W.length - j; omega, rfl, [], fun y => rfl⟩
        · (refine run_exit ?_; (iterate 2 refine then_exit ?_); refine in_exit ?_; refine then_normal ?_)
          (refine run_seq ?_; refine run_region ?_; refine xep rfl rfl ?_)
          refine runL_callZ ([] ++ A5) [] rfl rfl rfl rfl rfl rfl rfl (pf rfl) (fun y => by (first | rfl | (simp only [List.append_eq, cnt_append, cnt_cons, cnt_nil, blk]; omega) | (simp only [List.append_eq, cnt_append, cnt_cons, cnt_nil, blk]; done))) (sp_sall _ m M2 hMi.up K1.b K1.len) ?_
          rintro v A9 own9
          obtain ⟨a9, c9, rfl, own9⟩ := own9.at
          have hml := mall_len M2
          have hwl := K1.len
          (refine xep rfl rfl ?_)
          refine runL_nil ?_
          (refine then_normal ?_)
          refine RunC.perm (h' := A5 ++ A9) (fun y => by (first | rfl | (simp only [List.append_eq, cnt_append, cnt_cons, cnt_nil, blk]; omega) | (simp only [List.append_eq, cnt_append, cnt_cons, cnt_nil, blk]; done))) ?_
          refine RunC.freezeR ?_
          have srcA := own9.src (H := A9 ++ Y) fun x mx => List.mem_append_left _ mx
          clear own9 srcW
          clear hMi2 hB2 hm2
          have huq : ∀ {a c : Nat} {x y : Ord}, (mall M2)[a]? = some x → (mall M2)[c]? = some y → x.trader = y.trader ∧ x.id = y.id → a = c := fun h1 h2 h3 => C1.at h1 h2 h3
          have q6 := fun Z : Heap => sp_slen (Z ++ (A9 ++ Y)) m M2 hMi.up.up K1.b K1.len
          rw [← hml] at q6
          generalize mall M2 = all at *
          generalize A9 ++ Y = Y3 at *
          ((iterate 2 refine run_seq ?_); refine run_region ?_; refine xep rfl rfl ?_; refine xel rfl (ev_len rfl rfl (se rfl)) ?_; refine xep rfl rfl ?_; refine runL_nil ?_; refine then_normal ?_; refine run_block ?_)
          refine run_loopK (σ := Nat) [0, 3, 4, 10, 81, 82, 83] (fun j => [(0, .slice (some ⟨zb, off, none⟩) len cap), (3, .pointer (some ⟨m, 0, none⟩)), (4, .int .i64 i), (10, .slice a9 all.length c9), (81, .slice a9 all.length c9), (82, .int .i64 all.length), (83, .int .i64 j)])
            (fun _ => A5) (fun j => j ≤ all.length) (fun j => all.length - j) 0 (Nat.zero_le _) rfl (fun _ => rfl) ?_
          intro p gp
          (refine run_seq ?_; refine run_region ?_; refine xep rfl rfl ?_; refine runL_nil ?_; refine then_normal ?_; refine run_seq ?_)
          (refine run_cond rfl (fun hc => ?_) (fun hc => ?_) <;> (try simp only [z0, z1, z2, z3, z4, z5, z6, z7, z8, z9, Bool.not_true, Bool.not_false, Bool.false_or, Bool.true_and, true_and, and_true, false_or, or_false, reduceCtorEq, Bool.false_eq_true] at hc))
          · (refine run_skip ?_; refine then_normal ?_; refine run_seq ?_; refine run_block ?_; refine run_seq ?_; refine run_region ?_; (iterate 2 refine xep rfl rfl ?_); refine runL_nil ?_; refine then_normal ?_; refine run_seq ?_; refine run_region ?_; refine xep rfl rfl ?_; refine runL_nil ?_; refine then_normal ?_; refine run_block ?_)
            refine run_loopK (σ := Nat) [0, 3, 4, 10, 11, 12, 81, 82, 83] (fun c => [(0, .slice (some ⟨zb, off, none⟩) len cap), (3, .pointer (some ⟨m, 0, none⟩)), (4, .int .i64 i), (10, .slice a9 all.length c9), (11, .int .i64 p), (12, .int .i64 c), (81, .slice a9 all.length c9), (82, .int .i64 all.length), (83, .int .i64 p)])
              (fun _ => A5) (fun c => c ≤ p) (fun c => p - c) 0 (Nat.zero_le _) rfl (fun _ => rfl) ?_
            intro c gc
            ((iterate 2 refine run_seq ?_); refine run_region ?_; (iterate 3 refine xep rfl rfl ?_); refine runL_nil ?_; refine then_normal ?_)
            (refine run_cond rfl (fun hc => ?_) (fun hc => ?_) <;> (try simp only [z0, z1, z2, z3, z4, z5, z6, z7, z8, z9, Bool.not_true, Bool.not_false, Bool.false_or, Bool.true_and, true_and, and_true, false_or, or_false, reduceCtorEq, Bool.false_eq_true] at hc))
            · obtain ⟨b1, off1, _, _, _, rfl, _⟩ := srcA.pos (by omega)
              obtain ⟨x, hx⟩ : ∃ x, all[p]? = some x := ⟨all[p]'(by omega), List.getElem?_eq_getElem _⟩
              obtain ⟨y, hy⟩ : ∃ y, all[c]? = some y := ⟨all[c]'(by omega), List.getElem?_eq_getElem _⟩
              have lx := SrcIs.row oc_len srcA rfl hx
              have ly := SrcIs.row oc_len srcA rfl hy
              have l1 : LoadsF Y3 b1 (off1 + (p : Int).toNat * 9 + 0) (.int .i64 x.trader) := lx.at 0 _ rfl
              have l2 : LoadsF Y3 b1 (off1 + (p : Int).toNat * 9 + 1) (.int .i64 x.id) := lx.at 1 _ rfl
              have l3 : LoadsF Y3 b1 (off1 + (c : Int).toNat * 9 + 0) (.int .i64 y.trader) := ly.at 0 _ rfl
              have l4 : LoadsF Y3 b1 (off1 + (c : Int).toNat * 9 + 1) (.int .i64 y.id) := ly.at 1 _ rfl
              (refine run_skip ?_; refine then_normal ?_; refine run_seq ?_; refine run_block ?_; refine run_seq ?_)
              by_cases htr : x.trader = y.trader
              · have hid : ¬ x.id = y.id := fun e => by have := huq hx hy ⟨htr, e⟩; omega
                have hgd : decide (x.trader = y.trader) = true := decide_eq_true htr
                refine run_region_D mo ?_
                (refine runD_q 0 rfl rfl (by kernel_rfl) ?_; refine ⟨_, fun _ => ev_pure rfl, ?_⟩; refine runD_q 1 rfl rfl (by kernel_rfl) ?_; refine ⟨_, fun _ => ev_pure rfl, ?_⟩; refine runD_q 2 rfl rfl (by kernel_rfl) ?_; refine ⟨_, fun _ => ev_indexAddr rfl rfl rfl (se rfl) (by omega) (by omega), ?_⟩; refine runD_q 3 rfl rfl (by kernel_rfl) ?_; refine ⟨_, fun _ => ev_fieldAddr rfl rfl (fo rfl), ?_⟩; refine runD_q 4 rfl rfl (by kernel_rfl) ?_; refine ⟨_, fun _ => ev_loadF rfl rfl (sc rfl) l1, ?_⟩; refine runD_q 5 rfl rfl (by kernel_rfl) ?_; refine ⟨_, fun _ => ev_pure rfl, ?_⟩; refine runD_q 6 rfl rfl (by kernel_rfl) ?_; refine ⟨_, fun _ => ev_pure rfl, ?_⟩; refine runD_q 7 rfl rfl (by kernel_rfl) ?_; refine ⟨_, fun _ => ev_indexAddr rfl rfl rfl (se rfl) (by omega) (by omega), ?_⟩; refine runD_q 8 rfl rfl (by kernel_rfl) ?_; refine ⟨_, fun _ => ev_fieldAddr rfl rfl (fo rfl), ?_⟩; refine runD_q 9 rfl rfl (by kernel_rfl) ?_; refine ⟨_, fun _ => ev_loadF rfl rfl (sc rfl) l3, ?_⟩; refine runD_q 10 rfl rfl (by kernel_rfl) ?_; refine ⟨_, fun _ => ev_pure rfl, ?_⟩; refine runD_q 11 rfl rfl (by kernel_rfl) ?_; refine ⟨_, fun _ => ev_pure rfl, ?_⟩; refine runD_gq 12 rfl rfl rfl rfl rfl rfl hgd (by kernel_rfl) ?_; refine ⟨_, fun _ => ev_pure rfl, ?_⟩; refine runD_gq 13 rfl rfl rfl rfl rfl rfl hgd (by kernel_rfl) ?_; refine ⟨_, fun _ => ev_pure rfl, ?_⟩; refine runD_gq 14 rfl rfl rfl rfl rfl rfl hgd (by kernel_rfl) ?_; refine ⟨_, fun _ => ev_indexAddr rfl rfl rfl (se rfl) (by omega) (by omega), ?_⟩; refine runD_gq 15 rfl rfl rfl rfl rfl rfl hgd (by kernel_rfl) ?_; refine ⟨_, fun _ => ev_fieldAddr rfl rfl (fo rfl), ?_⟩; refine runD_gq 16 rfl rfl rfl rfl rfl rfl hgd (by kernel_rfl) ?_; refine ⟨_, fun _ => ev_loadF rfl rfl (sc rfl) l2, ?_⟩; refine runD_gq 17 rfl rfl rfl rfl rfl rfl hgd (by kernel_rfl) ?_; refine ⟨_, fun _ => ev_pure rfl, ?_⟩; refine runD_gq 18 rfl rfl rfl rfl rfl rfl hgd (by kernel_rfl) ?_; refine ⟨_, fun _ => ev_pure rfl, ?_⟩; refine runD_gq 19 rfl rfl rfl rfl rfl rfl hgd (by kernel_rfl) ?_; refine ⟨_, fun _ => ev_indexAddr rfl rfl rfl (se rfl) (by omega) (by omega), ?_⟩; refine runD_gq 20 rfl rfl rfl rfl rfl rfl hgd (by kernel_rfl) ?_; refine ⟨_, fun _ => ev_fieldAddr rfl rfl (fo rfl), ?_⟩; refine runD_gq 21 rfl rfl rfl rfl rfl rfl hgd (by kernel_rfl) ?_; refine ⟨_, fun _ => ev_loadF rfl rfl (sc rfl) l4, ?_⟩; refine runD_gq 22 rfl rfl rfl rfl rfl rfl hgd (by kernel_rfl) ?_; refine ⟨_, fun _ => ev_pure rfl, ?_⟩; refine runD_q 23 rfl rfl (by kernel_rfl) ?_; refine ⟨_, fun _ => ev_pure rfl, ?_⟩; refine runD_done (by kernel_rfl) ?_; refine then_normal ?_)
                refine run_condF rfl (by rw [decide_eq_false hid]; simp) ?_
                (refine run_skip ?_; refine in_normal ?_; refine then_normal ?_; refine run_region ?_; refine xep rfl rfl ?_; refine xel rfl (ev_add rfl rfl rfl (by omega)) ?_; refine xep rfl rfl ?_; refine runL_nil ?_; refine then_normal ?_)
                exact ⟨c + 1, by show c + 1 ≤ _; omega, by show p - (c + 1) < p - c; omega, rfl, [], fun y => by (first | rfl | (simp only [List.append_eq, cnt_append, cnt_cons, cnt_nil, blk]; omega) | (simp only [List.append_eq, cnt_append, cnt_cons, cnt_nil, blk]; done))⟩
              · have hge : decide (x.trader = y.trader) = false := decide_eq_false htr
                refine run_region_D mo ?_
                (refine runD_q 0 rfl rfl (by kernel_rfl) ?_; refine ⟨_, fun _ => ev_pure rfl, ?_⟩; refine runD_q 1 rfl rfl (by kernel_rfl) ?_; refine ⟨_, fun _ => ev_pure rfl, ?_⟩; refine runD_q 2 rfl rfl (by kernel_rfl) ?_; refine ⟨_, fun _ => ev_indexAddr rfl rfl rfl (se rfl) (by omega) (by omega), ?_⟩; refine runD_q 3 rfl rfl (by kernel_rfl) ?_; refine ⟨_, fun _ => ev_fieldAddr rfl rfl (fo rfl), ?_⟩; refine runD_q 4 rfl rfl (by kernel_rfl) ?_; refine ⟨_, fun _ => ev_loadF rfl rfl (sc rfl) l1, ?_⟩; refine runD_q 5 rfl rfl (by kernel_rfl) ?_; refine ⟨_, fun _ => ev_pure rfl, ?_⟩; refine runD_q 6 rfl rfl (by kernel_rfl) ?_; refine ⟨_, fun _ => ev_pure rfl, ?_⟩; refine runD_q 7 rfl rfl (by kernel_rfl) ?_; refine ⟨_, fun _ => ev_indexAddr rfl rfl rfl (se rfl) (by omega) (by omega), ?_⟩; refine runD_q 8 rfl rfl (by kernel_rfl) ?_; refine ⟨_, fun _ => ev_fieldAddr rfl rfl (fo rfl), ?_⟩; refine runD_q 9 rfl rfl (by kernel_rfl) ?_; refine ⟨_, fun _ => ev_loadF rfl rfl (sc rfl) l3, ?_⟩; refine runD_q 10 rfl rfl (by kernel_rfl) ?_; refine ⟨_, fun _ => ev_pure rfl, ?_⟩; refine runD_q 11 rfl rfl (by kernel_rfl) ?_; refine ⟨_, fun _ => ev_pure rfl, ?_⟩; refine runD_gn 12 rfl rfl rfl rfl rfl rfl hge (by kernel_rfl) ?_; refine runD_gn 13 rfl rfl rfl rfl rfl rfl hge (by kernel_rfl) ?_; refine runD_gn 14 rfl rfl rfl rfl rfl rfl hge (by kernel_rfl) ?_; refine runD_gn 15 rfl rfl rfl rfl rfl rfl hge (by kernel_rfl) ?_; refine runD_gn 16 rfl rfl rfl rfl rfl rfl hge (by kernel_rfl) ?_; refine runD_gn 17 rfl rfl rfl rfl rfl rfl hge (by kernel_rfl) ?_; refine runD_gn 18 rfl rfl rfl rfl rfl rfl hge (by kernel_rfl) ?_; refine runD_gn 19 rfl rfl rfl rfl rfl rfl hge (by kernel_rfl) ?_; refine runD_gn 20 rfl rfl rfl rfl rfl rfl hge (by kernel_rfl) ?_; refine runD_gn 21 rfl rfl rfl rfl rfl rfl hge (by kernel_rfl) ?_; refine runD_gn 22 rfl rfl rfl rfl rfl rfl hge (by kernel_rfl) ?_; refine runD_q 23 rfl rfl (by kernel_rfl) ?_; refine ⟨_, fun _ => ev_pickF rfl rfl hge rfl, ?_⟩; refine runD_done (by kernel_rfl) ?_; refine then_normal ?_)
                refine run_condF rfl rfl ?_
                (refine run_skip ?_; refine in_normal ?_; refine then_normal ?_; refine run_region ?_; refine xep rfl rfl ?_; refine xel rfl (ev_add rfl rfl rfl (by omega)) ?_; refine xep rfl rfl ?_; refine runL_nil ?_; refine then_normal ?_)
                exact ⟨c + 1, by show c + 1 ≤ _; omega, by show p - (c + 1) < p - c; omega, rfl, [], fun y => by (first | rfl | (simp only [List.append_eq, cnt_append, cnt_cons, cnt_nil, blk]; omega) | (simp only [List.append_eq, cnt_append, cnt_cons, cnt_nil, blk]; done))⟩
            · (refine run_exit ?_; (iterate 2 refine then_exit ?_); refine in_exit ?_; refine in_normal ?_; refine then_normal ?_)
              (refine run_region ?_; refine xel rfl (ev_add rfl rfl rfl (by omega)) ?_; refine xep rfl rfl ?_; refine runL_nil ?_; refine then_normal ?_)
              exact ⟨p + 1, by show p + 1 ≤ _; omega, by show all.length - (p + 1) < all.length - p; omega, rfl, [], fun y => by (first | rfl | (simp only [List.append_eq, cnt_append, cnt_cons, cnt_nil, blk]; omega) | (simp only [List.append_eq, cnt_append, cnt_cons, cnt_nil, blk]; done))⟩
          · (refine run_exit ?_; (iterate 2 refine then_exit ?_); refine in_exit ?_; refine then_normal ?_)
            have y1 : (!decide ((all.length : Int) = (all.length : Int))) = false := by simp
            (refine run_seq ?_; refine run_region ?_; refine xep rfl rfl ?_; refine xel rfl (ev_callQ rfl rfl rfl (pf rfl) (q6 ..)) ?_; refine xep rfl rfl ?_; refine xel rfl (ev_len rfl rfl (se rfl)) ?_; (iterate 2 refine xep rfl rfl ?_); refine runL_yes rfl rfl y1 ?_; refine xep rfl rfl ?_; refine runL_yes rfl rfl y1 ?_; refine xel rfl (ev_len rfl rfl (se rfl)) ?_; refine runL_yes rfl rfl y1 ?_; (iterate 2 refine xep rfl rfl ?_); refine runL_nil ?_; refine then_normal ?_)
            refine run_condF rfl (by rw [decide_eq_false (by omega : ¬ (64 : Int) < (all.length : Int))]; simp) ?_
            (refine run_skip ?_)
            exact midN () (A5 ++ A9 ++ (A ++ HF)) trivial rfl (fun x => by (first | rfl | (simp only [List.append_eq, cnt_append, cnt_cons, cnt_nil, blk]; omega) | (simp only [List.append_eq, cnt_append, cnt_cons, cnt_nil, blk]; done)))
    · intro fr' h' hm
      (refine in_normal ?_; refine then_normal ?_)
      refine midN_out hm ?_
      clear hm
      rintro ⟨⟩ -
      (refine run_region ?_; refine xep rfl rfl ?_; refine xel rfl (ev_add rfl rfl rfl (by omega)) ?_; refine xep rfl rfl ?_; refine runL_nil ?_; refine then_normal ?_)
      exact ⟨((i + 1, M2), H2), ⟨by show i + 1 ≤ _; omega, by show i + 1 ≤ _; omega, hH2, K1, by show M2.B.no ≤ ((i + 1 : Nat) : Int) * 68157440; omega, C1, C2⟩, by show 60 - (i + 1) < 60 - i; omega, rfl, [], fun y => by (first | rfl | (simp only [List.append_eq, cnt_append, cnt_cons, cnt_nil, blk]; omega) | (simp only [List.append_eq, cnt_append, cnt_cons, cnt_nil, blk]; done))⟩
  · (refine run_exit ?_; (iterate 2 refine then_exit ?_); refine in_exit ?_; refine then_normal ?_)
    (refine run_seq ?_; refine run_region ?_; refine xel rfl (ev_callQ rfl rfl rfl (pf rfl) (q3 ..)) ?_; refine xep rfl rfl ?_; refine runL_nil ?_; refine then_normal ?_; refine run_ret ?_)
    exact ⟨_, rfl, rfl⟩
end Go.Proofs.Ytlokkniepoeepaa
