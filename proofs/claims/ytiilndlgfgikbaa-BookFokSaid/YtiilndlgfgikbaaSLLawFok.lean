/- Contracts of functions of the given program over its translation, each proved by walking its text; used by the laws' rows. It proves no given statement by itself. -/
import Derived.Test.YtiilndlgfgikbaaSLPlKX
import Derived.Test.YtiilndlgfgikbaaSLBk6
import Derived.Test.YtiilndlgfgikbaaSLDraw2
set_option autoImplicit false
set_option linter.unusedSectionVars false
set_option linter.unusedSimpArgs false
set_option linter.unusedVariables false
set_option maxRecDepth 4000
set_option maxHeartbeats 200000000
namespace Go.Proofs.Ytiilndlgfgikbaa
open Go Go.SL Go.Proofs
def zOut : List Value := [.int .i64 0, .int .i64 0, .int .i64 0, .int .i64 0, .int .i64 0, .int .i64 0, .int .i64 0, .int .i64 0, .int .i64 0, .slice none 0 0, .int .i64 0, .bool false, .bool false, .bool false, .int .i64 0]
variable [Base]
theorem bookFok_sp (F : Heap) (a : Option Addr) (len cap : Nat) (rs : List (List Int)) (r : List Int) (hR : RowsF F a len 7 rs) (hC : len ≤ cap) (hM : cap ≤ 9223372036854775807) (hr7 : r.length = 7) (hz : ∀ z ∈ r, InI z) :
    Sp Try.prog F 9 [.slice a len cap, .agg ⟨ints r⟩] [] (Ret (.bool true)) := by
  have q3 := bookRuns_sp
  have q1 := fun F => sp_kOrder F r hr7
  refine sp_of_code Try.func9 rfl rfl ?_
  (refine run_seq ?_; refine run_region ?_; refine runL_box rfl rfl rfl rfl rfl rfl (fun _ => ?_); refine xep rfl rfl ?_; refine runL_nil ?_; refine then_normal ?_; refine run_seq ?_; refine run_region ?_; refine xep rfl rfl ?_)
  refine runL_call0 rfl rfl rfl rfl rfl rfl rfl (pf rfl) (sp_bfilled _ a len cap rs (RowsF.mono hR fun x m => by simp [m]) (by omega) 40 (by omega)) ?_
  rintro v Ha ⟨ba, rfl, hHa⟩
  (refine xep rfl rfl ?_)
  refine runL_call0 rfl rfl rfl rfl rfl rfl rfl (pf rfl) (sp_bfilled _ a len cap rs (RowsF.mono hR fun x m => by simp [m]) (by omega) 40 (by omega)) ?_
  rintro v Hb ⟨bb, rfl, hHb⟩
  obtain ⟨hw, hn0, hn1⟩ := bfill_ok rs 40
  have hgd0 := bfill_Gd rs 40
  generalize bfill rs 40 = B at *
  have hkr := (kO_right r).1
  have hst := (kO_right r).2.1
  ((iterate 2 refine xep rfl rfl ?_); refine runL_nil ?_; refine then_normal ?_; (iterate 2 refine run_seq ?_); refine run_region ?_; refine xep rfl rfl ?_; refine xel rfl (ev_eqNil rfl rfl rfl (pt rfl)) ?_; refine xep rfl rfl ?_; refine xgp rfl rfl rfl ?_; refine xgl rfl rfl (fun hq => ev_eqNil rfl rfl rfl (pt rfl)) ?_; refine xep rfl rfl ?_; refine runL_nil ?_; refine then_normal ?_)
  refine run_condF rfl rfl ?_
  (refine run_skip ?_; refine then_normal ?_; refine run_seq ?_; refine run_region ?_)
  rename_i x
  refine RunL.perm (h' := blk x (cellsV (.agg ⟨ints r⟩)) 43 :: (Ha ++ Hb)) (fun y => by (first | rfl | (simp only [List.append_eq, cnt_append, cnt_cons, cnt_nil, blk]; omega) | (simp only [List.append_eq, cnt_append, cnt_cons, cnt_nil, blk]; done))) ?_
  refine runL_ev rfl rfl rfl rfl (ev_loadA (n := 7) (off := 0) (c := ints r) (l := ints r) rfl rfl (ag rfl) (sz rfl) (memF (.head _)) (by rw [ints_len, hr7]; omega) (by rw [List.drop_zero, List.take_of_length_le (by rw [ints_len, hr7]; omega)])) ?_
  clear hz
  generalize kO r = o at *
  have hi1 := fok_right hkr (k := 4) (.inr rfl)
  have hi3 := fok_right hkr (k := 3) (.inl rfl)
  have hk4 : InI (fokO o 4).kind := by show InI 4; exact inI rfl
  have hk3 : InI (fokO o 3).kind := by show InI 3; exact inI rfl
  obtain ⟨i1, i2, i3⟩ := fok_is hw hkr hst
  have hnum := (count_is hw hgd0 hi1).num
  have hw1 := (badd_BW (o := fokO o 4) hw hn0).1
  have hw3 := (badd_BW (o := fokO o 3) hw hn0).1
  have cA := fun G => sp_badd G Ha ba B hHa hw (fokO o 4) hk4 hn0 (by omega)
  have cB := fun G => sp_badd G Hb bb B hHb hw (fokO o 3) hk3 hn0 (by omega)
  (refine xel rfl (ev_callQ rfl rfl rfl (pf rfl) (q1 ..)) ?_; refine runL_alloc rfl rfl rfl rfl rfl ze25 (fun _ => ?_); refine runL_store0 rfl rfl rfl rfl rfl (sz rfl) rfl rfl rfl rfl rfl ?_; refine runL_nil ?_; refine then_normal ?_; refine run_seq ?_; refine run_region ?_; refine xel rfl (ev_fieldAddr rfl rfl (fo rfl)) ?_; refine runL_store0 rfl rfl rfl rfl rfl (sz rfl) rfl rfl rfl rfl rfl ?_; refine runL_nil ?_; refine then_normal ?_; (iterate 2 refine run_seq ?_); refine run_region ?_; refine xel rfl (ev_fieldAddr rfl rfl (fo rfl)) ?_; refine xel rfl (ev_loadK rfl rfl (sc rfl) (memF (.head _)) rfl) ?_; refine xep rfl rfl ?_; refine runL_nil ?_; refine then_normal ?_)
  rename_i xo
  refine run_midO (σ := Unit) [4, 5, 6, 7] (fun _ => []) (fun _ => blk xo (fokO o o.kind).cells 25 :: blk x (cellsV (.agg ⟨ints r⟩)) 43 :: (Ha ++ Hb)) (fun _ => True) rfl ?_ ?_
  · by_cases hp : o.kind = 2
    · refine run_condT rfl (decide_eq_true hp) ?_
      (refine run_region ?_; refine xel rfl (ev_fieldAddr rfl rfl (fo rfl)) ?_; refine runL_store0 rfl rfl rfl rfl rfl (sz rfl) rfl rfl rfl rfl rfl ?_; refine runL_nil ?_)
      refine midN () [] trivial rfl (fun y => by simp only [fokO, if_pos hp, List.append_eq, cnt_append, cnt_cons, cnt_nil, blk, Ord.cells]; try omega)
    · refine run_condF rfl (decide_eq_false hp) ?_
      (refine run_skip ?_)
      refine midN () [] trivial rfl (fun y => by simp only [fokO, if_neg hp, List.append_eq, cnt_append, cnt_cons, cnt_nil, blk, Ord.cells]; try omega)
  · intro fr' h' hm
    (refine then_normal ?_)
    refine midN_out hm ?_
    rintro ⟨⟩ -
    (refine run_seq ?_)
    refine RunC.perm (h' := [] ++ ([blk xo (fokO o o.kind).cells 25, blk x (cellsV (.agg ⟨ints r⟩)) 43] ++ (Ha ++ Hb))) (fun y => by (first | rfl | (simp only [List.append_eq, cnt_append, cnt_cons, cnt_nil, blk]; omega) | (simp only [List.append_eq, cnt_append, cnt_cons, cnt_nil, blk]; done))) ?_
    have l1 : AggF (([blk xo (fokO o o.kind).cells 25, blk x (cellsV (.agg ⟨ints r⟩)) 43] ++ (Ha ++ Hb)) ++ F) xo 0 (fokO o o.kind).cells := ⟨_, _, _, memF (.head _), Nat.le_refl _, rfl⟩
    refine run_midO (σ := Nat × Nat) [4, 5, 6, 7] (fun s => [(8, .pointer (some ⟨s.1, 0, none⟩)), (9, .pointer (some ⟨s.2, 0, none⟩))]) (fun s => [blk s.1 (fokO o o.kind).cells 25, blk s.2 (fokO o o.kind).cells 25] ++ ([blk xo (fokO o o.kind).cells 25, blk x (cellsV (.agg ⟨ints r⟩)) 43] ++ (Ha ++ Hb))) (fun _ => True) rfl ?_ ?_
    · refine RunC.freezeR ?_
      refine run_region_D mo ?_
      (refine runD_q 0 rfl rfl (by kernel_rfl) ?_; refine ⟨_, fun _ => ev_loadAK rfl rfl (ag rfl) (sz rfl) (memR (memF (.head _))) rfl, ?_⟩; refine runD_q 1 rfl rfl (by kernel_rfl) ?_; refine ⟨_, fun _ => ev_loadAK rfl rfl (ag rfl) (sz rfl) (memR (memF (.head _))) rfl, ?_⟩)
      refine runD_alloc2 2 8 3 9 (by kernel_rfl) ze25 (fun b6 b7 => ?_)
      (refine runD_1 4 (by kernel_rfl) rfl rfl rfl ?_; refine runL_store0 rfl rfl rfl rfl rfl (sz rfl) rfl rfl rfl rfl rfl ?_; refine runL_nil ?_; refine endS_n rfl ?_; refine runD_1 5 (by kernel_rfl) rfl rfl rfl ?_; refine runL_store1 rfl rfl rfl rfl rfl (sz rfl) rfl rfl rfl rfl rfl ?_; refine runL_nil ?_; refine endS_n rfl ?_; refine runD_done (by kernel_rfl) ?_)
      exact midN (b6, b7) [] trivial rfl (fun y => by simp only [fokO, List.append_eq, cnt_append, cnt_cons, cnt_nil, blk, Ord.cells]; try omega)
    clear l1
    intro fr' h' hm
    (refine then_normal ?_)
    refine midN_out hm ?_
    rintro ⟨xv, xi⟩ -
    dsimp only
    (refine run_seq ?_; refine run_region ?_; refine xel rfl (ev_fieldAddr rfl rfl (fo rfl)) ?_; refine runL_store0 rfl rfl rfl rfl rfl (sz rfl) rfl rfl rfl rfl rfl ?_; refine xel rfl (ev_fieldAddr rfl rfl (fo rfl)) ?_; refine runL_store1 rfl rfl rfl rfl rfl (sz rfl) rfl rfl rfl rfl rfl ?_; refine runL_nil ?_; refine then_normal ?_; refine run_seq ?_)
    refine RunC.perm (h' := (Ha ++ Hb) ++ [blk xi (fokO o 3).cells 25, blk xv (fokO o 4).cells 25, blk xo (fokO o o.kind).cells 25, blk x (cellsV (.agg ⟨ints r⟩)) 43]) (fun y => by simp only [fokO, List.append_eq, cnt_append, cnt_cons, cnt_nil, blk, Ord.cells]; omega) ?_
    have l1 : AggF ([blk xi (fokO o 3).cells 25, blk xv (fokO o 4).cells 25, blk xo (fokO o o.kind).cells 25, blk x (cellsV (.agg ⟨ints r⟩)) 43] ++ F) xv 0 (fokO o 4).cells := ⟨_, _, _, memF (.tail _ (.head _)), Nat.le_refl _, rfl⟩
    have l2 : AggF ([blk xi (fokO o 3).cells 25, blk xv (fokO o 4).cells 25, blk xo (fokO o o.kind).cells 25, blk x (cellsV (.agg ⟨ints r⟩)) 43] ++ F) xi 0 (fokO o 3).cells := ⟨_, _, _, memF (.head _), Nat.le_refl _, rfl⟩
    generalize badd (fokO o 4) B = X at *
    generalize badd (fokO o 3) B = Y at *
    refine run_region_D3 (σ := (Option Addr × Nat × Heap × Heap) × (Option Addr × Nat × Heap × Heap) × Nat × Nat) 9 1 [4, 5, 6, 7] (fun s => [(36, .agg ⟨outV s.1.1 s.1.2.1 X.1⟩), (39, .agg ⟨outV s.2.1.1 s.2.1.2.1 Y.1⟩), (10, .pointer (some ⟨s.2.2.1, 0, none⟩)), (11, .pointer (some ⟨s.2.2.2, 0, none⟩))])
      (fun s => blk s.2.2.1 (outV s.1.1 s.1.2.1 X.1) 29 :: blk s.2.2.2 zOut 29 :: (s.1.2.2.2 ++ s.1.2.2.1 ++ (s.2.1.2.2.2 ++ s.2.1.2.2.1)))
      (fun s => OwnS 36 21 (.slice s.1.1 X.1.fs.length s.1.2.1) X.1.fs.length (rows fcell X.1.fs) s.1.2.2.1 ∧ BkH ba X.2 s.1.2.2.2 ∧ OwnS 36 21 (.slice s.2.1.1 Y.1.fs.length s.2.1.2.1) Y.1.fs.length (rows fcell Y.1.fs) s.2.1.2.2.1 ∧ BkH bb Y.2 s.2.1.2.2.2) mo rfl (by kernel_rfl) rfl ?_ ?_
    · (refine runD_q 0 rfl rfl (by kernel_rfl) ?_; refine ⟨_, fun _ => ev_pure rfl, ?_⟩; refine runD_q 1 rfl rfl (by kernel_rfl) ?_; refine ⟨_, fun _ => ev_loadAK rfl rfl (ag rfl) (sz rfl) (memR (memF (.tail _ (.head _)))) rfl, ?_⟩; refine runD_q 3 rfl rfl (by kernel_rfl) ?_; refine ⟨_, fun _ => ev_pure rfl, ?_⟩; refine runD_q 4 rfl rfl (by kernel_rfl) ?_; refine ⟨_, fun _ => ev_loadAK rfl rfl (ag rfl) (sz rfl) (memR (memF (.head _))) rfl, ?_⟩)
      refine runD_3 2 6 7 (by kernel_rfl) (oneD rfl rfl rfl ?_) (oneD rfl rfl rfl ?_) (oneD rfl rfl rfl ?_)
      · refine runL_callZ (Hb) Ha rfl rfl rfl rfl rfl rfl rfl (pf rfl) (fun x => by (first | rfl | (simp only [List.append_eq, cnt_append, cnt_cons, cnt_nil, blk]; omega) | (simp only [List.append_eq, cnt_append, cnt_cons, cnt_nil, blk]; done))) (cA _) ?_
        rintro v _ ⟨a1, c1, A1, H1, rfl, own1, hH1, rfl⟩
        (refine runL_nil ?_; refine endS_d rfl ?_)
        refine runD_3 5 6 7 (by kernel_rfl) (oneD rfl rfl rfl ?_) (oneD rfl rfl rfl ?_) (oneD rfl rfl rfl ?_)
        · refine runL_callZ (H1 ++ A1) Hb rfl rfl rfl rfl rfl rfl rfl (pf rfl) (fun x => by (first | rfl | (simp only [List.append_eq, cnt_append, cnt_cons, cnt_nil, blk]; omega) | (simp only [List.append_eq, cnt_append, cnt_cons, cnt_nil, blk]; done))) (cB _) ?_
          rintro v _ ⟨a2, c2, A2, H2, rfl, own2, hH2, rfl⟩
          (refine runL_nil ?_; refine endS_d rfl ?_)
          refine runD_alloc2 6 10 7 11 (by kernel_rfl) ze29 (fun b6 b7 => ?_)
          (refine runD_1 8 (by kernel_rfl) rfl rfl rfl ?_; refine runL_store0 rfl rfl rfl rfl rfl (sz rfl) rfl rfl rfl rfl rfl ?_; refine runL_nil ?_; refine endS_n rfl ?_; refine runD_done (by kernel_rfl) ?_)
          exact midX ((a1, c1, A1, H1), (a2, c2, A2, H2), b6, b7) ⟨own1, hH1, own2, hH2⟩ rfl (fun x => by simp only [List.append_eq, cnt_append, cnt_cons, cnt_nil, blk, zOut, outV]; try omega)
        · (refine runL_alloc rfl rfl rfl rfl rfl ze29 (fun _ => ?_); refine runL_nil ?_; refine endS_d rfl ?_)
          rename_i b6
          refine RunD.same (M' := blk b6 zOut 29 :: (H1 ++ A1 ++ Hb)) (fun _ _ h => h) (fun x => by simp only [List.append_eq, cnt_append, cnt_cons, cnt_nil, blk, zOut]; try omega) ?_
          refine runD_2 5 7 (by kernel_rfl) (oneD rfl rfl rfl ?_) (oneD rfl rfl rfl ?_)
          · refine runL_callZ ([blk b6 zOut 29] ++ (H1 ++ A1)) Hb rfl rfl rfl rfl rfl rfl rfl (pf rfl) (fun x => by (first | rfl | (simp only [List.append_eq, cnt_append, cnt_cons, cnt_nil, blk]; omega) | (simp only [List.append_eq, cnt_append, cnt_cons, cnt_nil, blk]; done))) (cB _) ?_
            rintro v _ ⟨a2, c2, A2, H2, rfl, own2, hH2, rfl⟩
            (refine runL_nil ?_; refine endS_d rfl ?_; refine runD_1 7 (by kernel_rfl) rfl rfl rfl ?_; refine runL_alloc rfl rfl rfl rfl rfl ze29 (fun _ => ?_); refine runL_nil ?_; refine endS_d rfl ?_; refine runD_1 8 (by kernel_rfl) rfl rfl rfl ?_; refine runL_store1 rfl rfl rfl rfl rfl (sz rfl) rfl rfl rfl rfl rfl ?_; refine runL_nil ?_; refine endS_n rfl ?_; refine runD_done (by kernel_rfl) ?_)
            skip
            rename_i b7
            exact midX ((a1, c1, A1, H1), (a2, c2, A2, H2), b6, b7) ⟨own1, hH1, own2, hH2⟩ rfl (fun x => by simp only [List.append_eq, cnt_append, cnt_cons, cnt_nil, blk, zOut, outV]; try omega)
          · (refine runL_alloc rfl rfl rfl rfl rfl ze29 (fun _ => ?_); refine runL_nil ?_; refine endS_d rfl ?_; refine runD_1 5 (by kernel_rfl) rfl rfl rfl ?_)
            rename_i b7
            refine RunL.perm (h' := blk b7 zOut 29 :: blk b6 zOut 29 :: (H1 ++ A1 ++ Hb)) (fun x => by simp only [List.append_eq, cnt_append, cnt_cons, cnt_nil, blk, zOut]; try omega) ?_
            refine runL_callZ ([blk b6 zOut 29, blk b7 zOut 29] ++ (H1 ++ A1)) Hb rfl rfl rfl rfl rfl rfl rfl (pf rfl) (fun x => by (first | rfl | (simp only [List.append_eq, cnt_append, cnt_cons, cnt_nil, blk]; omega) | (simp only [List.append_eq, cnt_append, cnt_cons, cnt_nil, blk]; done))) (cB _) ?_
            rintro v _ ⟨a2, c2, A2, H2, rfl, own2, hH2, rfl⟩
            (refine runL_nil ?_; refine endS_d rfl ?_; refine runD_1 8 (by kernel_rfl) rfl rfl rfl ?_; refine runL_store0 rfl rfl rfl rfl rfl (sz rfl) rfl rfl rfl rfl rfl ?_; refine runL_nil ?_; refine endS_n rfl ?_; refine runD_done (by kernel_rfl) ?_)
            exact midX ((a1, c1, A1, H1), (a2, c2, A2, H2), b6, b7) ⟨own1, hH1, own2, hH2⟩ rfl (fun x => by simp only [List.append_eq, cnt_append, cnt_cons, cnt_nil, blk, zOut, outV]; try omega)
        · (refine runL_alloc rfl rfl rfl rfl rfl ze29 (fun _ => ?_); refine runL_nil ?_; refine endS_d rfl ?_)
          rename_i b7
          refine RunD.same (M' := blk b7 zOut 29 :: (H1 ++ A1 ++ Hb)) (fun _ _ h => h) (fun x => by simp only [List.append_eq, cnt_append, cnt_cons, cnt_nil, blk, zOut]; try omega) ?_
          refine runD_2 5 6 (by kernel_rfl) (oneD rfl rfl rfl ?_) (oneD rfl rfl rfl ?_)
          · refine runL_callZ ([blk b7 zOut 29] ++ (H1 ++ A1)) Hb rfl rfl rfl rfl rfl rfl rfl (pf rfl) (fun x => by (first | rfl | (simp only [List.append_eq, cnt_append, cnt_cons, cnt_nil, blk]; omega) | (simp only [List.append_eq, cnt_append, cnt_cons, cnt_nil, blk]; done))) (cB _) ?_
            rintro v _ ⟨a2, c2, A2, H2, rfl, own2, hH2, rfl⟩
            (refine runL_nil ?_; refine endS_d rfl ?_; refine runD_1 6 (by kernel_rfl) rfl rfl rfl ?_; refine runL_alloc rfl rfl rfl rfl rfl ze29 (fun _ => ?_); refine runL_nil ?_; refine endS_d rfl ?_; refine runD_1 8 (by kernel_rfl) rfl rfl rfl ?_; refine runL_store0 rfl rfl rfl rfl rfl (sz rfl) rfl rfl rfl rfl rfl ?_; refine runL_nil ?_; refine endS_n rfl ?_; refine runD_done (by kernel_rfl) ?_)
            skip
            rename_i b6
            exact midX ((a1, c1, A1, H1), (a2, c2, A2, H2), b6, b7) ⟨own1, hH1, own2, hH2⟩ rfl (fun x => by simp only [List.append_eq, cnt_append, cnt_cons, cnt_nil, blk, zOut, outV]; try omega)
          · (refine runL_alloc rfl rfl rfl rfl rfl ze29 (fun _ => ?_); refine runL_nil ?_; refine endS_d rfl ?_; refine runD_1 5 (by kernel_rfl) rfl rfl rfl ?_)
            rename_i b6
            refine RunL.perm (h' := blk b6 zOut 29 :: blk b7 zOut 29 :: (H1 ++ A1 ++ Hb)) (fun x => by simp only [List.append_eq, cnt_append, cnt_cons, cnt_nil, blk, zOut]; try omega) ?_
            refine runL_callZ ([blk b7 zOut 29, blk b6 zOut 29] ++ (H1 ++ A1)) Hb rfl rfl rfl rfl rfl rfl rfl (pf rfl) (fun x => by (first | rfl | (simp only [List.append_eq, cnt_append, cnt_cons, cnt_nil, blk]; omega) | (simp only [List.append_eq, cnt_append, cnt_cons, cnt_nil, blk]; done))) (cB _) ?_
            rintro v _ ⟨a2, c2, A2, H2, rfl, own2, hH2, rfl⟩
            (refine runL_nil ?_; refine endS_d rfl ?_; refine runD_1 8 (by kernel_rfl) rfl rfl rfl ?_; refine runL_store1 rfl rfl rfl rfl rfl (sz rfl) rfl rfl rfl rfl rfl ?_; refine runL_nil ?_; refine endS_n rfl ?_; refine runD_done (by kernel_rfl) ?_)
            exact midX ((a1, c1, A1, H1), (a2, c2, A2, H2), b6, b7) ⟨own1, hH1, own2, hH2⟩ rfl (fun x => by simp only [List.append_eq, cnt_append, cnt_cons, cnt_nil, blk, zOut, outV]; try omega)
      · (refine runL_alloc rfl rfl rfl rfl rfl ze29 (fun _ => ?_); refine runL_nil ?_; refine endS_d rfl ?_)
        rename_i b6
        refine RunD.same (M' := blk b6 zOut 29 :: (Ha ++ Hb)) (fun _ _ h => h) (fun x => by simp only [List.append_eq, cnt_append, cnt_cons, cnt_nil, blk, zOut]; try omega) ?_
        refine runD_2 2 7 (by kernel_rfl) (oneD rfl rfl rfl ?_) (oneD rfl rfl rfl ?_)
        · refine runL_callZ ([blk b6 zOut 29] ++ (Hb)) Ha rfl rfl rfl rfl rfl rfl rfl (pf rfl) (fun x => by (first | rfl | (simp only [List.append_eq, cnt_append, cnt_cons, cnt_nil, blk]; omega) | (simp only [List.append_eq, cnt_append, cnt_cons, cnt_nil, blk]; done))) (cA _) ?_
          rintro v _ ⟨a1, c1, A1, H1, rfl, own1, hH1, rfl⟩
          (refine runL_nil ?_; refine endS_d rfl ?_)
          refine runD_2 5 7 (by kernel_rfl) (oneD rfl rfl rfl ?_) (oneD rfl rfl rfl ?_)
          · refine runL_callZ ([blk b6 zOut 29] ++ (H1 ++ A1)) Hb rfl rfl rfl rfl rfl rfl rfl (pf rfl) (fun x => by (first | rfl | (simp only [List.append_eq, cnt_append, cnt_cons, cnt_nil, blk]; omega) | (simp only [List.append_eq, cnt_append, cnt_cons, cnt_nil, blk]; done))) (cB _) ?_
            rintro v _ ⟨a2, c2, A2, H2, rfl, own2, hH2, rfl⟩
            (refine runL_nil ?_; refine endS_d rfl ?_; refine runD_1 7 (by kernel_rfl) rfl rfl rfl ?_; refine runL_alloc rfl rfl rfl rfl rfl ze29 (fun _ => ?_); refine runL_nil ?_; refine endS_d rfl ?_; refine runD_1 8 (by kernel_rfl) rfl rfl rfl ?_; refine runL_store1 rfl rfl rfl rfl rfl (sz rfl) rfl rfl rfl rfl rfl ?_; refine runL_nil ?_; refine endS_n rfl ?_; refine runD_done (by kernel_rfl) ?_)
            skip
            rename_i b7
            exact midX ((a1, c1, A1, H1), (a2, c2, A2, H2), b6, b7) ⟨own1, hH1, own2, hH2⟩ rfl (fun x => by simp only [List.append_eq, cnt_append, cnt_cons, cnt_nil, blk, zOut, outV]; try omega)
          · (refine runL_alloc rfl rfl rfl rfl rfl ze29 (fun _ => ?_); refine runL_nil ?_; refine endS_d rfl ?_; refine runD_1 5 (by kernel_rfl) rfl rfl rfl ?_)
            rename_i b7
            refine RunL.perm (h' := blk b7 zOut 29 :: blk b6 zOut 29 :: (H1 ++ A1 ++ Hb)) (fun x => by simp only [List.append_eq, cnt_append, cnt_cons, cnt_nil, blk, zOut]; try omega) ?_
            refine runL_callZ ([blk b6 zOut 29, blk b7 zOut 29] ++ (H1 ++ A1)) Hb rfl rfl rfl rfl rfl rfl rfl (pf rfl) (fun x => by (first | rfl | (simp only [List.append_eq, cnt_append, cnt_cons, cnt_nil, blk]; omega) | (simp only [List.append_eq, cnt_append, cnt_cons, cnt_nil, blk]; done))) (cB _) ?_
            rintro v _ ⟨a2, c2, A2, H2, rfl, own2, hH2, rfl⟩
            (refine runL_nil ?_; refine endS_d rfl ?_; refine runD_1 8 (by kernel_rfl) rfl rfl rfl ?_; refine runL_store0 rfl rfl rfl rfl rfl (sz rfl) rfl rfl rfl rfl rfl ?_; refine runL_nil ?_; refine endS_n rfl ?_; refine runD_done (by kernel_rfl) ?_)
            exact midX ((a1, c1, A1, H1), (a2, c2, A2, H2), b6, b7) ⟨own1, hH1, own2, hH2⟩ rfl (fun x => by simp only [List.append_eq, cnt_append, cnt_cons, cnt_nil, blk, zOut, outV]; try omega)
        · (refine runL_alloc rfl rfl rfl rfl rfl ze29 (fun _ => ?_); refine runL_nil ?_; refine endS_d rfl ?_; refine runD_1 2 (by kernel_rfl) rfl rfl rfl ?_)
          rename_i b7
          refine RunL.perm (h' := blk b7 zOut 29 :: blk b6 zOut 29 :: (Ha ++ Hb)) (fun x => by simp only [List.append_eq, cnt_append, cnt_cons, cnt_nil, blk, zOut]; try omega) ?_
          refine runL_callZ ([blk b6 zOut 29, blk b7 zOut 29] ++ (Hb)) Ha rfl rfl rfl rfl rfl rfl rfl (pf rfl) (fun x => by (first | rfl | (simp only [List.append_eq, cnt_append, cnt_cons, cnt_nil, blk]; omega) | (simp only [List.append_eq, cnt_append, cnt_cons, cnt_nil, blk]; done))) (cA _) ?_
          rintro v _ ⟨a1, c1, A1, H1, rfl, own1, hH1, rfl⟩
          (refine runL_nil ?_; refine endS_d rfl ?_; refine runD_1 5 (by kernel_rfl) rfl rfl rfl ?_)
          refine runL_callZ ([blk b6 zOut 29, blk b7 zOut 29] ++ (H1 ++ A1)) Hb rfl rfl rfl rfl rfl rfl rfl (pf rfl) (fun x => by (first | rfl | (simp only [List.append_eq, cnt_append, cnt_cons, cnt_nil, blk]; omega) | (simp only [List.append_eq, cnt_append, cnt_cons, cnt_nil, blk]; done))) (cB _) ?_
          rintro v _ ⟨a2, c2, A2, H2, rfl, own2, hH2, rfl⟩
          (refine runL_nil ?_; refine endS_d rfl ?_; refine runD_1 8 (by kernel_rfl) rfl rfl rfl ?_; refine runL_store0 rfl rfl rfl rfl rfl (sz rfl) rfl rfl rfl rfl rfl ?_; refine runL_nil ?_; refine endS_n rfl ?_; refine runD_done (by kernel_rfl) ?_)
          exact midX ((a1, c1, A1, H1), (a2, c2, A2, H2), b6, b7) ⟨own1, hH1, own2, hH2⟩ rfl (fun x => by simp only [List.append_eq, cnt_append, cnt_cons, cnt_nil, blk, zOut, outV]; try omega)
      · (refine runL_alloc rfl rfl rfl rfl rfl ze29 (fun _ => ?_); refine runL_nil ?_; refine endS_d rfl ?_)
        rename_i b7
        refine RunD.same (M' := blk b7 zOut 29 :: (Ha ++ Hb)) (fun _ _ h => h) (fun x => by simp only [List.append_eq, cnt_append, cnt_cons, cnt_nil, blk, zOut]; try omega) ?_
        refine runD_2 2 6 (by kernel_rfl) (oneD rfl rfl rfl ?_) (oneD rfl rfl rfl ?_)
        · refine runL_callZ ([blk b7 zOut 29] ++ (Hb)) Ha rfl rfl rfl rfl rfl rfl rfl (pf rfl) (fun x => by (first | rfl | (simp only [List.append_eq, cnt_append, cnt_cons, cnt_nil, blk]; omega) | (simp only [List.append_eq, cnt_append, cnt_cons, cnt_nil, blk]; done))) (cA _) ?_
          rintro v _ ⟨a1, c1, A1, H1, rfl, own1, hH1, rfl⟩
          (refine runL_nil ?_; refine endS_d rfl ?_)
          refine runD_2 5 6 (by kernel_rfl) (oneD rfl rfl rfl ?_) (oneD rfl rfl rfl ?_)
          · refine runL_callZ ([blk b7 zOut 29] ++ (H1 ++ A1)) Hb rfl rfl rfl rfl rfl rfl rfl (pf rfl) (fun x => by (first | rfl | (simp only [List.append_eq, cnt_append, cnt_cons, cnt_nil, blk]; omega) | (simp only [List.append_eq, cnt_append, cnt_cons, cnt_nil, blk]; done))) (cB _) ?_
            rintro v _ ⟨a2, c2, A2, H2, rfl, own2, hH2, rfl⟩
            (refine runL_nil ?_; refine endS_d rfl ?_; refine runD_1 6 (by kernel_rfl) rfl rfl rfl ?_; refine runL_alloc rfl rfl rfl rfl rfl ze29 (fun _ => ?_); refine runL_nil ?_; refine endS_d rfl ?_; refine runD_1 8 (by kernel_rfl) rfl rfl rfl ?_; refine runL_store0 rfl rfl rfl rfl rfl (sz rfl) rfl rfl rfl rfl rfl ?_; refine runL_nil ?_; refine endS_n rfl ?_; refine runD_done (by kernel_rfl) ?_)
            skip
            rename_i b6
            exact midX ((a1, c1, A1, H1), (a2, c2, A2, H2), b6, b7) ⟨own1, hH1, own2, hH2⟩ rfl (fun x => by simp only [List.append_eq, cnt_append, cnt_cons, cnt_nil, blk, zOut, outV]; try omega)
          · (refine runL_alloc rfl rfl rfl rfl rfl ze29 (fun _ => ?_); refine runL_nil ?_; refine endS_d rfl ?_; refine runD_1 5 (by kernel_rfl) rfl rfl rfl ?_)
            rename_i b6
            refine RunL.perm (h' := blk b6 zOut 29 :: blk b7 zOut 29 :: (H1 ++ A1 ++ Hb)) (fun x => by simp only [List.append_eq, cnt_append, cnt_cons, cnt_nil, blk, zOut]; try omega) ?_
            refine runL_callZ ([blk b7 zOut 29, blk b6 zOut 29] ++ (H1 ++ A1)) Hb rfl rfl rfl rfl rfl rfl rfl (pf rfl) (fun x => by (first | rfl | (simp only [List.append_eq, cnt_append, cnt_cons, cnt_nil, blk]; omega) | (simp only [List.append_eq, cnt_append, cnt_cons, cnt_nil, blk]; done))) (cB _) ?_
            rintro v _ ⟨a2, c2, A2, H2, rfl, own2, hH2, rfl⟩
            (refine runL_nil ?_; refine endS_d rfl ?_; refine runD_1 8 (by kernel_rfl) rfl rfl rfl ?_; refine runL_store1 rfl rfl rfl rfl rfl (sz rfl) rfl rfl rfl rfl rfl ?_; refine runL_nil ?_; refine endS_n rfl ?_; refine runD_done (by kernel_rfl) ?_)
            exact midX ((a1, c1, A1, H1), (a2, c2, A2, H2), b6, b7) ⟨own1, hH1, own2, hH2⟩ rfl (fun x => by simp only [List.append_eq, cnt_append, cnt_cons, cnt_nil, blk, zOut, outV]; try omega)
        · (refine runL_alloc rfl rfl rfl rfl rfl ze29 (fun _ => ?_); refine runL_nil ?_; refine endS_d rfl ?_; refine runD_1 2 (by kernel_rfl) rfl rfl rfl ?_)
          rename_i b6
          refine RunL.perm (h' := blk b6 zOut 29 :: blk b7 zOut 29 :: (Ha ++ Hb)) (fun x => by simp only [List.append_eq, cnt_append, cnt_cons, cnt_nil, blk, zOut]; try omega) ?_
          refine runL_callZ ([blk b7 zOut 29, blk b6 zOut 29] ++ (Hb)) Ha rfl rfl rfl rfl rfl rfl rfl (pf rfl) (fun x => by (first | rfl | (simp only [List.append_eq, cnt_append, cnt_cons, cnt_nil, blk]; omega) | (simp only [List.append_eq, cnt_append, cnt_cons, cnt_nil, blk]; done))) (cA _) ?_
          rintro v _ ⟨a1, c1, A1, H1, rfl, own1, hH1, rfl⟩
          (refine runL_nil ?_; refine endS_d rfl ?_; refine runD_1 5 (by kernel_rfl) rfl rfl rfl ?_)
          refine runL_callZ ([blk b7 zOut 29, blk b6 zOut 29] ++ (H1 ++ A1)) Hb rfl rfl rfl rfl rfl rfl rfl (pf rfl) (fun x => by (first | rfl | (simp only [List.append_eq, cnt_append, cnt_cons, cnt_nil, blk]; omega) | (simp only [List.append_eq, cnt_append, cnt_cons, cnt_nil, blk]; done))) (cB _) ?_
          rintro v _ ⟨a2, c2, A2, H2, rfl, own2, hH2, rfl⟩
          (refine runL_nil ?_; refine endS_d rfl ?_; refine runD_1 8 (by kernel_rfl) rfl rfl rfl ?_; refine runL_store1 rfl rfl rfl rfl rfl (sz rfl) rfl rfl rfl rfl rfl ?_; refine runL_nil ?_; refine endS_n rfl ?_; refine runD_done (by kernel_rfl) ?_)
          exact midX ((a1, c1, A1, H1), (a2, c2, A2, H2), b6, b7) ⟨own1, hH1, own2, hH2⟩ rfl (fun x => by simp only [List.append_eq, cnt_append, cnt_cons, cnt_nil, blk, zOut, outV]; try omega)
    · rintro ⟨⟨a1, c1, A1, H1⟩, ⟨a2, c2, A2, H2⟩, b6, b7⟩ ⟨own1, hH1, own2, hH2⟩
      dsimp only at own1 hH1 own2 hH2 ⊢
      (refine runD_1 9 (by kernel_rfl) rfl rfl rfl ?_; refine runL_store1 rfl rfl rfl rfl rfl (sz rfl) rfl rfl rfl rfl rfl ?_; refine runL_nil ?_; refine endS_n rfl ?_; refine runD_done (by kernel_rfl) ?_; refine then_normal ?_; (iterate 2 refine run_seq ?_); refine run_region ?_; refine xel rfl (ev_fieldAddr rfl rfl (fo rfl)) ?_; refine xel rfl (ev_loadK rfl rfl (sc rfl) (memF (.tail _ (.head _))) rfl) ?_; refine xep rfl rfl ?_; refine runL_nil ?_; refine then_normal ?_)
      clear cA cB hHa hHb l1 l2
      obtain ⟨⟨xq, xf, xl, xr, xw, xs, xe⟩, X2⟩ := X
      obtain ⟨⟨yq, yf, yl, yr, yw, ys, ye⟩, Y2⟩ := Y
      dsimp only at *
      by_cases he : ye = 0
      · subst he
        refine run_condF rfl rfl ?_
        (refine run_skip ?_; refine then_normal ?_)
        refine RunC.perm (h' := [] ++ (([blk b6 [Value.int .i64 xq.trader, .int .i64 xq.id, .int .i64 xq.firm, .int .i64 xq.side, .int .i64 xq.kind, .int .i64 xq.price, .int .i64 xq.qty, .int .i64 xq.show_, .int .i64 xq.stop, .slice a1 xf.length c1, .int .i64 xl, .bool xr, .bool xw, .bool xs, .int .i64 xe] 29, blk b7 [Value.int .i64 yq.trader, .int .i64 yq.id, .int .i64 yq.firm, .int .i64 yq.side, .int .i64 yq.kind, .int .i64 yq.price, .int .i64 yq.qty, .int .i64 yq.show_, .int .i64 yq.stop, .slice a2 yf.length c2, .int .i64 yl, .bool yr, .bool yw, .bool ys, .int .i64 0] 29] ++ (H1 ++ A1 ++ (H2 ++ A2))) ++ [blk xi (fokO o 3).cells 25, blk xv (fokO o 4).cells 25, blk xo (fokO o o.kind).cells 25, blk x (cellsV (.agg ⟨ints r⟩)) 43])) (fun y => by simp only [List.append_eq, cnt_append, cnt_cons, cnt_nil, blk, outV]; omega) ?_
        have lt : AggF ((([blk b6 [Value.int .i64 xq.trader, .int .i64 xq.id, .int .i64 xq.firm, .int .i64 xq.side, .int .i64 xq.kind, .int .i64 xq.price, .int .i64 xq.qty, .int .i64 xq.show_, .int .i64 xq.stop, .slice a1 xf.length c1, .int .i64 xl, .bool xr, .bool xw, .bool xs, .int .i64 xe] 29, blk b7 [Value.int .i64 yq.trader, .int .i64 yq.id, .int .i64 yq.firm, .int .i64 yq.side, .int .i64 yq.kind, .int .i64 yq.price, .int .i64 yq.qty, .int .i64 yq.show_, .int .i64 yq.stop, .slice a2 yf.length c2, .int .i64 yl, .bool yr, .bool yw, .bool ys, .int .i64 0] 29] ++ (H1 ++ A1 ++ (H2 ++ A2))) ++ [blk xi (fokO o 3).cells 25, blk xv (fokO o 4).cells 25, blk xo (fokO o o.kind).cells 25, blk x (cellsV (.agg ⟨ints r⟩)) 43]) ++ F) b6 0 [Value.int .i64 xq.trader, .int .i64 xq.id, .int .i64 xq.firm, .int .i64 xq.side, .int .i64 xq.kind, .int .i64 xq.price, .int .i64 xq.qty, .int .i64 xq.show_, .int .i64 xq.stop, .slice a1 xf.length c1, .int .i64 xl, .bool xr, .bool xw, .bool xs, .int .i64 xe] := ⟨_, _, _, memF (.head _), Nat.le_refl _, rfl⟩
        have lu : AggF ((([blk b6 [Value.int .i64 xq.trader, .int .i64 xq.id, .int .i64 xq.firm, .int .i64 xq.side, .int .i64 xq.kind, .int .i64 xq.price, .int .i64 xq.qty, .int .i64 xq.show_, .int .i64 xq.stop, .slice a1 xf.length c1, .int .i64 xl, .bool xr, .bool xw, .bool xs, .int .i64 xe] 29, blk b7 [Value.int .i64 yq.trader, .int .i64 yq.id, .int .i64 yq.firm, .int .i64 yq.side, .int .i64 yq.kind, .int .i64 yq.price, .int .i64 yq.qty, .int .i64 yq.show_, .int .i64 yq.stop, .slice a2 yf.length c2, .int .i64 yl, .bool yr, .bool yw, .bool ys, .int .i64 0] 29] ++ (H1 ++ A1 ++ (H2 ++ A2))) ++ [blk xi (fokO o 3).cells 25, blk xv (fokO o 4).cells 25, blk xo (fokO o o.kind).cells 25, blk x (cellsV (.agg ⟨ints r⟩)) 43]) ++ F) b7 0 [Value.int .i64 yq.trader, .int .i64 yq.id, .int .i64 yq.firm, .int .i64 yq.side, .int .i64 yq.kind, .int .i64 yq.price, .int .i64 yq.qty, .int .i64 yq.show_, .int .i64 yq.stop, .slice a2 yf.length c2, .int .i64 yl, .bool yr, .bool yw, .bool ys, .int .i64 0] := ⟨_, _, _, memF (.tail _ (.head _)), Nat.le_refl _, rfl⟩
        have hIa : BkIn ((([blk b6 [Value.int .i64 xq.trader, .int .i64 xq.id, .int .i64 xq.firm, .int .i64 xq.side, .int .i64 xq.kind, .int .i64 xq.price, .int .i64 xq.qty, .int .i64 xq.show_, .int .i64 xq.stop, .slice a1 xf.length c1, .int .i64 xl, .bool xr, .bool xw, .bool xs, .int .i64 xe] 29, blk b7 [Value.int .i64 yq.trader, .int .i64 yq.id, .int .i64 yq.firm, .int .i64 yq.side, .int .i64 yq.kind, .int .i64 yq.price, .int .i64 yq.qty, .int .i64 yq.show_, .int .i64 yq.stop, .slice a2 yf.length c2, .int .i64 yl, .bool yr, .bool yw, .bool ys, .int .i64 0] 29] ++ (H1 ++ A1 ++ (H2 ++ A2))) ++ [blk xi (fokO o 3).cells 25, blk xv (fokO o 4).cells 25, blk xo (fokO o o.kind).cells 25, blk x (cellsV (.agg ⟨ints r⟩)) 43]) ++ F) ba X2 := hH1.in fun y m => by simp [m]
        have hIb : BkIn ((([blk b6 [Value.int .i64 xq.trader, .int .i64 xq.id, .int .i64 xq.firm, .int .i64 xq.side, .int .i64 xq.kind, .int .i64 xq.price, .int .i64 xq.qty, .int .i64 xq.show_, .int .i64 xq.stop, .slice a1 xf.length c1, .int .i64 xl, .bool xr, .bool xw, .bool xs, .int .i64 xe] 29, blk b7 [Value.int .i64 yq.trader, .int .i64 yq.id, .int .i64 yq.firm, .int .i64 yq.side, .int .i64 yq.kind, .int .i64 yq.price, .int .i64 yq.qty, .int .i64 yq.show_, .int .i64 yq.stop, .slice a2 yf.length c2, .int .i64 yl, .bool yr, .bool yw, .bool ys, .int .i64 0] 29] ++ (H1 ++ A1 ++ (H2 ++ A2))) ++ [blk xi (fokO o 3).cells 25, blk xv (fokO o 4).cells 25, blk xo (fokO o o.kind).cells 25, blk x (cellsV (.agg ⟨ints r⟩)) 43]) ++ F) bb Y2 := hH2.in fun y m => by simp [m]
        have srcX := own1.src (H := (([blk b6 [Value.int .i64 xq.trader, .int .i64 xq.id, .int .i64 xq.firm, .int .i64 xq.side, .int .i64 xq.kind, .int .i64 xq.price, .int .i64 xq.qty, .int .i64 xq.show_, .int .i64 xq.stop, .slice a1 xf.length c1, .int .i64 xl, .bool xr, .bool xw, .bool xs, .int .i64 xe] 29, blk b7 [Value.int .i64 yq.trader, .int .i64 yq.id, .int .i64 yq.firm, .int .i64 yq.side, .int .i64 yq.kind, .int .i64 yq.price, .int .i64 yq.qty, .int .i64 yq.show_, .int .i64 yq.stop, .slice a2 yf.length c2, .int .i64 yl, .bool yr, .bool yw, .bool ys, .int .i64 0] 29] ++ (H1 ++ A1 ++ (H2 ++ A2))) ++ [blk xi (fokO o 3).cells 25, blk xv (fokO o 4).cells 25, blk xo (fokO o o.kind).cells 25, blk x (cellsV (.agg ⟨ints r⟩)) 43]) ++ F) fun y m => by simp [m]
        have srcY := own2.src (H := (([blk b6 [Value.int .i64 xq.trader, .int .i64 xq.id, .int .i64 xq.firm, .int .i64 xq.side, .int .i64 xq.kind, .int .i64 xq.price, .int .i64 xq.qty, .int .i64 xq.show_, .int .i64 xq.stop, .slice a1 xf.length c1, .int .i64 xl, .bool xr, .bool xw, .bool xs, .int .i64 xe] 29, blk b7 [Value.int .i64 yq.trader, .int .i64 yq.id, .int .i64 yq.firm, .int .i64 yq.side, .int .i64 yq.kind, .int .i64 yq.price, .int .i64 yq.qty, .int .i64 yq.show_, .int .i64 yq.stop, .slice a2 yf.length c2, .int .i64 yl, .bool yr, .bool yw, .bool ys, .int .i64 0] 29] ++ (H1 ++ A1 ++ (H2 ++ A2))) ++ [blk xi (fokO o 3).cells 25, blk xv (fokO o 4).cells 25, blk xo (fokO o o.kind).cells 25, blk x (cellsV (.agg ⟨ints r⟩)) 43]) ++ F) fun y m => by simp [m]
        clear own1 own2 hH1 hH2
        generalize ([blk b6 [Value.int .i64 xq.trader, .int .i64 xq.id, .int .i64 xq.firm, .int .i64 xq.side, .int .i64 xq.kind, .int .i64 xq.price, .int .i64 xq.qty, .int .i64 xq.show_, .int .i64 xq.stop, .slice a1 xf.length c1, .int .i64 xl, .bool xr, .bool xw, .bool xs, .int .i64 xe] 29, blk b7 [Value.int .i64 yq.trader, .int .i64 yq.id, .int .i64 yq.firm, .int .i64 yq.side, .int .i64 yq.kind, .int .i64 yq.price, .int .i64 yq.qty, .int .i64 yq.show_, .int .i64 yq.stop, .slice a2 yf.length c2, .int .i64 yl, .bool yr, .bool yw, .bool ys, .int .i64 0] 29] ++ (H1 ++ A1 ++ (H2 ++ A2))) ++ [blk xi (fokO o 3).cells 25, blk xv (fokO o 4).cells 25, blk xo (fokO o o.kind).cells 25, blk x (cellsV (.agg ⟨ints r⟩)) 43] = M5 at *
        refine RunC.freezeR ?_
        have l1 := lt.at 9 _ rfl
        have l2 := lu.at 9 _ rfl
        have l3 := lt.at 14 _ rfl
        have l4 := lt.at 10 _ rfl
        have l5 := lu.at 10 _ rfl
        ((iterate 2 refine run_seq ?_); refine run_region ?_; refine xel rfl (ev_fieldAddr rfl rfl (fo rfl)) ?_; refine xel rfl (ev_loadF rfl rfl (sc rfl) l5) ?_; refine xep rfl rfl ?_; refine runL_nil ?_; refine then_normal ?_)
        by_cases hl : 0 < yl
        · obtain ⟨rfl, rfl⟩ := i2 rfl hl
          refine run_condT rfl (decide_eq_true hl) ?_
          have y1 : (decide ((12 : Int) = 12) && decide (((([] : List Fl).length : Nat) : Int) = 0)) = true := by simp
          (refine run_seq ?_; refine run_region ?_; refine xel rfl (ev_fieldAddr rfl rfl (fo rfl)) ?_; refine xel rfl (ev_loadF rfl rfl (sc rfl) l3) ?_; (iterate 2 refine xep rfl rfl ?_); refine runL_yes rfl rfl y1 ?_; refine xel rfl (ev_fieldAddr rfl rfl (fo rfl)) ?_; refine runL_yes rfl rfl y1 ?_; refine xel rfl (ev_loadF rfl rfl (sc rfl) l1) ?_; refine runL_yes rfl rfl y1 ?_; refine xel rfl (ev_len rfl rfl (se rfl)) ?_; refine runL_yes rfl rfl y1 ?_; (iterate 3 refine xep rfl rfl ?_); refine runL_yes rfl rfl y1 ?_; refine xel rfl (ev_callQ rfl rfl rfl (pf rfl) (q3 ..)) ?_; (iterate 2 refine xep rfl rfl ?_); refine runL_nil ?_; refine then_normal ?_; refine run_ret ?_; refine then_ret ?_)
          exact ⟨_, rfl, congrArg Value.bool (by rw [y1]; rfl)⟩
        · obtain ⟨rfl, rfl, hfk, rfl⟩ := i3 rfl hl
          have hlen : xf.length = yf.length := by have := congrArg List.length hfk; simpa using this
          refine run_condF rfl (decide_eq_false hl) ?_
          (refine run_skip ?_; refine then_normal ?_)
          ((iterate 2 refine run_seq ?_); refine run_region ?_; refine xel rfl (ev_fieldAddr rfl rfl (fo rfl)) ?_; refine xel rfl (ev_loadF rfl rfl (sc rfl) l3) ?_; (iterate 2 refine xep rfl rfl ?_); refine xgl rfl rfl (fun hq => ev_fieldAddr rfl rfl (fo rfl)) ?_; refine xgl rfl rfl (fun hq => ev_loadF rfl rfl (sc rfl) l4) ?_; refine xgp rfl rfl rfl ?_; (iterate 2 refine xep rfl rfl ?_); refine xgl rfl rfl (fun hq => ev_fieldAddr rfl rfl (fo rfl)) ?_; refine xgl rfl rfl (fun hq => ev_loadF rfl rfl (sc rfl) l1) ?_; refine xgl rfl rfl (fun hq => ev_len rfl rfl (se rfl)) ?_; refine xgl rfl rfl (fun hq => ev_fieldAddr rfl rfl (fo rfl)) ?_; refine xgl rfl rfl (fun hq => ev_loadF rfl rfl (sc rfl) l2) ?_; refine xgl rfl rfl (fun hq => ev_len rfl rfl (se rfl)) ?_; refine xgp rfl rfl rfl ?_; refine xep rfl rfl ?_; refine runL_nil ?_; refine then_normal ?_)
          refine run_condF rfl (by rw [hlen]; simp) ?_
          (refine run_skip ?_; refine then_normal ?_)
          ((iterate 2 refine run_seq ?_); refine run_region ?_; refine xel rfl (ev_fieldAddr rfl rfl (fo rfl)) ?_; refine xel rfl (ev_loadF rfl rfl (sc rfl) l1) ?_; refine xel rfl (ev_len rfl rfl (se rfl)) ?_; refine xep rfl rfl ?_; refine runL_nil ?_; refine then_normal ?_; refine run_block ?_)
          clear l3 l4 l5
          refine run_loopK (σ := Nat) [5, 6, 10, 11, 84, 85, 86] (fun i => [(5, .pointer (some ⟨ba, 0, none⟩)), (6, .pointer (some ⟨bb, 0, none⟩)), (10, .pointer (some ⟨b6, 0, none⟩)), (11, .pointer (some ⟨b7, 0, none⟩)), (84, .slice a1 xf.length c1), (85, .int .i64 xf.length), (86, .int .i64 i)])
            (fun _ => []) (fun i => i ≤ xf.length) (fun i => xf.length - i) 0 (Nat.zero_le _) rfl (fun _ => rfl) ?_
          intro i gi
          have hn2 : xf.length ≤ 1048576 := hnum
          (refine run_seq ?_; refine run_region ?_; refine xep rfl rfl ?_; refine runL_nil ?_; refine then_normal ?_; refine run_seq ?_)
          (refine run_cond rfl (fun hc => ?_) (fun hc => ?_) <;> (try simp only [z0, z1, z2, z3, z4, z5, z6, z7, z8, z9, Bool.not_true, Bool.not_false, Bool.false_or, Bool.true_and, true_and, and_true, false_or, or_false, reduceCtorEq, Bool.false_eq_true] at hc))
          · obtain ⟨d1, o1, _, _, _, rfl, _⟩ := srcX.pos (by omega)
            obtain ⟨d2, o2, _, _, _, rfl, _⟩ := srcY.pos (by omega)
            obtain ⟨f, hf⟩ : ∃ f, xf[i]? = some f := ⟨xf[i]'(by omega), List.getElem?_eq_getElem _⟩
            obtain ⟨g, hg⟩ : ∃ g, yf[i]? = some g := ⟨yf[i]'(by omega), List.getElem?_eq_getElem _⟩
            have hfg : FK f = FK g := by
              have h := congrArg (fun l => l[i]?) hfk
              simp only [List.getElem?_map, hf, hg, Option.map_some, Option.some.injEq] at h
              exact h
            simp only [FK, Prod.mk.injEq] at hfg
            obtain ⟨g1, g2, g3, g4⟩ := hfg
            have r1 : AggF (M5 ++ F) d1 (o1 + (i : Int).toNat * 21) (fcell f) := SrcIs.row fcell_len srcX rfl hf
            have r2 : AggF (M5 ++ F) d2 (o2 + (i : Int).toNat * 21) (fcell g) := SrcIs.row fcell_len srcY rfl hg
            have l3 : AggF (M5 ++ F) d1 (o1 + (i : Int).toNat * 21 + 0) f.maker.cells := r1.sub (j := 0) (n := 9) rfl
            have l4 : AggF (M5 ++ F) d2 (o2 + (i : Int).toNat * 21 + 0) f.maker.cells := by rw [g1]; exact r2.sub (j := 0) (n := 9) rfl
            have l5 := r1.at 18 _ rfl
            have l6 := r2.at 18 _ rfl
            have l7 := r1.at 19 _ rfl
            have l8 := r2.at 19 _ rfl
            have k1 := ctOrd
            have k2 := tyOrd f.maker
            have k3 := eqOrd f.maker
            have hge : false = false := rfl
            have y1 : (!decide (f.price = g.price)) = false := by rw [decide_eq_true g2]; rfl
            have y2 : (false || !decide (f.price = g.price)) = false := by rw [decide_eq_true g2]; rfl
            have hin : i < yf.length := by omega
            (refine run_skip ?_; refine then_normal ?_; refine run_seq ?_; refine run_block ?_; refine run_seq ?_; refine run_region ?_; (iterate 2 refine xep rfl rfl ?_); refine runL_nil ?_; refine then_normal ?_; refine run_seq ?_; refine run_region_draw mo (by kernel_rfl) ?_; refine xql rfl (ev_fieldAddr rfl rfl (fo rfl)) ?_; refine xql rfl (ev_loadF rfl rfl (sc rfl) l1) ?_; refine xqp rfl rfl ?_; refine xql rfl (ev_indexAddr rfl rfl rfl (se rfl) (by omega) (by omega)) ?_; refine xql rfl (ev_fieldAddr rfl rfl (fo rfl)) ?_; refine xql rfl (ev_loadAF rfl rfl (ag rfl) (sz rfl) l3 rfl) ?_; refine xql rfl (ev_fieldAddr rfl rfl (fo rfl)) ?_; refine xql rfl (ev_loadF rfl rfl (sc rfl) l2) ?_; refine xqp rfl rfl ?_; refine xql rfl (ev_indexAddr rfl rfl rfl (se rfl) (by omega) (by omega)) ?_; refine xql rfl (ev_fieldAddr rfl rfl (fo rfl)) ?_; refine xql rfl (ev_loadAF rfl rfl (ag rfl) (sz rfl) l4 rfl) ?_; refine xql rfl (ev_neqQ rfl rfl rfl k1 rfl k2 k3) ?_; refine xqp rfl rfl ?_; refine xhl rfl rfl (fun hq => ev_fieldAddr rfl rfl (fo rfl)) ?_; refine xhl rfl rfl (fun hq => ev_loadF rfl rfl (sc rfl) l1) ?_; refine xhp rfl rfl rfl ?_; refine xhl rfl rfl (fun hq => ev_indexAddr rfl rfl rfl (se rfl) (by (try simp only [z0, z1, z2, z3, z4, z5, z6, z7, z8, z9, Bool.not_true, Bool.not_false, Bool.false_or, Bool.true_and, true_and, and_true, false_or, or_false, reduceCtorEq, Bool.false_eq_true] at hq); omega) (by (try simp only [z0, z1, z2, z3, z4, z5, z6, z7, z8, z9, Bool.not_true, Bool.not_false, Bool.false_or, Bool.true_and, true_and, and_true, false_or, or_false, reduceCtorEq, Bool.false_eq_true] at hq); omega)) ?_; refine xhl rfl rfl (fun hq => ev_fieldAddr rfl rfl (fo rfl)) ?_; refine xhl rfl rfl (fun hq => ev_loadF rfl rfl (sc rfl) l5) ?_; refine xhl rfl rfl (fun hq => ev_fieldAddr rfl rfl (fo rfl)) ?_; refine xhl rfl rfl (fun hq => ev_loadF rfl rfl (sc rfl) l2) ?_; refine xhp rfl rfl rfl ?_; refine xhl rfl rfl (fun hq => ev_indexAddr rfl rfl rfl (se rfl) (by (try simp only [z0, z1, z2, z3, z4, z5, z6, z7, z8, z9, Bool.not_true, Bool.not_false, Bool.false_or, Bool.true_and, true_and, and_true, false_or, or_false, reduceCtorEq, Bool.false_eq_true] at hq); omega) (by (try simp only [z0, z1, z2, z3, z4, z5, z6, z7, z8, z9, Bool.not_true, Bool.not_false, Bool.false_or, Bool.true_and, true_and, and_true, false_or, or_false, reduceCtorEq, Bool.false_eq_true] at hq); omega)) ?_; refine xhl rfl rfl (fun hq => ev_fieldAddr rfl rfl (fo rfl)) ?_; refine xhl rfl rfl (fun hq => ev_loadF rfl rfl (sc rfl) l6) ?_; refine xhp rfl rfl rfl ?_; (iterate 2 refine xqp rfl rfl ?_); refine xhl rfl rfl (fun hq => ev_fieldAddr rfl rfl (fo rfl)) ?_; refine xhl rfl rfl (fun hq => ev_loadF rfl rfl (sc rfl) l1) ?_; refine xhp rfl rfl rfl ?_; refine xhl rfl rfl (fun hq => ev_indexAddr rfl rfl rfl (se rfl) (by (try simp only [z0, z1, z2, z3, z4, z5, z6, z7, z8, z9, Bool.not_true, Bool.not_false, Bool.false_or, Bool.true_and, true_and, and_true, false_or, or_false, reduceCtorEq, Bool.false_eq_true] at hq); omega) (by (try simp only [z0, z1, z2, z3, z4, z5, z6, z7, z8, z9, Bool.not_true, Bool.not_false, Bool.false_or, Bool.true_and, true_and, and_true, false_or, or_false, reduceCtorEq, Bool.false_eq_true] at hq); omega)) ?_; refine xhl rfl rfl (fun hq => ev_fieldAddr rfl rfl (fo rfl)) ?_; refine xhl rfl rfl (fun hq => ev_loadF rfl rfl (sc rfl) l7) ?_; refine xhl rfl rfl (fun hq => ev_fieldAddr rfl rfl (fo rfl)) ?_; refine xhl rfl rfl (fun hq => ev_loadF rfl rfl (sc rfl) l2) ?_; refine xhp rfl rfl rfl ?_; refine xhl rfl rfl (fun hq => ev_indexAddr rfl rfl rfl (se rfl) (by (try simp only [z0, z1, z2, z3, z4, z5, z6, z7, z8, z9, Bool.not_true, Bool.not_false, Bool.false_or, Bool.true_and, true_and, and_true, false_or, or_false, reduceCtorEq, Bool.false_eq_true] at hq); omega) (by (try simp only [z0, z1, z2, z3, z4, z5, z6, z7, z8, z9, Bool.not_true, Bool.not_false, Bool.false_or, Bool.true_and, true_and, and_true, false_or, or_false, reduceCtorEq, Bool.false_eq_true] at hq); omega)) ?_; refine xhl rfl rfl (fun hq => ev_fieldAddr rfl rfl (fo rfl)) ?_; refine xhl rfl rfl (fun hq => ev_loadF rfl rfl (sc rfl) l8) ?_; refine xhp rfl rfl rfl ?_; refine xqp rfl rfl ?_; refine runQ_nil ?_; refine then_normal ?_)
            refine run_condF rfl (by rw [decide_eq_true g2, decide_eq_true g3]; rfl) ?_
            (refine run_skip ?_; refine in_normal ?_; refine then_normal ?_; refine run_region ?_; refine xel rfl (ev_add rfl rfl rfl (by omega)) ?_; refine xep rfl rfl ?_; refine runL_nil ?_; refine then_normal ?_)
            exact ⟨i + 1, by omega, by omega, rfl, [], fun y => rfl⟩
          · (refine run_exit ?_; (iterate 2 refine then_exit ?_); refine in_exit ?_; refine then_normal ?_)
            have hgd : true = true := rfl
            have hl1 : (ordersL (X2.side 1)).length ≤ 64 := by have := (hw3.side 1).2; rw [ordersL_len]; exact this
            have hl2 : (ordersL (X2.side 2)).length ≤ 64 := by have := (hw3.side 2).2; rw [ordersL_len]; exact this
            (refine run_seq ?_; refine run_region ?_; refine xep rfl rfl ?_)
            refine runL_callZ [] [] rfl rfl rfl rfl rfl rfl rfl (pf rfl) (fun y => by (first | rfl | (simp only [List.append_eq, cnt_append, cnt_cons, cnt_nil, blk]; omega) | (simp only [List.append_eq, cnt_append, cnt_cons, cnt_nil, blk]; done))) (sp_borders _ ba X2 hIa.up hw3 1) ?_
            rintro v A11 own11
            obtain ⟨a11, c11, rfl, own11⟩ := own11.at
            (refine xep rfl rfl ?_)
            refine runL_callZ A11 [] rfl rfl rfl rfl rfl rfl rfl (pf rfl) (fun y => by (first | rfl | (simp only [List.append_eq, cnt_append, cnt_cons, cnt_nil, blk]; omega) | (simp only [List.append_eq, cnt_append, cnt_cons, cnt_nil, blk]; done))) (sp_borders _ bb X2 hIb.up hw3 1) ?_
            rintro v A12 own12
            obtain ⟨a12, c12, rfl, own12⟩ := own12.at
            skip
            refine runL_ev rfl rfl rfl rfl (ev_callQ rfl rfl rfl (pf rfl) (sp_sameOrd _ a11 a12 _ c11 c12 (ordersL (X2.side 1)) rfl (by omega) (own11.src fun y m => by simp [m]) (own12.src fun y m => by simp [m]))) ?_
            (refine xep rfl rfl ?_; refine runL_yes rfl rfl hgd ?_; refine xep rfl rfl ?_; refine runL_yes rfl rfl hgd ?_)
            refine runL_callZ (A11 ++ A12) [] rfl rfl rfl rfl rfl rfl rfl (pf rfl) (fun y => by (first | rfl | (simp only [List.append_eq, cnt_append, cnt_cons, cnt_nil, blk]; omega) | (simp only [List.append_eq, cnt_append, cnt_cons, cnt_nil, blk]; done))) (sp_borders _ ba X2 hIa.up hw3 2) ?_
            rintro v A13 own13
            obtain ⟨a13, c13, rfl, own13⟩ := own13.at
            (refine runL_yes rfl rfl hgd ?_; refine xep rfl rfl ?_; refine runL_yes rfl rfl hgd ?_)
            refine runL_callZ (A11 ++ A12 ++ A13) [] rfl rfl rfl rfl rfl rfl rfl (pf rfl) (fun y => by (first | rfl | (simp only [List.append_eq, cnt_append, cnt_cons, cnt_nil, blk]; omega) | (simp only [List.append_eq, cnt_append, cnt_cons, cnt_nil, blk]; done))) (sp_borders _ bb X2 hIb.up hw3 2) ?_
            rintro v A14 own14
            obtain ⟨a14, c14, rfl, own14⟩ := own14.at
            (refine runL_yes rfl rfl hgd ?_)
            refine runL_ev rfl rfl rfl rfl (ev_callQ rfl rfl rfl (pf rfl) (sp_sameOrd _ a13 a14 _ c13 c14 (ordersL (X2.side 2)) rfl (by omega) (own13.src fun y m => by simp [m]) (own14.src fun y m => by simp [m]))) ?_
            ((iterate 2 refine xep rfl rfl ?_); refine runL_yes rfl rfl hgd ?_; refine xel rfl (ev_callQ rfl rfl rfl (pf rfl) (q3 ..)) ?_; (iterate 2 refine xep rfl rfl ?_); refine runL_nil ?_; refine then_normal ?_; refine run_ret ?_)
            exact ⟨_, rfl, rfl⟩
      · refine run_condT rfl (by simp [he]) ?_
        have y1 : decide (xe = ye) = true := decide_eq_true (i1 he)
        (refine run_seq ?_; refine run_region ?_; refine xel rfl (ev_fieldAddr rfl rfl (fo rfl)) ?_; refine xel rfl (ev_loadK rfl rfl (sc rfl) (memF (.head _)) rfl) ?_; refine xel rfl (ev_fieldAddr rfl rfl (fo rfl)) ?_; refine xel rfl (ev_loadK rfl rfl (sc rfl) (memF (.tail _ (.head _))) rfl) ?_; (iterate 2 refine xep rfl rfl ?_); refine runL_yes rfl rfl y1 ?_; refine xel rfl (ev_callQ rfl rfl rfl (pf rfl) (q3 ..)) ?_; (iterate 2 refine xep rfl rfl ?_); refine runL_nil ?_; refine then_normal ?_; refine run_ret ?_; refine then_ret ?_)
        exact ⟨_, rfl, congrArg Value.bool (by rw [y1]; rfl)⟩
end Go.Proofs.Ytiilndlgfgikbaa
