/- Contracts of functions of the given program over its translation, each proved by walking its text; used by the laws' rows. It proves no given statement by itself. -/
import Derived.Test.YtfclaleiciodmaaSLLaw9d
set_option autoImplicit false
set_option linter.unusedSectionVars false
set_option linter.unusedSimpArgs false
set_option linter.unusedVariables false
set_option maxRecDepth 4000
namespace Go.Proofs.Ytfclaleiciodmaa
open Go Go.SL Go.Proofs
variable [Base]
set_option maxHeartbeats 8000000 in
theorem levelRemoves_sp (F : Heap) (a : Option Addr) (len cap : Nat) (rs : List (List Int)) (n0 : Int) (hR : RowsF F a len 5 rs) (hC : len ≤ cap) (hM : cap ≤ 9223372036854775807) (h1 : InI n0) :
    Sp Try.prog F 7 [.slice a len cap, .int .i64 n0] [] (Ret (.bool true)) := by
  have q3 := @levelRuns_sp
  have hok := fills_ok rs 20
  have hlb := hok.lb (by omega)
  have hnd := hok.nodup
  have hl20 := hok.len
  refine sp_of_code Try.func7 rfl rfl ?_
  (refine run_seq ?_; refine run_region ?_; refine xep rfl rfl ?_; refine runL_nil ?_; refine then_normal ?_; refine run_seq ?_; refine run_region ?_; refine xep rfl rfl ?_)
  refine runL_call0 rfl rfl rfl rfl rfl rfl rfl (pf rfl) (sp_filled _ a len cap rs (hR.mono fun x m => List.mem_append_right _ m) hC hM) ?_
  rintro v H1 ⟨b, rfl, hH1⟩
  generalize (fills rs 20).2 = es at *
  (refine xep rfl rfl ?_; refine runL_nil ?_; refine then_normal ?_; (iterate 2 refine run_seq ?_); refine run_region ?_; refine xep rfl rfl ?_; refine xel rfl (ev_eqNil rfl rfl rfl (pt rfl)) ?_; refine runL_nil ?_; refine then_normal ?_)
  refine run_condF rfl rfl ?_
  (refine run_skip ?_; refine then_normal ?_; refine run_seq ?_; refine run_region ?_; (iterate 2 refine xep rfl rfl ?_); refine xel rfl (ev_bits rfl rfl rfl rfl) ?_)
  have e7 : bits .and .i64 n0 7 = n0 % 8 := i64_and_7 n0
  rw [e7]
  have t1 := take_len (firm := 9) 8 (n0 % 8) es (by omega) hlb
  have t2 := take_keys (firm := 9) 8 (n0 % 8) es (by omega) hlb hnd
  refine runL_callZ [] H1 rfl rfl rfl rfl rfl rfl rfl (pf rfl) (fun x => by (first | rfl | (simp only [List.append_eq, cnt_append, cnt_cons, cnt_nil, blk]; omega) | (simp only [List.append_eq, cnt_append, cnt_cons, cnt_nil, blk]; done))) (sp_ltake _ H1 b 7 es hH1 hlb 9 (n0 % 8) (by unfold InI; omega) (by omega)) ?_
  rintro v _ ⟨a3, c3, A3, L3, rfl, -, hL3, rfl⟩
  obtain ⟨-, hlb3, hl3⟩ := t1
  generalize (take 9 (n0 % 8) es).2.2 = es3 at *
  (refine runL_nil ?_; refine then_normal ?_; refine run_seq ?_; refine run_region ?_; refine xep rfl rfl ?_)
  refine runL_callZ (L3 ++ A3) [] rfl rfl rfl rfl rfl rfl rfl (pf rfl) (fun x => by (first | rfl | (simp only [List.append_eq, cnt_append, cnt_cons, cnt_nil, blk]; omega) | (simp only [List.append_eq, cnt_append, cnt_cons, cnt_nil, blk]; done))) (sp_lorders _ b 7 es3 (hL3.in fun x m => by simp [m]) hlb3.1) ?_
  rintro v A6 own6
  obtain ⟨a6, c6, rfl, own6⟩ := own6.at
  (refine xep rfl rfl ?_; refine runL_nil ?_; refine then_normal ?_; (iterate 2 refine run_seq ?_); refine run_region ?_; refine xep rfl rfl ?_; refine xel rfl (ev_len rfl rfl (se rfl)) ?_; refine xep rfl rfl ?_; refine runL_nil ?_; refine then_normal ?_)
  have hlen6 : (es3.map (·.o)).length = es3.length := List.length_map ..
  (refine run_cond rfl (fun hc => ?_) (fun hc => ?_) <;> (try simp only [z0, z1, z2, z3, z4, z5, z6, z7, z8, z9, Bool.not_true, Bool.not_false, Bool.false_or, Bool.true_and, true_and, and_true, false_or, or_false, reduceCtorEq, Bool.false_eq_true] at hc))
  · have : es3 = [] := by
      cases es3 with
      | nil => rfl
      | cons x l => exfalso; simp only [List.length_cons] at hc; omega
    subst this
    (refine run_seq ?_; refine run_region ?_; refine xep rfl rfl ?_)
    refine runL_callZ (A3 ++ A6) L3 rfl rfl rfl rfl rfl rfl rfl (pf rfl) (fun x => by (first | rfl | (simp only [List.append_eq, cnt_append, cnt_cons, cnt_nil, blk]; omega) | (simp only [List.append_eq, cnt_append, cnt_cons, cnt_nil, blk]; done))) (sp_lremove _ L3 b 7 [] hL3 (by decide) 0 0) ?_
    rintro v L4 ⟨rfl, hL4⟩
    rw [lrem_none (by simp)] at hL4 ⊢
    dsimp only at hL4 ⊢
    have hb0 : LB [] := ⟨by decide, by simp⟩
    have hgd : true = true := rfl
    have y1 : (!false) = true := rfl
    have y2 : decide (sumE (fun x => x.seen) [] = 0) = true := rfl
    have y3 : decide (sumE (fun x => x.o.qty) [] = 0) = true := rfl
    ((iterate 3 refine xep rfl rfl ?_); refine runL_alloc rfl rfl rfl rfl rfl ze25 (fun _ => ?_); refine runL_store0 rfl rfl rfl rfl rfl (sz rfl) rfl rfl rfl rfl rfl ?_; refine xep rfl rfl ?_; refine runL_nil ?_; refine then_normal ?_; refine run_seq ?_; refine run_region ?_; (iterate 3 refine xep rfl rfl ?_); refine runL_yes rfl rfl hgd ?_; refine xep rfl rfl ?_; refine runL_yes rfl rfl hgd ?_)
    refine runL_ev rfl rfl rfl rfl (ev_callQ rfl rfl rfl (pf rfl) (sp_lseen _ b 7 [] (hL4.in fun x m => by simp [m]) hb0)) ?_
    (refine runL_yes rfl rfl hgd ?_; (iterate 3 refine xep rfl rfl ?_); refine runL_yes rfl rfl hgd ?_; refine xep rfl rfl ?_; refine runL_yes rfl rfl hgd ?_)
    refine runL_ev rfl rfl rfl rfl (ev_callQ rfl rfl rfl (pf rfl) (sp_lwhole _ b 7 [] (hL4.in fun x m => by simp [m]) hb0)) ?_
    (refine runL_yes rfl rfl hgd ?_; (iterate 3 refine xep rfl rfl ?_); refine runL_yes rfl rfl hgd ?_; refine xel rfl (ev_callQ rfl rfl rfl (pf rfl) (q3 ..)) ?_; (iterate 2 refine xep rfl rfl ?_); refine runL_nil ?_; refine then_normal ?_; refine run_ret ?_; refine then_ret ?_)
    exact ⟨_, rfl, rfl⟩
  · have w1 := win_in n0 (show (0 : Int) ≤ (es3.length : Int) - 1 by omega)
    have q4 := fun F => sp_Win F n0 0 ((es3.length : Int) - 1) (by omega) (by omega) (by omega)
    obtain ⟨k, hk⟩ : ∃ k : Nat, win n0 0 ((es3.length : Int) - 1) = k := ⟨(win n0 0 ((es3.length : Int) - 1)).toNat, by omega⟩
    rw [hk] at w1 q4
    obtain ⟨y, hy⟩ : ∃ y, es3[k]? = some y := ⟨es3[k]'(by omega), List.getElem?_eq_getElem _⟩
    have src6 := own6.src (H := (A3 ++ A6) ++ F) fun x m => by simp [m]
    obtain ⟨b6, off, _, _, _, rfl, _⟩ := src6.pos (by omega)
    have l1 := SrcIs.row oc_len src6 hlen6 (i := k) (x := y.o) (by rw [List.getElem?_map, hy]; rfl)
    have l2 := l1.at 0 _ rfl
    have l3 := l1.at 1 _ rfl
    (refine run_skip ?_; refine then_normal ?_; refine run_seq ?_; refine run_region ?_; (iterate 2 refine xep rfl rfl ?_); refine xel rfl (ev_len rfl rfl (se rfl)) ?_; refine xel rfl (ev_sub rfl rfl rfl (by omega)) ?_; refine xel rfl (ev_callQ rfl rfl rfl (pf rfl) (q4 ..)) ?_; refine xep rfl rfl ?_; refine runL_nil ?_; refine then_normal ?_; refine run_seq ?_; refine run_region ?_; refine xep rfl rfl ?_)
    refine runL_ev rfl rfl rfl rfl (ev_callQ rfl rfl rfl (pf rfl) (sp_lseen _ b 7 es3 (hL3.in fun x m => by simp [m]) hlb3)) ?_
    (refine xep rfl rfl ?_)
    refine runL_ev rfl rfl rfl rfl (ev_callQ rfl rfl rfl (pf rfl) (sp_lwhole _ b 7 es3 (hL3.in fun x m => by simp [m]) hlb3)) ?_
    ((iterate 2 refine xep rfl rfl ?_); refine runL_nil ?_; refine then_normal ?_; refine run_seq ?_)
    refine RunC.perm (h' := L3 ++ (A3 ++ A6)) (fun x => by (first | rfl | (simp only [List.append_eq, cnt_append, cnt_cons, cnt_nil, blk]; omega) | (simp only [List.append_eq, cnt_append, cnt_cons, cnt_nil, blk]; done))) ?_
    refine run_mid (σ := Heap × Nat) [5, 6, 9, 10, 11] (fun s => [(12, .pointer (some ⟨s.2, 0, none⟩)), (13, .bool true)]) (fun s => blk s.2 y.o.cells 25 :: s.1 ++ (A3 ++ A6)) (fun s => LvH b 7 (cutE k es3) s.1) rfl ?_ ?_
    · have cl := fun G => sp_lremove G L3 b 7 es3 hL3 hlb3.1 y.o.trader y.o.id
      rw [lrem_at hy t2] at cl
      refine RunC.freezeR ?_
      refine run_region_D mo ?_
      (refine runD_q 0 rfl rfl (by kernel_rfl) ?_; refine ⟨_, fun _ => ev_pure rfl, ?_⟩; refine runD_q 1 rfl rfl (by kernel_rfl) ?_; refine ⟨_, fun _ => ev_pure rfl, ?_⟩; refine runD_q 2 rfl rfl (by kernel_rfl) ?_; refine ⟨_, fun _ => ev_pure rfl, ?_⟩; refine runD_q 3 rfl rfl (by kernel_rfl) ?_; refine ⟨_, fun _ => ev_indexAddr rfl rfl rfl (se rfl) (by omega) (by omega), ?_⟩; refine runD_q 4 rfl rfl (by kernel_rfl) ?_; refine ⟨_, fun _ => ev_fieldAddr rfl rfl (fo rfl), ?_⟩; refine runD_q 5 rfl rfl (by kernel_rfl) ?_; refine ⟨_, fun _ => ev_loadF rfl rfl (sc rfl) l2, ?_⟩; refine runD_q 6 rfl rfl (by kernel_rfl) ?_; refine ⟨_, fun _ => ev_pure rfl, ?_⟩; refine runD_q 7 rfl rfl (by kernel_rfl) ?_; refine ⟨_, fun _ => ev_pure rfl, ?_⟩; refine runD_q 8 rfl rfl (by kernel_rfl) ?_; refine ⟨_, fun _ => ev_indexAddr rfl rfl rfl (se rfl) (by omega) (by omega), ?_⟩; refine runD_q 9 rfl rfl (by kernel_rfl) ?_; refine ⟨_, fun _ => ev_fieldAddr rfl rfl (fo rfl), ?_⟩; refine runD_q 10 rfl rfl (by kernel_rfl) ?_; refine ⟨_, fun _ => ev_loadF rfl rfl (sc rfl) l3, ?_⟩)
      refine runD_2 11 15 (by kernel_rfl) (oneD rfl rfl rfl ?_) (oneD rfl rfl rfl ?_)
      · refine runL_callZ [] L3 rfl rfl rfl rfl rfl rfl rfl (pf rfl) (fun x => by (first | rfl | (simp only [List.append_eq, cnt_append, cnt_cons, cnt_nil, blk]; omega) | (simp only [List.append_eq, cnt_append, cnt_cons, cnt_nil, blk]; done))) (cl _) ?_
        rintro v L4 ⟨rfl, hL4⟩
        (refine runL_nil ?_; refine endS_d rfl ?_; refine runD_q 12 rfl rfl (by kernel_rfl) ?_; refine ⟨_, fun _ => ev_pure rfl, ?_⟩; refine runD_q 13 rfl rfl (by kernel_rfl) ?_; refine ⟨_, fun _ => ev_pure rfl, ?_⟩; refine runD_q 14 rfl rfl (by kernel_rfl) ?_; refine ⟨_, fun _ => ev_pure rfl, ?_⟩; refine runD_1 15 (by kernel_rfl) rfl rfl rfl ?_; refine runL_alloc rfl rfl rfl rfl rfl ze25 (fun _ => ?_); refine runL_nil ?_; refine endS_d rfl ?_; refine runD_1 16 (by kernel_rfl) rfl rfl rfl ?_; refine runL_store0 rfl rfl rfl rfl rfl (sz rfl) rfl rfl rfl rfl rfl ?_; refine runL_nil ?_; refine endS_n rfl ?_; refine runD_q 17 rfl rfl (by kernel_rfl) ?_; refine ⟨_, fun _ => ev_pure rfl, ?_⟩; refine runD_done (by kernel_rfl) ?_)
        exact midN (L4, _) [] hL4 rfl (fun x => by (simp only [List.append_eq, cnt_append, cnt_cons, cnt_nil, blk, Ord.cells]; omega))
      · (refine runL_alloc rfl rfl rfl rfl rfl ze25 (fun _ => ?_); refine runL_nil ?_; refine endS_d rfl ?_; refine runD_1 11 (by kernel_rfl) rfl rfl rfl ?_)
        rename_i b9
        refine runL_callZ [blk b9 o0.cells 25] L3 rfl rfl rfl rfl rfl rfl rfl (pf rfl) (fun x => by (first | rfl | (simp only [List.append_eq, cnt_append, cnt_cons, cnt_nil, blk]; omega) | (simp only [List.append_eq, cnt_append, cnt_cons, cnt_nil, blk]; done))) (cl _) ?_
        rintro v L4 ⟨rfl, hL4⟩
        (refine runL_nil ?_; refine endS_d rfl ?_; refine runD_q 12 rfl rfl (by kernel_rfl) ?_; refine ⟨_, fun _ => ev_pure rfl, ?_⟩; refine runD_q 13 rfl rfl (by kernel_rfl) ?_; refine ⟨_, fun _ => ev_pure rfl, ?_⟩; refine runD_q 14 rfl rfl (by kernel_rfl) ?_; refine ⟨_, fun _ => ev_pure rfl, ?_⟩; refine runD_1 16 (by kernel_rfl) rfl rfl rfl ?_; refine runL_store0 rfl rfl rfl rfl rfl (sz rfl) rfl rfl rfl rfl rfl ?_; refine runL_nil ?_; refine endS_n rfl ?_; refine runD_q 17 rfl rfl (by kernel_rfl) ?_; refine ⟨_, fun _ => ev_pure rfl, ?_⟩; refine runD_done (by kernel_rfl) ?_)
        exact midN (L4, _) [] hL4 rfl (fun x => by (simp only [List.append_eq, cnt_append, cnt_cons, cnt_nil, blk, Ord.cells]; omega))
    rintro ⟨L4, b12⟩ hL4
    dsimp only at hL4 ⊢
    have hlb4 := cutE_LB (k := k) hlb3
    have hlen4 := cutE_len (es := es3) (k := k) (by omega)
    have hs1 := sumE_cut (g := fun x => x.seen) hy
    have hs2 := sumE_cut (g := fun x => x.o.qty) hy
    have hym := hlb3.2 y (List.mem_of_getElem? hy)
    refine RunC.perm (h' := L4 ++ (blk b12 y.o.cells 25 :: (A3 ++ A6))) (fun x => by (simp only [List.append_eq, cnt_append, cnt_cons, cnt_nil, blk, Ord.cells]; omega)) ?_
    refine run_seq ?_
    refine run_mid (σ := Heap × Nat) [5, 6, 9, 10, 11, 12, 13] (fun s => [(14, .pointer (some ⟨s.2, 0, none⟩)), (15, .bool false)]) (fun s => s.1 ++ (blk s.2 o0.cells 25 :: blk b12 y.o.cells 25 :: (A3 ++ A6))) (fun s => LvH b 7 (cutE k es3) s.1) rfl ?_ ?_
    · have cl := fun G => sp_lremove G L4 b 7 (cutE k es3) hL4 hlb4.1 y.o.trader y.o.id
      rw [lrem_again hy t2] at cl
      refine RunC.freezeR ?_
      have l1 := l1.mono (F' := (blk b12 y.o.cells 25 :: (A3 ++ A6)) ++ F) fun x m => List.mem_cons_of_mem _ m
      have l2 := l2.mono (F' := (blk b12 y.o.cells 25 :: (A3 ++ A6)) ++ F) fun x m => List.mem_cons_of_mem _ m
      have l3 := l3.mono (F' := (blk b12 y.o.cells 25 :: (A3 ++ A6)) ++ F) fun x m => List.mem_cons_of_mem _ m
      refine run_region_D mo ?_
      (refine runD_q 0 rfl rfl (by kernel_rfl) ?_; refine ⟨_, fun _ => ev_pure rfl, ?_⟩; refine runD_q 1 rfl rfl (by kernel_rfl) ?_; refine ⟨_, fun _ => ev_pure rfl, ?_⟩; refine runD_q 2 rfl rfl (by kernel_rfl) ?_; refine ⟨_, fun _ => ev_pure rfl, ?_⟩; refine runD_q 3 rfl rfl (by kernel_rfl) ?_; refine ⟨_, fun _ => ev_indexAddr rfl rfl rfl (se rfl) (by omega) (by omega), ?_⟩; refine runD_q 4 rfl rfl (by kernel_rfl) ?_; refine ⟨_, fun _ => ev_fieldAddr rfl rfl (fo rfl), ?_⟩; refine runD_q 5 rfl rfl (by kernel_rfl) ?_; refine ⟨_, fun _ => ev_loadF rfl rfl (sc rfl) l2, ?_⟩; refine runD_q 6 rfl rfl (by kernel_rfl) ?_; refine ⟨_, fun _ => ev_pure rfl, ?_⟩; refine runD_q 7 rfl rfl (by kernel_rfl) ?_; refine ⟨_, fun _ => ev_pure rfl, ?_⟩; refine runD_q 8 rfl rfl (by kernel_rfl) ?_; refine ⟨_, fun _ => ev_indexAddr rfl rfl rfl (se rfl) (by omega) (by omega), ?_⟩; refine runD_q 9 rfl rfl (by kernel_rfl) ?_; refine ⟨_, fun _ => ev_fieldAddr rfl rfl (fo rfl), ?_⟩; refine runD_q 10 rfl rfl (by kernel_rfl) ?_; refine ⟨_, fun _ => ev_loadF rfl rfl (sc rfl) l3, ?_⟩)
      refine runD_2 11 15 (by kernel_rfl) (oneD rfl rfl rfl ?_) (oneD rfl rfl rfl ?_)
      · refine runL_callZ [] L4 rfl rfl rfl rfl rfl rfl rfl (pf rfl) (fun x => by (first | rfl | (simp only [List.append_eq, cnt_append, cnt_cons, cnt_nil, blk]; omega) | (simp only [List.append_eq, cnt_append, cnt_cons, cnt_nil, blk]; done))) (cl _) ?_
        rintro v L5 ⟨rfl, hL5⟩
        (refine runL_nil ?_; refine endS_d rfl ?_; refine runD_q 12 rfl rfl (by kernel_rfl) ?_; refine ⟨_, fun _ => ev_pure rfl, ?_⟩; refine runD_q 13 rfl rfl (by kernel_rfl) ?_; refine ⟨_, fun _ => ev_pure rfl, ?_⟩; refine runD_q 14 rfl rfl (by kernel_rfl) ?_; refine ⟨_, fun _ => ev_pure rfl, ?_⟩; refine runD_1 15 (by kernel_rfl) rfl rfl rfl ?_; refine runL_alloc rfl rfl rfl rfl rfl ze25 (fun _ => ?_); refine runL_nil ?_; refine endS_d rfl ?_; refine runD_1 16 (by kernel_rfl) rfl rfl rfl ?_; refine runL_store0 rfl rfl rfl rfl rfl (sz rfl) rfl rfl rfl rfl rfl ?_; refine runL_nil ?_; refine endS_n rfl ?_; refine runD_q 17 rfl rfl (by kernel_rfl) ?_; refine ⟨_, fun _ => ev_pure rfl, ?_⟩; refine runD_done (by kernel_rfl) ?_)
        exact midN (L5, _) [] hL5 rfl (fun x => by (simp only [List.append_eq, cnt_append, cnt_cons, cnt_nil, blk, Ord.cells]; omega))
      · (refine runL_alloc rfl rfl rfl rfl rfl ze25 (fun _ => ?_); refine runL_nil ?_; refine endS_d rfl ?_; refine runD_1 11 (by kernel_rfl) rfl rfl rfl ?_)
        rename_i b9
        refine runL_callZ [blk b9 o0.cells 25] L4 rfl rfl rfl rfl rfl rfl rfl (pf rfl) (fun x => by (first | rfl | (simp only [List.append_eq, cnt_append, cnt_cons, cnt_nil, blk]; omega) | (simp only [List.append_eq, cnt_append, cnt_cons, cnt_nil, blk]; done))) (cl _) ?_
        rintro v L5 ⟨rfl, hL5⟩
        (refine runL_nil ?_; refine endS_d rfl ?_; refine runD_q 12 rfl rfl (by kernel_rfl) ?_; refine ⟨_, fun _ => ev_pure rfl, ?_⟩; refine runD_q 13 rfl rfl (by kernel_rfl) ?_; refine ⟨_, fun _ => ev_pure rfl, ?_⟩; refine runD_q 14 rfl rfl (by kernel_rfl) ?_; refine ⟨_, fun _ => ev_pure rfl, ?_⟩; refine runD_1 16 (by kernel_rfl) rfl rfl rfl ?_; refine runL_store0 rfl rfl rfl rfl rfl (sz rfl) rfl rfl rfl rfl rfl ?_; refine runL_nil ?_; refine endS_n rfl ?_; refine runD_q 17 rfl rfl (by kernel_rfl) ?_; refine ⟨_, fun _ => ev_pure rfl, ?_⟩; refine runD_done (by kernel_rfl) ?_)
        exact midN (L5, _) [] hL5 rfl (fun x => by (simp only [List.append_eq, cnt_append, cnt_cons, cnt_nil, blk, Ord.cells]; omega))
    clear hL4 L4
    rintro ⟨L4, b14⟩ hL4
    dsimp only at hL4 ⊢
    refine run_seq ?_
    have hck : es3.length ≤ c6 := by
      obtain ⟨_, _, hv, h2⟩ := own6.form
      cases hv; exact h2
    have left1 : rows Ord.cells ((es3.take k).map (·.o)) ++ rows Ord.cells ((es3.drop (k + 1)).map (·.o)) = rows Ord.cells ((cutE k es3).map (·.o)) := by
      unfold cutE; rw [← rows_append, ← List.map_append]
    refine run_mid (σ := Heap × Option Addr × Nat) [5, 6, 9, 10, 11, 12, 13, 14, 15] (fun s => [(16, .slice s.2.1 (cutE k es3).length s.2.2)]) (fun s => (L4 ++ (blk b14 o0.cells 25 :: blk b12 y.o.cells 25 :: (A3 ++ A6))) ++ s.1) (fun s => OwnS 25 9 (.slice s.2.1 (cutE k es3).length s.2.2) (cutE k es3).length (rows Ord.cells ((cutE k es3).map (·.o))) s.1) rfl ?_ ?_
    · refine RunC.freeze ?_
      have l1 := l1.mono (F' := (L4 ++ (blk b14 o0.cells 25 :: blk b12 y.o.cells 25 :: (A3 ++ A6))) ++ F) fun x m => by simp only [List.mem_append, List.mem_cons] at m ⊢; rcases m with (m | m) | m <;> simp [m]
      have src6 := src6.mono (H' := (L4 ++ (blk b14 o0.cells 25 :: blk b12 y.o.cells 25 :: (A3 ++ A6))) ++ F) fun x m => by simp only [List.mem_append, List.mem_cons] at m ⊢; rcases m with (m | m) | m <;> simp [m]
      refine run_region_D mo ?_
      (refine runD_q 1 rfl rfl (by kernel_rfl) ?_; refine ⟨_, fun _ => ev_pure rfl, ?_⟩; refine runD_q 2 rfl rfl (by kernel_rfl) ?_; refine ⟨_, fun _ => ev_pure rfl, ?_⟩; refine runD_q 3 rfl rfl (by kernel_rfl) ?_; refine ⟨_, fun _ => ev_sliceHi rfl rfl rfl (se rfl) (by omega) (by omega), ?_⟩; refine runD_q 5 rfl rfl (by kernel_rfl) ?_; refine ⟨_, fun _ => ev_pure rfl, ?_⟩; refine runD_q 6 rfl rfl (by kernel_rfl) ?_; refine ⟨_, fun _ => ev_pure rfl, ?_⟩; refine runD_q 7 rfl rfl (by kernel_rfl) ?_; refine ⟨_, fun _ => ev_add rfl rfl rfl (by omega), ?_⟩; refine runD_q 8 rfl rfl (by kernel_rfl) ?_; refine ⟨_, fun _ => ev_sliceLo rfl rfl rfl (se rfl) (by omega) (by omega), ?_⟩; refine runD_1 0 (by kernel_rfl) rfl rfl rfl ?_)
      refine runL_buildSlice (n := 9) (l := []) rfl rfl rfl rfl rfl (se rfl) ze25 rfl rfl rfl rfl rfl (fun b20 => ?_)
      (refine runL_nil ?_; refine endS_d rfl ?_; refine runD_1 4 (by kernel_rfl) rfl rfl rfl ?_)
      have s1 := (src6.take (k := k) (by omega)).up (A := [blk b20 [] 25])
      rw [rows_take oc_len _ (by omega), ← List.map_take] at s1
      refine runL_append (sl := rows Ord.cells ((es3.take k).map (fun x : Ent => x.o))) [] rfl rfl rfl rfl rfl rfl rfl (se rfl) (se rfl) ze25 rfl (byt rfl) (OwnS.lit (l := []) rfl) (fun y => by (first | rfl | (simp only [List.append_eq, cnt_append, cnt_cons, cnt_nil, blk]; omega) | (simp only [List.append_eq, cnt_append, cnt_cons, cnt_nil, blk]; done))) s1 (rows_cells oc_cells _) (by decide) (by decide) (by simp only [Int.toNat_natCast]; omega) ?_
      rintro v A8 own8
      obtain ⟨a8, c8, rfl, own8⟩ := own8.at
      (refine runL_nil ?_; refine endS_d rfl ?_; refine runD_1 9 (by kernel_rfl) rfl rfl rfl ?_)
      have s2 := (src6.drop (k := k + 1) (cap := c6) (by omega) hck).up (A := A8 ++ [])
      rw [rows_drop oc_len _ (by omega), ← List.map_drop] at s2
      refine runL_append (sl := rows Ord.cells ((es3.drop (k + 1)).map (fun x : Ent => x.o))) [] rfl rfl rfl rfl rfl rfl rfl (se rfl) (se rfl) ze25 rfl (byt rfl) own8 (fun y => by (first | rfl | (simp only [List.append_eq, cnt_append, cnt_cons, cnt_nil, blk]; omega) | (simp only [List.append_eq, cnt_append, cnt_cons, cnt_nil, blk]; done))) s2 (rows_cells oc_cells _) (by decide) (by decide) (by simp only [Int.toNat_natCast]; omega) ?_
      rintro v A9 own9
      rw [List.nil_append, left1, show 0 + (k : Int).toNat + (es3.length - ((k : Int) + 1).toNat) = (cutE k es3).length by omega] at own9
      obtain ⟨a9, c9, rfl, own9⟩ := own9.at
      (refine runL_nil ?_; refine endS_d rfl ?_; refine runD_q 10 rfl rfl (by kernel_rfl) ?_; refine ⟨_, fun _ => ev_pure rfl, ?_⟩; refine runD_done (by kernel_rfl) ?_)
      exact midN (A9, a9, c9) [] own9 rfl (fun x => by (first | rfl | (simp only [List.append_eq, cnt_append, cnt_cons, cnt_nil, blk]; omega) | (simp only [List.append_eq, cnt_append, cnt_cons, cnt_nil, blk]; done)))
    · rintro ⟨A9, a9, c9⟩ own9
      dsimp only at own9 ⊢
      have hs3 := sumE_in (g := fun x => x.o.qty) (l := cutE k es3) fun x m => by have := hlb4.2 x m; omega
      have hs4 := sumE_in (g := fun x => x.seen) (l := cutE k es3) fun x m => by have := hlb4.2 x m; omega
      obtain ⟨HH, hHH⟩ : ∃ HH, HH = (L4 ++ (blk b14 o0.cells 25 :: blk b12 y.o.cells 25 :: (A3 ++ A6))) ++ A9 := ⟨_, rfl⟩
      rw [← hHH]
      have hIn : LvIn (HH ++ F) b 7 (cutE k es3) := hL4.in fun x m => by simp [hHH, m]
      have q5 := fun K : Heap => sp_lwhole (K ++ (HH ++ F)) b 7 (cutE k es3) hIn.up hlb4
      have q6 := fun K : Heap => sp_lseen (K ++ (HH ++ F)) b 7 (cutE k es3) hIn.up hlb4
      have q7 := fun K : Heap => sp_llen (K ++ (HH ++ F)) b 7 (cutE k es3) hIn.up
      have g1 : AggF (HH ++ F) b12 0 y.o.cells := ⟨_, _, _, (by rw [hHH]; simp : blk b12 y.o.cells 25 ∈ HH ++ F), by simp, rfl⟩
      have l3 := l1.mono (F' := HH ++ F) fun x m => by simp only [hHH, List.mem_append, List.mem_cons] at m ⊢; rcases m with (m | m) | m <;> simp [m]
      have s9 := own9.src (H := HH ++ F) fun x m => by simp [hHH, m]
      clear l1
      have l1 := g1
      have l2 := g1.at 6 _ rfl
      clear g1
      have k1 := ctOrd
      have k2 := tyOrd y.o
      have k3 := eqOrd y.o
      have hgd : true = true := rfl
      have y1 : (!false) = true := rfl
      have y2 : (true && !false && true) = true := rfl
      have y3 : (true && !false && true && true) = true := rfl
      have y4 : (true && !false && true && true && decide (sumE (fun x => x.o.qty) (cutE k es3) = sumE (fun x => x.o.qty) es3 - y.o.qty)) = true := by
        rw [decide_eq_true (by omega)]; rfl
      have y5 : (true && !false && true && true && decide (sumE (fun x => x.o.qty) (cutE k es3) = sumE (fun x => x.o.qty) es3 - y.o.qty) && decide (sumE (fun x => x.seen) (cutE k es3) < sumE (fun x => x.seen) es3)) = true := by
        rw [y4, decide_eq_true (by omega)]; rfl
      have y6 : (true && !false && true && true && decide (sumE (fun x => x.o.qty) (cutE k es3) = sumE (fun x => x.o.qty) es3 - y.o.qty) && decide (sumE (fun x => x.seen) (cutE k es3) < sumE (fun x => x.seen) es3) && decide (((cutE k es3).length : Int) = ((cutE k es3).length : Int))) = true := by
        rw [y5, decide_eq_true (by omega)]; rfl
      refine RunC.freeze ?_
      refine run_seq ?_
      refine run_region_D mo ?_
      (refine runD_q 0 rfl rfl (by kernel_rfl) ?_; refine ⟨_, fun _ => ev_pure rfl, ?_⟩; refine runD_q 1 rfl rfl (by kernel_rfl) ?_; refine ⟨_, fun _ => ev_pure rfl, ?_⟩; refine runD_gq 2 rfl rfl rfl rfl rfl rfl hgd (by kernel_rfl) ?_; refine ⟨_, fun _ => ev_pure rfl, ?_⟩; refine runD_gq 3 rfl rfl rfl rfl rfl rfl hgd (by kernel_rfl) ?_; refine ⟨_, fun _ => ev_pure rfl, ?_⟩; refine runD_q 4 rfl rfl (by kernel_rfl) ?_; refine ⟨_, fun _ => ev_pure rfl, ?_⟩; refine runD_q 5 rfl rfl (by kernel_rfl) ?_; refine ⟨_, fun _ => ev_pure rfl, ?_⟩; refine runD_gq 6 rfl rfl rfl rfl rfl rfl hgd (by kernel_rfl) ?_; refine ⟨_, fun _ => ev_loadAF rfl rfl (ag rfl) (sz rfl) l1 rfl, ?_⟩; refine runD_gq 7 rfl rfl rfl rfl rfl rfl hgd (by kernel_rfl) ?_; refine ⟨_, fun _ => ev_pure rfl, ?_⟩; refine runD_gq 8 rfl rfl rfl rfl rfl rfl hgd (by kernel_rfl) ?_; refine ⟨_, fun _ => ev_pure rfl, ?_⟩; refine runD_gq 9 rfl rfl rfl rfl rfl rfl hgd (by kernel_rfl) ?_; refine ⟨_, fun _ => ev_indexAddr rfl rfl rfl (se rfl) (by omega) (by omega), ?_⟩; refine runD_gq 10 rfl rfl rfl rfl rfl rfl hgd (by kernel_rfl) ?_; refine ⟨_, fun _ => ev_loadAF rfl rfl (ag rfl) (sz rfl) l3 rfl, ?_⟩; refine runD_gq 11 rfl rfl rfl rfl rfl rfl hgd (by kernel_rfl) ?_; refine ⟨_, fun _ => ev_eqQ rfl rfl rfl k1 rfl k2 k3, ?_⟩; refine runD_q 12 rfl rfl (by kernel_rfl) ?_; refine ⟨_, fun _ => ev_pure rfl, ?_⟩; refine runD_q 13 rfl rfl (by kernel_rfl) ?_; refine ⟨_, fun _ => ev_pure rfl, ?_⟩; refine runD_gq 14 rfl rfl rfl rfl rfl rfl hgd (by kernel_rfl) ?_; refine ⟨_, fun _ => ev_pure rfl, ?_⟩; refine runD_gq 16 rfl rfl rfl rfl rfl rfl hgd (by kernel_rfl) ?_; refine ⟨_, fun _ => ev_pure rfl, ?_⟩; refine runD_g1 15 (by kernel_rfl) rfl rfl rfl rfl hgd rfl rfl ?_)
      refine runL_callZ [] [] rfl rfl rfl rfl rfl rfl rfl (pf rfl) (fun x => by (first | rfl | (simp only [List.append_eq, cnt_append, cnt_cons, cnt_nil, blk]; omega) | (simp only [List.append_eq, cnt_append, cnt_cons, cnt_nil, blk]; done))) (sp_lorders _ b 7 _ hIn.up hlb4.1) ?_
      rintro v A10 own10
      obtain ⟨a10, c10, rfl, own10⟩ := own10.at
      (refine runL_nil ?_; refine endS_d rfl ?_; refine runD_g1 17 (by kernel_rfl) rfl rfl rfl rfl hgd rfl rfl ?_)
      refine runL_ev rfl rfl rfl rfl (ev_callQ rfl rfl rfl (pf rfl) (sp_sameOrd _ a10 a9 (cutE k es3).length c10 c9 ((cutE k es3).map (·.o)) (List.length_map ..) (by omega) (own10.src fun x m => by simp [m]) (s9.mono fun x m => List.mem_append_right _ m))) ?_
      (refine runL_nil ?_; refine endS_d rfl ?_; refine runD_q 18 rfl rfl (by kernel_rfl) ?_; refine ⟨_, fun _ => ev_pure rfl, ?_⟩; refine runD_q 19 rfl rfl (by kernel_rfl) ?_; refine ⟨_, fun _ => ev_pure rfl, ?_⟩; refine runD_gq 20 rfl rfl rfl rfl rfl rfl hgd (by kernel_rfl) ?_; refine ⟨_, fun _ => ev_pure rfl, ?_⟩; refine runD_gq 21 rfl rfl rfl rfl rfl rfl hgd (by kernel_rfl) ?_; refine ⟨_, fun _ => ev_callQ rfl rfl rfl (pf rfl) (q5 ..), ?_⟩; refine runD_gq 22 rfl rfl rfl rfl rfl rfl hgd (by kernel_rfl) ?_; refine ⟨_, fun _ => ev_pure rfl, ?_⟩; refine runD_gq 23 rfl rfl rfl rfl rfl rfl hgd (by kernel_rfl) ?_; refine ⟨_, fun _ => ev_fieldAddr rfl rfl (fo rfl), ?_⟩; refine runD_gq 24 rfl rfl rfl rfl rfl rfl hgd (by kernel_rfl) ?_; refine ⟨_, fun _ => ev_loadF rfl rfl (sc rfl) l2, ?_⟩; refine runD_gq 25 rfl rfl rfl rfl rfl rfl hgd (by kernel_rfl) ?_; refine ⟨_, fun _ => ev_sub rfl rfl rfl (by omega), ?_⟩; refine runD_gq 26 rfl rfl rfl rfl rfl rfl hgd (by kernel_rfl) ?_; refine ⟨_, fun _ => ev_pure rfl, ?_⟩; refine runD_q 27 rfl rfl (by kernel_rfl) ?_; refine ⟨_, fun _ => ev_pure rfl, ?_⟩; refine runD_q 28 rfl rfl (by kernel_rfl) ?_; refine ⟨_, fun _ => ev_pure rfl, ?_⟩; refine runD_gq 29 rfl rfl rfl rfl rfl rfl y4 (by kernel_rfl) ?_; refine ⟨_, fun _ => ev_pure rfl, ?_⟩; refine runD_gq 30 rfl rfl rfl rfl rfl rfl y4 (by kernel_rfl) ?_; refine ⟨_, fun _ => ev_callQ rfl rfl rfl (pf rfl) (q6 ..), ?_⟩; refine runD_gq 31 rfl rfl rfl rfl rfl rfl y4 (by kernel_rfl) ?_; refine ⟨_, fun _ => ev_pure rfl, ?_⟩; refine runD_gq 32 rfl rfl rfl rfl rfl rfl y4 (by kernel_rfl) ?_; refine ⟨_, fun _ => ev_pure rfl, ?_⟩; refine runD_q 33 rfl rfl (by kernel_rfl) ?_; refine ⟨_, fun _ => ev_pure rfl, ?_⟩; refine runD_q 34 rfl rfl (by kernel_rfl) ?_; refine ⟨_, fun _ => ev_pure rfl, ?_⟩; refine runD_gq 35 rfl rfl rfl rfl rfl rfl y5 (by kernel_rfl) ?_; refine ⟨_, fun _ => ev_pure rfl, ?_⟩; refine runD_gq 36 rfl rfl rfl rfl rfl rfl y5 (by kernel_rfl) ?_; refine ⟨_, fun _ => ev_callQ rfl rfl rfl (pf rfl) (q7 ..), ?_⟩; refine runD_gq 37 rfl rfl rfl rfl rfl rfl y5 (by kernel_rfl) ?_; refine ⟨_, fun _ => ev_pure rfl, ?_⟩; refine runD_gq 38 rfl rfl rfl rfl rfl rfl y5 (by kernel_rfl) ?_; refine ⟨_, fun _ => ev_len rfl rfl (se rfl), ?_⟩; refine runD_gq 39 rfl rfl rfl rfl rfl rfl y5 (by kernel_rfl) ?_; refine ⟨_, fun _ => ev_pure rfl, ?_⟩; refine runD_q 40 rfl rfl (by kernel_rfl) ?_; refine ⟨_, fun _ => ev_pure rfl, ?_⟩; refine runD_q 41 rfl rfl (by kernel_rfl) ?_; refine ⟨_, fun _ => ev_pure rfl, ?_⟩; refine runD_gq 42 rfl rfl rfl rfl rfl rfl y6 (by kernel_rfl) ?_; refine ⟨_, fun _ => ev_callQ rfl rfl rfl (pf rfl) (q3 ..), ?_⟩; refine runD_q 43 rfl rfl (by kernel_rfl) ?_; refine ⟨_, fun _ => ev_pure rfl, ?_⟩; refine runD_q 44 rfl rfl (by kernel_rfl) ?_; refine ⟨_, fun _ => ev_pure rfl, ?_⟩; refine runD_done (by kernel_rfl) ?_; refine then_normal ?_; refine run_ret ?_)
      exact ⟨_, rfl, congrArg Value.bool (by rw [y6]; rfl)⟩
end Go.Proofs.Ytfclaleiciodmaa
