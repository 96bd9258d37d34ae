/- Contracts of functions of the given program over its translation, each proved by walking its text; used by the laws' rows. It proves no given statement by itself. -/
import Derived.Test.YtnpcmcijlgklfaaSLSums
set_option autoImplicit false
set_option linter.unusedSectionVars false
set_option linter.unusedSimpArgs false
set_option linter.unusedVariables false
namespace Go.Proofs.Ytnpcmcijlgklfaa
open Go Go.SL Go.Proofs
theorem inI {z : Int} (h : (decide (-9223372036854775808 ≤ z) && decide (z ≤ 9223372036854775807)) = true) : InI z := by
  simp only [Bool.and_eq_true, decide_eq_true_eq] at h; exact h
variable [Base]
theorem sumsRuns_q (F : Heap) : Sp Try.prog F 3 [] [] (Ret (.bool true)) := by
  have q1 := fun F => sp_plus F 9223372036854775807 1 (inI rfl) (inI rfl)
  have q2 := fun F => sp_times F 4294967296 2147483648 (inI rfl) (inI rfl)
  have q3 := fun F => sp_ceil F 7 2 (inI rfl) (inI rfl)
  have q4 := fun F => sp_sum F none 0 0 (by omega) [] ⟨rfl, (fun _ m => by cases m), .inl rfl⟩
  refine sp_of_code Try.func3 rfl rfl ?_
  (refine run_seq ?_; refine run_region ?_; refine xep rfl rfl ?_; refine runL_nil ?_; refine then_normal ?_; refine run_seq ?_; refine run_region ?_; refine xel rfl (ev_callQ rfl rfl rfl (pf rfl) (q1 ..)) ?_; (iterate 5 refine xep rfl rfl ?_); refine runL_nil ?_; refine then_normal ?_; refine run_seq ?_; refine run_region ?_; refine xel rfl (ev_callQ rfl rfl rfl (pf rfl) (q2 ..)) ?_; (iterate 5 refine xep rfl rfl ?_); refine runL_nil ?_; refine then_normal ?_; refine run_seq ?_; refine run_region ?_; refine xel rfl (ev_callQ rfl rfl rfl (pf rfl) (q3 ..)) ?_; (iterate 5 refine xep rfl rfl ?_); refine runL_nil ?_; refine then_normal ?_; refine run_seq ?_; refine run_region ?_; refine xel rfl (ev_callQ rfl rfl rfl (pf rfl) (q4 ..)) ?_; (iterate 5 refine xep rfl rfl ?_); refine runL_nil ?_; refine then_normal ?_; refine run_seq ?_; refine run_region ?_; (iterate 3 refine xep rfl rfl ?_); (iterate 2 refine xgp rfl rfl rfl ?_); (iterate 2 refine xep rfl rfl ?_); (iterate 2 refine xgp rfl rfl rfl ?_); (iterate 2 refine xep rfl rfl ?_); (iterate 2 refine xgp rfl rfl rfl ?_); (iterate 2 refine xep rfl rfl ?_); (iterate 2 refine xgp rfl rfl rfl ?_); (iterate 2 refine xep rfl rfl ?_); (iterate 2 refine xgp rfl rfl rfl ?_); (iterate 2 refine xep rfl rfl ?_); refine runL_nil ?_; refine then_normal ?_; refine run_ret ?_)
  exact ⟨_, rfl, congrArg Value.bool (by decide)⟩
theorem sumsRuns_sp (F : Heap) : Sp Try.prog F 3 [] [] (Ret (.bool true)) := sumsRuns_q F

theorem sumsTells_sp (F : Heap) (x y : Int) (a : Option Addr) (len cap : Nat) (rows : List (List Int)) (hx : InI x) (hy : InI y) (hR : RowsF F a len 1 rows) (hC : len ≤ cap) (hM : cap ≤ 9223372036854775807) :
    Sp Try.prog F 4 [.int .i64 x, .int .i64 y, .slice a len cap] [] (Ret (.bool true)) := by
  obtain ⟨zs, hZ⟩ := hR.toInts
  have hz := hZ.take (k := (min (len : Int) 12).toNat) (by omega)
  have hk : (min (len : Int) 12).toNat ≤ 12 := by omega
  refine sp_of_code Try.func4 rfl rfl ?_
  have q1 := fun F => sp_plus F x y hx hy
  have q2 := fun F => sp_times F x y hx hy
  have q3 := fun F => sp_ceil F x y hx hy
  have q4 := fun F => rp_plus F x y hx hy
  have q5 := fun F => rp_times F x y hx hy
  have q6 := fun F => rp_ceil F x y hx hy
  (refine run_seq ?_; refine run_region ?_; refine xep rfl rfl ?_; refine runL_nil ?_; refine then_normal ?_; refine run_seq ?_; refine run_region ?_; (iterate 2 refine xep rfl rfl ?_); refine xel rfl (ev_len rfl rfl (se rfl)) ?_; refine xel rfl (ev_min rfl rfl rfl) ?_; refine xel rfl (ev_sliceHi rfl rfl rfl (se rfl) (by omega) (by omega)) ?_; refine xep rfl rfl ?_; refine runL_nil ?_; refine then_normal ?_; refine run_seq ?_; refine run_region ?_; (iterate 2 refine xep rfl rfl ?_); refine xel rfl (ev_callQ rfl rfl rfl (pf rfl) (q1 ..)) ?_; (iterate 5 refine xep rfl rfl ?_); refine runL_nil ?_; refine then_normal ?_; refine run_seq ?_; refine run_region ?_; (iterate 2 refine xep rfl rfl ?_); refine xel rfl (ev_callQ rfl rfl rfl (pf rfl) (q2 ..)) ?_; (iterate 5 refine xep rfl rfl ?_); refine runL_nil ?_; refine then_normal ?_; refine run_seq ?_; refine run_region ?_; (iterate 2 refine xep rfl rfl ?_); refine xel rfl (ev_callQ rfl rfl rfl (pf rfl) (q3 ..)) ?_; (iterate 5 refine xep rfl rfl ?_); refine runL_nil ?_; refine then_normal ?_; refine run_seq ?_; refine run_region ?_)
  refine runL_buildSlice (l := []) rfl rfl rfl rfl rfl (se rfl) ze3 rfl rfl rfl rfl rfl (fun b => ?_)
  (refine xep rfl rfl ?_)
  refine runL_append [] rfl rfl rfl rfl rfl rfl rfl (se rfl) (se rfl) ze3 rfl (byt rfl) (OwnS.lit (l := []) (b := b) rfl) (fun _ => by simp only [List.append_nil]) ((hz.mono fun x m => memR m).src) (ints_cells _) (by decide) (by decide) (by omega) ?_
  rintro v A own
  rw [Nat.zero_add, List.nil_append] at own
  obtain ⟨a', cap', rfl, hI⟩ := OwnS.ints (H := A ++ [] ++ F) own (fun x m => List.mem_append_left _ (List.mem_append_left _ m)) hz.2.1
  have q7 := sp_sum _ _ _ cap' (by omega) _ hI
  have q8 := fun F' (hF : ∀ x ∈ F, x ∈ F') => rp_sum F' _ _ cap (by omega) _ (hz.mono hF)
  have q8 := q8 (A ++ [] ++ F) (fun x m => List.mem_append_right _ m)
  have q9 := sumsRuns_q
  (refine xel rfl (ev_callQ rfl rfl rfl (pf rfl) (q7 ..)) ?_; (iterate 5 refine xep rfl rfl ?_); refine runL_nil ?_; refine then_normal ?_; refine run_seq ?_; refine run_region ?_; (iterate 2 refine xep rfl rfl ?_); refine xel rfl (ev_callQ rfl rfl rfl (pf rfl) (q4 ..)) ?_; (iterate 5 refine xep rfl rfl ?_); refine runL_nil ?_; refine then_normal ?_; refine run_seq ?_; refine run_region ?_; (iterate 2 refine xep rfl rfl ?_); refine xel rfl (ev_callQ rfl rfl rfl (pf rfl) (q5 ..)) ?_; (iterate 5 refine xep rfl rfl ?_); refine runL_nil ?_; refine then_normal ?_; refine run_seq ?_; refine run_region ?_; (iterate 2 refine xep rfl rfl ?_); refine xel rfl (ev_callQ rfl rfl rfl (pf rfl) (q6 ..)) ?_; (iterate 5 refine xep rfl rfl ?_); refine runL_nil ?_; refine then_normal ?_; refine run_seq ?_; refine run_region ?_; refine xep rfl rfl ?_; refine xel rfl (ev_callQ rfl rfl rfl (pf rfl) (q8 ..)) ?_; (iterate 5 refine xep rfl rfl ?_); refine runL_nil ?_; refine then_normal ?_; refine run_seq ?_; refine run_region ?_; (iterate 4 refine xep rfl rfl ?_); (iterate 3 refine xgp rfl rfl rfl ?_); (iterate 2 refine xep rfl rfl ?_); (iterate 3 refine xgp rfl rfl rfl ?_); (iterate 2 refine xep rfl rfl ?_); (iterate 3 refine xgp rfl rfl rfl ?_); (iterate 2 refine xep rfl rfl ?_); (iterate 3 refine xgp rfl rfl rfl ?_); (iterate 2 refine xep rfl rfl ?_); (iterate 3 refine xgp rfl rfl rfl ?_); (iterate 2 refine xep rfl rfl ?_); (iterate 3 refine xgp rfl rfl rfl ?_); (iterate 2 refine xep rfl rfl ?_); (iterate 3 refine xgp rfl rfl rfl ?_); (iterate 2 refine xep rfl rfl ?_); refine xgl rfl rfl (fun hq => ev_callQ rfl rfl rfl (pf rfl) (q9 ..)) ?_; (iterate 2 refine xep rfl rfl ?_); refine runL_nil ?_; refine then_normal ?_; refine run_ret ?_)
  refine ⟨_, rfl, ?_⟩
  simp [oneOrTuple]
omit [Base] in
theorem plus_comm (a b : Int) : plus a b = plus b a := by
  unfold plus
  (repeat' split) <;> first | rfl | (exfalso; omega) | rw [Int.add_comm]
omit [Base] in
theorem over_iff {a b : Int} (ha : 0 ≤ a) (hb : 0 ≤ b) : (0 < b ∧ Int.tdiv 9223372036854775807 b < a) ↔ 9223372036854775807 < a * b := by
  rw [Int.tdiv_eq_ediv_of_nonneg (by omega)]
  constructor
  · intro ⟨h1, h2⟩
    exact (Int.ediv_lt_iff_lt_mul h1).1 h2
  · intro h
    have hb0 : 0 < b := by
      rcases Int.lt_or_eq_of_le hb with h1 | h1
      · exact h1
      · subst h1; simp at h
    exact ⟨hb0, (Int.ediv_lt_iff_lt_mul hb0).2 h⟩
omit [Base] in
theorem times_eq (a b : Int) : times a b = if a < 0 ∨ b < 0 then (0, 1) else if 9223372036854775807 < a * b then (0, 3) else (a * b, 0) := by
  unfold times
  by_cases h : a < 0 ∨ b < 0
  · rw [if_pos h, if_pos h]
  · rw [if_neg h, if_neg h]
    simp only [over_iff (a := a) (b := b) (by omega) (by omega)]
omit [Base] in
theorem times_comm (a b : Int) : times a b = times b a := by
  rw [times_eq, times_eq, Int.mul_comm a b]
  (repeat' split) <;> first | rfl | (exfalso; omega)
set_option maxHeartbeats 4000000 in
theorem sumsBack_sp (F : Heap) (x y : Int) (hx : InI x) (hy : InI y) : Sp Try.prog F 5 [.int .i64 x, .int .i64 y] [] (Ret (.bool true)) := by
  refine sp_of_code Try.func5 rfl rfl ?_
  have q1 := fun F => sp_plus F x y hx hy
  have q2 := fun F => sp_plus F y x hy hx
  have q3 := fun F => sp_times F x y hx hy
  have q4 := fun F => sp_times F y x hy hx
  have q5 := fun F => sp_ceil F x y hx hy
  have q6 := sumsRuns_q
  rw [plus_comm y x] at q2
  rw [times_comm y x] at q4
  unfold InI at hx hy
  (refine run_seq ?_; refine run_region ?_; refine xep rfl rfl ?_; refine runL_nil ?_; refine then_normal ?_; refine run_seq ?_; refine run_region ?_; (iterate 2 refine xep rfl rfl ?_); refine xel rfl (ev_callQ rfl rfl rfl (pf rfl) (q1 ..)) ?_; (iterate 5 refine xep rfl rfl ?_); refine runL_nil ?_; refine then_normal ?_; refine run_seq ?_; refine run_region ?_; (iterate 2 refine xep rfl rfl ?_); refine xel rfl (ev_callQ rfl rfl rfl (pf rfl) (q2 ..)) ?_; (iterate 5 refine xep rfl rfl ?_); refine runL_nil ?_; refine then_normal ?_; refine run_seq ?_; refine run_region ?_; (iterate 2 refine xep rfl rfl ?_); refine xel rfl (ev_callQ rfl rfl rfl (pf rfl) (q3 ..)) ?_; (iterate 5 refine xep rfl rfl ?_); refine runL_nil ?_; refine then_normal ?_; refine run_seq ?_; refine run_region ?_; (iterate 2 refine xep rfl rfl ?_); refine xel rfl (ev_callQ rfl rfl rfl (pf rfl) (q4 ..)) ?_; (iterate 5 refine xep rfl rfl ?_); refine runL_nil ?_; refine then_normal ?_; (iterate 2 refine run_seq ?_); refine run_region ?_; (iterate 4 refine xep rfl rfl ?_); (iterate 3 refine xgp rfl rfl rfl ?_); (iterate 2 refine xep rfl rfl ?_); (iterate 3 refine xgp rfl rfl rfl ?_); (iterate 2 refine xep rfl rfl ?_); (iterate 3 refine xgp rfl rfl rfl ?_); refine xep rfl rfl ?_; refine runL_nil ?_; refine then_normal ?_)
  refine run_condF rfl (by simp) ?_
  refine RunC.keepK [0, 1, 5, 6, 9, 10] rfl ?_
  (refine run_skip ?_; refine then_normal ?_; (iterate 2 refine run_seq ?_); refine run_region ?_; (iterate 3 refine xep rfl rfl ?_); (iterate 2 refine xgp rfl rfl rfl ?_); refine xep rfl rfl ?_; refine runL_nil ?_; refine then_normal ?_)
  by_cases hneg : x < 0 ∨ y < 0
  · have e1 : plus x y = (0, 1) := by unfold plus; rw [if_pos hneg]
    have e2 : times x y = (0, 1) := by unfold times; rw [if_pos hneg]
    refine run_condT rfl (by simpa using hneg) ?_
    (refine run_seq ?_; refine run_region ?_; (iterate 3 refine xep rfl rfl ?_); (iterate 2 refine xgp rfl rfl rfl ?_); (iterate 2 refine xep rfl rfl ?_); (iterate 2 refine xgp rfl rfl rfl ?_); (iterate 2 refine xep rfl rfl ?_); (iterate 2 refine xgp rfl rfl rfl ?_); (iterate 2 refine xep rfl rfl ?_); refine xgl rfl rfl (fun hq => ev_callQ rfl rfl rfl (pf rfl) (q6 ..)) ?_; (iterate 2 refine xep rfl rfl ?_); refine runL_nil ?_; refine then_normal ?_; refine run_ret ?_; refine then_ret ?_)
    refine ⟨_, rfl, ?_⟩
    simp [oneOrTuple, e1, e2]
  · refine run_condF rfl (by simpa using hneg) ?_
    refine RunC.keepK [0, 1, 5, 6, 9, 10] rfl ?_
    (refine run_skip ?_; refine then_normal ?_; (iterate 2 refine run_seq ?_); refine run_region ?_; (iterate 4 refine xep rfl rfl ?_); refine xel rfl (ev_int rfl rfl rfl rfl) ?_; refine xep rfl rfl ?_; refine xel rfl (ev_neqB rfl rfl rfl (bt rfl)) ?_; refine xep rfl rfl ?_; (iterate 6 refine xgp rfl rfl rfl ?_); refine xgl rfl rfl (fun hq => ev_int rfl rfl rfl rfl) ?_; (iterate 2 refine xgp rfl rfl rfl ?_); (iterate 2 refine xep rfl rfl ?_); (iterate 10 refine xgp rfl rfl rfl ?_); refine xep rfl rfl ?_; refine runL_nil ?_; refine then_normal ?_)
    have hw : (decide ((plus x y).2 = 0) == decide (0 ≤ IntKind.i64.wrap (x + y))) = true ∧ ((plus x y).2 = 0 → (plus x y).1 = IntKind.i64.wrap (x + y)) ∧ ((plus x y).2 ≠ 0 → (plus x y).2 = 3 ∧ (plus x y).1 = 0) := by
      have e : IntKind.i64.wrap (x + y) = if 9223372036854775807 < x + y then x + y - 18446744073709551616 else x + y := by
        split
        · rw [IntKind.wrap_i64]; omega
        · rw [wrap_id (by omega)]
      unfold plus
      rw [if_neg hneg, e]
      by_cases h2 : 9223372036854775807 - y < x
      · rw [if_pos h2, if_pos (by omega)]
        refine ⟨by simp; omega, by simp, by simp⟩
      · rw [if_neg h2, if_neg (by omega)]
        refine ⟨by simp; omega, by simp, by simp⟩
    refine run_condF rfl ?_ ?_
    · obtain ⟨w1, w2, w3⟩ := hw
      rw [w1]
      by_cases h0 : (plus x y).2 = 0
      · simp [h0, w2 h0]
      · simp [h0, w3 h0]
    have ht0 : 0 ≤ (times x y).1 ∧ (times x y).1 ≤ 9223372036854775807 := by
      rw [times_eq, if_neg hneg]
      split
      · simp
      · have := Int.mul_nonneg (show 0 ≤ x by omega) (show 0 ≤ y by omega)
        refine ⟨this, by simp only; omega⟩
    obtain ⟨ht1, ht2⟩ := ht0
    refine RunC.keepK [0, 1, 9, 10] rfl ?_
    (refine run_skip ?_; refine then_normal ?_; (iterate 2 refine run_seq ?_); refine run_region ?_; (iterate 3 refine xep rfl rfl ?_); (iterate 3 refine xgp rfl rfl rfl ?_); refine xgl rfl rfl (fun hq => ev_int rfl rfl rfl rfl) ?_; (iterate 7 refine xgp rfl rfl rfl ?_); refine xgl rfl rfl (fun hq => ev_quo rfl rfl rfl (by (try simp only [z0, z1, z2, z3, z4, z5, z6, z7, z8, z9] at hq); omega) (tdiv_range (by (try simp only [z0, z1, z2, z3, z4, z5, z6, z7, z8, z9] at hq); omega) (by (try simp only [z0, z1, z2, z3, z4, z5, z6, z7, z8, z9] at hq); omega) (by (try simp only [z0, z1, z2, z3, z4, z5, z6, z7, z8, z9] at hq); omega))) ?_; (iterate 4 refine xgp rfl rfl rfl ?_); (iterate 2 refine xep rfl rfl ?_); (iterate 20 refine xgp rfl rfl rfl ?_); refine xgl rfl rfl (fun hq => ev_quo rfl rfl rfl (by (try simp only [z0, z1, z2, z3, z4, z5, z6, z7, z8, z9] at hq); omega) (tdiv_range (by (try simp only [z0, z1, z2, z3, z4, z5, z6, z7, z8, z9] at hq); omega) (by (try simp only [z0, z1, z2, z3, z4, z5, z6, z7, z8, z9] at hq); omega) (by (try simp only [z0, z1, z2, z3, z4, z5, z6, z7, z8, z9] at hq); omega))) ?_; (iterate 3 refine xgp rfl rfl rfl ?_); refine xep rfl rfl ?_; refine runL_nil ?_; refine then_normal ?_)
    refine RunC.keepK [0, 1, 155] rfl ?_
    refine run_condF rfl ?_ ?_
    · rw [times_eq, if_neg hneg]
      by_cases h2 : 9223372036854775807 < x * y
      · rw [if_pos h2]
        have h3 := (over_iff (a := x) (b := y) (by omega) (by omega)).2 h2
        have hx0 : x ≠ 0 := fun e => by subst e; simp at h2
        have hy0 : y ≠ 0 := by omega
        have h4 : ¬ x ≤ Int.tdiv 9223372036854775807 y := by omega
        simp [hx0, hy0, h4]
      · rw [if_neg h2]
        have h0 := Int.mul_nonneg (show 0 ≤ x by omega) (show 0 ≤ y by omega)
        rw [wrap_id (by omega)]
        by_cases hx0 : 0 < x
        · have : (x * y).tdiv x = y := Int.mul_tdiv_cancel_left y (by omega)
          simp [this]
        · simp [hx0]
    (refine run_skip ?_; refine then_normal ?_; refine run_seq ?_; refine run_region ?_; (iterate 2 refine xep rfl rfl ?_); refine xel rfl (ev_callQ rfl rfl rfl (pf rfl) (q5 ..)) ?_; (iterate 5 refine xep rfl rfl ?_); refine runL_nil ?_; refine then_normal ?_; (iterate 2 refine run_seq ?_); refine run_region ?_; (iterate 2 refine xep rfl rfl ?_); refine runL_nil ?_; refine then_normal ?_)
    refine RunC.keepK [0, 1, 13, 14, 163] rfl ?_
    by_cases hb : y < 1
    · refine run_condT rfl (by simpa using hb) ?_
      (refine run_seq ?_; refine run_region ?_; (iterate 3 refine xep rfl rfl ?_); (iterate 2 refine xgp rfl rfl rfl ?_); (iterate 2 refine xep rfl rfl ?_); refine xgl rfl rfl (fun hq => ev_callQ rfl rfl rfl (pf rfl) (q6 ..)) ?_; (iterate 2 refine xep rfl rfl ?_); refine runL_nil ?_; refine then_normal ?_; refine run_ret ?_; refine then_ret ?_)
      refine ⟨_, rfl, ?_⟩
      have : ceil x y = (0, 1) := by unfold ceil; rw [if_pos (by omega)]
      simp [oneOrTuple, this]
    · refine run_condF rfl (by simpa using hb) ?_
      have hce : ceil x y = (if 0 < x.tmod y then x.tdiv y + 1 else x.tdiv y, 0) := by unfold ceil; rw [if_neg (by omega)]
      have hd1 := Int.ediv_nonneg (show 0 ≤ x by omega) (show 0 ≤ y by omega)
      have hd2 := Int.ediv_le_self y (show 0 ≤ x by omega)
      have hm1 := Int.emod_nonneg x (show y ≠ 0 by omega)
      rw [hce]
      rw [Int.tdiv_eq_ediv_of_nonneg (by omega), Int.tmod_eq_emod_of_nonneg (by omega)]
      (refine run_skip ?_; refine then_normal ?_; refine run_seq ?_; refine run_region_draw mo (by kernel_rfl) ?_; (iterate 3 refine xqp rfl rfl ?_); (iterate 3 refine xhp rfl rfl rfl ?_); refine xhl rfl rfl (fun hq => ev_quo rfl rfl rfl (by (try simp only [z0, z1, z2, z3, z4, z5, z6, z7, z8, z9] at hq); omega) (tdiv_range (by (try simp only [z0, z1, z2, z3, z4, z5, z6, z7, z8, z9] at hq); omega) (by (try simp only [z0, z1, z2, z3, z4, z5, z6, z7, z8, z9] at hq); omega) (by (try simp only [z0, z1, z2, z3, z4, z5, z6, z7, z8, z9] at hq); omega))) ?_; refine xhp rfl rfl rfl ?_; (iterate 2 refine xqp rfl rfl ?_); (iterate 3 refine xhp rfl rfl rfl ?_); refine xhl rfl rfl (fun hq => ev_quo rfl rfl rfl (by (try simp only [z0, z1, z2, z3, z4, z5, z6, z7, z8, z9] at hq); omega) (tdiv_range (by (try simp only [z0, z1, z2, z3, z4, z5, z6, z7, z8, z9] at hq); omega) (by (try simp only [z0, z1, z2, z3, z4, z5, z6, z7, z8, z9] at hq); omega) (by (try simp only [z0, z1, z2, z3, z4, z5, z6, z7, z8, z9] at hq); omega))) ?_; refine xhl rfl rfl (fun hq => ev_int rfl rfl rfl rfl) ?_; refine xhp rfl rfl rfl ?_; (iterate 2 refine xqp rfl rfl ?_); (iterate 3 refine xhp rfl rfl rfl ?_); refine xhl rfl rfl (fun hq => ev_quo rfl rfl rfl (by (try simp only [z0, z1, z2, z3, z4, z5, z6, z7, z8, z9] at hq); omega) (tdiv_range (by (try simp only [z0, z1, z2, z3, z4, z5, z6, z7, z8, z9] at hq); omega) (by (try simp only [z0, z1, z2, z3, z4, z5, z6, z7, z8, z9] at hq); omega) (by (try simp only [z0, z1, z2, z3, z4, z5, z6, z7, z8, z9] at hq); omega))) ?_; (iterate 3 refine xhp rfl rfl rfl ?_); refine xhl rfl rfl (fun hq => ev_rem rfl rfl rfl (by (try simp only [z0, z1, z2, z3, z4, z5, z6, z7, z8, z9] at hq); omega)) ?_; refine xhp rfl rfl rfl ?_; refine xhl rfl rfl (fun hq => ev_eqB rfl rfl rfl (bt rfl)) ?_; (iterate 2 refine xqp rfl rfl ?_); refine xhl rfl rfl (fun hq => ev_callQ rfl rfl rfl (pf rfl) (q6 ..)) ?_; (iterate 2 refine xqp rfl rfl ?_); refine runQ_nil ?_; refine then_normal ?_; refine run_ret ?_)
      refine ⟨_, rfl, ?_⟩
      simp only [oneOrTuple]
      rw [Int.tdiv_eq_ediv_of_nonneg (by omega), Int.tmod_eq_emod_of_nonneg (by omega)]
      by_cases h5 : 0 < x % y
      · have h6 : x / y + 1 - x / y = 1 := by omega
        simp only [if_pos h5, h6]
        rw [wrap_id (by omega)]
        have h7 : ¬ x % y = 0 := by omega
        have h8 : ¬ x / y + 1 = x / y := by omega
        have h9 : x / y ≤ x / y + 1 := by omega
        simp [h7, h8, h9]
      · have h6 : x / y - x / y = 0 := by omega
        simp only [if_neg h5, h6]
        rw [wrap_id (by omega)]
        have h7 : x % y = 0 := by omega
        simp [h7]
end Go.Proofs.Ytnpcmcijlgklfaa
