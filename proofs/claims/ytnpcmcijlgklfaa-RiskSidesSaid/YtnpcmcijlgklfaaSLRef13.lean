/- Contracts of functions of the given program over its translation, each proved by walking its text; used by the laws' rows. It proves no given statement by itself. -/
import Derived.Test.YtnpcmcijlgklfaaSLLaw15d
set_option autoImplicit false
set_option linter.unusedSectionVars false
set_option linter.unusedSimpArgs false
set_option linter.unusedVariables false
namespace Go.Proofs.Ytnpcmcijlgklfaa
open Go Go.SL Go.Proofs
variable [Base]
/-- The document's accounts: 128 numbers of limits, then of each trader what is open, and the positions. -/
def WOk (W : List Int) : Prop := W.length = 640 ∧ ∀ (k : Nat) (x : Int), 128 ≤ k → W[k]? = some x → -1099511627776 ≤ x ∧ x ≤ 1099511627776
def wslot (n i : Int) : Nat := 128 + n.toNat * 16 + i.toNat
def wpslot (n i : Int) : Nat := 136 + n.toNat * 16 + i.toNat
theorem WOk.at {W : List Int} (h : WOk W) {k : Nat} (h1 : 128 ≤ k) (hk : k < 640) : W[k]? = some (at_ W k) ∧ -1099511627776 ≤ at_ W k ∧ at_ W k ≤ 1099511627776 := by
  have := at_get (A := W) (k := k) (by have := h.1; omega)
  exact ⟨this, h.2 _ _ h1 this⟩
def wopens (W : List Int) (n i q : Int) : Bool × List Int :=
  if there n i = true ∧ -1048576 ≤ q ∧ q ≤ 1048576 then mv W (wslot n i) q 0 1099511627776 else (false, W)
def wtrades (W : List Int) (n i s q : Int) : Bool × List Int :=
  if there n i = true ∧ 1 ≤ q ∧ q ≤ 1048576 ∧ (s = 1 ∨ s = 2) then mv W (wpslot n i) (if s = 2 then -q else q) (-1099511627776) 1099511627776 else (false, W)
theorem sp_wthere (F : Heap) (n i : Int) : Sp Try.prog F 61 [.int .i64 n, .int .i64 i] [] (Ret (.bool (there n i))) := by
  refine sp_of_code Try.func61 rfl rfl ?_
  (refine run_seq ?_; refine run_region ?_; refine xep rfl rfl ?_; refine runL_nil ?_; refine then_normal ?_; refine run_seq ?_; refine run_region ?_; (iterate 3 refine xep rfl rfl ?_); (iterate 2 refine xgp rfl rfl rfl ?_); (iterate 2 refine xep rfl rfl ?_); (iterate 2 refine xgp rfl rfl rfl ?_); (iterate 2 refine xep rfl rfl ?_); (iterate 2 refine xgp rfl rfl rfl ?_); (iterate 2 refine xep rfl rfl ?_); refine runL_nil ?_; refine then_normal ?_; refine run_ret ?_)
  exact ⟨_, rfl, rfl⟩
theorem sp_wopens (F : Heap) (W : List Int) (hW : WOk W) (b : Nat) (e : TypeId) (n i q : Int) (hq : InI q) :
    Sp Try.prog F 41 [.pointer (some ⟨b, 0, none⟩), .int .i64 n, .int .i64 i, .int .i64 q] [blk b (ac W) e] (fun v h' => v = .bool (wopens W n i q).1 ∧ h' = [blk b (ac (wopens W n i q).2) e]) := by
  have q1 := fun F => sp_wthere F n i
  refine sp_of_code Try.func41 rfl rfl ?_
  unfold wopens
  cases ht : there n i with
  | false =>
    rw [if_neg (by simp)]
    rw [ht] at q1
    have hgd : true = true := rfl
    have hge : false = false := rfl
    (refine run_seq ?_; refine run_region ?_; refine xep rfl rfl ?_; refine runL_nil ?_; refine then_normal ?_; (iterate 2 refine run_seq ?_); refine run_region ?_; (iterate 2 refine xep rfl rfl ?_); refine xel rfl (ev_callQ rfl rfl rfl (pf rfl) (q1 ..)) ?_; (iterate 2 refine xep rfl rfl ?_); (iterate 2 refine runL_no rfl rfl rfl rfl hgd rfl rfl ?_); refine xel rfl (ev_pickT rfl rfl hgd rfl) ?_; refine xep rfl rfl ?_; (iterate 2 refine runL_no rfl rfl rfl rfl hgd rfl rfl ?_); refine xel rfl (ev_pickT rfl rfl hgd rfl) ?_; refine xep rfl rfl ?_; (iterate 12 refine runL_no rfl rfl rfl rfl hgd rfl rfl ?_); refine xel rfl (ev_pickT rfl rfl hgd rfl) ?_; refine xep rfl rfl ?_; (iterate 12 refine runL_no rfl rfl rfl rfl hgd rfl rfl ?_); refine xel rfl (ev_pickT rfl rfl hgd rfl) ?_; refine runL_nil ?_; refine then_normal ?_)
    refine run_condT rfl rfl ?_
    (refine run_seq ?_; refine run_region ?_; refine xep rfl rfl ?_; refine runL_nil ?_; refine then_normal ?_; refine run_ret ?_; refine then_ret ?_)
    exact ⟨_, rfl, rfl, rfl⟩
  | true =>
    rw [ht] at q1
    have hh := there_iff.1 ht
    have hs : 0 + 128 + n.toNat * 16 + 0 + i.toNat * 1 = wslot n i := by unfold wslot; omega
    obtain ⟨hg, hb1, hb2⟩ := hW.at (k := wslot n i) (by unfold wslot; omega) (by unfold wslot; omega)
    have g1 : (ac W)[0 + 128 + n.toNat * 16 + 0 + i.toNat * 1]? = some (.int .i64 (at_ W (wslot n i))) := by rw [hs]; exact ac_get hg
    have hlen : 0 + 128 + n.toNat * 16 + 0 + i.toNat * 1 < (ac W).length := by have := hW.1; rw [ac_len, hs]; unfold wslot; omega
    unfold mv
    generalize hx : at_ W (wslot n i) = x at *
    have hge : false = false := rfl
    obtain ⟨hq1, hq2⟩ := hq
    (refine run_seq ?_; refine run_region ?_; refine xep rfl rfl ?_; refine runL_nil ?_; refine then_normal ?_; (iterate 2 refine run_seq ?_); refine run_region ?_; (iterate 2 refine xep rfl rfl ?_); refine xel rfl (ev_callQ rfl rfl rfl (pf rfl) (q1 ..)) ?_; (iterate 2 refine xep rfl rfl ?_); refine runL_yes rfl rfl hge ?_; refine xep rfl rfl ?_; refine runL_yes rfl rfl hge ?_; (iterate 3 refine xep rfl rfl ?_); (iterate 2 refine xgp rfl rfl rfl ?_); (iterate 2 refine xep rfl rfl ?_); (iterate 4 refine xgp rfl rfl rfl ?_); refine xgl rfl rfl (fun hq => ev_fieldAddr rfl rfl (fo rfl)) ?_; refine xgl rfl rfl (fun hq => ev_indexAddrA rfl rfl rfl (ar rfl) (by (try simp only [z0, z1, z2, z3, z4, z5, z6, z7, z8, z9, Bool.not_true, Bool.not_false, Bool.false_or, Bool.true_and, true_and, and_true, false_or, or_false, reduceCtorEq, Bool.false_eq_true] at hq); omega) (by (try simp only [z0, z1, z2, z3, z4, z5, z6, z7, z8, z9, Bool.not_true, Bool.not_false, Bool.false_or, Bool.true_and, true_and, and_true, false_or, or_false, reduceCtorEq, Bool.false_eq_true] at hq); omega)) ?_; refine xgl rfl rfl (fun hq => ev_fieldAddr rfl rfl (fo rfl)) ?_; refine xgl rfl rfl (fun hq => ev_indexAddrA rfl rfl rfl (ar rfl) (by (try simp only [z0, z1, z2, z3, z4, z5, z6, z7, z8, z9, Bool.not_true, Bool.not_false, Bool.false_or, Bool.true_and, true_and, and_true, false_or, or_false, reduceCtorEq, Bool.false_eq_true] at hq); omega) (by (try simp only [z0, z1, z2, z3, z4, z5, z6, z7, z8, z9, Bool.not_true, Bool.not_false, Bool.false_or, Bool.true_and, true_and, and_true, false_or, or_false, reduceCtorEq, Bool.false_eq_true] at hq); omega)) ?_; refine xgl rfl rfl (fun hq => ev_load rfl rfl (sc rfl) (memF (.head _)) g1) ?_; refine xgp rfl rfl rfl ?_; refine xgl rfl rfl (fun hq => ev_add rfl rfl rfl (by (try simp only [z0, z1, z2, z3, z4, z5, z6, z7, z8, z9, Bool.not_true, Bool.not_false, Bool.false_or, Bool.true_and, true_and, and_true, false_or, or_false, reduceCtorEq, Bool.false_eq_true] at hq); omega)) ?_; refine xgp rfl rfl rfl ?_; (iterate 2 refine xep rfl rfl ?_); (iterate 4 refine xgp rfl rfl rfl ?_); refine xgl rfl rfl (fun hq => ev_fieldAddr rfl rfl (fo rfl)) ?_; refine xgl rfl rfl (fun hq => ev_indexAddrA rfl rfl rfl (ar rfl) (by (try simp only [z0, z1, z2, z3, z4, z5, z6, z7, z8, z9, Bool.not_true, Bool.not_false, Bool.false_or, Bool.true_and, true_and, and_true, false_or, or_false, reduceCtorEq, Bool.false_eq_true] at hq); omega) (by (try simp only [z0, z1, z2, z3, z4, z5, z6, z7, z8, z9, Bool.not_true, Bool.not_false, Bool.false_or, Bool.true_and, true_and, and_true, false_or, or_false, reduceCtorEq, Bool.false_eq_true] at hq); omega)) ?_; refine xgl rfl rfl (fun hq => ev_fieldAddr rfl rfl (fo rfl)) ?_; refine xgl rfl rfl (fun hq => ev_indexAddrA rfl rfl rfl (ar rfl) (by (try simp only [z0, z1, z2, z3, z4, z5, z6, z7, z8, z9, Bool.not_true, Bool.not_false, Bool.false_or, Bool.true_and, true_and, and_true, false_or, or_false, reduceCtorEq, Bool.false_eq_true] at hq); omega) (by (try simp only [z0, z1, z2, z3, z4, z5, z6, z7, z8, z9, Bool.not_true, Bool.not_false, Bool.false_or, Bool.true_and, true_and, and_true, false_or, or_false, reduceCtorEq, Bool.false_eq_true] at hq); omega)) ?_; refine xgl rfl rfl (fun hq => ev_load rfl rfl (sc rfl) (memF (.head _)) g1) ?_; refine xgp rfl rfl rfl ?_; refine xgl rfl rfl (fun hq => ev_add rfl rfl rfl (by (try simp only [z0, z1, z2, z3, z4, z5, z6, z7, z8, z9, Bool.not_true, Bool.not_false, Bool.false_or, Bool.true_and, true_and, and_true, false_or, or_false, reduceCtorEq, Bool.false_eq_true] at hq); omega)) ?_; refine xgp rfl rfl rfl ?_; refine xep rfl rfl ?_; refine runL_nil ?_; refine then_normal ?_)
    (refine run_cond rfl (fun hc => ?_) (fun hc => ?_) <;> (try simp only [z0, z1, z2, z3, z4, z5, z6, z7, z8, z9, Bool.not_true, Bool.not_false, Bool.false_or, Bool.true_and, true_and, and_true, false_or, or_false, reduceCtorEq, Bool.false_eq_true] at hc))
    · (refine run_seq ?_; refine run_region ?_; refine xep rfl rfl ?_; refine runL_nil ?_; refine then_normal ?_; refine run_ret ?_; refine then_ret ?_)
      rw [ite_eq_right_iff.2 (fun h => by rw [if_neg (by omega)])]
      exact ⟨_, rfl, rfl, rfl⟩
    · (refine run_skip ?_; refine then_normal ?_; refine run_seq ?_)
      refine run_region_D mo ?_
      (refine runD_q 0 rfl rfl (by kernel_rfl) ?_; refine ⟨_, fun _ => ev_pure rfl, ?_⟩; refine runD_q 1 rfl rfl (by kernel_rfl) ?_; refine ⟨_, fun _ => ev_pure rfl, ?_⟩; refine runD_q 2 rfl rfl (by kernel_rfl) ?_; refine ⟨_, fun _ => ev_pure rfl, ?_⟩; refine runD_q 3 rfl rfl (by kernel_rfl) ?_; refine ⟨_, fun _ => ev_pure rfl, ?_⟩; refine runD_q 4 rfl rfl (by kernel_rfl) ?_; refine ⟨_, fun _ => ev_pure rfl, ?_⟩; refine runD_q 5 rfl rfl (by kernel_rfl) ?_; refine ⟨_, fun _ => ev_pure rfl, ?_⟩; refine runD_q 6 rfl rfl (by kernel_rfl) ?_; refine ⟨_, fun _ => ev_pure rfl, ?_⟩; refine runD_q 7 rfl rfl (by kernel_rfl) ?_; refine ⟨_, fun _ => ev_fieldAddr rfl rfl (fo rfl), ?_⟩; refine runD_q 8 rfl rfl (by kernel_rfl) ?_; refine ⟨_, fun _ => ev_indexAddrA rfl rfl rfl (ar rfl) (by omega) (by omega), ?_⟩; refine runD_q 9 rfl rfl (by kernel_rfl) ?_; refine ⟨_, fun _ => ev_fieldAddr rfl rfl (fo rfl), ?_⟩; refine runD_q 10 rfl rfl (by kernel_rfl) ?_; refine ⟨_, fun _ => ev_indexAddrA rfl rfl rfl (ar rfl) (by omega) (by omega), ?_⟩; refine runD_q 12 rfl rfl (by kernel_rfl) ?_; refine ⟨_, fun _ => ev_pure rfl, ?_⟩; refine runD_q 14 rfl rfl (by kernel_rfl) ?_; refine ⟨_, fun _ => ev_pure rfl, ?_⟩; refine runD_q 15 rfl rfl (by kernel_rfl) ?_; refine ⟨_, fun _ => ev_fieldAddr rfl rfl (fo rfl), ?_⟩; refine runD_q 16 rfl rfl (by kernel_rfl) ?_; refine ⟨_, fun _ => ev_indexAddrA rfl rfl rfl (ar rfl) (by omega) (by omega), ?_⟩; refine runD_q 17 rfl rfl (by kernel_rfl) ?_; refine ⟨_, fun _ => ev_fieldAddr rfl rfl (fo rfl), ?_⟩; refine runD_1 11 (by kernel_rfl) rfl rfl rfl ?_; refine xel rfl (ev_load rfl rfl (sc rfl) (memF (.head _)) g1) ?_; refine runL_nil ?_; refine endS_d rfl ?_; refine runD_q 13 rfl rfl (by kernel_rfl) ?_; refine ⟨_, fun _ => ev_add rfl rfl rfl (by omega), ?_⟩; refine runD_q 18 rfl rfl (by kernel_rfl) ?_; refine ⟨_, fun _ => ev_indexAddrA rfl rfl rfl (ar rfl) (by omega) (by omega), ?_⟩; refine runD_1 19 (by kernel_rfl) rfl rfl rfl ?_)
      refine runL_set0 rfl rfl rfl rfl rfl (sz rfl) rfl hlen ?_
      (refine runL_nil ?_; refine endS_n rfl ?_; refine runD_done (by kernel_rfl) ?_; refine then_normal ?_; refine run_seq ?_; refine run_region ?_; refine xep rfl rfl ?_; refine runL_nil ?_; refine then_normal ?_; refine run_ret ?_)
      rw [if_pos ⟨rfl, by omega, by omega⟩, if_pos (by omega), ac_set, hs]
      exact ⟨_, rfl, rfl, rfl⟩
theorem sp_wtrades (F : Heap) (W : List Int) (hW : WOk W) (b : Nat) (e : TypeId) (n i s q : Int) :
    Sp Try.prog F 42 [.pointer (some ⟨b, 0, none⟩), .int .i64 n, .int .i64 i, .int .i64 s, .int .i64 q] [blk b (ac W) e] (fun v h' => v = .bool (wtrades W n i s q).1 ∧ h' = [blk b (ac (wtrades W n i s q).2) e]) := by
  have q1 := fun F => sp_wthere F n i
  refine sp_of_code Try.func42 rfl rfl ?_
  unfold wtrades
  cases ht : there n i with
  | false =>
    rw [if_neg (by simp)]
    rw [ht] at q1
    have hgd : true = true := rfl
    have hge : false = false := rfl
    (refine run_seq ?_; refine run_region ?_; refine xep rfl rfl ?_; refine runL_nil ?_; refine then_normal ?_; (iterate 2 refine run_seq ?_); refine run_region ?_; (iterate 2 refine xep rfl rfl ?_); refine xel rfl (ev_callQ rfl rfl rfl (pf rfl) (q1 ..)) ?_; (iterate 2 refine xep rfl rfl ?_); (iterate 2 refine runL_no rfl rfl rfl rfl hgd rfl rfl ?_); refine xel rfl (ev_pickT rfl rfl hgd rfl) ?_; refine xep rfl rfl ?_; (iterate 2 refine runL_no rfl rfl rfl rfl hgd rfl rfl ?_); refine xel rfl (ev_pickT rfl rfl hgd rfl) ?_; refine xep rfl rfl ?_; (iterate 3 refine runL_no rfl rfl rfl rfl hgd rfl rfl ?_); (iterate 2 refine runL_undef rfl rfl rfl rfl rfl rfl ?_); refine runL_no rfl rfl rfl rfl hgd rfl rfl ?_; refine xel rfl (ev_pickT rfl rfl hgd rfl) ?_; refine runL_nil ?_; refine then_normal ?_)
    refine run_condT rfl rfl ?_
    (refine run_seq ?_; refine run_region ?_; refine xep rfl rfl ?_; refine runL_nil ?_; refine then_normal ?_; refine run_ret ?_; refine then_ret ?_)
    exact ⟨_, rfl, rfl, rfl⟩
  | true =>
    rw [ht] at q1
    have hh := there_iff.1 ht
    have hs : 0 + 128 + n.toNat * 16 + 8 + i.toNat * 1 = wpslot n i := by unfold wpslot; omega
    obtain ⟨hg, hb1, hb2⟩ := hW.at (k := wpslot n i) (by unfold wpslot; omega) (by unfold wpslot; omega)
    have g1 : (ac W)[0 + 128 + n.toNat * 16 + 8 + i.toNat * 1]? = some (.int .i64 (at_ W (wpslot n i))) := by rw [hs]; exact ac_get hg
    have hlen : 0 + 128 + n.toNat * 16 + 8 + i.toNat * 1 < (ac W).length := by have := hW.1; rw [ac_len, hs]; unfold wpslot; omega
    unfold mv
    generalize hx : at_ W (wpslot n i) = x at *
    have hge : false = false := rfl
    (refine run_seq ?_; refine run_region ?_; refine xep rfl rfl ?_; refine runL_nil ?_; refine then_normal ?_; (iterate 2 refine run_seq ?_); refine run_region ?_; (iterate 2 refine xep rfl rfl ?_); refine xel rfl (ev_callQ rfl rfl rfl (pf rfl) (q1 ..)) ?_; (iterate 2 refine xep rfl rfl ?_); refine runL_yes rfl rfl hge ?_; refine xep rfl rfl ?_; refine runL_yes rfl rfl hge ?_; (iterate 3 refine xep rfl rfl ?_); (iterate 2 refine xgp rfl rfl rfl ?_); (iterate 2 refine xep rfl rfl ?_); (iterate 6 refine xgp rfl rfl rfl ?_); refine xep rfl rfl ?_; refine runL_nil ?_; refine then_normal ?_)
    (refine run_cond rfl (fun hc => ?_) (fun hc => ?_) <;> (try simp only [z0, z1, z2, z3, z4, z5, z6, z7, z8, z9, Bool.not_true, Bool.not_false, Bool.false_or, Bool.true_and, true_and, and_true, false_or, or_false, reduceCtorEq, Bool.false_eq_true] at hc))
    · (refine run_seq ?_; refine run_region ?_; refine xep rfl rfl ?_; refine runL_nil ?_; refine then_normal ?_; refine run_ret ?_; refine then_ret ?_)
      rw [if_neg (by omega)]
      exact ⟨_, rfl, rfl, rfl⟩
    · have hc0 : 1 ≤ q ∧ q ≤ 1048576 ∧ (s = 1 ∨ s = 2) := by omega
      (refine run_skip ?_; refine then_normal ?_; refine run_seq ?_; refine run_region ?_; (iterate 4 refine xep rfl rfl ?_); refine xel rfl (ev_fieldAddr rfl rfl (fo rfl)) ?_; refine xel rfl (ev_indexAddrA rfl rfl rfl (ar rfl) (by omega) (by omega)) ?_; refine xel rfl (ev_fieldAddr rfl rfl (fo rfl)) ?_; refine xel rfl (ev_indexAddrA rfl rfl rfl (ar rfl) (by omega) (by omega)) ?_; refine xel rfl (ev_load rfl rfl (sc rfl) (memF (.head _)) g1) ?_; refine xep rfl rfl ?_; refine runL_nil ?_; refine then_normal ?_; (iterate 2 refine run_seq ?_); refine run_region ?_; (iterate 2 refine xep rfl rfl ?_); refine runL_nil ?_; refine then_normal ?_)
      (refine run_cond rfl (fun hc => ?_) (fun hc => ?_) <;> (try simp only [z0, z1, z2, z3, z4, z5, z6, z7, z8, z9, Bool.not_true, Bool.not_false, Bool.false_or, Bool.true_and, true_and, and_true, false_or, or_false, reduceCtorEq, Bool.false_eq_true] at hc))
      · (refine run_region ?_; (iterate 2 refine xep rfl rfl ?_); refine xel rfl (ev_add rfl rfl rfl (by omega)) ?_; refine xep rfl rfl ?_; refine runL_nil ?_; refine then_normal ?_; (iterate 2 refine run_seq ?_); refine run_region ?_; (iterate 3 refine xep rfl rfl ?_); (iterate 2 refine xgp rfl rfl rfl ?_); refine xep rfl rfl ?_; refine runL_nil ?_; refine then_normal ?_)
        (refine run_cond rfl (fun hc => ?_) (fun hc => ?_) <;> (try simp only [z0, z1, z2, z3, z4, z5, z6, z7, z8, z9, Bool.not_true, Bool.not_false, Bool.false_or, Bool.true_and, true_and, and_true, false_or, or_false, reduceCtorEq, Bool.false_eq_true] at hc))
        · (refine run_seq ?_; refine run_region ?_; refine xep rfl rfl ?_; refine runL_nil ?_; refine then_normal ?_; refine run_ret ?_; refine then_ret ?_)
          rw [if_pos ⟨rfl, hc0⟩, if_neg (show ¬ s = 2 by omega), if_neg (by omega)]
          exact ⟨_, rfl, rfl, rfl⟩
        · (refine run_skip ?_; refine then_normal ?_; refine run_seq ?_; refine run_region ?_; (iterate 5 refine xep rfl rfl ?_); refine xel rfl (ev_fieldAddr rfl rfl (fo rfl)) ?_; refine xel rfl (ev_indexAddrA rfl rfl rfl (ar rfl) (by omega) (by omega)) ?_; refine xel rfl (ev_fieldAddr rfl rfl (fo rfl)) ?_; refine xel rfl (ev_indexAddrA rfl rfl rfl (ar rfl) (by omega) (by omega)) ?_)
          refine runL_set0 rfl rfl rfl rfl rfl (sz rfl) rfl hlen ?_
          (refine runL_nil ?_; refine then_normal ?_; refine run_seq ?_; refine run_region ?_; refine xep rfl rfl ?_; refine runL_nil ?_; refine then_normal ?_; refine run_ret ?_)
          rw [if_pos ⟨rfl, hc0⟩, if_neg (show ¬ s = 2 by omega), if_pos (by omega), ac_set, hs]
          exact ⟨_, rfl, rfl, rfl⟩
      · (refine run_region ?_; (iterate 2 refine xep rfl rfl ?_); refine xel rfl (ev_sub rfl rfl rfl (by omega)) ?_; refine xep rfl rfl ?_; refine runL_nil ?_; refine then_normal ?_; (iterate 2 refine run_seq ?_); refine run_region ?_; (iterate 3 refine xep rfl rfl ?_); (iterate 2 refine xgp rfl rfl rfl ?_); refine xep rfl rfl ?_; refine runL_nil ?_; refine then_normal ?_)
        (refine run_cond rfl (fun hc => ?_) (fun hc => ?_) <;> (try simp only [z0, z1, z2, z3, z4, z5, z6, z7, z8, z9, Bool.not_true, Bool.not_false, Bool.false_or, Bool.true_and, true_and, and_true, false_or, or_false, reduceCtorEq, Bool.false_eq_true] at hc))
        · (refine run_seq ?_; refine run_region ?_; refine xep rfl rfl ?_; refine runL_nil ?_; refine then_normal ?_; refine run_ret ?_; refine then_ret ?_)
          rw [if_pos ⟨rfl, hc0⟩, if_pos (show s = 2 by omega), if_neg (by omega)]
          exact ⟨_, rfl, rfl, rfl⟩
        · (refine run_skip ?_; refine then_normal ?_; refine run_seq ?_; refine run_region ?_; (iterate 5 refine xep rfl rfl ?_); refine xel rfl (ev_fieldAddr rfl rfl (fo rfl)) ?_; refine xel rfl (ev_indexAddrA rfl rfl rfl (ar rfl) (by omega) (by omega)) ?_; refine xel rfl (ev_fieldAddr rfl rfl (fo rfl)) ?_; refine xel rfl (ev_indexAddrA rfl rfl rfl (ar rfl) (by omega) (by omega)) ?_)
          refine runL_set0 rfl rfl rfl rfl rfl (sz rfl) rfl hlen ?_
          (refine runL_nil ?_; refine then_normal ?_; refine run_seq ?_; refine run_region ?_; refine xep rfl rfl ?_; refine runL_nil ?_; refine then_normal ?_; refine run_ret ?_)
          rw [if_pos ⟨rfl, hc0⟩, if_pos (show s = 2 by omega), if_pos (by omega), ac_set, hs]
          exact ⟨_, rfl, rfl, rfl⟩
def wpa (W : List Int) (n i : Int) : Int := if there n i = true then at_ W (wpslot n i) else 0
theorem sp_wpos (W : List Int) (hW : WOk W) (b : Nat) (e : TypeId) (F : Heap) (hm : blk b (ac W) e ∈ F) (n i : Int) :
    Sp Try.prog F 44 [.pointer (some ⟨b, 0, none⟩), .int .i64 n, .int .i64 i] [] (Ret (.int .i64 (wpa W n i))) := by
  have q1 := fun F => sp_wthere F n i
  refine sp_of_code Try.func44 rfl rfl ?_
  unfold wpa
  cases ht : there n i with
  | false =>
    rw [ht] at q1
    (refine run_seq ?_; refine run_region ?_; refine xep rfl rfl ?_; refine runL_nil ?_; refine then_normal ?_; (iterate 2 refine run_seq ?_); refine run_region ?_; (iterate 2 refine xep rfl rfl ?_); refine xel rfl (ev_callQ rfl rfl rfl (pf rfl) (q1 ..)) ?_; refine xep rfl rfl ?_; refine runL_nil ?_; refine then_normal ?_)
    refine run_condT rfl rfl ?_
    (refine run_seq ?_; refine run_region ?_; refine xep rfl rfl ?_; refine runL_nil ?_; refine then_normal ?_; refine run_ret ?_; refine then_ret ?_)
    exact ⟨_, rfl, rfl⟩
  | true =>
    rw [ht] at q1
    have hh := there_iff.1 ht
    have hs : 0 + 128 + n.toNat * 16 + 8 + i.toNat * 1 = wpslot n i := by unfold wpslot; omega
    obtain ⟨hg, hb1, hb2⟩ := hW.at (k := wpslot n i) (by unfold wpslot; omega) (by unfold wpslot; omega)
    have l1 : LoadsF F b (0 + 128 + n.toNat * 16 + 8 + i.toNat * 1) (.int .i64 (at_ W (wpslot n i))) := ⟨_, _, _, hm, by rw [hs]; exact ac_get hg⟩
    (refine run_seq ?_; refine run_region ?_; refine xep rfl rfl ?_; refine runL_nil ?_; refine then_normal ?_; (iterate 2 refine run_seq ?_); refine run_region ?_; (iterate 2 refine xep rfl rfl ?_); refine xel rfl (ev_callQ rfl rfl rfl (pf rfl) (q1 ..)) ?_; refine xep rfl rfl ?_; refine runL_nil ?_; refine then_normal ?_)
    refine run_condF rfl rfl ?_
    (refine run_skip ?_; refine then_normal ?_; refine run_seq ?_; refine run_region ?_; (iterate 4 refine xep rfl rfl ?_); refine xel rfl (ev_fieldAddr rfl rfl (fo rfl)) ?_; refine xel rfl (ev_indexAddrA rfl rfl rfl (ar rfl) (by omega) (by omega)) ?_; refine xel rfl (ev_fieldAddr rfl rfl (fo rfl)) ?_; refine xel rfl (ev_indexAddrA rfl rfl rfl (ar rfl) (by omega) (by omega)) ?_; refine xel rfl (ev_loadF rfl rfl (sc rfl) l1) ?_; refine xep rfl rfl ?_; refine runL_nil ?_; refine then_normal ?_; refine run_ret ?_)
    exact ⟨_, rfl, rfl⟩
/-- What a trader has open, as the document adds it up. -/
def wsum (W : List Int) (n : Int) : Nat → Int
  | 0 => 0
  | k + 1 => wsum W n k + at_ W (wslot n k)
def wopen (W : List Int) (n : Int) : Int := if 0 ≤ n ∧ n < 32 then wsum W n 8 else 0
theorem wsum_in {W : List Int} (hW : WOk W) (n : Int) (hn : 0 ≤ n ∧ n < 32) : ∀ k : Nat, k ≤ 8 → -(k * 1099511627776) ≤ wsum W n k ∧ wsum W n k ≤ k * 1099511627776
  | 0, _ => by simp [wsum]
  | k + 1, hk => by
    have h1 := wsum_in hW n hn k (by omega)
    have h2 := (hW.at (k := wslot n k) (by unfold wslot; omega) (by unfold wslot; omega)).2
    unfold wsum
    omega
theorem sp_wopen (W : List Int) (hW : WOk W) (b : Nat) (e : TypeId) (F : Heap) (hm : blk b (ac W) e ∈ F) (n : Int) :
    Sp Try.prog F 43 [.pointer (some ⟨b, 0, none⟩), .int .i64 n] [] (Ret (.int .i64 (wopen W n))) := by
  refine sp_of_code Try.func43 rfl rfl ?_
  (refine run_seq ?_; refine run_region ?_; refine xep rfl rfl ?_; refine runL_nil ?_; refine then_normal ?_; refine run_seq ?_; refine run_region ?_; refine xep rfl rfl ?_; refine runL_nil ?_; refine then_normal ?_; (iterate 2 refine run_seq ?_); refine run_region ?_; (iterate 3 refine xep rfl rfl ?_); (iterate 2 refine xgp rfl rfl rfl ?_); refine xep rfl rfl ?_; refine runL_nil ?_; refine then_normal ?_)
  (refine run_cond rfl (fun hc => ?_) (fun hc => ?_) <;> (try simp only [z0, z1, z2, z3, z4, z5, z6, z7, z8, z9, Bool.not_true, Bool.not_false, Bool.false_or, Bool.true_and, true_and, and_true, false_or, or_false, reduceCtorEq, Bool.false_eq_true] at hc))
  · have hl : ((ac W).drop (0 + 128 + n.toNat * 16 + 0)).take 8 = ac ((W.drop (128 + n.toNat * 16)).take 8) := by
      unfold ac; rw [← List.map_drop, ← List.map_take]; congr 3
    have hlen : 0 + 128 + n.toNat * 16 + 0 + 8 ≤ (ac W).length := by rw [ac_len, hW.1]; omega
    have hget : ∀ j, j < 8 → (ac ((W.drop (128 + n.toNat * 16)).take 8))[j]? = some (.int .i64 (at_ W (wslot n j))) := by
      intro j hj
      refine ac_get ?_
      rw [List.getElem?_take_of_lt hj, List.getElem?_drop, show 128 + n.toNat * 16 + j = wslot n j by unfold wslot; omega]
      exact (hW.at (k := wslot n j) (by unfold wslot; omega) (by unfold wslot; omega)).1
    (refine run_seq ?_; refine run_region ?_; (iterate 3 refine xep rfl rfl ?_); refine xel rfl (ev_fieldAddr rfl rfl (fo rfl)) ?_; refine xel rfl (ev_indexAddrA rfl rfl rfl (ar rfl) (by omega) (by omega)) ?_; refine xel rfl (ev_fieldAddr rfl rfl (fo rfl)) ?_)
    refine runL_ev rfl rfl rfl rfl (ev_loadA rfl rfl (ag rfl) (sz rfl) (memR hm) hlen hl) ?_
    (refine xep rfl rfl ?_; refine runL_nil ?_; refine then_normal ?_; refine run_block ?_)
    generalize ac ((W.drop (128 + n.toNat * 16)).take 8) = L at *
    refine run_loopK (σ := Nat) [20, 21, 5] (fun j => [(20, .agg ⟨L⟩), (21, .int .i64 j), (5, .int .i64 (wsum W n j))]) (fun _ => []) (fun j => j ≤ 8) (fun j => 8 - j) 0 (Nat.zero_le _) rfl (fun _ => rfl) ?_
    intro j gj
    have hsum := wsum_in hW n (by omega) j gj
    (refine run_seq ?_; refine run_region ?_; refine xep rfl rfl ?_; refine runL_nil ?_; refine then_normal ?_; refine run_seq ?_)
    (refine run_cond rfl (fun hc => ?_) (fun hc => ?_) <;> (try simp only [z0, z1, z2, z3, z4, z5, z6, z7, z8, z9, Bool.not_true, Bool.not_false, Bool.false_or, Bool.true_and, true_and, and_true, false_or, or_false, reduceCtorEq, Bool.false_eq_true] at hc))
    · have hat2 : L[(j : Int).toNat * 1]? = some (.int .i64 (at_ W (wslot n j))) := by rw [Nat.mul_one]; exact hget j (by omega)
      have hin2 := (hW.at (k := wslot n j) (by unfold wslot; omega) (by unfold wslot; omega)).2
      (refine run_skip ?_; refine then_normal ?_; refine run_seq ?_; refine run_block ?_; refine run_seq ?_; refine run_region ?_)
      refine runL_ev rfl rfl rfl rfl (ev_indexV rfl rfl rfl (ar rfl) (sc rfl) (by omega) (by omega) hat2) ?_
      (refine xep rfl rfl ?_; refine runL_nil ?_; refine then_normal ?_; refine run_region ?_; (iterate 2 refine xep rfl rfl ?_); refine xel rfl (ev_add rfl rfl rfl (by omega)) ?_; refine xep rfl rfl ?_; refine runL_nil ?_; refine in_normal ?_; refine then_normal ?_; refine run_region ?_; refine xel rfl (ev_add rfl rfl rfl (by omega)) ?_; refine xep rfl rfl ?_; refine runL_nil ?_; refine then_normal ?_)
      refine ⟨j + 1, by omega, by omega, rfl, [], fun _ => by simp only [List.append_nil]⟩
    · have : j = 8 := by omega
      subst this
      (refine run_exit ?_; (iterate 2 refine then_exit ?_); refine in_exit ?_; refine then_normal ?_)
      (refine run_seq ?_; refine run_region ?_; (iterate 2 refine xep rfl rfl ?_); refine runL_nil ?_; refine then_normal ?_; refine run_ret ?_)
      refine ⟨_, rfl, ?_⟩
      unfold wopen
      rw [if_pos (by omega)]; rfl
  · (refine run_skip ?_; refine then_normal ?_; refine run_seq ?_; refine run_region ?_; (iterate 2 refine xep rfl rfl ?_); refine runL_nil ?_; refine then_normal ?_; refine run_ret ?_)
    refine ⟨_, rfl, ?_⟩
    unfold wopen
    rw [if_neg (by omega)]; rfl
end Go.Proofs.Ytnpcmcijlgklfaa
