/- Contracts of functions of the given program over its translation, each proved by walking its text; used by the laws' rows. It proves no given statement by itself. -/
import Derived.Test.YtnpcmcijlgklfaaSLLaw15b
set_option autoImplicit false
set_option linter.unusedSectionVars false
set_option linter.unusedSimpArgs false
set_option linter.unusedVariables false
namespace Go.Proofs.Ytnpcmcijlgklfaa
open Go Go.SL Go.Proofs
/-- The accounts after trades between two, of s in all, r of them sold again. -/
def Bth (x y i : Int) (p s : Int) : List Int := (A0.set (pslot x i) p).set (pslot y i) (-s)
def qs (zs : List Int) : Nat → Int
  | 0 => 0
  | k + 1 => qs zs k + (1 + (zs.getD k 0).emod (1048576 - 1 + 1))
theorem qs_in (zs : List Int) : ∀ k : Nat, (k : Int) ≤ qs zs k ∧ qs zs k ≤ k * 1048576
  | 0 => by simp [qs]
  | k + 1 => by
    have h := qs_in zs k
    have h1 := Int.emod_nonneg (zs.getD k 0) (show (1048576 - 1 + 1 : Int) ≠ 0 by omega)
    have h2 := Int.emod_lt_of_pos (zs.getD k 0) (show (0 : Int) < 1048576 - 1 + 1 by omega)
    change 0 ≤ (zs.getD k 0).emod (1048576 - 1 + 1) at h1
    change (zs.getD k 0).emod (1048576 - 1 + 1) < _ at h2
    unfold qs
    omega
theorem qs_mono (zs : List Int) {j k : Nat} (h : j ≤ k) : qs zs j ≤ qs zs k := by
  induction k with
  | zero => have : j = 0 := by omega
            subst this; exact Int.le_refl _
  | succ k ih =>
    by_cases e : j = k + 1
    · subst e; exact Int.le_refl _
    · have h1 := ih (by omega)
      have h2 := Int.emod_nonneg (zs.getD k 0) (show (1048576 - 1 + 1 : Int) ≠ 0 by omega)
      change 0 ≤ (zs.getD k 0).emod (1048576 - 1 + 1) at h2
      rw [qs]; omega
theorem at_set_self {A : List Int} {k : Nat} (v : Int) (h : k < A.length) : at_ (A.set k v) k = v := by
  unfold at_
  rw [List.getD_eq_getElem?_getD, List.getElem?_set_self h]; rfl
theorem at_A0 (k : Nat) : at_ A0 k = 0 := by
  unfold at_ A0
  rw [List.getD_eq_getElem?_getD, List.getElem?_replicate]
  split <;> rfl
variable [Base]
theorem Bth_len (x y i p s : Int) : (Bth x y i p s).length = 512 := by
  unfold Bth; rw [List.length_set, List.length_set]; exact A0_ok.1
theorem Bth_x {x y i p s : Int} (hx : 0 ≤ x ∧ x < 32) (hy : 0 ≤ y ∧ y < 32) (hi : 0 ≤ i ∧ i < 8) (hne : x ≠ y) : at_ (Bth x y i p s) (pslot x i) = p := by
  unfold Bth
  rw [at_set_ne _ _ (by unfold pslot; omega), at_set_self _ (by rw [A0_ok.1]; unfold pslot; omega)]
theorem Bth_y {x y i p s : Int} (hx : 0 ≤ x ∧ x < 32) (hy : 0 ≤ y ∧ y < 32) (hi : 0 ≤ i ∧ i < 8) : at_ (Bth x y i p s) (pslot y i) = -s := by
  unfold Bth
  rw [at_set_self _ (by rw [List.length_set, A0_ok.1]; unfold pslot; omega)]
theorem Bth_else {x y i p s : Int} {k : Nat} (h1 : pslot x i ≠ k) (h2 : pslot y i ≠ k) : at_ (Bth x y i p s) k = 0 := by
  unfold Bth
  rw [at_set_ne _ _ h2, at_set_ne _ _ h1, at_A0]
theorem pa_x {x y i p s : Int} (hx : 0 ≤ x ∧ x < 32) (hy : 0 ≤ y ∧ y < 32) (hi : 0 ≤ i ∧ i < 8) (hne : x ≠ y) : pa (Bth x y i p s) x i = p := by
  unfold pa; rw [if_pos (there_iff.2 (by omega)), Bth_x hx hy hi hne]
theorem pa_y {x y i p s : Int} (hx : 0 ≤ x ∧ x < 32) (hy : 0 ≤ y ∧ y < 32) (hi : 0 ≤ i ∧ i < 8) : pa (Bth x y i p s) y i = -s := by
  unfold pa; rw [if_pos (there_iff.2 (by omega)), Bth_y hx hy hi]
theorem pa_else {x y i p s j : Int} (hx : 0 ≤ x ∧ x < 32) (hy : 0 ≤ y ∧ y < 32) (hi : 0 ≤ i ∧ i < 8) (hj : 0 ≤ j ∧ j < 8) (hne : j ≠ i) : pa (Bth x y i p s) x j = 0 := by
  unfold pa; rw [if_pos (there_iff.2 (by omega)), Bth_else (by unfold pslot; omega) (by unfold pslot; omega)]
theorem oa_Bth {x y i p s n j : Int} : oa (Bth x y i p s) n j = 0 := by
  unfold oa
  split
  · rename_i h; rw [there_iff] at h
    rw [Bth_else (by unfold pslot slot; omega) (by unfold pslot slot; omega)]
  · rfl
theorem sum_Bth {x y i p s n : Int} : ∀ k, sumN (Bth x y i p s) n k = 0
  | 0 => rfl
  | k + 1 => by rw [sumN, sum_Bth k, oa_Bth]; rfl
theorem Bth_ok {x y i p s : Int} (hp : -1099511627776 ≤ p ∧ p ≤ 1099511627776) (hs : -1099511627776 ≤ s ∧ s ≤ 1099511627776) : AOk (Bth x y i p s) := by
  refine ⟨Bth_len .., fun k v hv => ?_⟩
  have : at_ (Bth x y i p s) k = v := by unfold at_; rw [List.getD_eq_getElem?_getD, hv]; rfl
  have hk := (List.getElem?_eq_some_iff.1 hv).1
  unfold Bth at this hk
  by_cases e2 : pslot y i = k
  · subst e2
    rw [at_set_self _ (by simpa using hk)] at this; omega
  · rw [at_set_ne _ _ e2] at this
    by_cases e1 : pslot x i = k
    · subst e1
      rw [at_set_self _ (by simpa using hk)] at this; omega
    · rw [at_set_ne _ _ e1, at_A0] at this; omega
theorem Bth_zero (x y i : Int) : Bth x y i 0 0 = A0 := by
  unfold Bth A0
  rw [List.set_replicate_self, Int.neg_zero, List.set_replicate_self]
theorem Bth_buy {x y i p s q : Int} (hx : 0 ≤ x ∧ x < 32) (hy : 0 ≤ y ∧ y < 32) (hi : 0 ≤ i ∧ i < 8) (hne : x ≠ y) (hq : 1 ≤ q ∧ q ≤ 1048576) (hr : 0 ≤ p ∧ p + q ≤ 1099511627776) :
    trades (Bth x y i p s) x i 1 q = (true, Bth x y i (p + q) s) := by
  unfold trades mv
  rw [if_pos ⟨there_iff.2 (by omega), by omega, by omega, .inl rfl⟩]
  simp only [show ¬ ((1 : Int) = 2) by decide, if_false]
  rw [Bth_x hx hy hi hne, if_pos (by omega)]
  unfold Bth
  rw [List.set_comm _ _ (by unfold pslot; omega), List.set_set]
theorem Bth_sell {x y i p s q : Int} (hx : 0 ≤ x ∧ x < 32) (hy : 0 ≤ y ∧ y < 32) (hi : 0 ≤ i ∧ i < 8) (hne : x ≠ y) (hq : 1 ≤ q ∧ q ≤ 1048576) (hr : 0 ≤ p ∧ p ≤ 1099511627776) :
    trades (Bth x y i p s) x i 2 q = (true, Bth x y i (p - q) s) := by
  unfold trades mv
  rw [if_pos ⟨there_iff.2 (by omega), by omega, by omega, .inr rfl⟩]
  simp only [if_true]
  rw [Bth_x hx hy hi hne, if_pos (by omega)]
  unfold Bth
  rw [List.set_comm _ _ (by unfold pslot; omega), List.set_set]; rfl
theorem Bth_sell2 {x y i p s q : Int} (hx : 0 ≤ x ∧ x < 32) (hy : 0 ≤ y ∧ y < 32) (hi : 0 ≤ i ∧ i < 8) (hq : 1 ≤ q ∧ q ≤ 1048576) (hr : 0 ≤ s ∧ s + q ≤ 1099511627776) :
    trades (Bth x y i p s) y i 2 q = (true, Bth x y i p (s + q)) := by
  unfold trades mv
  rw [if_pos ⟨there_iff.2 (by omega), by omega, by omega, .inr rfl⟩]
  simp only [if_true]
  rw [Bth_y hx hy hi, if_pos (by omega)]
  unfold Bth
  rw [List.set_set, show -s + -q = -(s + q) by omega]
set_option maxHeartbeats 4000000 in
theorem acctBoth_sp (F : Heap) (n m inst : Int) (a : Option Addr) (len cap : Nat) (rows : List (List Int)) (h1 : InI n) (h2 : InI m) (h3 : InI inst) (hR : RowsF F a len 1 rows) (hC : len ≤ cap) (hM : cap ≤ 9223372036854775807) :
    Sp Try.prog F 12 [.int .i64 n, .int .i64 m, .int .i64 inst, .slice a len cap] [] (Ret (.bool true)) := by
  obtain ⟨zs, hl, hin, hZ⟩ := hR.toInts
  have q1 := fun F => sp_within F n 0 31 (by omega) (by omega) (by omega)
  have q2 := fun F => sp_within F inst 0 7 (by omega) (by omega) (by omega)
  have q3 := fun F => sp_within F m 1 31 (by omega) (by omega) (by omega)
  have q4 := @acctRuns_sp
  have w1 := Int.emod_nonneg n (show (31 - 0 + 1 : Int) ≠ 0 by omega)
  have w2 := Int.emod_lt_of_pos n (show (0 : Int) < 31 - 0 + 1 by omega)
  have w3 := Int.emod_nonneg inst (show (7 - 0 + 1 : Int) ≠ 0 by omega)
  have w4 := Int.emod_lt_of_pos inst (show (0 : Int) < 7 - 0 + 1 by omega)
  have w5 := Int.emod_nonneg m (show (31 - 1 + 1 : Int) ≠ 0 by omega)
  have w6 := Int.emod_lt_of_pos m (show (0 : Int) < 31 - 1 + 1 by omega)
  change 0 ≤ n.emod (31 - 0 + 1) at w1
  change n.emod (31 - 0 + 1) < _ at w2
  change 0 ≤ inst.emod (7 - 0 + 1) at w3
  change inst.emod (7 - 0 + 1) < _ at w4
  change 0 ≤ m.emod (31 - 1 + 1) at w5
  change m.emod (31 - 1 + 1) < _ at w6
  generalize n.emod (31 - 0 + 1) = x0 at *
  generalize inst.emod (7 - 0 + 1) = i0 at *
  generalize m.emod (31 - 1 + 1) = y0 at *
  have c0 := fun F => sp_new F
  refine sp_of_code Try.func12 rfl rfl ?_
  (refine run_seq ?_; refine run_region ?_; refine xep rfl rfl ?_; refine runL_nil ?_; refine then_normal ?_; refine run_seq ?_; refine run_region ?_)
  refine runL_call0 rfl rfl rfl rfl rfl rfl rfl (pf rfl) (c0 _) ?_
  rintro v h1 ⟨b, rfl, rfl⟩
  (refine xep rfl rfl ?_; refine runL_nil ?_; refine then_normal ?_; (iterate 2 refine run_seq ?_); refine run_region ?_; refine xep rfl rfl ?_; refine xel rfl (ev_eqNil rfl rfl rfl (pt rfl)) ?_; refine runL_nil ?_; refine then_normal ?_; refine RunC.whole rfl ?_)
  refine run_condF rfl rfl ?_
  (refine run_skip ?_; refine then_normal ?_; refine run_seq ?_; refine run_region ?_; refine xep rfl rfl ?_; refine xel rfl (ev_callQ rfl rfl rfl (pf rfl) (q1 ..)) ?_; refine xep rfl rfl ?_; refine xel rfl (ev_callQ rfl rfl rfl (pf rfl) (q2 ..)) ?_; (iterate 2 refine xep rfl rfl ?_); refine runL_nil ?_; refine then_normal ?_; refine run_seq ?_; refine run_region ?_; (iterate 2 refine xep rfl rfl ?_); refine xel rfl (ev_callQ rfl rfl rfl (pf rfl) (q3 ..)) ?_; refine xel rfl (ev_add rfl rfl rfl (by omega)) ?_; refine xel rfl (ev_rem rfl rfl rfl (by omega)) ?_; refine xep rfl rfl ?_; refine runL_nil ?_; refine then_normal ?_; refine run_seq ?_; refine run_region ?_; refine xep rfl rfl ?_; refine runL_nil ?_; refine then_normal ?_; (iterate 2 refine run_seq ?_); refine run_region ?_; refine xep rfl rfl ?_; refine runL_nil ?_; refine then_normal ?_; refine run_block ?_)
  have hy2 : (0 + x0 + (1 + y0)).tmod 32 = (0 + x0 + (1 + y0)) % 32 := Int.tmod_eq_emod_of_nonneg (by omega)
  have hy3 : 0 ≤ (0 + x0 + (1 + y0)) % 32 ∧ (0 + x0 + (1 + y0)) % 32 < 32 ∧ 0 + x0 ≠ (0 + x0 + (1 + y0)) % 32 := by omega
  rw [← hy2] at hy3
  generalize (0 + x0 + (1 + y0)).tmod 32 = y at *
  have hx3 : 0 ≤ 0 + x0 ∧ 0 + x0 < 32 := by omega
  have hi3 : 0 ≤ 0 + i0 ∧ 0 + i0 < 8 := by omega
  clear hy2
  generalize 0 + x0 = x at *
  generalize 0 + i0 = i at *
  obtain ⟨hy4, hy5, hne⟩ := hy3
  refine run_loopK (σ := Nat) [3, 9, 10, 11, 12, 13, 14] (fun k => [(3, .slice a len cap), (9, .pointer (some ⟨b, 0, none⟩)), (10, .int .i64 x), (11, .int .i64 i), (12, .int .i64 y), (13, .int .i64 (qs zs k)), (14, .int .i64 k)]) (fun k => [blk b (ac (Bth x y i (qs zs k) (qs zs k))) 76]) (fun k => k ≤ len ∧ k ≤ 40) (fun k => 40 - k) 0 ⟨by omega, by omega⟩ rfl (fun _ => by show cnt _ _ = cnt _ [blk b (ac (Bth x y i 0 0)) _]; rw [Bth_zero]) ?_
  · rintro k ⟨g1, g2⟩
    have hq := qs_in zs k
    ((iterate 2 refine run_seq ?_); refine run_region ?_; (iterate 2 refine xep rfl rfl ?_); refine xel rfl (ev_len rfl rfl (se rfl)) ?_; (iterate 2 refine xep rfl rfl ?_); (iterate 2 refine xgp rfl rfl rfl ?_); refine xep rfl rfl ?_; refine runL_nil ?_; refine then_normal ?_)
    (refine run_cond rfl (fun hc => ?_) (fun hc => ?_) <;> (try simp only [z0, z1, z2, z3, z4, z5, z6, z7, z8, z9] at hc))
    · obtain ⟨zb, off, zc, ze, fz, rfl, hm, hc2⟩ := hZ.resolve_left (by omega)
      obtain ⟨z, hz⟩ : ∃ z, zs[k]? = some z := ⟨zs[k]'(by omega), List.getElem?_eq_getElem _⟩
      have hcz := hc2 _ _ hz
      have q5 := fun F => sp_within F z 1 1048576 (by omega) (by omega) (by omega)
      have hqk : qs zs (k + 1) = qs zs k + (1 + z.emod (1048576 - 1 + 1)) := by
        rw [qs, List.getD_eq_getElem?_getD, hz]; rfl
      have r1 := Int.emod_nonneg z (show (1048576 - 1 + 1 : Int) ≠ 0 by omega)
      have r2 := Int.emod_lt_of_pos z (show (0 : Int) < 1048576 - 1 + 1 by omega)
      change 0 ≤ z.emod (1048576 - 1 + 1) at r1
      change z.emod (1048576 - 1 + 1) < _ at r2
      have hq2 : 1 ≤ 1 + z.emod (1048576 - 1 + 1) ∧ 1 + z.emod (1048576 - 1 + 1) ≤ 1048576 := by omega
      generalize 1 + z.emod (1048576 - 1 + 1) = q at *
      generalize qs zs k = s at *
      have t1 := fun F => sp_trades F _ (Bth_ok (x := x) (y := y) (i := i) (p := s) (s := s) (by omega) (by omega)) b 76 x i 1 q
      have t2 := fun F => sp_trades F _ (Bth_ok (x := x) (y := y) (i := i) (p := s + q) (s := s) (by omega) (by omega)) b 76 y i 2 q
      simp only [Bth_buy (p := s) (s := s) hx3 ⟨hy4, hy5⟩ hi3 hne hq2 (by omega)] at t1
      simp only [Bth_sell2 (p := s + q) (s := s) hx3 ⟨hy4, hy5⟩ hi3 hq2 (by omega)] at t2
      have m1 := sp_pos _ (Bth_ok (x := x) (y := y) (i := i) (p := s + q) (s := s + q) (by omega) (by omega)) b 76
      have hgd : true = true := rfl
      have hge : false = false := rfl
      (refine run_skip ?_; refine then_normal ?_; refine run_seq ?_; refine run_block ?_; refine run_seq ?_; refine run_region ?_; (iterate 2 refine xep rfl rfl ?_); refine xel rfl (ev_indexAddr rfl rfl rfl (se rfl) (by omega) (by omega)) ?_)
      refine runL_ev rfl rfl rfl rfl (ev_load rfl rfl (sc rfl) (memR hm) (by rw [Nat.mul_one]; exact hcz)) ?_
      (refine xel rfl (ev_callQ rfl rfl rfl (pf rfl) (q5 ..)) ?_; refine xep rfl rfl ?_; refine runL_nil ?_; refine then_normal ?_; (iterate 2 refine run_seq ?_); refine run_region ?_; (iterate 4 refine xep rfl rfl ?_))
      refine runL_call1 rfl rfl rfl rfl rfl rfl rfl (pf rfl) (t1 _) ?_
      rintro v h1 ⟨rfl, rfl⟩
      ((iterate 2 refine xep rfl rfl ?_); refine runL_yes rfl rfl hge ?_; refine xep rfl rfl ?_; refine runL_yes rfl rfl hge ?_; refine xep rfl rfl ?_; refine runL_yes rfl rfl hge ?_; refine xep rfl rfl ?_; refine runL_yes rfl rfl hge ?_; refine xep rfl rfl ?_; refine runL_yes rfl rfl hge ?_)
      refine runL_call1 rfl rfl rfl rfl rfl rfl rfl (pf rfl) (t2 _) ?_
      rintro v h1 ⟨rfl, rfl⟩
      (refine runL_yes rfl rfl hge ?_; (iterate 2 refine xep rfl rfl ?_); refine runL_nil ?_; refine then_normal ?_; refine RunC.whole rfl ?_)
      refine run_condF rfl rfl ?_
      clear hgd hge
      (refine run_skip ?_; refine then_normal ?_; refine run_seq ?_; refine run_region ?_; (iterate 2 refine xep rfl rfl ?_); refine xel rfl (ev_add rfl rfl rfl (by omega)) ?_; refine xep rfl rfl ?_; refine runL_nil ?_; refine then_normal ?_; refine run_seq ?_; refine run_region ?_; (iterate 3 refine xep rfl rfl ?_); refine xel rfl (ev_callQ rfl rfl rfl (pf rfl) (m1 _ (memF (.head _)) ..)) ?_; (iterate 3 refine xep rfl rfl ?_); (iterate 3 refine xgp rfl rfl rfl ?_); refine xgl rfl rfl (fun hq => ev_callQ rfl rfl rfl (pf rfl) (m1 _ (memF (.head _)) ..)) ?_; refine xgp rfl rfl rfl ?_; refine xgl rfl rfl (fun hq => ev_neg rfl rfl (by (try simp only [z0, z1, z2, z3, z4, z5, z6, z7, z8, z9] at hq); omega)) ?_; refine xgp rfl rfl rfl ?_; (iterate 2 refine xep rfl rfl ?_); (iterate 3 refine xgp rfl rfl rfl ?_); refine xgl rfl rfl (fun hq => ev_add rfl rfl rfl (by (try simp only [z0, z1, z2, z3, z4, z5, z6, z7, z8, z9] at hq); omega)) ?_; refine xgl rfl rfl (fun hq => ev_rem rfl rfl rfl (by (try simp only [z0, z1, z2, z3, z4, z5, z6, z7, z8, z9] at hq); omega)) ?_; refine xgl rfl rfl (fun hq => ev_callQ rfl rfl rfl (pf rfl) (m1 _ (memF (.head _)) ..)) ?_; refine xgp rfl rfl rfl ?_; refine xep rfl rfl ?_; refine runL_nil ?_; refine then_normal ?_)
      have p1 := pa_x (p := s + q) (s := s + q) hx3 ⟨hy4, hy5⟩ hi3 hne
      have p2 := pa_y (p := s + q) (s := s + q) hx3 ⟨hy4, hy5⟩ hi3
      have p3 : pa (Bth x y i (s + q) (s + q)) x ((i + 1).tmod 8) = 0 := by
        have e : (i + 1).tmod 8 = (i + 1) % 8 := Int.tmod_eq_emod_of_nonneg (by omega)
        rw [e]
        exact pa_else (by omega) (by omega) (by omega) (by omega) (by omega)
      refine run_condF rfl (by rw [p1, p2, p3]; simp) ?_
      (refine run_skip ?_; refine in_normal ?_; refine then_normal ?_; refine run_region ?_; refine xep rfl rfl ?_; refine xel rfl (ev_add rfl rfl rfl (by omega)) ?_; refine xep rfl rfl ?_; refine runL_nil ?_; refine then_normal ?_)
      refine ⟨k + 1, ⟨by omega, by omega⟩, by omega, ?_, [], fun _ => ?_⟩
      · show _ = [(3, Value.slice _ len cap), (9, Value.pointer (some ⟨b, 0, none⟩)), (10, .int .i64 x), (11, .int .i64 i), (12, .int .i64 y), (13, .int .i64 (qs zs (k + 1))), (14, .int .i64 ((k + 1 : Nat) : Int))]
        rw [hqk]; rfl
      · rw [hqk, List.append_nil]; rfl
    · (refine run_exit ?_; (iterate 2 refine then_exit ?_); refine in_exit ?_; refine then_normal ?_)
      have hcc : len ≤ k ∨ 40 ≤ k := by omega
      ((iterate 2 refine run_seq ?_); refine run_region ?_; refine xep rfl rfl ?_; refine runL_nil ?_; refine then_normal ?_; refine run_block ?_)
      clear hq hc
      have hq0 := qs_in zs k
      generalize hS : qs zs k = S at *
      have hS2 : ∀ j : Nat, j ≤ k → qs zs j ≤ S := fun j hj => hS ▸ qs_mono zs hj
      have hend : (len ≤ k ∨ 40 ≤ k) := hcc
      refine run_loopK (σ := Nat) [3, 9, 10, 11, 16] (fun j => [(3, .slice a len cap), (9, .pointer (some ⟨b, 0, none⟩)), (10, .int .i64 x), (11, .int .i64 i), (16, .int .i64 j)]) (fun j => [blk b (ac (Bth x y i (S - qs zs j) S)) 76]) (fun j => j ≤ k) (fun j => 40 - j) 0 (Nat.zero_le _) rfl (fun _ => by show cnt _ _ = cnt _ [blk b (ac (Bth x y i (S - 0) S)) _]; rw [Int.sub_zero]) ?_
      · rintro j gj
        have hqj := qs_in zs j
        have hSj := hS2 j gj
        ((iterate 2 refine run_seq ?_); refine run_region ?_; (iterate 2 refine xep rfl rfl ?_); refine xel rfl (ev_len rfl rfl (se rfl)) ?_; (iterate 2 refine xep rfl rfl ?_); (iterate 2 refine xgp rfl rfl rfl ?_); refine xep rfl rfl ?_; refine runL_nil ?_; refine then_normal ?_)
        (refine run_cond rfl (fun hc => ?_) (fun hc => ?_) <;> (try simp only [z0, z1, z2, z3, z4, z5, z6, z7, z8, z9] at hc))
        · obtain ⟨zb, off, zc, ze, fz, rfl, hm, hc2⟩ := hZ.resolve_left (by omega)
          obtain ⟨z, hz⟩ : ∃ z, zs[j]? = some z := ⟨zs[j]'(by omega), List.getElem?_eq_getElem _⟩
          have hcz := hc2 _ _ hz
          have q5 := fun F => sp_within F z 1 1048576 (by omega) (by omega) (by omega)
          have hqk : qs zs (j + 1) = qs zs j + (1 + z.emod (1048576 - 1 + 1)) := by
            rw [qs, List.getD_eq_getElem?_getD, hz]; rfl
          have r1 := Int.emod_nonneg z (show (1048576 - 1 + 1 : Int) ≠ 0 by omega)
          have r2 := Int.emod_lt_of_pos z (show (0 : Int) < 1048576 - 1 + 1 by omega)
          change 0 ≤ z.emod (1048576 - 1 + 1) at r1
          change z.emod (1048576 - 1 + 1) < _ at r2
          have hSj1 := hS2 (j + 1) (by omega)
          have hq2 : 1 ≤ 1 + z.emod (1048576 - 1 + 1) ∧ 1 + z.emod (1048576 - 1 + 1) ≤ 1048576 := by omega
          generalize 1 + z.emod (1048576 - 1 + 1) = q at *
          generalize qs zs j = s at *
          have t1 := fun F => sp_trades F _ (Bth_ok (x := x) (y := y) (i := i) (p := S - s) (s := S) (by omega) (by omega)) b 76 x i 2 q
          simp only [Bth_sell (p := S - s) (s := S) hx3 ⟨hy4, hy5⟩ hi3 hne hq2 (by omega)] at t1
          (refine run_skip ?_; refine then_normal ?_; refine run_seq ?_; refine run_block ?_; refine run_seq ?_; refine run_region ?_; (iterate 5 refine xep rfl rfl ?_); refine xel rfl (ev_indexAddr rfl rfl rfl (se rfl) (by omega) (by omega)) ?_)
          refine runL_ev rfl rfl rfl rfl (ev_load rfl rfl (sc rfl) (memR hm) (by rw [Nat.mul_one]; exact hcz)) ?_
          (refine xel rfl (ev_callQ rfl rfl rfl (pf rfl) (q5 ..)) ?_)
          refine runL_call1 rfl rfl rfl rfl rfl rfl rfl (pf rfl) (t1 _) ?_
          rintro v h1 ⟨rfl, rfl⟩
          (refine xep rfl rfl ?_; refine runL_nil ?_; refine then_normal ?_; refine RunC.whole rfl ?_)
          refine run_condF rfl rfl ?_
          (refine run_skip ?_; refine in_normal ?_; refine then_normal ?_; refine run_region ?_; refine xep rfl rfl ?_; refine xel rfl (ev_add rfl rfl rfl (by omega)) ?_; refine xep rfl rfl ?_; refine runL_nil ?_; refine then_normal ?_)
          refine ⟨j + 1, by omega, by omega, ?_, [], fun _ => ?_⟩
          · rfl
          · rw [hqk, List.append_nil, show S - (s + q) = S - s - q by omega]
        · have : j = k := by omega
          subst this
          rw [hS, Int.sub_self]
          have m1 := sp_pos _ (Bth_ok (x := x) (y := y) (i := i) (p := 0) (s := S) (by omega) (by omega)) b 76
          have m2 := sp_open _ (Bth_ok (x := x) (y := y) (i := i) (p := 0) (s := S) (by omega) (by omega)) b 76
          have p1 := pa_x (p := 0) (s := S) hx3 ⟨hy4, hy5⟩ hi3 hne
          have p2 := sum_Bth (x := x) (y := y) (i := i) (p := 0) (s := S) (n := x) 8
          (refine run_exit ?_; (iterate 2 refine then_exit ?_); refine in_exit ?_; refine then_normal ?_)
          (refine run_seq ?_; refine run_region ?_; (iterate 3 refine xep rfl rfl ?_); refine xel rfl (ev_callQ rfl rfl rfl (pf rfl) (m1 _ (memF (.head _)) ..)) ?_; (iterate 2 refine xep rfl rfl ?_); (iterate 2 refine xgp rfl rfl rfl ?_); refine xgl rfl rfl (fun hq => ev_callQ rfl rfl rfl (pf rfl) (m2 _ (memF (.head _)) ..)) ?_; refine xgp rfl rfl rfl ?_; (iterate 2 refine xep rfl rfl ?_); refine xgl rfl rfl (fun hq => ev_callQ rfl rfl rfl (pf rfl) (q4 ..)) ?_; (iterate 2 refine xep rfl rfl ?_); refine runL_nil ?_; refine then_normal ?_; refine run_ret ?_)
          refine ⟨_, rfl, congrArg Value.bool ?_⟩
          rw [p1, p2]; rfl
end Go.Proofs.Ytnpcmcijlgklfaa
