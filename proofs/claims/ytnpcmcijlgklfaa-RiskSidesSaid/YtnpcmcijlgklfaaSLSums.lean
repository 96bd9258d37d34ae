/- Contracts of functions of the given program over its translation, each proved by walking its text; used by the laws' rows. It proves no given statement by itself. -/
import Derived.Test.YtnpcmcijlgklfaaSLBase
set_option autoImplicit false
set_option linter.unusedSectionVars false
set_option linter.unusedSimpArgs false
set_option linter.unusedVariables false
namespace Go.Proofs.Ytnpcmcijlgklfaa
open Go Go.SL Go.Proofs

def plus (a b : Int) : Int × Int := if a < 0 ∨ b < 0 then (0, 1) else if 9223372036854775807 - b < a then (0, 3) else (a + b, 0)
def times (a b : Int) : Int × Int := if a < 0 ∨ b < 0 then (0, 1) else if 0 < b ∧ Int.tdiv 9223372036854775807 b < a then (0, 3) else (a * b, 0)
def ceil (a b : Int) : Int × Int := if a < 0 ∨ b < 1 then (0, 1) else (if 0 < a.tmod b then a.tdiv b + 1 else a.tdiv b, 0)
def two (p : Int × Int) : Value := .tuple #[.int .i64 p.1, .int .i64 p.2]
theorem times_in {a b : Int} (ha : 0 ≤ a) (hb : 0 ≤ b) (h : ¬ (0 < b ∧ Int.tdiv 9223372036854775807 b < a)) : -9223372036854775808 ≤ a * b ∧ a * b ≤ 9223372036854775807 := by
  have h0 : 0 ≤ a * b := Int.mul_nonneg ha hb
  refine ⟨by omega, ?_⟩
  by_cases hb0 : 0 < b
  · have h1 : a ≤ Int.tdiv 9223372036854775807 b := by
      by_cases h2 : Int.tdiv 9223372036854775807 b < a
      · exact absurd ⟨hb0, h2⟩ h
      · omega
    rw [Int.tdiv_eq_ediv_of_nonneg (by omega)] at h1
    have := (Int.le_ediv_iff_mul_le hb0).1 h1
    exact this
  · have : b = 0 := by omega
    subst this; simp
variable [Base]
theorem sp_plus (F : Heap) (a b : Int) (ha : InI a) (hb : InI b) : Sp Try.prog F 23 [.int .i64 a, .int .i64 b] [] (Ret (two (plus a b))) := by
  unfold InI at ha hb
  refine sp_of_code Try.func23 rfl rfl ?_
  (refine run_seq ?_; refine run_region ?_; (iterate 2 refine xep rfl rfl ?_); refine runL_nil ?_; refine then_normal ?_; refine run_seq ?_; refine run_block ?_; refine run_seq ?_; refine run_region ?_; (iterate 3 refine xep rfl rfl ?_); (iterate 2 refine xgp rfl rfl rfl ?_); (iterate 2 refine xep rfl rfl ?_); refine runL_nil ?_; refine then_normal ?_)
  (refine run_cond rfl (fun hc => ?_) (fun hc => ?_) <;> (try simp only [z0, z1, z2, z3, z4, z5, z6, z7, z8, z9] at hc))
  · (refine run_seq ?_; refine run_region ?_; (iterate 2 refine xep rfl rfl ?_); refine runL_nil ?_; refine then_normal ?_; refine run_ret ?_; refine in_ret ?_; refine then_ret ?_)
    exact ⟨_, rfl, by unfold plus; rw [if_pos hc]; rfl⟩
  · have hc1 := hc
    (refine run_seq ?_; refine run_region ?_; (iterate 2 refine xep rfl rfl ?_); refine xel rfl (ev_sub rfl rfl rfl (by omega)) ?_; (iterate 2 refine xep rfl rfl ?_); refine runL_nil ?_; refine then_normal ?_)
    (refine run_cond rfl (fun hc => ?_) (fun hc => ?_) <;> (try simp only [z0, z1, z2, z3, z4, z5, z6, z7, z8, z9] at hc))
    · (refine run_seq ?_; refine run_region ?_; (iterate 2 refine xep rfl rfl ?_); refine runL_nil ?_; refine then_normal ?_; refine run_ret ?_; refine in_ret ?_; refine then_ret ?_)
      exact ⟨_, rfl, by unfold plus; rw [if_neg (by omega), if_pos hc]; rfl⟩
    · (refine run_skip ?_; refine in_normal ?_; refine then_normal ?_; refine run_seq ?_; refine run_region ?_; (iterate 2 refine xep rfl rfl ?_); refine xel rfl (ev_add rfl rfl rfl (by omega)) ?_; (iterate 2 refine xep rfl rfl ?_); refine runL_nil ?_; refine then_normal ?_; refine run_ret ?_)
      exact ⟨_, rfl, by unfold plus; rw [if_neg (by omega), if_neg (by omega)]; rfl⟩
theorem sp_times (F : Heap) (a b : Int) (ha : InI a) (hb : InI b) : Sp Try.prog F 24 [.int .i64 a, .int .i64 b] [] (Ret (two (times a b))) := by
  unfold InI at ha hb
  refine sp_of_code Try.func24 rfl rfl ?_
  (refine run_seq ?_; refine run_region ?_; (iterate 2 refine xep rfl rfl ?_); refine runL_nil ?_; refine then_normal ?_; refine run_seq ?_; refine run_block ?_; refine run_seq ?_; refine run_region ?_; (iterate 3 refine xep rfl rfl ?_); (iterate 2 refine xgp rfl rfl rfl ?_); (iterate 2 refine xep rfl rfl ?_); refine runL_nil ?_; refine then_normal ?_)
  (refine run_cond rfl (fun hc => ?_) (fun hc => ?_) <;> (try simp only [z0, z1, z2, z3, z4, z5, z6, z7, z8, z9] at hc))
  · (refine run_seq ?_; refine run_region ?_; (iterate 2 refine xep rfl rfl ?_); refine runL_nil ?_; refine then_normal ?_; refine run_ret ?_; refine in_ret ?_; refine then_ret ?_)
    exact ⟨_, rfl, by unfold times; rw [if_pos hc]; rfl⟩
  · have hc1 := hc
    (refine run_seq ?_; refine run_region ?_; (iterate 3 refine xep rfl rfl ?_); (iterate 2 refine xgp rfl rfl rfl ?_); refine xgl rfl rfl (fun hq => ev_quo rfl rfl rfl (by (try simp only [z0, z1, z2, z3, z4, z5, z6, z7, z8, z9] at hq); omega) (tdiv_range (by (try simp only [z0, z1, z2, z3, z4, z5, z6, z7, z8, z9] at hq); omega) (by (try simp only [z0, z1, z2, z3, z4, z5, z6, z7, z8, z9] at hq); omega) (by (try simp only [z0, z1, z2, z3, z4, z5, z6, z7, z8, z9] at hq); omega))) ?_; refine xgp rfl rfl rfl ?_; (iterate 2 refine xep rfl rfl ?_); refine runL_nil ?_; refine then_normal ?_)
    (refine run_cond rfl (fun hc => ?_) (fun hc => ?_) <;> (try simp only [z0, z1, z2, z3, z4, z5, z6, z7, z8, z9] at hc))
    · (refine run_seq ?_; refine run_region ?_; (iterate 2 refine xep rfl rfl ?_); refine runL_nil ?_; refine then_normal ?_; refine run_ret ?_; refine in_ret ?_; refine then_ret ?_)
      exact ⟨_, rfl, by unfold times; rw [if_neg (by omega), if_pos hc]; rfl⟩
    · have hn : ¬ (0 < b ∧ Int.tdiv 9223372036854775807 b < a) := by omega
      have hm := times_in (by omega) (by omega) hn
      (refine run_skip ?_; refine in_normal ?_; refine then_normal ?_; refine run_seq ?_; refine run_region ?_; (iterate 2 refine xep rfl rfl ?_); refine xel rfl (ev_mul rfl rfl rfl (by (first | assumption | omega))) ?_; (iterate 2 refine xep rfl rfl ?_); refine runL_nil ?_; refine then_normal ?_; refine run_ret ?_)
      exact ⟨_, rfl, by unfold times; rw [if_neg (by omega), if_neg hn]; rfl⟩
theorem sp_ceil (F : Heap) (a b : Int) (ha : InI a) (hb : InI b) : Sp Try.prog F 25 [.int .i64 a, .int .i64 b] [] (Ret (two (ceil a b))) := by
  unfold InI at ha hb
  refine sp_of_code Try.func25 rfl rfl ?_
  (refine run_seq ?_; refine run_region ?_; (iterate 2 refine xep rfl rfl ?_); refine runL_nil ?_; refine then_normal ?_; (iterate 2 refine run_seq ?_); refine run_region ?_; (iterate 3 refine xep rfl rfl ?_); (iterate 2 refine xgp rfl rfl rfl ?_); refine xep rfl rfl ?_; refine runL_nil ?_; refine then_normal ?_)
  (refine run_cond rfl (fun hc => ?_) (fun hc => ?_) <;> (try simp only [z0, z1, z2, z3, z4, z5, z6, z7, z8, z9] at hc))
  · (refine run_seq ?_; refine run_region ?_; (iterate 2 refine xep rfl rfl ?_); refine runL_nil ?_; refine then_normal ?_; refine run_ret ?_; refine then_ret ?_)
    exact ⟨_, rfl, by unfold ceil; rw [if_pos hc]; rfl⟩
  · have hc1 := hc
    (refine run_skip ?_; refine then_normal ?_; refine run_seq ?_; refine run_region ?_; (iterate 2 refine xep rfl rfl ?_); refine xel rfl (ev_quo rfl rfl rfl (by omega) (tdiv_range (by omega) (by omega) (by omega))) ?_; refine xep rfl rfl ?_; refine runL_nil ?_; refine then_normal ?_; (iterate 2 refine run_seq ?_); refine run_region ?_; (iterate 2 refine xep rfl rfl ?_); refine xel rfl (ev_rem rfl rfl rfl (by omega)) ?_; refine xep rfl rfl ?_; refine runL_nil ?_; refine then_normal ?_)
    (refine run_cond rfl (fun hc => ?_) (fun hc => ?_) <;> (try simp only [z0, z1, z2, z3, z4, z5, z6, z7, z8, z9] at hc))
    · have hle : a.tdiv b ≤ 4611686018427387904 := by
        rw [Int.tdiv_eq_ediv_of_nonneg (by omega)]
        rw [Int.tmod_eq_emod_of_nonneg (by omega)] at hc
        by_cases h1 : b = 1
        · subst h1; simp at hc
        · have := Int.ediv_lt_of_lt_mul (a := a) (b := 4611686018427387904) (c := b) (by omega) (by omega)
          omega
      have hge : 0 ≤ a.tdiv b := by
        rw [Int.tdiv_eq_ediv_of_nonneg (by omega)]; exact Int.ediv_nonneg (by omega) (by omega)
      (refine run_region ?_; refine xep rfl rfl ?_; refine xel rfl (ev_add rfl rfl rfl (by omega)) ?_; refine xep rfl rfl ?_; refine runL_nil ?_; refine then_normal ?_; refine run_seq ?_; refine run_region ?_; (iterate 3 refine xep rfl rfl ?_); refine runL_nil ?_; refine then_normal ?_; refine run_ret ?_)
      exact ⟨_, rfl, by unfold ceil; rw [if_neg (by omega), if_pos hc]; rfl⟩
    · (refine run_skip ?_; refine then_normal ?_; refine run_seq ?_; refine run_region ?_; (iterate 3 refine xep rfl rfl ?_); refine runL_nil ?_; refine then_normal ?_; refine run_ret ?_)
      exact ⟨_, rfl, by unfold ceil; rw [if_neg (by omega), if_neg (by omega)]; rfl⟩
def sumFrom (s : Int) : List Int → Int × Int
  | [] => (s, 0)
  | n :: r => if (plus s n).2 = 0 then sumFrom (plus s n).1 r else (0, (plus s n).2)
omit [Base] in
theorem plus_in {a b : Int} (ha : InI a) (hb : InI b) : InI (plus a b).1 ∧ InI (plus a b).2 := by
  unfold plus InI at *
  split
  · constructor <;> constructor <;> decide
  · split
    · constructor <;> constructor <;> decide
    · refine ⟨?_, by constructor <;> simp⟩
      show _ ≤ a + b ∧ a + b ≤ _
      omega

theorem sp_sum (F : Heap) (a : Option Addr) (len cap : Nat) (hlen : (len : Int) ≤ 9223372036854775806) (zs : List Int) (hR : IntsF F a len zs) : Sp Try.prog F 26 [.slice a len cap] [] (Ret (two (sumFrom 0 zs))) := by
  obtain ⟨hl, hin, hR⟩ := hR
  refine sp_of_code Try.func26 rfl rfl ?_
  (refine run_seq ?_; refine run_region ?_; (iterate 2 refine xep rfl rfl ?_); refine runL_nil ?_; refine then_normal ?_; refine run_seq ?_; refine run_region ?_; refine xep rfl rfl ?_; refine runL_nil ?_; refine then_normal ?_; (iterate 2 refine run_seq ?_); refine run_region ?_; refine xep rfl rfl ?_; refine xel rfl (ev_len rfl rfl (se rfl)) ?_; refine xep rfl rfl ?_; refine runL_nil ?_; refine then_normal ?_; refine run_block ?_)
  refine run_loopK (σ := Int × Int) [10, 9, 8, 4] (fun s => [(10, .int .i64 s.1), (9, .int .i64 len), (8, .slice a len cap), (4, .int .i64 s.2)]) (fun _ => []) (fun s => 0 ≤ s.1 ∧ s.1 ≤ len ∧ InI s.2 ∧ sumFrom s.2 (zs.drop s.1.toNat) = sumFrom 0 zs) (fun s => (len - s.1).toNat) (0, 0) ⟨by omega, by omega, ⟨by decide, by decide⟩, rfl⟩ rfl (fun _ => rfl) ?_
  rintro ⟨k, acc⟩ ⟨h0, h1, h2, h3⟩
  simp only at h0 h1 h2 h3
  (refine run_seq ?_; refine run_region ?_; refine xep rfl rfl ?_; refine runL_nil ?_; refine then_normal ?_; refine run_seq ?_)
  (refine run_cond rfl (fun hc => ?_) (fun hc => ?_) <;> (try simp only [z0, z1, z2, z3, z4, z5, z6, z7, z8, z9] at hc))
  · obtain ⟨b, off, c, e, fz, rfl, hm, hc2⟩ : ∃ b off c e fz, a = some ⟨b, off, none⟩ ∧ (b, Obj.cells ⟨c⟩ e fz) ∈ F ∧ ∀ (i : Nat) (z : Int), zs[i]? = some z → c[off + i]? = some (.int .i64 z) := hR.resolve_left (by omega)
    obtain ⟨z, hz⟩ : ∃ z, zs[k.toNat]? = some z := ⟨zs[k.toNat]'(by omega), List.getElem?_eq_getElem _⟩
    have hzi := hin z (List.mem_of_getElem? hz)
    have hcz := hc2 _ _ hz
    have q1 := fun F => sp_plus F acc z h2 hzi
    (refine run_skip ?_; refine then_normal ?_; refine run_seq ?_; refine run_block ?_; refine run_seq ?_; refine run_region ?_; refine xel rfl (ev_indexAddr rfl rfl rfl (se rfl) (by omega) (by omega)) ?_)
    refine runL_ev rfl rfl rfl rfl (ev_load rfl rfl (sc rfl) (memR hm) (by rw [Nat.mul_one]; exact hcz)) ?_
    (refine xep rfl rfl ?_; refine runL_nil ?_; refine then_normal ?_; refine run_seq ?_; refine run_region ?_; refine xep rfl rfl ?_; refine runL_nil ?_; refine then_normal ?_; refine run_seq ?_; refine run_region ?_; (iterate 2 refine xep rfl rfl ?_); refine xel rfl (ev_callQ rfl rfl rfl (pf rfl) (q1 ..)) ?_; (iterate 5 refine xep rfl rfl ?_); refine runL_nil ?_; refine then_normal ?_; refine run_seq ?_; refine run_region ?_; (iterate 2 refine xep rfl rfl ?_); refine runL_nil ?_; refine then_normal ?_)
    have hd : zs.drop k.toNat = z :: zs.drop (k.toNat + 1) := by
      rw [List.drop_eq_getElem_cons (by omega)]
      congr 1
      rw [List.getElem?_eq_getElem (by omega)] at hz
      exact Option.some.inj hz
    rw [hd] at h3
    have hp := plus_in h2 hzi
    (refine run_cond rfl (fun hc => ?_) (fun hc => ?_) <;> (try simp only [z0, z1, z2, z3, z4, z5, z6, z7, z8, z9] at hc))
    · (refine run_seq ?_; refine run_region ?_; (iterate 3 refine xep rfl rfl ?_); refine runL_nil ?_; refine then_normal ?_; refine run_ret ?_; refine in_ret ?_; (iterate 2 refine then_ret ?_); refine in_ret ?_; refine then_ret ?_)
      refine ⟨_, rfl, ?_⟩
      rw [← h3, sumFrom, if_neg hc]; rfl
    · (refine run_skip ?_; refine in_normal ?_; refine then_normal ?_; refine run_region ?_; refine xel rfl (ev_add rfl rfl rfl (by omega)) ?_; refine xep rfl rfl ?_; refine runL_nil ?_; refine then_normal ?_)
      refine ⟨(k + 1, (plus acc z).1), ⟨by omega, by omega, hp.1, ?_⟩, by simp only; omega, rfl, [], fun _ => by simp only [List.append_nil]⟩
      show sumFrom (plus acc z).1 (zs.drop (k + 1).toNat) = _
      rw [show (k + 1).toNat = k.toNat + 1 by omega, ← h3, sumFrom, if_pos hc]
  · (refine run_exit ?_; (iterate 2 refine then_exit ?_); refine in_exit ?_; refine then_normal ?_; refine run_seq ?_; refine run_region ?_; (iterate 3 refine xep rfl rfl ?_); refine runL_nil ?_; refine then_normal ?_; refine run_ret ?_)
    refine ⟨_, rfl, ?_⟩
    rw [← h3, List.drop_eq_nil_of_le (by omega)]; rfl

/-! The document's own. -/
theorem rp_plus (F : Heap) (a b : Int) (ha : InI a) (hb : InI b) : Sp Try.prog F 27 [.int .i64 a, .int .i64 b] [] (Ret (two (plus a b))) := by
  unfold InI at ha hb
  refine sp_of_code Try.func27 rfl rfl ?_
  (refine run_seq ?_; refine run_region ?_; (iterate 2 refine xep rfl rfl ?_); refine runL_nil ?_; refine then_normal ?_; (iterate 2 refine run_seq ?_); refine run_region ?_; (iterate 3 refine xep rfl rfl ?_); (iterate 2 refine xgp rfl rfl rfl ?_); refine xep rfl rfl ?_; refine runL_nil ?_; refine then_normal ?_)
  (refine run_cond rfl (fun hc => ?_) (fun hc => ?_) <;> (try simp only [z0, z1, z2, z3, z4, z5, z6, z7, z8, z9] at hc))
  · (refine run_seq ?_; refine run_region ?_; (iterate 2 refine xep rfl rfl ?_); refine runL_nil ?_; refine then_normal ?_; refine run_ret ?_; refine then_ret ?_)
    exact ⟨_, rfl, by unfold plus; rw [if_pos hc]; rfl⟩
  · have hc1 := hc
    (refine run_skip ?_; refine then_normal ?_; (iterate 2 refine run_seq ?_); refine run_region ?_; (iterate 2 refine xep rfl rfl ?_); refine xel rfl (ev_sub rfl rfl rfl (by omega)) ?_; refine xep rfl rfl ?_; refine runL_nil ?_; refine then_normal ?_)
    (refine run_cond rfl (fun hc => ?_) (fun hc => ?_) <;> (try simp only [z0, z1, z2, z3, z4, z5, z6, z7, z8, z9] at hc))
    · (refine run_seq ?_; refine run_region ?_; (iterate 2 refine xep rfl rfl ?_); refine runL_nil ?_; refine then_normal ?_; refine run_ret ?_; refine then_ret ?_)
      exact ⟨_, rfl, by unfold plus; rw [if_neg (by omega), if_pos hc]; rfl⟩
    · (refine run_skip ?_; refine then_normal ?_; refine run_seq ?_; refine run_region ?_; (iterate 2 refine xep rfl rfl ?_); refine xel rfl (ev_add rfl rfl rfl (by omega)) ?_; (iterate 2 refine xep rfl rfl ?_); refine runL_nil ?_; refine then_normal ?_; refine run_ret ?_)
      exact ⟨_, rfl, by unfold plus; rw [if_neg (by omega), if_neg (by omega)]; rfl⟩
theorem rp_times (F : Heap) (a b : Int) (ha : InI a) (hb : InI b) : Sp Try.prog F 28 [.int .i64 a, .int .i64 b] [] (Ret (two (times a b))) := by
  unfold InI at ha hb
  refine sp_of_code Try.func28 rfl rfl ?_
  (refine run_seq ?_; refine run_region ?_; (iterate 2 refine xep rfl rfl ?_); refine runL_nil ?_; refine then_normal ?_; (iterate 2 refine run_seq ?_); refine run_region ?_; (iterate 3 refine xep rfl rfl ?_); (iterate 2 refine xgp rfl rfl rfl ?_); refine xep rfl rfl ?_; refine runL_nil ?_; refine then_normal ?_)
  (refine run_cond rfl (fun hc => ?_) (fun hc => ?_) <;> (try simp only [z0, z1, z2, z3, z4, z5, z6, z7, z8, z9] at hc))
  · (refine run_seq ?_; refine run_region ?_; (iterate 2 refine xep rfl rfl ?_); refine runL_nil ?_; refine then_normal ?_; refine run_ret ?_; refine then_ret ?_)
    exact ⟨_, rfl, by unfold times; rw [if_pos hc]; rfl⟩
  · have hc1 := hc
    (refine run_skip ?_; refine then_normal ?_; (iterate 2 refine run_seq ?_); refine run_region ?_; (iterate 3 refine xep rfl rfl ?_); (iterate 2 refine xgp rfl rfl rfl ?_); refine xgl rfl rfl (fun hq => ev_quo rfl rfl rfl (by (try simp only [z0, z1, z2, z3, z4, z5, z6, z7, z8, z9] at hq); omega) (tdiv_range (by (try simp only [z0, z1, z2, z3, z4, z5, z6, z7, z8, z9] at hq); omega) (by (try simp only [z0, z1, z2, z3, z4, z5, z6, z7, z8, z9] at hq); omega) (by (try simp only [z0, z1, z2, z3, z4, z5, z6, z7, z8, z9] at hq); omega))) ?_; refine xgp rfl rfl rfl ?_; refine xep rfl rfl ?_; refine runL_nil ?_; refine then_normal ?_)
    (refine run_cond rfl (fun hc => ?_) (fun hc => ?_) <;> (try simp only [z0, z1, z2, z3, z4, z5, z6, z7, z8, z9] at hc))
    · (refine run_seq ?_; refine run_region ?_; (iterate 2 refine xep rfl rfl ?_); refine runL_nil ?_; refine then_normal ?_; refine run_ret ?_; refine then_ret ?_)
      exact ⟨_, rfl, by unfold times; rw [if_neg (by omega), if_pos hc]; rfl⟩
    · have hn : ¬ (0 < b ∧ Int.tdiv 9223372036854775807 b < a) := by omega
      have hm := times_in (by omega) (by omega) hn
      (refine run_skip ?_; refine then_normal ?_; refine run_seq ?_; refine run_region ?_; (iterate 2 refine xep rfl rfl ?_); refine xel rfl (ev_mul rfl rfl rfl (by (first | assumption | omega))) ?_; (iterate 2 refine xep rfl rfl ?_); refine runL_nil ?_; refine then_normal ?_; refine run_ret ?_)
      exact ⟨_, rfl, by unfold times; rw [if_neg (by omega), if_neg hn]; rfl⟩
theorem rp_ceil (F : Heap) (a b : Int) (ha : InI a) (hb : InI b) : Sp Try.prog F 29 [.int .i64 a, .int .i64 b] [] (Ret (two (ceil a b))) := by
  unfold InI at ha hb
  refine sp_of_code Try.func29 rfl rfl ?_
  (refine run_seq ?_; refine run_region ?_; (iterate 2 refine xep rfl rfl ?_); refine runL_nil ?_; refine then_normal ?_; (iterate 2 refine run_seq ?_); refine run_region ?_; (iterate 3 refine xep rfl rfl ?_); (iterate 2 refine xgp rfl rfl rfl ?_); refine xep rfl rfl ?_; refine runL_nil ?_; refine then_normal ?_)
  (refine run_cond rfl (fun hc => ?_) (fun hc => ?_) <;> (try simp only [z0, z1, z2, z3, z4, z5, z6, z7, z8, z9] at hc))
  · (refine run_seq ?_; refine run_region ?_; (iterate 2 refine xep rfl rfl ?_); refine runL_nil ?_; refine then_normal ?_; refine run_ret ?_; refine then_ret ?_)
    exact ⟨_, rfl, by unfold ceil; rw [if_pos hc]; rfl⟩
  · have hc1 := hc
    (refine run_skip ?_; refine then_normal ?_; refine run_seq ?_; refine run_region ?_; (iterate 2 refine xep rfl rfl ?_); refine xel rfl (ev_quo rfl rfl rfl (by omega) (tdiv_range (by omega) (by omega) (by omega))) ?_; refine xep rfl rfl ?_; refine runL_nil ?_; refine then_normal ?_; (iterate 2 refine run_seq ?_); refine run_region ?_; (iterate 2 refine xep rfl rfl ?_); refine xel rfl (ev_rem rfl rfl rfl (by omega)) ?_; refine xep rfl rfl ?_; refine runL_nil ?_; refine then_normal ?_)
    (refine run_cond rfl (fun hc => ?_) (fun hc => ?_) <;> (try simp only [z0, z1, z2, z3, z4, z5, z6, z7, z8, z9] at hc))
    · have hle : a.tdiv b ≤ 4611686018427387904 := by
        rw [Int.tdiv_eq_ediv_of_nonneg (by omega)]
        rw [Int.tmod_eq_emod_of_nonneg (by omega)] at hc
        by_cases h1 : b = 1
        · subst h1; simp at hc
        · have := Int.ediv_lt_of_lt_mul (a := a) (b := 4611686018427387904) (c := b) (by omega) (by omega)
          omega
      have hge : 0 ≤ a.tdiv b := by
        rw [Int.tdiv_eq_ediv_of_nonneg (by omega)]; exact Int.ediv_nonneg (by omega) (by omega)
      (refine run_region ?_; refine xep rfl rfl ?_; refine xel rfl (ev_add rfl rfl rfl (by omega)) ?_; refine xep rfl rfl ?_; refine runL_nil ?_; refine then_normal ?_; refine run_seq ?_; refine run_region ?_; (iterate 3 refine xep rfl rfl ?_); refine runL_nil ?_; refine then_normal ?_; refine run_ret ?_)
      exact ⟨_, rfl, by unfold ceil; rw [if_neg (by omega), if_pos hc]; rfl⟩
    · (refine run_skip ?_; refine then_normal ?_; refine run_seq ?_; refine run_region ?_; (iterate 3 refine xep rfl rfl ?_); refine runL_nil ?_; refine then_normal ?_; refine run_ret ?_)
      exact ⟨_, rfl, by unfold ceil; rw [if_neg (by omega), if_neg (by omega)]; rfl⟩
theorem rp_sum (F : Heap) (a : Option Addr) (len cap : Nat) (hlen : (len : Int) ≤ 9223372036854775806) (zs : List Int) (hR : IntsF F a len zs) : Sp Try.prog F 30 [.slice a len cap] [] (Ret (two (sumFrom 0 zs))) := by
  obtain ⟨hl, hin, hR⟩ := hR
  refine sp_of_code Try.func30 rfl rfl ?_
  (refine run_seq ?_; refine run_region ?_; (iterate 2 refine xep rfl rfl ?_); refine runL_nil ?_; refine then_normal ?_; refine run_seq ?_; refine run_region ?_; refine xep rfl rfl ?_; refine runL_nil ?_; refine then_normal ?_; (iterate 2 refine run_seq ?_); refine run_region ?_; refine xep rfl rfl ?_; refine xel rfl (ev_len rfl rfl (se rfl)) ?_; refine xep rfl rfl ?_; refine runL_nil ?_; refine then_normal ?_; refine run_block ?_)
  refine run_loopK (σ := Int × Int) [11, 10, 9, 4] (fun s => [(11, .int .i64 s.1), (10, .int .i64 len), (9, .slice a len cap), (4, .int .i64 s.2)]) (fun _ => []) (fun s => 0 ≤ s.1 ∧ s.1 ≤ len ∧ InI s.2 ∧ sumFrom s.2 (zs.drop s.1.toNat) = sumFrom 0 zs) (fun s => (len - s.1).toNat) (0, 0) ⟨by omega, by omega, ⟨by decide, by decide⟩, rfl⟩ rfl (fun _ => rfl) ?_
  rintro ⟨k, acc⟩ ⟨h0, h1, h2, h3⟩
  simp only at h0 h1 h2 h3
  (refine run_seq ?_; refine run_region ?_; refine xep rfl rfl ?_; refine runL_nil ?_; refine then_normal ?_; refine run_seq ?_)
  (refine run_cond rfl (fun hc => ?_) (fun hc => ?_) <;> (try simp only [z0, z1, z2, z3, z4, z5, z6, z7, z8, z9] at hc))
  · obtain ⟨b, off, c, e, fz, rfl, hm, hc2⟩ : ∃ b off c e fz, a = some ⟨b, off, none⟩ ∧ (b, Obj.cells ⟨c⟩ e fz) ∈ F ∧ ∀ (i : Nat) (z : Int), zs[i]? = some z → c[off + i]? = some (.int .i64 z) := hR.resolve_left (by omega)
    obtain ⟨z, hz⟩ : ∃ z, zs[k.toNat]? = some z := ⟨zs[k.toNat]'(by omega), List.getElem?_eq_getElem _⟩
    have hzi := hin z (List.mem_of_getElem? hz)
    have hcz := hc2 _ _ hz
    have q1 := fun F => rp_plus F acc z h2 hzi
    (refine run_skip ?_; refine then_normal ?_; refine run_seq ?_; refine run_block ?_; refine run_seq ?_; refine run_region ?_; refine xel rfl (ev_indexAddr rfl rfl rfl (se rfl) (by omega) (by omega)) ?_)
    refine runL_ev rfl rfl rfl rfl (ev_load rfl rfl (sc rfl) (memR hm) (by rw [Nat.mul_one]; exact hcz)) ?_
    (refine xep rfl rfl ?_; refine runL_nil ?_; refine then_normal ?_; refine run_seq ?_; refine run_region ?_; (iterate 2 refine xep rfl rfl ?_); refine xel rfl (ev_callQ rfl rfl rfl (pf rfl) (q1 ..)) ?_; (iterate 5 refine xep rfl rfl ?_); refine runL_nil ?_; refine then_normal ?_; (iterate 2 refine run_seq ?_); refine run_region ?_; (iterate 2 refine xep rfl rfl ?_); refine runL_nil ?_; refine then_normal ?_)
    have hd : zs.drop k.toNat = z :: zs.drop (k.toNat + 1) := by
      rw [List.drop_eq_getElem_cons (by omega)]
      congr 1
      rw [List.getElem?_eq_getElem (by omega)] at hz
      exact Option.some.inj hz
    rw [hd] at h3
    have hp := plus_in h2 hzi
    (refine run_cond rfl (fun hc => ?_) (fun hc => ?_) <;> (try simp only [z0, z1, z2, z3, z4, z5, z6, z7, z8, z9] at hc))
    · (refine run_seq ?_; refine run_region ?_; (iterate 3 refine xep rfl rfl ?_); refine runL_nil ?_; refine then_normal ?_; refine run_ret ?_; refine then_ret ?_; refine in_ret ?_; (iterate 2 refine then_ret ?_); refine in_ret ?_; refine then_ret ?_)
      refine ⟨_, rfl, ?_⟩
      rw [← h3, sumFrom, if_neg hc]; rfl
    · (refine run_skip ?_; refine then_normal ?_; refine run_region ?_; (iterate 2 refine xep rfl rfl ?_); refine runL_nil ?_; refine in_normal ?_; refine then_normal ?_; refine run_region ?_; refine xel rfl (ev_add rfl rfl rfl (by omega)) ?_; refine xep rfl rfl ?_; refine runL_nil ?_; refine then_normal ?_)
      refine ⟨(k + 1, (plus acc z).1), ⟨by omega, by omega, hp.1, ?_⟩, by simp only; omega, rfl, [], fun _ => by simp only [List.append_nil]⟩
      show sumFrom (plus acc z).1 (zs.drop (k + 1).toNat) = _
      rw [show (k + 1).toNat = k.toNat + 1 by omega, ← h3, sumFrom, if_pos hc]
  · (refine run_exit ?_; (iterate 2 refine then_exit ?_); refine in_exit ?_; refine then_normal ?_; refine run_seq ?_; refine run_region ?_; (iterate 3 refine xep rfl rfl ?_); refine runL_nil ?_; refine then_normal ?_; refine run_ret ?_)
    refine ⟨_, rfl, ?_⟩
    rw [← h3, List.drop_eq_nil_of_le (by omega)]; rfl
end Go.Proofs.Ytnpcmcijlgklfaa
