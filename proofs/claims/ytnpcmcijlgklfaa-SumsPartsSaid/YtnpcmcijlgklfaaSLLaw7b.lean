/- Contracts of functions of the given program over its translation, each proved by walking its text; used by the laws' rows. It proves no given statement by itself. -/
import Derived.Test.YtnpcmcijlgklfaaSLLaw7
set_option autoImplicit false
set_option linter.unusedSectionVars false
set_option linter.unusedSimpArgs false
set_option linter.unusedVariables false
namespace Go.Proofs.Ytnpcmcijlgklfaa
open Go Go.SL Go.Proofs

def MaxI (z : Int) : Prop := 0 ≤ z ∧ z ≤ 9223372036854775807
theorem MaxI.inI {z : Int} (h : MaxI z) : InI z := by unfold MaxI at h; unfold InI; omega
def total : List Int → Int
  | [] => 0
  | z :: r => z + total r
theorem total_append (a b : List Int) : total (a ++ b) = total a + total b := by
  induction a with
  | nil => simp [total]
  | cons x r ih => simp only [List.cons_append, total, ih]; omega
theorem total_reverse (a : List Int) : total a.reverse = total a := by
  induction a with
  | nil => rfl
  | cons x r ih => rw [List.reverse_cons, total_append, ih]; simp only [total]; omega
theorem total_nonneg {a : List Int} (h : ∀ z ∈ a, MaxI z) : 0 ≤ total a := by
  induction a with
  | nil => simp [total]
  | cons x r ih =>
    have h1 := h x (List.mem_cons_self ..)
    have h2 := ih fun z m => h z (List.mem_cons_of_mem _ m)
    unfold MaxI at h1
    simp only [total]; omega
theorem sumFrom_eq : ∀ (zs : List Int) (s : Int), 0 ≤ s → s ≤ 9223372036854775807 → (∀ z ∈ zs, MaxI z) → sumFrom s zs = if s + total zs ≤ 9223372036854775807 then (s + total zs, 0) else (0, 3)
  | [], s, h0, h1, _ => by rw [if_pos (by simp only [total]; omega)]; simp [sumFrom, total]
  | z :: r, s, h0, h1, hz => by
    have hz1 := hz z (List.mem_cons_self ..)
    have hz2 : ∀ y ∈ r, MaxI y := fun y m => hz y (List.mem_cons_of_mem _ m)
    have ht := total_nonneg hz2
    unfold MaxI at hz1
    rw [sumFrom]
    by_cases h2 : 9223372036854775807 - z < s
    · have e : plus s z = (0, 3) := by unfold plus; rw [if_neg (by omega), if_pos h2]
      rw [e, if_neg (by decide), if_neg (by simp only [total]; omega)]
    · have e : plus s z = (s + z, 0) := by unfold plus; rw [if_neg (by omega), if_neg h2]
      rw [e, if_pos rfl]
      simp only
      rw [sumFrom_eq r (s + z) (by omega) (by omega) hz2]
      have e3 : s + z + total r = s + total (z :: r) := by simp only [total]; omega
      rw [e3]

variable [Base]
set_option maxHeartbeats 4000000 in
theorem sumsParts_sp (F : Heap) (a : Option Addr) (len cap : Nat) (rows : List (List Int)) (cut : Int) (hR : RowsF F a len 1 rows) (hC : len ≤ cap) (hM : cap ≤ 9223372036854775807) (hcut : InI cut) :
    Sp Try.prog F 6 [.slice a len cap, .int .i64 cut] [] (fun v _ => v = .bool true) := by
  obtain ⟨zs, hl, hin, hZ⟩ := hR.toInts
  refine sp_of_code Try.func6 rfl rfl ?_
  (refine run_seq ?_; refine run_region ?_; refine xep rfl rfl ?_; refine runL_nil ?_; refine then_normal ?_; refine run_seq ?_; refine run_region ?_; (iterate 2 refine xep rfl rfl ?_); refine runL_nil ?_; refine then_normal ?_; (iterate 2 refine run_seq ?_); refine run_region ?_; refine xep rfl rfl ?_; refine runL_nil ?_; refine then_normal ?_; refine run_block ?_)
  refine run_loopK (σ := Value × List Int × Heap) [0, 1, 5, 6, 7] (fun s => [(0, .slice a len cap), (1, .int .i64 cut), (5, s.1), (6, .slice none 0 0), (7, .int .i64 s.2.1.length)]) (fun s => s.2.2)
    (fun s => s.2.1.length ≤ len ∧ s.2.1.length ≤ 10 ∧ OwnS 3 1 s.1 s.2.1.length (ints s.2.1) s.2.2 ∧ ∀ z ∈ s.2.1, MaxI z) (fun s => 10 - s.2.1.length)
    (.slice none 0 0, [], []) ⟨by simp, by simp, OwnS.nil _ _, fun _ m => by cases m⟩ rfl (fun _ => rfl) ?_
  rintro ⟨v, own, A⟩ ⟨h1, h2, h3, h4⟩
  dsimp only at h1 h2 h3 h4 ⊢
  ((iterate 2 refine run_seq ?_); refine run_region ?_; (iterate 2 refine xep rfl rfl ?_); refine xel rfl (ev_len rfl rfl (se rfl)) ?_; (iterate 2 refine xep rfl rfl ?_); (iterate 2 refine xgp rfl rfl rfl ?_); refine xep rfl rfl ?_; refine runL_nil ?_; refine then_normal ?_)
  (refine run_cond rfl (fun hc => ?_) (fun hc => ?_) <;> (try simp only [z0, z1, z2, z3, z4, z5, z6, z7, z8, z9] at hc))
  · obtain ⟨b, off, c, e, fz, rfl, hm, hc2⟩ := hZ.resolve_left (by omega)
    obtain ⟨z, hz⟩ : ∃ z, zs[own.length]? = some z := ⟨zs[own.length]'(by omega), List.getElem?_eq_getElem _⟩
    have hcz := hc2 _ _ hz
    (refine run_skip ?_; refine then_normal ?_; refine run_seq ?_; refine run_block ?_; refine run_region ?_; (iterate 3 refine xep rfl rfl ?_); refine xel rfl (ev_indexAddr rfl rfl rfl (se rfl) (by omega) (by omega)) ?_)
    refine runL_ev rfl rfl rfl rfl (ev_load rfl rfl (sc rfl) (memR hm) (by rw [Nat.mul_one]; exact hcz)) ?_
    (refine xel rfl (ev_bits rfl rfl rfl rfl) ?_)
    refine runL_buildSlice (l := [.int .i64 (z % 9223372036854775808)]) rfl rfl rfl rfl rfl (se rfl) ze3 rfl rfl rfl (by rw [i64_and_max]; rfl) rfl (fun b2 => ?_)
    skip
    refine runL_append (sl := [.int .i64 (z % 9223372036854775808)]) [blk b2 [.int .i64 (z % 9223372036854775808)] 3] rfl rfl rfl rfl rfl rfl rfl (se rfl) (se rfl) ze3 rfl (byt rfl) h3 (fun x => by (simp only [cnt_append, cnt_cons, cnt_nil, blk]; omega)) ⟨rfl, .inr ⟨b2, 0, _, _, _, rfl, memF (.head _), by simp, rfl⟩⟩ rfl (by decide) (by decide) (by omega) ?_
    rintro v' A' own'
    (refine xep rfl rfl ?_; refine runL_nil ?_; refine in_normal ?_; refine then_normal ?_; refine run_region ?_; refine xep rfl rfl ?_; refine xel rfl (ev_add rfl rfl rfl (by omega)) ?_; refine xep rfl rfl ?_; refine runL_nil ?_; refine then_normal ?_)
    refine ⟨(v', own ++ [z % 9223372036854775808], A'), ⟨by simp; omega, by simp; omega, ?_, ?_⟩, by simp; omega, ?_, _, fun x => rfl⟩
    · have e : ints (own ++ [z % 9223372036854775808]) = ints own ++ [.int .i64 (z % 9223372036854775808)] := by simp [ints]
      rw [e]; simpa using own'
    · intro y m
      rcases List.mem_append.1 m with m | m
      · exact h4 y m
      · simp only [List.mem_singleton] at m; subst m; unfold MaxI; omega
    · simp; rfl
  · (refine run_exit ?_; (iterate 2 refine then_exit ?_); refine in_exit ?_; refine then_normal ?_)
    obtain ⟨a1, cap1, rfl, hI⟩ := OwnS.ints (H := A ++ F) h3 (fun x m => List.mem_append_left _ m) (fun z m => (h4 z m).inI)
    have hcap1 : own.length ≤ cap1 := by
      rcases h3 with ⟨e, e2, _, _⟩ | ⟨b, rst, cap, e, _, _, _, hk⟩
      · omega
      · simp only [Value.slice.injEq] at e; omega
    refine RunC.freeze ?_
    refine RunC.keepK [1, 5, 6] rfl ?_
    ((iterate 2 refine run_seq ?_); refine run_region ?_; refine xep rfl rfl ?_; refine xel rfl (ev_len rfl rfl (se rfl)) ?_; refine xel rfl (ev_sub rfl rfl rfl (by omega)) ?_; refine xep rfl rfl ?_; refine runL_nil ?_; refine then_normal ?_; refine run_block ?_)
    refine run_loopK (σ := Value × Nat × Heap) [1, 5, 6, 8] (fun s => [(1, .int .i64 cut), (5, .slice a1 own.length cap1), (6, s.1), (8, .int .i64 ((own.length : Int) - 1 - s.2.1))]) (fun s => s.2.2)
      (fun s => s.2.1 ≤ own.length ∧ OwnS 3 1 s.1 s.2.1 (ints (own.reverse.take s.2.1)) s.2.2) (fun s => own.length - s.2.1)
      (.slice none 0 0, 0, []) ⟨by simp, OwnS.nil _ _⟩ (by simp; rfl) (fun _ => rfl) ?_
    rintro ⟨v, k, B⟩ ⟨g1, g2⟩
    dsimp only at g1 g2 ⊢
    ((iterate 2 refine run_seq ?_); refine run_region ?_; (iterate 2 refine xep rfl rfl ?_); refine runL_nil ?_; refine then_normal ?_)
    (refine run_cond rfl (fun hc => ?_) (fun hc => ?_) <;> (try simp only [z0, z1, z2, z3, z4, z5, z6, z7, z8, z9] at hc))
    · obtain ⟨hl2, _, hI2⟩ := hI
      obtain ⟨b, off, c, e, fz, rfl, hm, hc2⟩ := hI2.resolve_left (by omega)
      have hlt : ((own.length : Int) - 1 - k).toNat = own.length - 1 - k := by omega
      obtain ⟨z, hz⟩ : ∃ z, own[own.length - 1 - k]? = some z := ⟨own[own.length - 1 - k]'(by omega), List.getElem?_eq_getElem _⟩
      have hcz := hc2 _ _ hz
      have hrev : own.reverse.take (k + 1) = own.reverse.take k ++ [z] := by
        rw [List.take_add_one]
        congr 1
        rw [List.getElem?_reverse (by omega), hz]; rfl
      (refine run_skip ?_; refine then_normal ?_; refine run_seq ?_; refine run_block ?_; refine run_region ?_; (iterate 3 refine xep rfl rfl ?_); refine xel rfl (ev_indexAddr rfl rfl rfl (se rfl) (by omega) (by omega)) ?_)
      refine runL_ev rfl rfl rfl rfl (ev_load rfl rfl (sc rfl) (memR hm) (by rw [Nat.mul_one, hlt]; exact hcz)) ?_
      skip
      refine runL_buildSlice (l := [.int .i64 z]) rfl rfl rfl rfl rfl (se rfl) ze3 rfl rfl rfl rfl rfl (fun b2 => ?_)
      skip
      refine runL_append (sl := [.int .i64 z]) [blk b2 [.int .i64 z] 3] rfl rfl rfl rfl rfl rfl rfl (se rfl) (se rfl) ze3 rfl (byt rfl) g2 (fun x => by (simp only [cnt_append, cnt_cons, cnt_nil, blk]; omega)) ⟨rfl, .inr ⟨b2, 0, _, _, _, rfl, memF (.head _), by simp, rfl⟩⟩ rfl (by decide) (by decide) (by omega) ?_
      rintro v' A' own'
      (refine xep rfl rfl ?_; refine runL_nil ?_; refine in_normal ?_; refine then_normal ?_; refine run_region ?_; refine xep rfl rfl ?_; refine xel rfl (ev_sub rfl rfl rfl (by omega)) ?_; refine xep rfl rfl ?_; refine runL_nil ?_; refine then_normal ?_)
      refine ⟨(v', k + 1, A'), ⟨by simp only; omega, ?_⟩, by simp only; omega, ?_, _, fun x => rfl⟩
      · rw [hrev]
        have e : ints (own.reverse.take k ++ [z]) = ints (own.reverse.take k) ++ [.int .i64 z] := by simp [ints]
        rw [e]; exact own'
      · have e : (own.length : Int) - 1 - (k + 1 : Nat) = (own.length : Int) - 1 - k - 1 := by omega
        simp only [e]; rfl
    · have hk : k = own.length := by omega
      subst hk
      (refine run_exit ?_; (iterate 2 refine then_exit ?_); refine in_exit ?_; refine then_normal ?_)
      rw [List.take_of_length_le (by simp)] at g2
      obtain ⟨a2, cap2, rfl, hJ⟩ := OwnS.ints (H := B ++ (A ++ F)) g2 (fun x m => List.mem_append_left _ m) (fun z m => (h4 z (by simpa using m)).inI)
      refine RunC.freeze ?_
      refine RunC.keepK [1, 5, 6] rfl ?_
      obtain ⟨kk, hkk, hk0, hk1⟩ : ∃ kk : Int, 0 + cut.emod (own.length - 0 + 1) = kk ∧ 0 ≤ kk ∧ kk ≤ own.length := by
        have e1 := Int.emod_nonneg cut (show (own.length : Int) - 0 + 1 ≠ 0 by omega)
        have e2 := Int.emod_lt_of_pos cut (show (0 : Int) < (own.length : Int) - 0 + 1 by omega)
        refine ⟨_, rfl, ?_, ?_⟩
        · show 0 ≤ 0 + cut % _; omega
        · show 0 + cut % _ ≤ _; omega
      have q1 := fun F => sp_within F cut 0 own.length (by omega) (by omega) (by omega)
      rw [hkk] at q1
      have hI' : IntsF (B ++ (A ++ F)) a1 own.length own := hI.mono fun x m => List.mem_append_right _ m
      have q2 := sp_sum (B ++ (A ++ F)) a1 own.length cap1 (by omega) own hI'
      have q3 := sp_sum (B ++ (A ++ F)) a1 kk.toNat cap1 (by omega) _ (hI'.take (by omega))
      have q4 := sp_sum (B ++ (A ++ F)) _ _ (cap1 - kk.toNat) (by omega) _ (hI'.drop (k := kk.toNat) (cap := cap1) (by omega) hcap1)
      have q5 := sp_sum (B ++ (A ++ F)) a2 own.length cap2 (by omega) _ hJ
      have q6 := sumsRuns_q
      (refine run_seq ?_; refine run_region ?_; (iterate 2 refine xep rfl rfl ?_); refine xel rfl (ev_len rfl rfl (se rfl)) ?_; refine xel rfl (ev_callQ rfl rfl rfl (pf rfl) (q1 ..)) ?_; refine xep rfl rfl ?_; refine runL_nil ?_; refine then_normal ?_; refine run_seq ?_; refine run_region ?_; refine xep rfl rfl ?_; refine xel rfl (ev_callQ rfl rfl rfl (pf rfl) (q2 ..)) ?_; (iterate 5 refine xep rfl rfl ?_); refine runL_nil ?_; refine then_normal ?_; refine run_seq ?_; refine run_region ?_; (iterate 2 refine xep rfl rfl ?_); refine xel rfl (ev_sliceHi rfl rfl rfl (se rfl) (by omega) (by omega)) ?_; refine xel rfl (ev_callQ rfl rfl rfl (pf rfl) (q3 ..)) ?_; (iterate 5 refine xep rfl rfl ?_); refine runL_nil ?_; refine then_normal ?_; refine run_seq ?_; refine run_region ?_; (iterate 2 refine xep rfl rfl ?_); refine xel rfl (ev_sliceLo rfl rfl rfl (se rfl) (by omega) (by omega)) ?_; refine xel rfl (ev_callQ rfl rfl rfl (pf rfl) (q4 ..)) ?_; (iterate 5 refine xep rfl rfl ?_); refine runL_nil ?_; refine then_normal ?_; refine run_seq ?_; refine run_region ?_; refine xep rfl rfl ?_; refine xel rfl (ev_callQ rfl rfl rfl (pf rfl) (q5 ..)) ?_; (iterate 5 refine xep rfl rfl ?_); refine runL_nil ?_; refine then_normal ?_; (iterate 2 refine run_seq ?_); refine run_region ?_; (iterate 4 refine xep rfl rfl ?_); (iterate 3 refine xgp rfl rfl rfl ?_); refine xep rfl rfl ?_; refine runL_nil ?_; refine then_normal ?_)
      have m1 : ∀ z ∈ own.reverse, MaxI z := fun z m => h4 z (by simpa using m)
      have m2 : ∀ z ∈ own.take kk.toNat, MaxI z := fun z m => h4 z (List.mem_of_mem_take m)
      have m3 : ∀ z ∈ own.drop kk.toNat, MaxI z := fun z m => h4 z (List.mem_of_mem_drop m)
      have e1 := sumFrom_eq own 0 (by omega) (by omega) h4
      have e2 := sumFrom_eq own.reverse 0 (by omega) (by omega) m1
      have e3 := sumFrom_eq (own.take kk.toNat) 0 (by omega) (by omega) m2
      have e4 := sumFrom_eq (own.drop kk.toNat) 0 (by omega) (by omega) m3
      rw [total_reverse] at e2
      have et : total (own.take kk.toNat) + total (own.drop kk.toNat) = total own := by rw [← total_append, List.take_append_drop]
      have n3 := total_nonneg m2
      have n4 := total_nonneg m3
      rw [Int.zero_add] at e1 e2 e3 e4
      generalize total (own.take kk.toNat) = t3 at *
      generalize total (own.drop kk.toNat) = t4 at *
      generalize total own = t at *
      refine run_condF rfl (by rw [e1, e2]; simp) ?_
      refine RunC.keepK [10, 11, 12, 13, 14, 15] rfl ?_
      (refine run_skip ?_; refine then_normal ?_; (iterate 2 refine run_seq ?_); refine run_region ?_; (iterate 3 refine xep rfl rfl ?_); (iterate 2 refine xgp rfl rfl rfl ?_); refine xep rfl rfl ?_; refine runL_nil ?_; refine then_normal ?_)
      by_cases hfit : t3 ≤ 9223372036854775807 ∧ t4 ≤ 9223372036854775807
      · rw [if_pos hfit.1] at e3
        rw [if_pos hfit.2] at e4
        refine run_condF rfl (by rw [e3, e4]; rfl) ?_
        have q7 := fun F => sp_plus F t3 t4 (by unfold InI; omega) (by unfold InI; omega)
        rw [e1, e3, e4]
        (refine run_skip ?_; refine then_normal ?_; refine run_seq ?_; refine run_region ?_; (iterate 2 refine xep rfl rfl ?_); refine xel rfl (ev_callQ rfl rfl rfl (pf rfl) (q7 ..)) ?_; (iterate 5 refine xep rfl rfl ?_); refine runL_nil ?_; refine then_normal ?_; refine run_seq ?_; refine run_region ?_; (iterate 4 refine xep rfl rfl ?_); (iterate 3 refine xgp rfl rfl rfl ?_); (iterate 2 refine xep rfl rfl ?_); refine xgl rfl rfl (fun hq => ev_callQ rfl rfl rfl (pf rfl) (q6 ..)) ?_; (iterate 2 refine xep rfl rfl ?_); refine runL_nil ?_; refine then_normal ?_; refine run_ret ?_)
        refine ⟨_, rfl, congrArg Value.bool ?_⟩
        by_cases ho : t ≤ 9223372036854775807
        · have ep : plus t3 t4 = (t, 0) := by unfold plus; rw [if_neg (by omega), if_neg (by omega), et]
          rw [if_pos ho, ep]; simp
        · have ep : plus t3 t4 = (0, 3) := by unfold plus; rw [if_neg (by omega), if_pos (by omega)]
          rw [if_neg ho, ep]; simp
      · have ho : ¬ t ≤ 9223372036854775807 := by omega
        rw [if_neg ho] at e1
        refine run_condT rfl ?_ ?_
        · rw [e3, e4]
          by_cases g3 : t3 ≤ 9223372036854775807
          · rw [if_pos g3, if_neg (by omega)]; rfl
          · rw [if_neg g3]; rfl
        rw [e1]
        (refine run_seq ?_; refine run_region ?_; (iterate 3 refine xep rfl rfl ?_); refine xgl rfl rfl (fun hq => ev_callQ rfl rfl rfl (pf rfl) (q6 ..)) ?_; (iterate 2 refine xep rfl rfl ?_); refine runL_nil ?_; refine then_normal ?_; refine run_ret ?_; refine then_ret ?_)
        refine ⟨_, rfl, congrArg Value.bool ?_⟩
        simp
end Go.Proofs.Ytnpcmcijlgklfaa
