/- Contracts of functions of the given program over its translation, each proved by walking its text; used by the laws' rows. It proves no given statement by itself. -/
import Derived.Test.YtfhpoagnfmgfkaaSLSlcE
import Derived.Test.YtfhpoagnfmgfkaaSLCopy
set_option autoImplicit false
set_option linter.unusedSectionVars false
set_option linter.unusedSimpArgs false
set_option linter.unusedVariables false
namespace Go.Proofs.Ytfhpoagnfmgfkaa
open Go Go.SL Go.Proofs
variable [Base]
/-- A pointer's cell. -/
def pc (b : Nat) : List Value := [.pointer (some ⟨b, 0, none⟩)]
theorem pc_len (b : Nat) : (pc b).length = 1 := rfl
theorem pc_cells (b : Nat) : allCells (pc b) = true := rfl
set_option maxHeartbeats 1000000 in
theorem sp_delLvl (F A : Heap) (a : Option Addr) (k cap : Nat) (cl : List Value) (own : OwnS 81 1 (.slice a k cap) k cl A) (hcl : allCells cl = true) (i j : Nat) (hi : i ≤ j) (hj : j ≤ k) :
    Sp Try.prog F 63 [.slice a k cap, .int .i64 i, .int .i64 j] A (fun v h' => OwnS 81 1 v (k - (j - i)) (cl.take (i * 1) ++ cl.drop (j * 1)) h') := by
  have hkc : k ≤ cap := by
    obtain ⟨_, _, h1, h2⟩ := own.form
    cases h1; exact h2
  refine sp_of_code Try.func63 rfl rfl ?_
  (refine run_seq ?_; refine run_region ?_; refine xep rfl rfl ?_; refine runL_nil ?_; refine then_normal ?_; refine run_seq ?_; refine run_region ?_; (iterate 4 refine xep rfl rfl ?_); refine xel rfl (ev_len rfl rfl (se rfl)) ?_; refine xel rfl (ev_slice3 rfl rfl rfl rfl rfl (se rfl) (by omega) (by omega) (by omega) (by omega)) ?_; refine runL_nil ?_; refine then_normal ?_; (iterate 2 refine run_seq ?_); refine run_region ?_; (iterate 3 refine xep rfl rfl ?_); refine runL_nil ?_; refine then_normal ?_)
  (refine run_cond rfl (fun hc => ?_) (fun hc => ?_) <;> (try simp only [z0, z1, z2, z3, z4, z5, z6, z7, z8, z9, Bool.not_true, Bool.not_false, Bool.false_or, Bool.true_and, true_and, and_true, false_or, or_false, reduceCtorEq, Bool.false_eq_true] at hc))
  · have hij : i = j := by omega
    subst hij
    (refine run_seq ?_; refine run_region ?_; (iterate 2 refine xep rfl rfl ?_); refine runL_nil ?_; refine then_normal ?_; refine run_ret ?_; refine then_ret ?_)
    refine ⟨_, rfl, ?_⟩
    rw [List.take_append_drop, Nat.sub_self, Nat.sub_zero]
    exact own
  · obtain ⟨b, rest, cap', hv, rfl, hl, hr, hk⟩ := own.pos (by omega)
    cases hv
    have e1 : cl ++ rest = cl.take (i * 1) ++ (cl.drop (i * 1) ++ rest) := by rw [← List.append_assoc, List.take_append_drop]
    have l1 : (cl.take (i * 1)).length = i * 1 := by
      rw [List.length_take, hl]; omega
    have l2 : (cl.drop (j * 1)).length = (k - j) * 1 := by
      rw [List.length_drop, hl, Nat.sub_mul]
    (refine run_skip ?_; refine then_normal ?_; refine run_seq ?_; refine run_region ?_; refine xep rfl rfl ?_; refine xel rfl (ev_len rfl rfl (se rfl)) ?_; refine xep rfl rfl ?_; refine runL_nil ?_; refine then_normal ?_; refine run_seq ?_)
    refine run_region_D mo ?_
    (refine runD_q 0 rfl rfl (by kernel_rfl) ?_; refine ⟨_, fun _ => ev_pure rfl, ?_⟩; refine runD_q 1 rfl rfl (by kernel_rfl) ?_; refine ⟨_, fun _ => ev_pure rfl, ?_⟩; refine runD_q 2 rfl rfl (by kernel_rfl) ?_; refine ⟨_, fun _ => ev_sliceHi rfl rfl rfl (se rfl) (by omega) (by omega), ?_⟩; refine runD_q 3 rfl rfl (by kernel_rfl) ?_; refine ⟨_, fun _ => ev_pure rfl, ?_⟩; refine runD_q 4 rfl rfl (by kernel_rfl) ?_; refine ⟨_, fun _ => ev_pure rfl, ?_⟩; refine runD_q 5 rfl rfl (by kernel_rfl) ?_; refine ⟨_, fun _ => ev_sliceLo rfl rfl rfl (se rfl) (by omega) (by omega), ?_⟩; refine runD_1 6 (by kernel_rfl) rfl rfl rfl ?_)
    rw [e1]
    refine runL_appendIn (sl := cl.drop (j * 1)) rfl rfl rfl rfl rfl rfl rfl (se rfl) (se rfl) l1 ?_ ?_ ?_ (allCells_drop hcl _) ?_
    · rw [← e1, List.length_append, hl, l2]; omega
    · omega
    · refine ⟨l2, ?_⟩
      by_cases hjc : cap = j
      · exact .inl (by show k - j = 0; omega)
      · refine .inr ⟨b, 0 + j * 1, _, _, _, cutA_ne hjc, .head _, ?_, ?_⟩
        · rw [← e1, List.length_append, hl]; show 0 + j * 1 + (k - j) * 1 ≤ _; omega
        · rw [← e1, Nat.zero_add, List.drop_append_of_le_length (by rw [hl]; omega)]
          show List.take ((k - j) * 1) _ = _
          rw [← l2, List.take_left]
    generalize hc : cl.take (i * 1) ++ cl.drop (j * 1) ++ (cl.drop (i * 1) ++ rest).drop (cl.drop (j * 1)).length = c
    have lX : (cl.take (i * 1) ++ cl.drop (j * 1)).length = (i + (k - j)) * 1 := by rw [List.length_append, l1, l2, Nat.add_mul]
    have lc : c.length = cap * 1 := by
      rw [← hc, List.length_append, lX, List.length_drop, List.length_append, List.length_drop, hl, l2]; omega
    have tX : c.take ((i + (k - j)) * 1) = cl.take (i * 1) ++ cl.drop (j * 1) := by rw [← hc, ← lX, List.take_left]
    (refine runL_nil ?_; refine endS_d rfl ?_; refine runD_q 7 rfl rfl (by kernel_rfl) ?_; refine ⟨_, fun _ => ev_pure rfl, ?_⟩; refine runD_done (by kernel_rfl) ?_; refine then_normal ?_; refine run_seq ?_; refine run_region ?_; (iterate 2 refine xep rfl rfl ?_); refine xel rfl (ev_len rfl rfl (se rfl)) ?_; refine xep rfl rfl ?_; refine xel rfl (ev_sliceLH rfl rfl rfl rfl (se rfl) (by omega) (by omega) (by omega)) ?_)
    simp only [Int.toNat_natCast]
    rw [cutA_ne (by omega)]
    refine runL_clear rfl rfl rfl rfl (se rfl) ze81 rfl rfl (by rw [lc, Nat.zero_add]; have : (i + (k - j) + (k - (i + (k - j)))) * 1 ≤ cap * 1 := Nat.mul_le_mul_right _ (by omega); rw [Nat.add_mul] at this; exact this) (fun zs hzs => ?_)
    (refine runL_nil ?_; refine then_normal ?_; refine run_seq ?_; refine run_region ?_; (iterate 2 refine xep rfl rfl ?_); refine runL_nil ?_; refine then_normal ?_; refine run_ret ?_)
    refine ⟨_, rfl, .inr ⟨b, zs ++ c.drop (0 + (i + (k - j)) * 1 + (k - (i + (k - j))) * 1), cap, ?_, ?_, ?_, ?_, ?_⟩⟩
    · show Value.slice _ (i + (k - j)) cap = _
      congr 1; omega
    · rw [Nat.zero_add, tX, List.append_assoc]
    · rw [lX]; congr 1; omega
    · rw [List.length_append, hzs, List.length_drop, lc]
      have h1 : (k - (j - i)) = i + (k - j) := by omega
      have h2 : (i + (k - j) + (k - (i + (k - j)))) * 1 ≤ cap * 1 := Nat.mul_le_mul_right _ (by omega)
      rw [Nat.add_mul] at h2
      rw [h1]; omega
    · omega
theorem sp_idxLvl (F : Heap) (a : Option Addr) (k cap : Nat) (l : List Nat) (hl : l.length = k) (hkb : k ≤ 1048576) (hs : SrcIs F a k 1 (rows pc l)) (g : FuncId) (hg : SL.Program.plainFn Try.prog g = true) (caps : List Value) (p : Nat → Bool)
    (hp : ∀ x ∈ l, Sp Try.prog F g (.pointer (some ⟨x, 0, none⟩) :: caps) [] (Ret (.bool (p x)))) :
    Sp Try.prog F 76 [.slice a k cap, .func (.func g) #[] ⟨caps⟩] [] (Ret (.int .i64 (idxI p l))) := by
  refine sp_of_code Try.func76 rfl rfl ?_
  (refine run_seq ?_; refine run_region ?_; refine xep rfl rfl ?_; refine runL_nil ?_; refine then_normal ?_; (iterate 2 refine run_seq ?_); refine run_region ?_; refine xep rfl rfl ?_; refine xel rfl (ev_len rfl rfl (se rfl)) ?_; refine xep rfl rfl ?_; refine runL_nil ?_; refine then_normal ?_; refine run_block ?_)
  refine run_loopK (σ := Nat) [0, 1, 7, 8] (fun i => [(0, .slice a k cap), (1, .func (.func g) #[] ⟨caps⟩), (7, .int .i64 k), (8, .int .i64 i)]) (fun _ => []) (fun i => i ≤ k ∧ ∀ j y, j < i → l[j]? = some y → p y = false) (fun i => k - i) 0 ⟨Nat.zero_le _, fun j y h => absurd h (Nat.not_lt_zero _)⟩ rfl (fun _ => rfl) ?_
  rintro i ⟨g1, g2⟩
  (refine run_seq ?_; refine run_region ?_; refine xep rfl rfl ?_; refine runL_nil ?_; refine then_normal ?_; refine run_seq ?_)
  (refine run_cond rfl (fun hc => ?_) (fun hc => ?_) <;> (try simp only [z0, z1, z2, z3, z4, z5, z6, z7, z8, z9, Bool.not_true, Bool.not_false, Bool.false_or, Bool.true_and, true_and, and_true, false_or, or_false, reduceCtorEq, Bool.false_eq_true] at hc))
  · obtain ⟨b, off, _, _, _, rfl, _⟩ := hs.pos (by omega)
    obtain ⟨x, hx⟩ : ∃ x, l[i]? = some x := ⟨l[i]'(by omega), List.getElem?_eq_getElem _⟩
    have l0 := SrcIs.row pc_len hs hl hx
    have l1 : LoadsF F b (off + i * 1) (.pointer (some ⟨x, 0, none⟩)) := l0.at 0 _ rfl
    clear l0
    (refine run_skip ?_; refine then_normal ?_; refine run_seq ?_; refine run_block ?_; refine run_seq ?_; refine run_region ?_; (iterate 2 refine xep rfl rfl ?_); refine runL_nil ?_; refine then_normal ?_; refine run_seq ?_; refine run_region ?_; (iterate 3 refine xep rfl rfl ?_); refine xel rfl (ev_indexAddr rfl rfl rfl (se rfl) (by omega) (by omega)) ?_; refine xel rfl (ev_loadF rfl rfl (sc rfl) l1) ?_)
    refine runL_ev rfl rfl rfl rfl (ev_call (vs := [.pointer (some ⟨x, 0, none⟩)]) (caps := caps) (v := .bool (p x)) rfl rfl rfl hg (hp x (List.mem_of_getElem? hx))) ?_
    (refine runL_nil ?_; refine then_normal ?_)
    (refine run_cond rfl (fun hc => ?_) (fun hc => ?_) <;> (try simp only [z0, z1, z2, z3, z4, z5, z6, z7, z8, z9, Bool.not_true, Bool.not_false, Bool.false_or, Bool.true_and, true_and, and_true, false_or, or_false, reduceCtorEq, Bool.false_eq_true] at hc))
    · (refine run_seq ?_; refine run_region ?_; (iterate 2 refine xep rfl rfl ?_); refine runL_nil ?_; refine then_normal ?_; refine run_ret ?_; refine in_ret ?_; (iterate 2 refine then_ret ?_); refine in_ret ?_; refine then_ret ?_)
      refine ⟨_, rfl, ?_⟩
      rw [idxI_here hx hc g2]; rfl
    · have hpx := hc
      (refine run_skip ?_; refine in_normal ?_; refine then_normal ?_; refine run_region ?_; refine xel rfl (ev_add rfl rfl rfl (by omega)) ?_; refine xep rfl rfl ?_; refine runL_nil ?_; refine then_normal ?_)
      refine ⟨i + 1, ⟨by omega, fun j y hj hy => ?_⟩, by omega, rfl, [], fun _ => rfl⟩
      by_cases e : j = i
      · subst e; rw [hx] at hy; cases hy; exact hpx
      · exact g2 j y (by omega) hy
  · (refine run_exit ?_; (iterate 2 refine then_exit ?_); refine in_exit ?_; refine then_normal ?_)
    (refine run_seq ?_; refine run_region ?_; refine xep rfl rfl ?_; refine runL_nil ?_; refine then_normal ?_; refine run_ret ?_)
    refine ⟨_, rfl, ?_⟩
    rw [idxI_none fun j y hy => g2 j y (by have := (List.getElem?_eq_some_iff.1 hy).1; omega) hy]; rfl
end Go.Proofs.Ytfhpoagnfmgfkaa
