/- Contracts of functions of the given program over its translation, each proved by walking its text; used by the laws' rows. It proves no given statement by itself. -/
import Derived.Test.YtfhpoagnfmgfkaaSLOrdT
import Derived.Test.YtfhpoagnfmgfkaaSLCopy
import Derived.Test.YtfhpoagnfmgfkaaSLMore3
set_option autoImplicit false
set_option linter.unusedSectionVars false
set_option linter.unusedSimpArgs false
set_option linter.unusedVariables false
set_option maxRecDepth 4000
set_option maxHeartbeats 16000000
namespace Go.Proofs.Ytfhpoagnfmgfkaa
open Go Go.SL Go.Proofs
/-- A slice of orders where it lies. -/
def slcV (t : (Option Addr × Nat) × List Ord) : List Value := [.slice t.1.1 t.2.length t.1.2]
theorem slcV_len (t : (Option Addr × Nat) × List Ord) : (slcV t).length = 1 := rfl
def catL : List ((Option Addr × Nat) × List Ord) → List Ord
  | [] => []
  | t :: r => t.2 ++ catL r
theorem catL_take {l : List ((Option Addr × Nat) × List Ord)} {i : Nat} {t : (Option Addr × Nat) × List Ord} (h : l[i]? = some t) : catL (l.take (i + 1)) = catL (l.take i) ++ t.2 := by
  have hi := (List.getElem?_eq_some_iff.1 h).1
  have e := (List.getElem?_eq_some_iff.1 h).2
  rw [List.take_succ_eq_append_getElem hi, e]
  generalize l.take i = m
  induction m with
  | nil => simp [catL]
  | cons x m ih => simp only [List.cons_append, catL, ih, List.append_assoc]
theorem catL_le (l : List ((Option Addr × Nat) × List Ord)) (i : Nat) : (catL (l.take i)).length ≤ (catL l).length := by
  induction l generalizing i with
  | nil => simp
  | cons x l ih =>
    cases i with
    | zero => simp [catL]
    | succ i =>
      have := ih i
      simp only [List.take_succ_cons, catL, List.length_append]; omega
variable [Base]
theorem sp_grow0 (F : Heap) (n : Nat) (hn : n ≤ 65536) : Sp Try.prog F 48 [.slice none 0 0, .int .i64 n] [] (fun v h' => OwnS 24 9 v 0 [] h') := by
  refine sp_of_code Try.func48 rfl rfl ?_
  (refine run_seq ?_; refine run_region ?_; refine xep rfl rfl ?_; refine runL_nil ?_; refine then_normal ?_; (iterate 2 refine run_seq ?_); refine run_region ?_; (iterate 2 refine xep rfl rfl ?_); refine runL_nil ?_; refine then_normal ?_)
  refine run_condF rfl (decide_eq_false (by omega)) ?_
  (refine run_skip ?_; refine then_normal ?_; (iterate 2 refine run_seq ?_); refine run_region ?_; (iterate 2 refine xep rfl rfl ?_); refine xel rfl (ev_cap rfl rfl (se rfl)) ?_; refine xep rfl rfl ?_; refine xel rfl (ev_len rfl rfl (se rfl)) ?_; (iterate 2 refine xel rfl (ev_sub rfl rfl rfl (by omega)) ?_); refine xep rfl rfl ?_; refine runL_nil ?_; refine then_normal ?_; refine run_seq ?_; refine run_region ?_; (iterate 2 refine xep rfl rfl ?_); refine runL_nil ?_; refine then_normal ?_)
  by_cases h0 : n = 0
  · refine run_condF rfl (decide_eq_false (by omega)) ?_
    (refine run_skip ?_; refine then_normal ?_; refine run_seq ?_; refine run_region ?_; (iterate 2 refine xep rfl rfl ?_); refine runL_nil ?_; refine then_normal ?_; refine run_ret ?_)
    exact ⟨_, rfl, .nil _ _⟩
  · refine run_condT rfl (decide_eq_true (by omega)) ?_
    (refine run_region ?_; (iterate 2 refine xep rfl rfl ?_); refine xel rfl (ev_cap rfl rfl (se rfl)) ?_; refine xel rfl (ev_sliceHi rfl rfl rfl (se rfl) (by omega) (by omega)) ?_; refine xep rfl rfl ?_)
    refine runL_appendZ (m := n) (cl := []) rfl rfl rfl rfl rfl rfl rfl (by omega) (se rfl) (kn := .i64) (by kernel_rfl) ze24 rfl rfl (byt rfl) ⟨rfl, .inl rfl⟩ (by omega) (by omega) (by decide) (by decide) (by omega) ?_
    rintro b zs rst cap' hz hcap hlen
    (refine xep rfl rfl ?_; refine xel rfl (ev_len rfl rfl (se rfl)) ?_; refine xel rfl (ev_sliceHi rfl rfl rfl (se rfl) (by omega) (by omega)) ?_; refine xep rfl rfl ?_; refine runL_nil ?_; refine then_normal ?_; refine run_seq ?_; refine run_region ?_; (iterate 2 refine xep rfl rfl ?_); refine runL_nil ?_; refine then_normal ?_; refine run_ret ?_)
    exact ⟨_, rfl, .inr ⟨b, zs ++ rst, cap', rfl, by simp, rfl, by rw [List.length_append]; omega, Nat.zero_le _⟩⟩
theorem sp_concat (F : Heap) (a : Option Addr) (c : Nat) (l : List ((Option Addr × Nat) × List Ord)) (n : Nat) (hn : l.length = n) (hn2 : n ≤ 1000) (hl : (catL l).length ≤ 65536) (h : SrcIs F a n 1 (rows slcV l))
    (hs : ∀ t ∈ l, SrcIs F t.1.1 t.2.length 9 (rows Ord.cells t.2)) :
    Sp Try.prog F 29 [.slice a n c] [] (fun v h' => OwnS 24 9 v (catL l).length (rows Ord.cells (catL l)) h') := by
  refine Sp.up ?_
  refine sp_of_code Try.func29 rfl rfl ?_
  (refine run_seq ?_; refine run_region ?_; refine xep rfl rfl ?_; refine runL_nil ?_; refine then_normal ?_; refine run_seq ?_; refine run_region ?_; refine xep rfl rfl ?_; refine runL_nil ?_; refine then_normal ?_; (iterate 2 refine run_seq ?_); refine run_region ?_; refine xep rfl rfl ?_; refine xel rfl (ev_len rfl rfl (se rfl)) ?_; refine xep rfl rfl ?_; refine runL_nil ?_; refine then_normal ?_; refine run_block ?_)
  refine run_loopK (σ := Nat) [0, 3, 9, 10, 11] (fun i => [(0, .slice a n c), (3, .int .i64 (catL (l.take i)).length), (9, .slice a n c), (10, .int .i64 n), (11, .int .i64 i)]) (fun _ => []) (fun i => i ≤ n) (fun i => n - i) 0 (Nat.zero_le _) rfl (fun _ => rfl) ?_
  intro i gi
  have hle := catL_le l i
  (refine run_seq ?_; refine run_region ?_; refine xep rfl rfl ?_; refine runL_nil ?_; refine then_normal ?_; refine run_seq ?_)
  (refine run_cond rfl (fun hc => ?_) (fun hc => ?_) <;> (try simp only [z0, z1, z2, z3, z4, z5, z6, z7, z8, z9, Bool.not_true, Bool.not_false, Bool.false_or, Bool.true_and, true_and, and_true, false_or, or_false, reduceCtorEq, Bool.false_eq_true] at hc))
  · obtain ⟨b1, off1, _, _, _, rfl, _⟩ := h.pos (by omega)
    obtain ⟨t, ht⟩ : ∃ t, l[i]? = some t := ⟨l[i]'(by omega), List.getElem?_eq_getElem _⟩
    have l1 : LoadsF F b1 (off1 + (i : Int).toNat * 1) (.slice t.1.1 t.2.length t.1.2) := (SrcIs.row slcV_len h hn ht).at 0 _ rfl
    have e := catL_take ht
    have hle2 := catL_le l (i + 1)
    rw [e, List.length_append] at hle2
    (refine run_skip ?_; refine then_normal ?_; refine run_seq ?_; refine run_block ?_; refine run_seq ?_; refine run_region ?_; refine xel rfl (ev_indexAddr rfl rfl rfl (se rfl) (by omega) (by omega)) ?_; refine xel rfl (ev_loadF rfl rfl (sc rfl) l1) ?_; refine xep rfl rfl ?_; refine runL_nil ?_; refine then_normal ?_; refine run_seq ?_; refine run_region ?_; (iterate 2 refine xep rfl rfl ?_); refine xel rfl (ev_len rfl rfl (se rfl)) ?_; refine xel rfl (ev_add rfl rfl rfl (by omega)) ?_; refine xep rfl rfl ?_; refine runL_nil ?_; refine then_normal ?_; refine run_seq ?_; refine run_region ?_; (iterate 2 refine xep rfl rfl ?_); refine runL_nil ?_; refine then_normal ?_)
    refine run_condF rfl (decide_eq_false (by omega)) ?_
    (refine run_skip ?_; refine in_normal ?_; refine then_normal ?_; refine run_region ?_; refine xel rfl (ev_add rfl rfl rfl (by omega)) ?_; refine xep rfl rfl ?_; refine runL_nil ?_; refine then_normal ?_)
    exact ⟨i + 1, by show i + 1 ≤ n; omega, by show n - (i + 1) < n - i; omega, by rw [e, List.length_append, Int.natCast_add]; rfl, [], fun _ => rfl⟩
  · have ei : l.take i = l := List.take_of_length_le (by omega)
    rw [ei]
    (refine run_exit ?_; (iterate 2 refine then_exit ?_); refine in_exit ?_; refine then_normal ?_)
    (refine run_seq ?_; refine run_region ?_; refine xep rfl rfl ?_)
    refine runL_call0 rfl rfl rfl rfl rfl rfl rfl (pf rfl) (sp_grow0 _ (catL l).length hl) ?_
    rintro v A0 own0
    obtain ⟨a0, c0, rfl, own0⟩ := own0.at
    (refine xep rfl rfl ?_; refine runL_nil ?_; refine then_normal ?_; (iterate 2 refine run_seq ?_); refine run_region ?_; refine xep rfl rfl ?_; refine xel rfl (ev_len rfl rfl (se rfl)) ?_; refine xep rfl rfl ?_; refine runL_nil ?_; refine then_normal ?_; refine run_block ?_)
    refine run_loopK (σ := Nat × (Option Addr × Nat × Heap)) [0, 6, 25, 26, 27] (fun s => [(0, .slice a n c), (6, .slice s.2.1 (catL (l.take s.1)).length s.2.2.1), (25, .slice a n c), (26, .int .i64 n), (27, .int .i64 s.1)]) (fun s => s.2.2.2)
      (fun s => s.1 ≤ n ∧ OwnS 24 9 (.slice s.2.1 (catL (l.take s.1)).length s.2.2.1) (catL (l.take s.1)).length (rows Ord.cells (catL (l.take s.1))) s.2.2.2) (fun s => n - s.1) (0, (a0, c0, A0)) ⟨Nat.zero_le _, own0⟩ rfl (fun x => by (first | rfl | (simp only [List.append_eq, cnt_append, cnt_cons, cnt_nil, blk]; omega) | (simp only [List.append_eq, cnt_append, cnt_cons, cnt_nil, blk]; done))) ?_
    rintro ⟨j, ao, co, A⟩ ⟨gj, own⟩
    dsimp only at gj own ⊢
    have hle3 := catL_le l j
    (refine run_seq ?_; refine run_region ?_; refine xep rfl rfl ?_; refine runL_nil ?_; refine then_normal ?_; refine run_seq ?_)
    (refine run_cond rfl (fun hc => ?_) (fun hc => ?_) <;> (try simp only [z0, z1, z2, z3, z4, z5, z6, z7, z8, z9, Bool.not_true, Bool.not_false, Bool.false_or, Bool.true_and, true_and, and_true, false_or, or_false, reduceCtorEq, Bool.false_eq_true] at hc))
    · obtain ⟨b1, off1, _, _, _, rfl, _⟩ := h.pos (by omega)
      obtain ⟨t, ht⟩ : ∃ t, l[j]? = some t := ⟨l[j]'(by omega), List.getElem?_eq_getElem _⟩
      have l1 : LoadsF F b1 (off1 + (j : Int).toNat * 1) (.slice t.1.1 t.2.length t.1.2) := (SrcIs.row slcV_len h hn ht).at 0 _ rfl
      have e := catL_take ht
      have hle2 := catL_le l (j + 1)
      rw [e, List.length_append] at hle2
      (refine run_skip ?_; refine then_normal ?_; refine run_seq ?_; refine run_block ?_; refine run_seq ?_; refine run_region ?_; refine xel rfl (ev_indexAddr rfl rfl rfl (se rfl) (by omega) (by omega)) ?_; refine xel rfl (ev_loadF rfl rfl (sc rfl) l1) ?_; refine xep rfl rfl ?_; refine runL_nil ?_; refine then_normal ?_; refine run_region ?_; (iterate 2 refine xep rfl rfl ?_))
      refine runL_append (sl := rows Ord.cells t.2) [] rfl rfl rfl rfl rfl rfl rfl (se rfl) (se rfl) ze24 rfl (byt rfl) own (fun y => by rw [List.append_nil]) ((hs t (List.mem_of_getElem? ht)).up) (rows_cells (fun _ => rfl) _) (by decide) (by decide) (by omega) ?_
      rintro v' A8 own'
      rw [← rows_append, ← List.length_append, ← e] at own'
      obtain ⟨a8, c8, rfl, own8⟩ := own'.at
      (refine xep rfl rfl ?_; refine runL_nil ?_; refine in_normal ?_; refine then_normal ?_; refine run_region ?_; refine xel rfl (ev_add rfl rfl rfl (by omega)) ?_; refine xep rfl rfl ?_; refine runL_nil ?_; refine then_normal ?_)
      exact ⟨(j + 1, a8, c8, A8), ⟨by show j + 1 ≤ n; omega, own8⟩, by show n - (j + 1) < n - j; omega, rfl, [], fun y => by (first | rfl | (simp only [List.append_eq, cnt_append, cnt_cons, cnt_nil, blk]; omega) | (simp only [List.append_eq, cnt_append, cnt_cons, cnt_nil, blk]; done))⟩
    · have ej : l.take j = l := List.take_of_length_le (by omega)
      rw [ej] at own ⊢
      (refine run_exit ?_; (iterate 2 refine then_exit ?_); refine in_exit ?_; refine then_normal ?_)
      (refine run_seq ?_; refine run_region ?_; (iterate 2 refine xep rfl rfl ?_); refine runL_nil ?_; refine then_normal ?_; refine run_ret ?_)
      exact ⟨_, rfl, A, [], own, fun y => by (first | rfl | (simp only [List.append_eq, cnt_append, cnt_cons, cnt_nil, blk]; omega) | (simp only [List.append_eq, cnt_append, cnt_cons, cnt_nil, blk]; done))⟩
end Go.Proofs.Ytfhpoagnfmgfkaa
