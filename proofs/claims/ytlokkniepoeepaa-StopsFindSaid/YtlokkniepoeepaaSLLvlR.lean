/- Contracts of functions of the given program over its translation, each proved by walking its text; used by the laws' rows. It proves no given statement by itself. -/
import Derived.Test.YtlokkniepoeepaaSLLvl2
set_option autoImplicit false
set_option linter.unusedSectionVars false
set_option linter.unusedSimpArgs false
set_option linter.unusedVariables false
namespace Go.Proofs.Ytlokkniepoeepaa
open Go Go.SL Go.Proofs
variable [Base]
/-- How much there is ahead of the firm's own order; is there one? -/
def reach (firm : Int) : List Ent → Int × Bool
  | [] => (0, false)
  | x :: l => if x.o.firm = firm then (0, true) else ((reach firm l).1 + x.seen, (reach firm l).2)
def reachR (firm : Int) (es : List Ent) : Int × Bool := if (reach firm es).2 then ((reach firm es).1, true) else (sumE (fun x => x.o.qty) es, false)
theorem reach_take {firm : Int} {es : List Ent} {i : Nat} (h : ∀ (j : Nat) (y : Ent), j < i → es[j]? = some y → y.o.firm ≠ firm) (hi : i ≤ es.length) :
    reach firm es = (sumE (fun x => x.seen) (es.take i) + (reach firm (es.drop i)).1, (reach firm (es.drop i)).2) := by
  induction i generalizing es with
  | zero => simp [sumE]
  | succ i ih =>
    cases es with
    | nil => simp at hi
    | cons x l =>
      have h0 := h 0 x (by omega) rfl
      have := ih (es := l) (fun j y hj hy => h (j + 1) y (by omega) (by simpa using hy)) (by simpa using hi)
      simp only [reach, List.take_succ_cons, List.drop_succ_cons, sumE]
      rw [if_neg h0, this]
      congr 1; omega
set_option maxRecDepth 4000 in
theorem sp_lreach (F : Heap) (b : Nat) (p : Int) (es : List Ent) (hl : LvIn F b p es) (hb : LB es) (firm : Int) :
    Sp Try.prog F 66 [.pointer (some ⟨b, 0, none⟩), .int .i64 firm] [] (Ret (.tuple #[.int .i64 (reachR firm es).1, .bool (reachR firm es).2])) := by
  have q1 := fun G : Heap => sp_lwhole (G ++ F) b p es hl.up hb
  obtain ⟨a, cap, hm, hs⟩ := hl
  obtain ⟨hb1, hb2⟩ := hb
  have l1 : LoadsF F b (0 + 1) (.slice a es.length cap) := ⟨_, _, _, hm, rfl⟩
  refine sp_of_code Try.func66 rfl rfl ?_
  (refine run_seq ?_; refine run_region ?_; (iterate 2 refine xep rfl rfl ?_); refine runL_nil ?_; refine then_normal ?_; refine run_seq ?_; refine run_region ?_; refine xep rfl rfl ?_; refine runL_nil ?_; refine then_normal ?_; (iterate 2 refine run_seq ?_); refine run_region ?_; (iterate 2 refine xep rfl rfl ?_); refine xel rfl (ev_fieldAddr rfl rfl (fo rfl)) ?_; refine xel rfl (ev_loadF rfl rfl (sc rfl) l1) ?_; refine xel rfl (ev_len rfl rfl (se rfl)) ?_; refine xep rfl rfl ?_; refine runL_nil ?_; refine then_normal ?_; refine run_block ?_)
  clear l1
  refine run_loopK (σ := Nat) [0, 1, 12, 13, 14, 6] (fun i => [(0, .pointer (some ⟨b, 0, none⟩)), (1, .int .i64 firm), (12, .slice a es.length cap), (13, .int .i64 es.length), (14, .int .i64 i), (6, .int .i64 (sumE (fun x => x.seen) (es.take i)))]) (fun _ => [])
    (fun i => i ≤ es.length ∧ ∀ (j : Nat) (y : Ent), j < i → es[j]? = some y → y.o.firm ≠ firm) (fun i => es.length - i) 0 ⟨Nat.zero_le _, fun j y h => absurd h (Nat.not_lt_zero _)⟩ rfl (fun _ => rfl) ?_
  rintro i ⟨gi, hn⟩
  have hs1 := sumE_in (g := fun x => x.seen) (l := es.take i) fun x m => by have := hb2 x (List.mem_of_mem_take m); omega
  have hlen : (es.take i).length ≤ 65536 := by rw [List.length_take]; omega
  have hrt := reach_take hn gi
  (refine run_seq ?_; refine run_region ?_; refine xep rfl rfl ?_; refine runL_nil ?_; refine then_normal ?_; refine run_seq ?_)
  (refine run_cond rfl (fun hc => ?_) (fun hc => ?_) <;> (try simp only [z0, z1, z2, z3, z4, z5, z6, z7, z8, z9, Bool.not_true, Bool.not_false, Bool.false_or, Bool.true_and, true_and, and_true, false_or, or_false, reduceCtorEq, Bool.false_eq_true] at hc))
  · obtain ⟨b2, off, _, _, _, rfl, _⟩ := hs.pos (by omega)
    obtain ⟨x, hx⟩ : ∃ x, es[i]? = some x := ⟨es[i]'(by omega), List.getElem?_eq_getElem _⟩
    have l1 := SrcIs.row ec_len hs rfl hx
    have hx2 := hb2 x (List.mem_of_getElem? hx)
    have hst := sumE_take (g := fun x => x.seen) hx
    have hdr : es.drop i = x :: es.drop (i + 1) := by rw [List.drop_eq_getElem_cons (List.getElem?_eq_some_iff.1 hx).1, (List.getElem?_eq_some_iff.1 hx).2]
    (refine run_skip ?_; refine then_normal ?_; refine run_seq ?_; refine run_block ?_; refine run_seq ?_; refine run_region ?_; refine xel rfl (ev_indexAddr rfl rfl rfl (se rfl) (by omega) (by omega)) ?_; refine xel rfl (ev_loadAF rfl rfl (ag rfl) (sz rfl) l1 rfl) ?_; refine runL_alloc rfl rfl rfl rfl rfl ze83 (fun _ => ?_); refine runL_store0 rfl rfl rfl rfl rfl (sz rfl) rfl rfl rfl rfl rfl ?_; refine runL_nil ?_; refine then_normal ?_; (iterate 2 refine run_seq ?_); refine run_region ?_; (iterate 2 refine xel rfl (ev_fieldAddr rfl rfl (fo rfl)) ?_); refine xel rfl (ev_loadK rfl rfl (sc rfl) (memF (.head _)) rfl) ?_; (iterate 2 refine xep rfl rfl ?_); refine runL_nil ?_; refine then_normal ?_)
    (refine run_cond rfl (fun hc => ?_) (fun hc => ?_) <;> (try simp only [z0, z1, z2, z3, z4, z5, z6, z7, z8, z9, Bool.not_true, Bool.not_false, Bool.false_or, Bool.true_and, true_and, and_true, false_or, or_false, reduceCtorEq, Bool.false_eq_true] at hc))
    · (refine run_seq ?_; refine run_region ?_; (iterate 3 refine xep rfl rfl ?_); refine runL_nil ?_; refine then_normal ?_; refine run_ret ?_; refine then_ret ?_; refine in_ret ?_; (iterate 2 refine then_ret ?_); refine in_ret ?_; refine then_ret ?_)
      refine ⟨_, rfl, ?_⟩
      have e : reach firm es = (sumE (fun x => x.seen) (es.take i), true) := by
        rw [hrt, hdr]; simp only [reach]; rw [if_pos hc]; simp
      have e2 : reachR firm es = (sumE (fun x => x.seen) (es.take i), true) := by
        unfold reachR; simp only [e]; rfl
      rw [e2]; rfl
    · have hpx := hc
      (refine run_skip ?_; refine then_normal ?_; refine run_region ?_; refine xep rfl rfl ?_; refine xel rfl (ev_fieldAddr rfl rfl (fo rfl)) ?_; refine xel rfl (ev_loadK rfl rfl (sc rfl) (memF (.head _)) rfl) ?_; refine xel rfl (ev_add rfl rfl rfl (by omega)) ?_; refine xep rfl rfl ?_; refine runL_nil ?_; refine in_normal ?_; refine then_normal ?_; refine run_region ?_; refine xel rfl (ev_add rfl rfl rfl (by omega)) ?_; refine xep rfl rfl ?_; refine runL_nil ?_; refine then_normal ?_)
      refine ⟨i + 1, ⟨by omega, fun j y hj hy => ?_⟩, by omega, ?_, [_], fun _ => rfl⟩
      · by_cases e : j = i
        · subst e; rw [hx] at hy; cases hy; exact hpx
        · exact hn j y (by omega) hy
      · rw [hst]; rfl
  · have : i = es.length := by omega
    subst this
    (refine run_exit ?_; (iterate 2 refine then_exit ?_); refine in_exit ?_; refine then_normal ?_)
    (refine run_seq ?_; refine run_region ?_; refine xep rfl rfl ?_; refine xel rfl (ev_callQ rfl rfl rfl (pf rfl) (q1 ..)) ?_; (iterate 2 refine xep rfl rfl ?_); refine runL_nil ?_; refine then_normal ?_; refine run_ret ?_)
    refine ⟨_, rfl, ?_⟩
    have e : (reach firm es).2 = false := by rw [hrt, List.drop_length]; rfl
    have e2 : reachR firm es = (sumE (fun x => x.o.qty) es, false) := by
      unfold reachR; rw [if_neg (by rw [e]; simp)]
    rw [e2]; rfl
end Go.Proofs.Ytlokkniepoeepaa
