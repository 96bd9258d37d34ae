/- Contracts of functions of the given program over its translation, each proved by walking its text; used by the laws' rows. It proves no given statement by itself. -/
import Derived.Test.YtmelpobcpcmdoaaGreatSLSlcEX
import Derived.Test.YtmelpobcpcmdoaaGreatSLLvl3X
import Derived.Test.YtmelpobcpcmdoaaGreatSLMore3
import Derived.Test.YtmelpobcpcmdoaaGreatSLEq
import Derived.Test.YtmelpobcpcmdoaaGreatSLRLvlX
set_option autoImplicit false
set_option linter.unusedSectionVars false
set_option linter.unusedSimpArgs false
set_option linter.unusedVariables false
namespace Go.Proofs.YtmelpobcpcmdoaaGreat
open Go Go.SL Go.Proofs
variable [Base]
theorem sp_win (F : Heap) (n lo hi : Int) : Sp Tryz.prog F 64 [.int .i64 n, .int .i64 lo, .int .i64 hi] [] (Ret (.bool (decide (lo ≤ n) && decide (n ≤ hi)))) := by
  refine sp_of_code Tryz.func64 rfl rfl ?_
  (refine run_seq ?_; refine run_region ?_; refine xep rfl rfl ?_; refine runL_nil ?_; refine then_normal ?_; refine run_seq ?_; refine run_region ?_; (iterate 4 refine xep rfl rfl ?_); (iterate 3 refine xgp rfl rfl rfl ?_); (iterate 2 refine xep rfl rfl ?_); refine runL_nil ?_; refine then_normal ?_; refine run_ret ?_)
  exact ⟨_, rfl, rfl⟩
theorem sp_better (F : Heap) (s a b : Int) : Sp Tryz.prog F 96 [.int .i64 s, .int .i64 a, .int .i64 b] [] (Ret (.bool (better s a b))) := by
  refine sp_of_code Tryz.func96 rfl rfl ?_
  (refine run_seq ?_; refine run_region ?_; refine xep rfl rfl ?_; refine runL_nil ?_; refine then_normal ?_; (iterate 2 refine run_seq ?_); refine run_region ?_; (iterate 2 refine xep rfl rfl ?_); refine runL_nil ?_; refine then_normal ?_)
  (refine run_cond rfl (fun hc => ?_) (fun hc => ?_) <;> (try simp only [z0, z1, z2, z3, z4, z5, z6, z7, z8, z9, Bool.not_true, Bool.not_false, Bool.false_or, Bool.true_and, true_and, and_true, false_or, or_false, reduceCtorEq, Bool.false_eq_true] at hc))
  · (refine run_seq ?_; refine run_region ?_; (iterate 4 refine xep rfl rfl ?_); refine runL_nil ?_; refine then_normal ?_; refine run_ret ?_; refine then_ret ?_)
    exact ⟨_, rfl, by unfold better; rw [if_pos hc]; rfl⟩
  · (refine run_skip ?_; refine then_normal ?_; refine run_seq ?_; refine run_region ?_; (iterate 4 refine xep rfl rfl ?_); refine runL_nil ?_; refine then_normal ?_; refine run_ret ?_)
    exact ⟨_, rfl, by unfold better; rw [if_neg hc]; rfl⟩
theorem sp_crosses (F : Heap) (o : Ord) (p : Int) : Sp Tryz.prog F 90 [ov o, .int .i64 p] [] (Ret (.bool (crosses o p))) := by
  refine sp_of_code Tryz.func90 rfl rfl ?_
  (refine run_seq ?_; refine run_region ?_; refine runL_box rfl rfl rfl rfl rfl rfl (fun _ => ?_); refine xep rfl rfl ?_; refine runL_nil ?_; refine then_normal ?_; refine run_seq ?_; refine run_block ?_; refine run_seq ?_; refine run_region ?_; refine xel rfl (ev_fieldAddr rfl rfl (fo rfl)) ?_; refine xel rfl (ev_loadK rfl rfl (sc rfl) (memF (.head _)) rfl) ?_; (iterate 2 refine xep rfl rfl ?_); refine runL_nil ?_; refine then_normal ?_)
  (refine run_cond rfl (fun hc => ?_) (fun hc => ?_) <;> (try simp only [z0, z1, z2, z3, z4, z5, z6, z7, z8, z9, Bool.not_true, Bool.not_false, Bool.false_or, Bool.true_and, true_and, and_true, false_or, or_false, reduceCtorEq, Bool.false_eq_true] at hc))
  · (refine run_seq ?_; refine run_region ?_; refine xep rfl rfl ?_; refine runL_nil ?_; refine then_normal ?_; refine run_ret ?_; refine in_ret ?_; refine then_ret ?_)
    exact ⟨_, rfl, by unfold crosses; rw [if_pos hc]; rfl⟩
  · have hc1 := hc
    (refine run_seq ?_; refine run_region ?_; refine xel rfl (ev_fieldAddr rfl rfl (fo rfl)) ?_; refine xel rfl (ev_loadK rfl rfl (sc rfl) (memF (.head _)) rfl) ?_; (iterate 2 refine xep rfl rfl ?_); refine runL_nil ?_; refine then_normal ?_)
    (refine run_cond rfl (fun hc => ?_) (fun hc => ?_) <;> (try simp only [z0, z1, z2, z3, z4, z5, z6, z7, z8, z9, Bool.not_true, Bool.not_false, Bool.false_or, Bool.true_and, true_and, and_true, false_or, or_false, reduceCtorEq, Bool.false_eq_true] at hc))
    · (refine run_seq ?_; refine run_region ?_; refine xel rfl (ev_fieldAddr rfl rfl (fo rfl)) ?_; refine xel rfl (ev_loadK rfl rfl (sc rfl) (memF (.head _)) rfl) ?_; (iterate 3 refine xep rfl rfl ?_); refine runL_nil ?_; refine then_normal ?_; refine run_ret ?_; refine in_ret ?_; refine then_ret ?_)
      exact ⟨_, rfl, by unfold crosses; rw [if_neg hc1, if_pos hc]; rfl⟩
    · (refine run_skip ?_; refine in_normal ?_; refine then_normal ?_; refine run_seq ?_; refine run_region ?_; refine xel rfl (ev_fieldAddr rfl rfl (fo rfl)) ?_; refine xel rfl (ev_loadK rfl rfl (sc rfl) (memF (.head _)) rfl) ?_; (iterate 3 refine xep rfl rfl ?_); refine runL_nil ?_; refine then_normal ?_; refine run_ret ?_)
      exact ⟨_, rfl, by unfold crosses; rw [if_neg hc1, if_neg hc]; rfl⟩
set_option maxHeartbeats 1000000 in
theorem sp_right (F : Heap) (o : Ord) (h1 : InI o.kind) : Sp Tryz.prog F 37 [ov o] [] (Ret (.int .i64 (right o))) := by
  have q1 := @sp_win
  refine sp_of_code Tryz.func37 rfl rfl ?_
  (refine run_seq ?_; refine run_region ?_; refine runL_box rfl rfl rfl rfl rfl rfl (fun _ => ?_); refine xep rfl rfl ?_; refine runL_nil ?_; refine then_normal ?_; refine run_seq ?_; refine run_region ?_; refine xel rfl (ev_fieldAddr rfl rfl (fo rfl)) ?_; refine xel rfl (ev_loadK rfl rfl (sc rfl) (memF (.head _)) rfl) ?_; refine xel rfl (ev_callQ rfl rfl rfl (pf rfl) (q1 ..)) ?_; refine xep rfl rfl ?_; refine runL_nil ?_; refine then_normal ?_; (iterate 2 refine run_seq ?_); refine run_region ?_; refine xel rfl (ev_fieldAddr rfl rfl (fo rfl)) ?_; refine xel rfl (ev_loadK rfl rfl (sc rfl) (memF (.head _)) rfl) ?_; refine xep rfl rfl ?_; refine runL_nil ?_; refine then_normal ?_)
  (refine run_cond rfl (fun hc => ?_) (fun hc => ?_) <;> (try simp only [z0, z1, z2, z3, z4, z5, z6, z7, z8, z9, Bool.not_true, Bool.not_false, Bool.false_or, Bool.true_and, true_and, and_true, false_or, or_false, reduceCtorEq, Bool.false_eq_true] at hc))
  · have hk := hc
    (refine run_region ?_; refine xel rfl (ev_fieldAddr rfl rfl (fo rfl)) ?_; refine xel rfl (ev_loadK rfl rfl (sc rfl) (memF (.head _)) rfl) ?_; (iterate 2 refine xep rfl rfl ?_); refine runL_nil ?_; refine then_normal ?_; refine run_seq ?_; refine run_region ?_; refine xel rfl (ev_fieldAddr rfl rfl (fo rfl)) ?_; refine xel rfl (ev_loadK rfl rfl (sc rfl) (memF (.head _)) rfl) ?_; (iterate 2 refine xep rfl rfl ?_); refine xgl rfl rfl (fun hq => ev_fieldAddr rfl rfl (fo rfl)) ?_; refine xgl rfl rfl (fun hq => ev_loadK rfl rfl (sc rfl) (memF (.head _)) rfl) ?_; refine xgp rfl rfl rfl ?_; (iterate 2 refine xep rfl rfl ?_); refine xgl rfl rfl (fun hq => ev_fieldAddr rfl rfl (fo rfl)) ?_; refine xgl rfl rfl (fun hq => ev_loadK rfl rfl (sc rfl) (memF (.head _)) rfl) ?_; refine xgp rfl rfl rfl ?_; (iterate 2 refine xep rfl rfl ?_); refine runL_nil ?_; refine then_normal ?_; refine run_seq ?_; refine run_region ?_; refine xel rfl (ev_fieldAddr rfl rfl (fo rfl)) ?_; refine xel rfl (ev_loadK rfl rfl (sc rfl) (memF (.head _)) rfl) ?_; refine xel rfl (ev_callQ rfl rfl rfl (pf rfl) (q1 ..)) ?_; refine xep rfl rfl ?_; refine xgl rfl rfl (fun hq => ev_fieldAddr rfl rfl (fo rfl)) ?_; refine xgl rfl rfl (fun hq => ev_loadK rfl rfl (sc rfl) (memF (.head _)) rfl) ?_; refine xgl rfl rfl (fun hq => ev_callQ rfl rfl rfl (pf rfl) (q1 ..)) ?_; (iterate 2 refine xep rfl rfl ?_); refine xgl rfl rfl (fun hq => ev_fieldAddr rfl rfl (fo rfl)) ?_; refine xgl rfl rfl (fun hq => ev_loadK rfl rfl (sc rfl) (memF (.head _)) rfl) ?_; refine xgl rfl rfl (fun hq => ev_callQ rfl rfl rfl (pf rfl) (q1 ..)) ?_; (iterate 2 refine xep rfl rfl ?_); refine runL_nil ?_; refine then_normal ?_; refine run_seq ?_; refine run_region ?_; refine xel rfl (ev_fieldAddr rfl rfl (fo rfl)) ?_; refine xel rfl (ev_loadK rfl rfl (sc rfl) (memF (.head _)) rfl) ?_; refine xel rfl (ev_callQ rfl rfl rfl (pf rfl) (q1 ..)) ?_; refine xep rfl rfl ?_; refine xgl rfl rfl (fun hq => ev_fieldAddr rfl rfl (fo rfl)) ?_; refine xgl rfl rfl (fun hq => ev_loadK rfl rfl (sc rfl) (memF (.head _)) rfl) ?_; refine xgl rfl rfl (fun hq => ev_callQ rfl rfl rfl (pf rfl) (q1 ..)) ?_; (iterate 2 refine xep rfl rfl ?_); refine xgl rfl rfl (fun hq => ev_fieldAddr rfl rfl (fo rfl)) ?_; refine xgl rfl rfl (fun hq => ev_loadK rfl rfl (sc rfl) (memF (.head _)) rfl) ?_; refine xgl rfl rfl (fun hq => ev_callQ rfl rfl rfl (pf rfl) (q1 ..)) ?_; (iterate 2 refine xep rfl rfl ?_); refine runL_nil ?_; refine then_normal ?_; (iterate 2 refine run_seq ?_); refine run_region ?_; (iterate 3 refine xep rfl rfl ?_); (iterate 2 refine xgp rfl rfl rfl ?_); (iterate 2 refine xep rfl rfl ?_); (iterate 2 refine xgp rfl rfl rfl ?_); (iterate 2 refine xep rfl rfl ?_); (iterate 2 refine xgp rfl rfl rfl ?_); (iterate 2 refine xep rfl rfl ?_); refine xgl rfl rfl (fun hq => ev_fieldAddr rfl rfl (fo rfl)) ?_; refine xgl rfl rfl (fun hq => ev_loadK rfl rfl (sc rfl) (memF (.head _)) rfl) ?_; refine xgl rfl rfl (fun hq => ev_fieldAddr rfl rfl (fo rfl)) ?_; refine xgl rfl rfl (fun hq => ev_loadK rfl rfl (sc rfl) (memF (.head _)) rfl) ?_; refine xgl rfl rfl (fun hq => ev_callQ rfl rfl rfl (pf rfl) (q1 ..)) ?_; refine xgp rfl rfl rfl ?_; (iterate 2 refine xep rfl rfl ?_); refine xgl rfl rfl (fun hq => ev_fieldAddr rfl rfl (fo rfl)) ?_; refine xgl rfl rfl (fun hq => ev_loadK rfl rfl (sc rfl) (memF (.head _)) rfl) ?_; refine xgl rfl rfl (fun hq => ev_callQ rfl rfl rfl (pf rfl) (q1 ..)) ?_; refine xgp rfl rfl rfl ?_; refine xep rfl rfl ?_; refine runL_nil ?_; refine then_normal ?_)
    (refine run_cond rfl (fun hc => ?_) (fun hc => ?_) <;> (try simp only [z0, z1, z2, z3, z4, z5, z6, z7, z8, z9, Bool.not_true, Bool.not_false, Bool.false_or, Bool.true_and, true_and, and_true, false_or, or_false, reduceCtorEq, Bool.false_eq_true] at hc))
    · (refine run_seq ?_; refine run_region ?_; refine xep rfl rfl ?_; refine runL_nil ?_; refine then_normal ?_; refine run_ret ?_; refine then_ret ?_)
      exact ⟨_, rfl, by unfold right; rw [if_neg (by intro h; unfold rightP at h; omega)]; rfl⟩
    · (refine run_skip ?_; refine then_normal ?_; refine run_seq ?_; refine run_region ?_; refine xep rfl rfl ?_; refine runL_nil ?_; refine then_normal ?_; refine run_ret ?_)
      exact ⟨_, rfl, by unfold right; rw [if_pos (by unfold rightP; omega)]; rfl⟩
  · have hk := hc
    (refine run_skip ?_; refine then_normal ?_; refine run_seq ?_; refine run_region ?_; refine xel rfl (ev_fieldAddr rfl rfl (fo rfl)) ?_; refine xel rfl (ev_loadK rfl rfl (sc rfl) (memF (.head _)) rfl) ?_; (iterate 2 refine xep rfl rfl ?_); refine xgl rfl rfl (fun hq => ev_fieldAddr rfl rfl (fo rfl)) ?_; refine xgl rfl rfl (fun hq => ev_loadK rfl rfl (sc rfl) (memF (.head _)) rfl) ?_; refine xgp rfl rfl rfl ?_; (iterate 2 refine xep rfl rfl ?_); refine xgl rfl rfl (fun hq => ev_fieldAddr rfl rfl (fo rfl)) ?_; refine xgl rfl rfl (fun hq => ev_loadK rfl rfl (sc rfl) (memF (.head _)) rfl) ?_; refine xgp rfl rfl rfl ?_; (iterate 2 refine xep rfl rfl ?_); refine runL_nil ?_; refine then_normal ?_; refine run_seq ?_; refine run_region ?_; refine xel rfl (ev_fieldAddr rfl rfl (fo rfl)) ?_; refine xel rfl (ev_loadK rfl rfl (sc rfl) (memF (.head _)) rfl) ?_; refine xel rfl (ev_callQ rfl rfl rfl (pf rfl) (q1 ..)) ?_; refine xep rfl rfl ?_; refine xgl rfl rfl (fun hq => ev_fieldAddr rfl rfl (fo rfl)) ?_; refine xgl rfl rfl (fun hq => ev_loadK rfl rfl (sc rfl) (memF (.head _)) rfl) ?_; refine xgl rfl rfl (fun hq => ev_callQ rfl rfl rfl (pf rfl) (q1 ..)) ?_; (iterate 2 refine xep rfl rfl ?_); refine xgl rfl rfl (fun hq => ev_fieldAddr rfl rfl (fo rfl)) ?_; refine xgl rfl rfl (fun hq => ev_loadK rfl rfl (sc rfl) (memF (.head _)) rfl) ?_; refine xgl rfl rfl (fun hq => ev_callQ rfl rfl rfl (pf rfl) (q1 ..)) ?_; (iterate 2 refine xep rfl rfl ?_); refine runL_nil ?_; refine then_normal ?_; refine run_seq ?_; refine run_region ?_; refine xel rfl (ev_fieldAddr rfl rfl (fo rfl)) ?_; refine xel rfl (ev_loadK rfl rfl (sc rfl) (memF (.head _)) rfl) ?_; refine xel rfl (ev_callQ rfl rfl rfl (pf rfl) (q1 ..)) ?_; refine xep rfl rfl ?_; refine xgl rfl rfl (fun hq => ev_fieldAddr rfl rfl (fo rfl)) ?_; refine xgl rfl rfl (fun hq => ev_loadK rfl rfl (sc rfl) (memF (.head _)) rfl) ?_; refine xgl rfl rfl (fun hq => ev_callQ rfl rfl rfl (pf rfl) (q1 ..)) ?_; (iterate 2 refine xep rfl rfl ?_); refine xgl rfl rfl (fun hq => ev_fieldAddr rfl rfl (fo rfl)) ?_; refine xgl rfl rfl (fun hq => ev_loadK rfl rfl (sc rfl) (memF (.head _)) rfl) ?_; refine xgl rfl rfl (fun hq => ev_callQ rfl rfl rfl (pf rfl) (q1 ..)) ?_; (iterate 2 refine xep rfl rfl ?_); refine runL_nil ?_; refine then_normal ?_; (iterate 2 refine run_seq ?_); refine run_region ?_; (iterate 3 refine xep rfl rfl ?_); (iterate 2 refine xgp rfl rfl rfl ?_); (iterate 2 refine xep rfl rfl ?_); (iterate 2 refine xgp rfl rfl rfl ?_); (iterate 2 refine xep rfl rfl ?_); (iterate 2 refine xgp rfl rfl rfl ?_); (iterate 2 refine xep rfl rfl ?_); refine xgl rfl rfl (fun hq => ev_fieldAddr rfl rfl (fo rfl)) ?_; refine xgl rfl rfl (fun hq => ev_loadK rfl rfl (sc rfl) (memF (.head _)) rfl) ?_; refine xgl rfl rfl (fun hq => ev_fieldAddr rfl rfl (fo rfl)) ?_; refine xgl rfl rfl (fun hq => ev_loadK rfl rfl (sc rfl) (memF (.head _)) rfl) ?_; refine xgl rfl rfl (fun hq => ev_callQ rfl rfl rfl (pf rfl) (q1 ..)) ?_; refine xgp rfl rfl rfl ?_; (iterate 2 refine xep rfl rfl ?_); refine xgl rfl rfl (fun hq => ev_fieldAddr rfl rfl (fo rfl)) ?_; refine xgl rfl rfl (fun hq => ev_loadK rfl rfl (sc rfl) (memF (.head _)) rfl) ?_; refine xgl rfl rfl (fun hq => ev_callQ rfl rfl rfl (pf rfl) (q1 ..)) ?_; refine xgp rfl rfl rfl ?_; refine xep rfl rfl ?_; refine runL_nil ?_; refine then_normal ?_)
    (refine run_cond rfl (fun hc => ?_) (fun hc => ?_) <;> (try simp only [z0, z1, z2, z3, z4, z5, z6, z7, z8, z9, Bool.not_true, Bool.not_false, Bool.false_or, Bool.true_and, true_and, and_true, false_or, or_false, reduceCtorEq, Bool.false_eq_true] at hc))
    · (refine run_seq ?_; refine run_region ?_; refine xep rfl rfl ?_; refine runL_nil ?_; refine then_normal ?_; refine run_ret ?_; refine then_ret ?_)
      exact ⟨_, rfl, by unfold right; rw [if_neg (by intro h; unfold rightP at h; omega)]; rfl⟩
    · (refine run_skip ?_; refine then_normal ?_; refine run_seq ?_; refine run_region ?_; refine xep rfl rfl ?_; refine runL_nil ?_; refine then_normal ?_; refine run_ret ?_)
      exact ⟨_, rfl, by unfold right; rw [if_pos (by unfold rightP; omega)]; rfl⟩
end Go.Proofs.YtmelpobcpcmdoaaGreat

set_option autoImplicit false
set_option linter.unusedSectionVars false
set_option linter.unusedSimpArgs false
set_option linter.unusedVariables false
set_option maxRecDepth 4000
namespace Go.Proofs.YtmelpobcpcmdoaaGreat
open Go Go.SL Go.Proofs
variable [Base]
def key (x : Ent) : Int × Int := (x.o.trader, x.o.id)
/-- All but one. -/
def cutE (k : Nat) (es : List Ent) : List Ent := es.take k ++ es.drop (k + 1)
theorem split_at {α : Type} {es : List α} {k : Nat} {x : α} (hx : es[k]? = some x) : es = es.take k ++ x :: es.drop (k + 1) := by
  have hi := (List.getElem?_eq_some_iff.1 hx).1
  have h2 := (List.getElem?_eq_some_iff.1 hx).2
  rw [← h2, ← List.drop_eq_getElem_cons hi, List.take_append_drop]
theorem cutE_len {es : List Ent} {k : Nat} (hk : k < es.length) : (cutE k es).length = es.length - 1 := by
  unfold cutE
  rw [List.length_append, List.length_take, List.length_drop]; omega
end Go.Proofs.YtmelpobcpcmdoaaGreat

set_option autoImplicit false
set_option linter.unusedSectionVars false
set_option linter.unusedSimpArgs false
set_option linter.unusedVariables false
namespace Go.Proofs.YtmelpobcpcmdoaaGreat
open Go Go.SL Go.Proofs
variable [Base]
/-- How much there is ahead of the firm's own order; is there one? -/
def reach (firm : Int) : List Ent → Int × Bool
  | [] => (0, false)
  | x :: l => if x.o.firm = firm then (0, true) else ((reach firm l).1 + x.seen, (reach firm l).2)
def reachR (firm : Int) (es : List Ent) : Int × Bool := if (reach firm es).2 then ((reach firm es).1, true) else (sumE (fun x => x.o.qty) es, false)
theorem reach_take {firm : Int} {es : List Ent} {i : Nat} (h : ∀ (j : Nat) (y : Ent), j < i → es[j]? = some y → y.o.firm ≠ firm) (hi : i ≤ es.length) :
    reach firm es = (sumE (fun x => x.seen) (es.take i) + (reach firm (es.drop i)).1, (reach firm (es.drop i)).2) := by
  induction i generalizing es with
  | zero => simp [sumE]
  | succ i ih =>
    cases es with
    | nil => simp at hi
    | cons x l =>
      have h0 := h 0 x (by omega) rfl
      have := ih (es := l) (fun j y hj hy => h (j + 1) y (by omega) (by simpa using hy)) (by simpa using hi)
      simp only [reach, List.take_succ_cons, List.drop_succ_cons, sumE]
      rw [if_neg h0, this]
      congr 1; omega
set_option maxRecDepth 4000 in
theorem sp_lreach (F : Heap) (b : Nat) (p : Int) (es : List Ent) (hl : LvIn F b p es) (hb : LB es) (firm : Int) :
    Sp Tryz.prog F 105 [.pointer (some ⟨b, 0, none⟩), .int .i64 firm] [] (Ret (.tuple #[.int .i64 (reachR firm es).1, .bool (reachR firm es).2])) := by
  have q1 := fun G : Heap => sp_lwhole (G ++ F) b p es hl.up hb
  obtain ⟨a, cap, hm, hs⟩ := hl
  obtain ⟨hb1, hb2⟩ := hb
  have l1 : LoadsF F b (0 + 1) (.slice a es.length cap) := ⟨_, _, _, hm, rfl⟩
  refine sp_of_code Tryz.func105 rfl rfl ?_
  (refine run_seq ?_; refine run_region ?_; (iterate 2 refine xep rfl rfl ?_); refine runL_nil ?_; refine then_normal ?_; refine run_seq ?_; refine run_region ?_; refine xep rfl rfl ?_; refine runL_nil ?_; refine then_normal ?_; (iterate 2 refine run_seq ?_); refine run_region ?_; (iterate 2 refine xep rfl rfl ?_); refine xel rfl (ev_fieldAddr rfl rfl (fo rfl)) ?_; refine xel rfl (ev_loadF rfl rfl (sc rfl) l1) ?_; refine xel rfl (ev_len rfl rfl (se rfl)) ?_; refine xep rfl rfl ?_; refine runL_nil ?_; refine then_normal ?_; refine run_block ?_)
  clear l1
  refine run_loopK (σ := Nat) [0, 1, 12, 13, 14, 6] (fun i => [(0, .pointer (some ⟨b, 0, none⟩)), (1, .int .i64 firm), (12, .slice a es.length cap), (13, .int .i64 es.length), (14, .int .i64 i), (6, .int .i64 (sumE (fun x => x.seen) (es.take i)))]) (fun _ => [])
    (fun i => i ≤ es.length ∧ ∀ (j : Nat) (y : Ent), j < i → es[j]? = some y → y.o.firm ≠ firm) (fun i => es.length - i) 0 ⟨Nat.zero_le _, fun j y h => absurd h (Nat.not_lt_zero _)⟩ rfl (fun _ => rfl) ?_
  rintro i ⟨gi, hn⟩
  have hs1 := sumE_in (g := fun x => x.seen) (l := es.take i) fun x m => by have := hb2 x (List.mem_of_mem_take m); omega
  have hlen : (es.take i).length ≤ 65536 := by rw [List.length_take]; omega
  have hrt := reach_take hn gi
  (refine run_seq ?_; refine run_region ?_; refine xep rfl rfl ?_; refine runL_nil ?_; refine then_normal ?_; refine run_seq ?_)
  (refine run_cond rfl (fun hc => ?_) (fun hc => ?_) <;> (try simp only [z0, z1, z2, z3, z4, z5, z6, z7, z8, z9, Bool.not_true, Bool.not_false, Bool.false_or, Bool.true_and, true_and, and_true, false_or, or_false, reduceCtorEq, Bool.false_eq_true] at hc))
  · obtain ⟨b2, off, _, _, _, rfl, _⟩ := hs.pos (by omega)
    obtain ⟨x, hx⟩ : ∃ x, es[i]? = some x := ⟨es[i]'(by omega), List.getElem?_eq_getElem _⟩
    have l1 := SrcIs.row ec_len hs rfl hx
    have hx2 := hb2 x (List.mem_of_getElem? hx)
    have hst := sumE_take (g := fun x => x.seen) hx
    have hdr : es.drop i = x :: es.drop (i + 1) := by rw [List.drop_eq_getElem_cons (List.getElem?_eq_some_iff.1 hx).1, (List.getElem?_eq_some_iff.1 hx).2]
    (refine run_skip ?_; refine then_normal ?_; refine run_seq ?_; refine run_block ?_; refine run_seq ?_; refine run_region ?_; refine xel rfl (ev_indexAddr rfl rfl rfl (se rfl) (by omega) (by omega)) ?_; refine xel rfl (ev_loadAF rfl rfl (ag rfl) (sz rfl) l1 rfl) ?_; refine runL_alloc rfl rfl rfl rfl rfl ze84 (fun _ => ?_); refine runL_store0 rfl rfl rfl rfl rfl (sz rfl) rfl rfl rfl rfl rfl ?_; refine runL_nil ?_; refine then_normal ?_; (iterate 2 refine run_seq ?_); refine run_region ?_; (iterate 2 refine xel rfl (ev_fieldAddr rfl rfl (fo rfl)) ?_); refine xel rfl (ev_loadK rfl rfl (sc rfl) (memF (.head _)) rfl) ?_; (iterate 2 refine xep rfl rfl ?_); refine runL_nil ?_; refine then_normal ?_)
    (refine run_cond rfl (fun hc => ?_) (fun hc => ?_) <;> (try simp only [z0, z1, z2, z3, z4, z5, z6, z7, z8, z9, Bool.not_true, Bool.not_false, Bool.false_or, Bool.true_and, true_and, and_true, false_or, or_false, reduceCtorEq, Bool.false_eq_true] at hc))
    · (refine run_seq ?_; refine run_region ?_; (iterate 3 refine xep rfl rfl ?_); refine runL_nil ?_; refine then_normal ?_; refine run_ret ?_; refine then_ret ?_; refine in_ret ?_; (iterate 2 refine then_ret ?_); refine in_ret ?_; refine then_ret ?_)
      refine ⟨_, rfl, ?_⟩
      have e : reach firm es = (sumE (fun x => x.seen) (es.take i), true) := by
        rw [hrt, hdr]; simp only [reach]; rw [if_pos hc]; simp
      have e2 : reachR firm es = (sumE (fun x => x.seen) (es.take i), true) := by
        unfold reachR; simp only [e]; rfl
      rw [e2]; rfl
    · have hpx := hc
      (refine run_skip ?_; refine then_normal ?_; refine run_region ?_; refine xep rfl rfl ?_; refine xel rfl (ev_fieldAddr rfl rfl (fo rfl)) ?_; refine xel rfl (ev_loadK rfl rfl (sc rfl) (memF (.head _)) rfl) ?_; refine xel rfl (ev_add rfl rfl rfl (by omega)) ?_; refine xep rfl rfl ?_; refine runL_nil ?_; refine in_normal ?_; refine then_normal ?_; refine run_region ?_; refine xel rfl (ev_add rfl rfl rfl (by omega)) ?_; refine xep rfl rfl ?_; refine runL_nil ?_; refine then_normal ?_)
      refine ⟨i + 1, ⟨by omega, fun j y hj hy => ?_⟩, by omega, ?_, [_], fun _ => rfl⟩
      · by_cases e : j = i
        · subst e; rw [hx] at hy; cases hy; exact hpx
        · exact hn j y (by omega) hy
      · rw [hst]; rfl
  · have : i = es.length := by omega
    subst this
    (refine run_exit ?_; (iterate 2 refine then_exit ?_); refine in_exit ?_; refine then_normal ?_)
    (refine run_seq ?_; refine run_region ?_; refine xep rfl rfl ?_; refine xel rfl (ev_callQ rfl rfl rfl (pf rfl) (q1 ..)) ?_; (iterate 2 refine xep rfl rfl ?_); refine runL_nil ?_; refine then_normal ?_; refine run_ret ?_)
    refine ⟨_, rfl, ?_⟩
    have e : (reach firm es).2 = false := by rw [hrt, List.drop_length]; rfl
    have e2 : reachR firm es = (sumE (fun x => x.o.qty) es, false) := by
      unfold reachR; rw [if_neg (by rw [e]; simp)]
    rw [e2]; rfl
end Go.Proofs.YtmelpobcpcmdoaaGreat

set_option autoImplicit false
set_option linter.unusedSectionVars false
set_option linter.unusedSimpArgs false
set_option linter.unusedVariables false
namespace Go.Proofs.YtmelpobcpcmdoaaGreat
open Go Go.SL Go.Proofs
theorem ctOrd : CmpOk Tryz.prog 35 9 := ⟨by kernel_rfl, by kernel_rfl, by kernel_rfl, by kernel_rfl⟩
theorem tyOrd (o : Ord) : tyQ Tryz.prog 4 35 o.cells = true := by kernel_rfl
theorem eqOrd (o : Ord) : eqK o.cells o.cells = some true := by simp [Ord.cells, eqK, kNum]
variable [Base]
set_option maxRecDepth 4000 in
theorem sp_sameOrd (F : Heap) (a1 a2 : Option Addr) (k c1 c2 : Nat) (l : List Ord) (hl : l.length = k) (hk : k ≤ 2097152) (h1 : SrcIs F a1 k 9 (rows Ord.cells l)) (h2 : SrcIs F a2 k 9 (rows Ord.cells l)) :
    Sp Tryz.prog F 12 [.slice a1 k c1, .slice a2 k c2] [] (Ret (.bool true)) := by
  refine sp_of_code Tryz.func12 rfl rfl ?_
  (refine run_seq ?_; refine run_region ?_; refine xep rfl rfl ?_; refine runL_nil ?_; refine then_normal ?_; (iterate 2 refine run_seq ?_); refine run_region ?_; refine xep rfl rfl ?_; refine xel rfl (ev_len rfl rfl (se rfl)) ?_; refine xep rfl rfl ?_; refine xel rfl (ev_len rfl rfl (se rfl)) ?_; refine xep rfl rfl ?_; refine runL_nil ?_; refine then_normal ?_)
  refine run_condF rfl (by simp) ?_
  (refine run_skip ?_; refine then_normal ?_; (iterate 2 refine run_seq ?_); refine run_region ?_; refine xep rfl rfl ?_; refine runL_nil ?_; refine then_normal ?_; refine run_block ?_)
  refine run_loopK (σ := Nat) [0, 1, 5] (fun i => [(0, .slice a1 k c1), (1, .slice a2 k c2), (5, .int .i64 i)]) (fun _ => []) (fun i => i ≤ k) (fun i => k - i) 0 (Nat.zero_le _) rfl (fun _ => rfl) ?_
  intro i gi
  ((iterate 2 refine run_seq ?_); refine run_region ?_; (iterate 2 refine xep rfl rfl ?_); refine xel rfl (ev_len rfl rfl (se rfl)) ?_; refine xep rfl rfl ?_; refine runL_nil ?_; refine then_normal ?_)
  (refine run_cond rfl (fun hc => ?_) (fun hc => ?_) <;> (try simp only [z0, z1, z2, z3, z4, z5, z6, z7, z8, z9, Bool.not_true, Bool.not_false, Bool.false_or, Bool.true_and, true_and, and_true, false_or, or_false, reduceCtorEq, Bool.false_eq_true] at hc))
  · obtain ⟨b1, o1, _, _, _, rfl, _⟩ := h1.pos (by omega)
    obtain ⟨b2, o2, _, _, _, rfl, _⟩ := h2.pos (by omega)
    obtain ⟨x, hx⟩ : ∃ x, l[i]? = some x := ⟨l[i]'(by omega), List.getElem?_eq_getElem _⟩
    have l1 := SrcIs.row oc_len h1 hl hx
    have l2 := SrcIs.row oc_len h2 hl hx
    have k1 := ctOrd
    have k2 := tyOrd x
    have k3 := eqOrd x
    (refine run_skip ?_; refine then_normal ?_; refine run_seq ?_; refine run_block ?_; refine run_seq ?_; refine run_region_draw mo (by kernel_rfl) ?_; (iterate 2 refine xqp rfl rfl ?_); refine xql rfl (ev_indexAddr rfl rfl rfl (se rfl) (by omega) (by omega)) ?_; refine xql rfl (ev_loadAF rfl rfl (ag rfl) (sz rfl) l1 rfl) ?_; (iterate 2 refine xqp rfl rfl ?_); refine xql rfl (ev_indexAddr rfl rfl rfl (se rfl) (by omega) (by omega)) ?_; refine xql rfl (ev_loadAF rfl rfl (ag rfl) (sz rfl) l2 rfl) ?_; refine xql rfl (ev_neqQ rfl rfl rfl k1 rfl k2 k3) ?_; refine runQ_nil ?_; refine then_normal ?_)
    refine run_condF rfl rfl ?_
    (refine run_skip ?_; refine in_normal ?_; refine then_normal ?_; refine run_region ?_; refine xep rfl rfl ?_; refine xel rfl (ev_add rfl rfl rfl (by omega)) ?_; refine xep rfl rfl ?_; refine runL_nil ?_; refine then_normal ?_)
    exact ⟨i + 1, by omega, by omega, rfl, [], fun _ => rfl⟩
  · (refine run_exit ?_; (iterate 2 refine then_exit ?_); refine in_exit ?_; refine then_normal ?_)
    (refine run_seq ?_; refine run_region ?_; refine xep rfl rfl ?_; refine runL_nil ?_; refine then_normal ?_; refine run_ret ?_)
    exact ⟨_, rfl, rfl⟩
end Go.Proofs.YtmelpobcpcmdoaaGreat

set_option autoImplicit false
set_option linter.unusedSectionVars false
set_option linter.unusedSimpArgs false
set_option linter.unusedVariables false
set_option maxRecDepth 4000
namespace Go.Proofs.YtmelpobcpcmdoaaGreat
open Go Go.SL Go.Proofs
/-- A level, a book, by their orders. -/
structure Lv where
  p : Int
  es : List Ent
structure Bk where
  (buys sells : List Lv)
  (last no : Int)
def Bk.side (B : Bk) (s : Int) : List Lv := if s = 1 then B.buys else if s = 2 then B.sells else []
def Bk.put (B : Bk) (s : Int) (l : List Lv) : Bk := if s = 1 then ⟨l, B.sells, B.last, B.no⟩ else ⟨B.buys, l, B.last, B.no⟩
def Bk.tell (B : Bk) (last no : Int) : Bk := ⟨B.buys, B.sells, last, no⟩
def empty : Bk := ⟨[], [], 0, 0⟩
def lenL : List Lv → Nat
  | [] => 0
  | lv :: r => lv.es.length + lenL r
theorem lenL_append (l m : List Lv) : lenL (l ++ m) = lenL l + lenL m := by
  induction l with
  | nil => simp [lenL]
  | cons x l ih => simp only [List.cons_append, lenL, ih]; omega
def ordersL : List Lv → List Ord
  | [] => []
  | lv :: r => lv.es.map (·.o) ++ ordersL r
theorem ordersL_append (l m : List Lv) : ordersL (l ++ m) = ordersL l ++ ordersL m := by
  induction l with
  | nil => rfl
  | cons x l ih => simp only [List.cons_append, ordersL, ih, List.append_assoc]
theorem ordersL_len (l : List Lv) : (ordersL l).length = lenL l := by
  induction l with
  | nil => rfl
  | cons x l ih => simp only [ordersL, lenL, List.length_append, List.length_map, ih]
def depO (s p : Int) : Ord := ⟨0, 0, 0, s, 0, p, 0, 0, 0⟩
def depthL (s : Int) (l : List Lv) : List (Ord × Int) := l.map fun lv => (depO s lv.p, sumE (fun x => x.seen) lv.es)
def findL (t i : Int) : List Lv → Option (Nat × Ord)
  | [] => none
  | lv :: r => match (lv.es.map (·.o)).find? (fun o => decide (o.trader = t) && decide (o.id = i)) with
    | some o => some (0, o)
    | none => match findL t i r with
      | some (k, o) => some (k + 1, o)
      | none => none
def findB (t i : Int) (B : Bk) : Option (Int × Nat × Ord) := match findL t i B.buys with
  | some (k, o) => some (1, k, o)
  | none => match findL t i B.sells with
    | some (k, o) => some (2, k, o)
    | none => none
def Lv.Ok (lv : Lv) : Prop := LB lv.es ∧ lv.es ≠ []
/-- A book that its functions can work on. -/
structure BW (B : Bk) : Prop where
  buys : ∀ lv ∈ B.buys, lv.Ok
  sells : ∀ lv ∈ B.sells, lv.Ok
  len : lenL B.buys + lenL B.sells ≤ 64
theorem lenL_ge {l : List Lv} (h : ∀ lv ∈ l, lv.Ok) : l.length ≤ lenL l := by
  induction l with
  | nil => exact Nat.zero_le _
  | cons x l ih =>
    have h1 := ih fun y m => h y (List.mem_cons_of_mem _ m)
    have h2 := (h x (List.mem_cons_self ..)).2
    have : 0 < x.es.length := List.length_pos_iff.2 h2
    simp only [List.length_cons, lenL]; omega
theorem lenL_mem {l : List Lv} {lv : Lv} (h : lv ∈ l) : lv.es.length ≤ lenL l := by
  induction l with
  | nil => cases h
  | cons x l ih =>
    simp only [lenL]
    rcases List.mem_cons.1 h with rfl | h
    · omega
    · have := ih h; omega
variable [Base]
def LvsH : List Nat → List Lv → Heap → Prop
  | [], [], H => H = []
  | b :: bs, lv :: l, H => ∃ H1 H2, LvH b lv.p lv.es H1 ∧ LvsH bs l H2 ∧ H = H1 ++ H2
  | [], _ :: _, _ => False
  | _ :: _, [], _ => False
def LvsIn (F : Heap) (bs : List Nat) (l : List Lv) : Prop := bs.length = l.length ∧ ∀ (i : Nat) (b : Nat) (lv : Lv), bs[i]? = some b → l[i]? = some lv → LvIn F b lv.p lv.es
theorem LvsH.len : ∀ {bs : List Nat} {l : List Lv} {H : Heap}, LvsH bs l H → bs.length = l.length
  | [], [], _, _ => rfl
  | _ :: bs, _ :: l, _, ⟨_, _, _, h, _⟩ => by simp only [List.length_cons, h.len]
theorem LvsH.in : ∀ {bs : List Nat} {l : List Lv} {H F : Heap}, LvsH bs l H → (∀ x ∈ H, x ∈ F) → LvsIn F bs l
  | [], [], _, _, _, _ => ⟨rfl, fun i b lv h => by simp at h⟩
  | b :: bs, lv :: l, _, F, ⟨H1, H2, h1, h2, rfl⟩, hF => by
    have ih := h2.in (F := F) fun x m => hF x (List.mem_append_right _ m)
    refine ⟨by simp only [List.length_cons, ih.1], fun i b' lv' hb hl => ?_⟩
    cases i with
    | zero =>
      simp only [List.getElem?_cons_zero, Option.some.injEq] at hb hl
      subst hb; subst hl
      exact h1.in fun x m => hF x (List.mem_append_left _ m)
    | succ i =>
      simp only [List.getElem?_cons_succ] at hb hl
      exact ih.2 i b' lv' hb hl
theorem LvsIn.mono {F F' : Heap} {bs : List Nat} {l : List Lv} (h : LvsIn F bs l) (hF : ∀ x ∈ F, x ∈ F') : LvsIn F' bs l := ⟨h.1, fun i b lv hb hl => (h.2 i b lv hb hl).mono hF⟩
/-- One level out of all. -/
theorem LvsH.out : ∀ {bs : List Nat} {l : List Lv} {H : Heap} {k b : Nat} {lv : Lv}, LvsH bs l H → bs[k]? = some b → l[k]? = some lv → ∃ H1 H2, LvH b lv.p lv.es H1 ∧ (∀ x, cnt x H = cnt x (H1 ++ H2)) ∧
    (∀ p es' H1', LvH b p es' H1' → ∃ H', LvsH bs (l.set k ⟨p, es'⟩) H' ∧ ∀ x, cnt x H' = cnt x (H1' ++ H2)) ∧ ∃ H', LvsH (bs.eraseIdx k) (l.eraseIdx k) H' ∧ ∀ x, cnt x H' = cnt x H2
  | _ :: bs, _ :: l, _, 0, b, lv, ⟨H1, H2, h1, h2, rfl⟩, hb, hl => by
    simp only [List.getElem?_cons_zero, Option.some.injEq] at hb hl
    subst hb; subst hl
    exact ⟨H1, H2, h1, fun _ => rfl, fun p es' H1' h => ⟨H1' ++ H2, ⟨H1', H2, h, h2, rfl⟩, fun _ => rfl⟩, H2, h2, fun _ => rfl⟩
  | b0 :: bs, lv0 :: l, _, k + 1, b, lv, ⟨H1, H2, h1, h2, rfl⟩, hb, hl => by
    simp only [List.getElem?_cons_succ] at hb hl
    obtain ⟨G1, G2, g1, gp, gs, G3, ge, gq⟩ := h2.out hb hl
    refine ⟨G1, H1 ++ G2, g1, fun x => ?_, fun p es' H1' h => ?_, H1 ++ G3, ⟨H1, G3, h1, ge, rfl⟩, fun x => ?_⟩
    · rw [cnt_append, gp x, cnt_append, cnt_append, cnt_append]; omega
    · obtain ⟨H', h', hp⟩ := gs p es' H1' h
      refine ⟨H1 ++ H', ⟨H1, H', h1, h', rfl⟩, fun x => ?_⟩
      rw [cnt_append, hp x, cnt_append, cnt_append, cnt_append]; omega
    · rw [cnt_append, cnt_append, gq x]
/-- One level more. -/
theorem LvsH.ins : ∀ {bs : List Nat} {l : List Lv} {H : Heap} (k : Nat) {b : Nat} {lv : Lv} {H1 : Heap}, LvsH bs l H → k ≤ l.length → LvH b lv.p lv.es H1 → ∃ H', LvsH (bs.take k ++ b :: bs.drop k) (l.take k ++ lv :: l.drop k) H' ∧ ∀ x, cnt x H' = cnt x (H1 ++ H)
  | bs, l, H, 0, b, lv, H1, h, _, h1 => ⟨H1 ++ H, ⟨H1, H, h1, h, rfl⟩, fun _ => rfl⟩
  | b0 :: bs, lv0 :: l, _, k + 1, b, lv, H1, ⟨G1, G2, g1, g2, rfl⟩, hk, h1 => by
    obtain ⟨H', h', hp⟩ := g2.ins k (by simpa using hk) h1
    refine ⟨G1 ++ H', ⟨G1, H', g1, h', rfl⟩, fun x => ?_⟩
    rw [cnt_append, hp x, cnt_append, cnt_append, cnt_append]; omega
  | [], [], _, k + 1, _, _, _, _, hk, _ => by simp at hk
def SdH (v : Value) (l : List Lv) (H : Heap) : Prop := ∃ a cap bs A L, v = .slice a l.length cap ∧ OwnS 110 1 (.slice a l.length cap) l.length (rows pc bs) A ∧ LvsH bs l L ∧ H = A ++ L
def SdIn (F : Heap) (v : Value) (l : List Lv) : Prop := ∃ a cap bs, l.length ≤ cap ∧ v = .slice a l.length cap ∧ SrcIs F a l.length 1 (rows pc bs) ∧ LvsIn F bs l
def BkH (b : Nat) (B : Bk) (H : Heap) : Prop := ∃ v0 v1 H0 H1, SdH v0 B.buys H0 ∧ SdH v1 B.sells H1 ∧ H = blk b [v0, v1, .int .i64 B.last, .int .i64 B.no] 90 :: (H0 ++ H1)
def BkIn (F : Heap) (b : Nat) (B : Bk) : Prop := ∃ v0 v1, SdIn F v0 B.buys ∧ SdIn F v1 B.sells ∧ blk b [v0, v1, .int .i64 B.last, .int .i64 B.no] 90 ∈ F
theorem SdH.in {v : Value} {l : List Lv} {H F : Heap} (h : SdH v l H) (hF : ∀ x ∈ H, x ∈ F) : SdIn F v l := by
  obtain ⟨a, cap, bs, A, L, rfl, own, hL, rfl⟩ := h
  have hc : l.length ≤ cap := by
    obtain ⟨_, _, hv, h2⟩ := own.form
    cases hv; exact h2
  exact ⟨a, cap, bs, hc, rfl, own.src fun x m => hF x (List.mem_append_left _ m), hL.in fun x m => hF x (List.mem_append_right _ m)⟩
theorem BkH.in {b : Nat} {B : Bk} {H F : Heap} (h : BkH b B H) (hF : ∀ x ∈ H, x ∈ F) : BkIn F b B := by
  obtain ⟨v0, v1, H0, H1, h0, h1, rfl⟩ := h
  exact ⟨v0, v1, h0.in fun x m => hF x (.tail _ (List.mem_append_left _ m)), h1.in fun x m => hF x (.tail _ (List.mem_append_right _ m)), hF _ (.head _)⟩
theorem SdIn.mono {F F' : Heap} {v : Value} {l : List Lv} (h : SdIn F v l) (hF : ∀ x ∈ F, x ∈ F') : SdIn F' v l := by
  obtain ⟨a, cap, bs, hc, h1, h2, h3⟩ := h
  exact ⟨a, cap, bs, hc, h1, h2.mono hF, h3.mono hF⟩
theorem BkIn.mono {F F' : Heap} {b : Nat} {B : Bk} (h : BkIn F b B) (hF : ∀ x ∈ F, x ∈ F') : BkIn F' b B := by
  obtain ⟨v0, v1, h0, h1, h2⟩ := h
  exact ⟨v0, v1, h0.mono hF, h1.mono hF, hF _ h2⟩
theorem BkIn.up {F A : Heap} {b : Nat} {B : Bk} (h : BkIn F b B) : BkIn (A ++ F) b B := h.mono fun x m => List.mem_append_right _ m
/-- A side's level, by its place. -/
theorem SdIn.level {F : Heap} {a : Option Addr} {n cap : Nat} {l : List Lv} {bs : List Nat} (hs : SrcIs F a l.length 1 (rows pc bs)) (hl : LvsIn F bs l) {i : Nat} (hi : i < l.length) : ∃ b off bi lv, a = some ⟨b, off, none⟩ ∧ l[i]? = some lv ∧ LoadsF F b (off + i * 1) (.pointer (some ⟨bi, 0, none⟩)) ∧ LvIn F bi lv.p lv.es := by
  obtain ⟨b, off, _, _, _, rfl, _⟩ := hs.pos (by omega)
  have hb : i < bs.length := by rw [hl.1]; exact hi
  have h1 : bs[i]? = some bs[i] := List.getElem?_eq_getElem hb
  have h2 : l[i]? = some l[i] := List.getElem?_eq_getElem hi
  have l0 := SrcIs.row pc_len hs hl.1 h1
  exact ⟨b, off, bs[i], l[i], rfl, h2, l0.at 0 _ rfl, hl.2 i _ _ h1 h2⟩
end Go.Proofs.YtmelpobcpcmdoaaGreat
