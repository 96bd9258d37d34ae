/- Contracts of functions of the given program over its translation, each proved by walking its text; used by the laws' rows. It proves no given statement by itself. -/
import Derived.Test.YtlokkniepoeepaaSLBk4
set_option autoImplicit false
set_option linter.unusedSectionVars false
set_option linter.unusedSimpArgs false
set_option linter.unusedVariables false
set_option maxRecDepth 4000
set_option maxHeartbeats 16000000
namespace Go.Proofs.Ytlokkniepoeepaa
open Go Go.SL Go.Proofs
/-- Would an order be filled whole? -/
def fillsL : Ord → List Lv → Bool
  | _, [] => false
  | o, lv :: r => if crosses o lv.p = false then false else if o.qty ≤ (reachR o.firm lv.es).1 then true else if (reachR o.firm lv.es).2 = true then false else fillsL (wq o (o.qty - (reachR o.firm lv.es).1)) r
theorem drop_cons {α : Type} {l : List α} {i : Nat} {x : α} (h : l[i]? = some x) : l.drop i = x :: l.drop (i + 1) := by
  rw [List.drop_eq_getElem_cons (List.getElem?_eq_some_iff.1 h).1, (List.getElem?_eq_some_iff.1 h).2]
variable [Base]
theorem reach_nonneg {firm : Int} {es : List Ent} (h : ∀ x ∈ es, 1 ≤ x.seen) : 0 ≤ (reach firm es).1 := by
  induction es with
  | nil => simp [reach]
  | cons x l ih =>
    unfold reach
    split
    · simp
    · have := ih fun y m => h y (List.mem_cons_of_mem _ m)
      have := h x (List.mem_cons_self ..)
      dsimp only; omega
theorem reachR_nonneg {firm : Int} {es : List Ent} (h : LB es) : 0 ≤ (reachR firm es).1 := by
  unfold reachR
  split
  · exact reach_nonneg fun x m => (h.2 x m).2.2.1
  · exact (sumE_in (g := fun x => x.o.qty) (l := es) fun x m => by have := h.2 x m; omega).1
theorem sp_bfills (F : Heap) (b : Nat) (B : Bk) (h : BkIn F b B) (hw : BW B) (o : Ord) (hs : o.side = 1 ∨ o.side = 2) (hq : 1 ≤ o.qty) (hq2 : o.qty ≤ 1048576) :
    Sp Try.prog F 51 [.pointer (some ⟨b, 0, none⟩), ov o] [] (Ret (.bool (fillsL o (B.side (3 - o.side))))) := by
  have q1 := fun F => sp_bagainst F b o hs
  obtain ⟨so, a, c, bs, hv, l1, hc, hsrc, hin⟩ := h.side (s := 3 - o.side) (by omega)
  obtain ⟨hok, h64⟩ := hw.side (3 - o.side)
  have gl := lenL_ge hok
  rw [hv] at q1
  generalize B.side (3 - o.side) = l at *
  refine sp_of_code Try.func51 rfl rfl ?_
  (refine run_seq ?_; refine run_region ?_; refine runL_box rfl rfl rfl rfl rfl rfl (fun _ => ?_); refine xep rfl rfl ?_; refine runL_nil ?_; refine then_normal ?_; (iterate 2 refine run_seq ?_); refine run_region ?_; refine xep rfl rfl ?_; refine xel rfl (ev_loadAK rfl rfl (ag rfl) (sz rfl) (memF (.head _)) rfl) ?_; refine xel rfl (ev_callQ rfl rfl rfl (pf rfl) (q1 ..)) ?_; refine xep rfl rfl ?_; refine xel rfl (ev_loadF rfl rfl (sc rfl) l1) ?_; refine xel rfl (ev_len rfl rfl (se rfl)) ?_; refine xep rfl rfl ?_; refine runL_nil ?_; refine then_normal ?_; refine run_block ?_)
  rename_i b3
  clear l1
  refine run_loopK (σ := Nat × Int) [3, 13, 14, 15] (fun s => [(3, .pointer (some ⟨b3, 0, none⟩)), (13, .slice a l.length c), (14, .int .i64 l.length), (15, .int .i64 s.1)]) (fun s => [blk b3 (wq o s.2).cells 27])
    (fun s => s.1 ≤ l.length ∧ 1 ≤ s.2 ∧ s.2 ≤ 1048576 ∧ fillsL o l = fillsL (wq o s.2) (l.drop s.1)) (fun s => l.length - s.1) (0, o.qty) ⟨Nat.zero_le _, hq, hq2, rfl⟩ rfl (fun y => by show cnt y [blk b3 o.cells 27] = _; rfl) ?_
  rintro ⟨i, q⟩ ⟨gi, g1, g2, hfl⟩
  dsimp only at gi g1 g2 hfl ⊢
  (refine run_seq ?_; refine run_region ?_; refine xep rfl rfl ?_; refine runL_nil ?_; refine then_normal ?_; refine run_seq ?_)
  (refine run_cond rfl (fun hc => ?_) (fun hc => ?_) <;> (try simp only [z0, z1, z2, z3, z4, z5, z6, z7, z8, z9, Bool.not_true, Bool.not_false, Bool.false_or, Bool.true_and, true_and, and_true, false_or, or_false, reduceCtorEq, Bool.false_eq_true] at hc))
  · obtain ⟨b2, off, bi, lv, rfl, hlv, l1, hi⟩ := SdIn.level (n := 0) (cap := 0) hsrc hin (i := i) (by omega)
    have hlok := hok lv (List.mem_of_getElem? hlv)
    rw [drop_cons hlv] at hfl
    have hun : fillsL (wq o q) (lv :: l.drop (i + 1)) = if crosses (wq o q) lv.p = false then false else if q ≤ (reachR o.firm lv.es).1 then true else if (reachR o.firm lv.es).2 = true then false else fillsL (wq o (q - (reachR o.firm lv.es).1)) (l.drop (i + 1)) := rfl
    rw [hun] at hfl
    have hwq : (wq o q).qty = q := rfl
    have hrn := reachR_nonneg (firm := o.firm) hlok.1
    (refine run_skip ?_; refine then_normal ?_; refine run_seq ?_; refine run_block ?_; refine run_seq ?_; refine run_region ?_; refine xel rfl (ev_indexAddr rfl rfl rfl (se rfl) (by omega) (by omega)) ?_; refine xel rfl (ev_loadF rfl rfl (sc rfl) l1) ?_; refine xep rfl rfl ?_; refine runL_nil ?_; refine then_normal ?_; (iterate 2 refine run_seq ?_))
    refine RunC.freeze ?_
    have q2 := fun G : Heap => sp_lprice (G ++ ([blk b3 (wq o q).cells 27] ++ F)) bi lv.p lv.es (hi.mono fun x m => List.mem_append_right _ (List.mem_append_right _ m))
    have q3 := fun F => sp_crosses F (wq o q) lv.p
    have l2 : AggF ([blk b3 (wq o q).cells 27] ++ F) b3 0 (wq o q).cells := ⟨_, _, _, memF (.head _), by simp, rfl⟩
    refine run_region_D mo ?_
    (refine runD_q 0 rfl rfl (by kernel_rfl) ?_; refine ⟨_, fun _ => ev_loadAK rfl rfl (ag rfl) (sz rfl) (memR (memF (.head _))) rfl, ?_⟩; refine runD_q 1 rfl rfl (by kernel_rfl) ?_; refine ⟨_, fun _ => ev_pure rfl, ?_⟩; refine runD_q 2 rfl rfl (by kernel_rfl) ?_; refine ⟨_, fun _ => ev_callQ rfl rfl rfl (pf rfl) (q2 ..), ?_⟩; refine runD_q 3 rfl rfl (by kernel_rfl) ?_; refine ⟨_, fun _ => ev_callQ rfl rfl rfl (pf rfl) (q3 ..), ?_⟩; refine runD_q 4 rfl rfl (by kernel_rfl) ?_; refine ⟨_, fun _ => ev_pure rfl, ?_⟩; refine runD_done (by kernel_rfl) ?_; refine then_normal ?_; refine RunC.whole rfl ?_)
    cases hcr : crosses (wq o q) lv.p with
    | false =>
      refine run_condT rfl rfl ?_
      (refine run_exit ?_; refine then_exit ?_; refine in_pass rfl ?_; (iterate 2 refine then_exit ?_); refine in_exit ?_; refine then_normal ?_; refine run_seq ?_; refine run_region ?_; refine xep rfl rfl ?_; refine runL_nil ?_; refine then_normal ?_; refine run_ret ?_)
      refine ⟨_, rfl, ?_⟩
      rw [hfl]; rw [if_pos hcr]; rfl
    | true =>
      refine run_condF rfl rfl ?_
      have q4 := fun G : Heap => sp_lreach (G ++ F) bi lv.p lv.es (hi.mono fun x m => List.mem_append_right _ m) hlok.1 o.firm
      clear q2 q3 l2
      (refine run_skip ?_; refine then_normal ?_; refine run_seq ?_; refine run_region ?_; refine xep rfl rfl ?_; refine xel rfl (ev_fieldAddr rfl rfl (fo rfl)) ?_; refine xel rfl (ev_loadK rfl rfl (sc rfl) (memF (.head _)) rfl) ?_; refine xel rfl (ev_callQ rfl rfl rfl (pf rfl) (q4 ..)) ?_; (iterate 5 refine xep rfl rfl ?_); refine runL_nil ?_; refine then_normal ?_; (iterate 2 refine run_seq ?_); refine run_region ?_; refine xep rfl rfl ?_; refine xel rfl (ev_fieldAddr rfl rfl (fo rfl)) ?_; refine xel rfl (ev_loadK rfl rfl (sc rfl) (memF (.head _)) rfl) ?_; refine xep rfl rfl ?_; refine runL_nil ?_; refine then_normal ?_)
      (refine run_cond rfl (fun hc => ?_) (fun hc => ?_) <;> (try simp only [z0, z1, z2, z3, z4, z5, z6, z7, z8, z9, Bool.not_true, Bool.not_false, Bool.false_or, Bool.true_and, true_and, and_true, false_or, or_false, reduceCtorEq, Bool.false_eq_true] at hc))
      · have hc2 : q ≤ (reachR o.firm lv.es).1 := hc
        (refine run_seq ?_; refine run_region ?_; refine xep rfl rfl ?_; refine runL_nil ?_; refine then_normal ?_; refine run_ret ?_; refine then_ret ?_; refine in_ret ?_; (iterate 2 refine then_ret ?_); refine in_ret ?_; refine then_ret ?_)
        refine ⟨_, rfl, ?_⟩
        rw [hfl]; rw [if_neg (by rw [hcr]; simp), if_pos hc2]; rfl
      · have hc2 : ¬ q ≤ (reachR o.firm lv.es).1 := by have h9 : ¬ (wq o q).qty ≤ (reachR o.firm lv.es).1 := by omega
                                                       exact h9
        (refine run_skip ?_; refine then_normal ?_; refine run_seq ?_; refine run_region ?_; refine xel rfl (ev_fieldAddr rfl rfl (fo rfl)) ?_; refine xel rfl (ev_loadK rfl rfl (sc rfl) (memF (.head _)) rfl) ?_; refine xep rfl rfl ?_; refine xel rfl (ev_sub rfl rfl rfl (by omega)) ?_; refine xel rfl (ev_fieldAddr rfl rfl (fo rfl)) ?_; refine runL_store0 rfl rfl rfl rfl rfl (sz rfl) rfl rfl rfl rfl rfl ?_; refine runL_nil ?_; refine then_normal ?_; refine run_seq ?_; refine run_region ?_; refine xep rfl rfl ?_; refine runL_nil ?_; refine then_normal ?_)
        cases hown : (reachR o.firm lv.es).2 with
        | true =>
          refine run_condT rfl rfl ?_
          (refine run_exit ?_; refine in_pass rfl ?_; (iterate 2 refine then_exit ?_); refine in_exit ?_; refine then_normal ?_; refine run_seq ?_; refine run_region ?_; refine xep rfl rfl ?_; refine runL_nil ?_; refine then_normal ?_; refine run_ret ?_)
          refine ⟨_, rfl, ?_⟩
          rw [hfl]; rw [if_neg (by rw [hcr]; simp), if_neg hc2, if_pos hown]; rfl
        | false =>
          refine run_condF rfl rfl ?_
          (refine run_skip ?_; refine in_normal ?_; refine then_normal ?_; refine run_region ?_; refine xel rfl (ev_add rfl rfl rfl (by omega)) ?_; refine xep rfl rfl ?_; refine runL_nil ?_; refine then_normal ?_)
          refine ⟨(i + 1, q - (reachR o.firm lv.es).1), ⟨by show i + 1 ≤ _; omega, by show 1 ≤ q - _; omega, by show q - _ ≤ _; omega, ?_⟩, by show l.length - (i + 1) < l.length - i; omega, rfl, [], fun y => by simp only [List.append_eq, cnt_append, cnt_cons, cnt_nil, blk, Ord.cells, wq]⟩
          rw [hfl]
          rw [if_neg (by rw [hcr]; simp), if_neg hc2, if_neg (by rw [hown]; simp)]
  · have : i = l.length := by omega
    subst this
    (refine run_exit ?_; (iterate 2 refine then_exit ?_); refine in_exit ?_; refine then_normal ?_)
    (refine run_seq ?_; refine run_region ?_; refine xep rfl rfl ?_; refine runL_nil ?_; refine then_normal ?_; refine run_ret ?_)
    refine ⟨_, rfl, ?_⟩
    rw [hfl, List.drop_length]; rfl
end Go.Proofs.Ytlokkniepoeepaa
