/- Contracts of functions of the given program over its translation, each proved by walking its text; used by the laws' rows. It proves no given statement by itself. -/
import Derived.Test.YtmelpobcpcmdoaaGreatSLBk3X
set_option autoImplicit false
set_option linter.unusedSectionVars false
set_option linter.unusedSimpArgs false
set_option linter.unusedVariables false
set_option maxRecDepth 4000
set_option maxHeartbeats 16000000
namespace Go.Proofs.YtmelpobcpcmdoaaGreat
open Go Go.SL Go.Proofs
/-- Would an order be filled whole? -/
def fillsL : Ord → List Lv → Bool
  | _, [] => false
  | o, lv :: r => if crosses o lv.p = false then false else if o.qty ≤ (reachR o.firm lv.es).1 then true else if (reachR o.firm lv.es).2 = true then false else fillsL (wq o (o.qty - (reachR o.firm lv.es).1)) r
theorem drop_cons {α : Type} {l : List α} {i : Nat} {x : α} (h : l[i]? = some x) : l.drop i = x :: l.drop (i + 1) := by
  rw [List.drop_eq_getElem_cons (List.getElem?_eq_some_iff.1 h).1, (List.getElem?_eq_some_iff.1 h).2]
variable [Base]
theorem reach_nonneg {firm : Int} {es : List Ent} (h : ∀ x ∈ es, 1 ≤ x.seen) : 0 ≤ (reach firm es).1 := by
  induction es with
  | nil => simp [reach]
  | cons x l ih =>
    unfold reach
    split
    · simp
    · have := ih fun y m => h y (List.mem_cons_of_mem _ m)
      have := h x (List.mem_cons_self ..)
      dsimp only; omega
theorem reachR_nonneg {firm : Int} {es : List Ent} (h : LB es) : 0 ≤ (reachR firm es).1 := by
  unfold reachR
  split
  · exact reach_nonneg fun x m => (h.2 x m).2.2.1
  · exact (sumE_in (g := fun x => x.o.qty) (l := es) fun x m => by have := h.2 x m; omega).1
theorem sp_bfills (F : Heap) (b : Nat) (B : Bk) (h : BkIn F b B) (hw : BW B) (o : Ord) (hs : o.side = 1 ∨ o.side = 2) (hq : 1 ≤ o.qty) (hq2 : o.qty ≤ 1048576) :
    Sp Tryz.prog F 92 [.pointer (some ⟨b, 0, none⟩), ov o] [] (Ret (.bool (fillsL o (B.side (3 - o.side))))) := by
  have q1 := fun F => sp_bagainst F b o hs
  obtain ⟨so, a, c, bs, hv, l1, hc, hsrc, hin⟩ := h.side (s := 3 - o.side) (by omega)
  obtain ⟨hok, h64⟩ := hw.side (3 - o.side)
  have gl := lenL_ge hok
  rw [hv] at q1
  generalize B.side (3 - o.side) = l at *
  refine sp_of_code Tryz.func92 rfl rfl ?_
  (refine run_seq ?_; refine run_region ?_; refine runL_box rfl rfl rfl rfl rfl rfl (fun _ => ?_); refine xep rfl rfl ?_; refine runL_nil ?_; refine then_normal ?_; (iterate 2 refine run_seq ?_); refine run_region ?_; refine xep rfl rfl ?_; refine xel rfl (ev_loadAK rfl rfl (ag rfl) (sz rfl) (memF (.head _)) rfl) ?_; refine xel rfl (ev_callQ rfl rfl rfl (pf rfl) (q1 ..)) ?_; refine xep rfl rfl ?_; refine xel rfl (ev_loadF rfl rfl (sc rfl) l1) ?_; refine xel rfl (ev_len rfl rfl (se rfl)) ?_; refine xep rfl rfl ?_; refine runL_nil ?_; refine then_normal ?_; refine run_block ?_)
  rename_i b3
  clear l1
  refine run_loopK (σ := Nat × Int) [3, 13, 14, 15] (fun s => [(3, .pointer (some ⟨b3, 0, none⟩)), (13, .slice a l.length c), (14, .int .i64 l.length), (15, .int .i64 s.1)]) (fun s => [blk b3 (wq o s.2).cells 35])
    (fun s => s.1 ≤ l.length ∧ 1 ≤ s.2 ∧ s.2 ≤ 1048576 ∧ fillsL o l = fillsL (wq o s.2) (l.drop s.1)) (fun s => l.length - s.1) (0, o.qty) ⟨Nat.zero_le _, hq, hq2, rfl⟩ rfl (fun y => by show cnt y [blk b3 o.cells 35] = _; rfl) ?_
  rintro ⟨i, q⟩ ⟨gi, g1, g2, hfl⟩
  dsimp only at gi g1 g2 hfl ⊢
  (refine run_seq ?_; refine run_region ?_; refine xep rfl rfl ?_; refine runL_nil ?_; refine then_normal ?_; refine run_seq ?_)
  (refine run_cond rfl (fun hc => ?_) (fun hc => ?_) <;> (try simp only [z0, z1, z2, z3, z4, z5, z6, z7, z8, z9, Bool.not_true, Bool.not_false, Bool.false_or, Bool.true_and, true_and, and_true, false_or, or_false, reduceCtorEq, Bool.false_eq_true] at hc))
  · obtain ⟨b2, off, bi, lv, rfl, hlv, l1, hi⟩ := SdIn.level (n := 0) (cap := 0) hsrc hin (i := i) (by omega)
    have hlok := hok lv (List.mem_of_getElem? hlv)
    rw [drop_cons hlv] at hfl
    have hun : fillsL (wq o q) (lv :: l.drop (i + 1)) = if crosses (wq o q) lv.p = false then false else if q ≤ (reachR o.firm lv.es).1 then true else if (reachR o.firm lv.es).2 = true then false else fillsL (wq o (q - (reachR o.firm lv.es).1)) (l.drop (i + 1)) := rfl
    rw [hun] at hfl
    have hwq : (wq o q).qty = q := rfl
    have hrn := reachR_nonneg (firm := o.firm) hlok.1
    (refine run_skip ?_; refine then_normal ?_; refine run_seq ?_; refine run_block ?_; refine run_seq ?_; refine run_region ?_; refine xel rfl (ev_indexAddr rfl rfl rfl (se rfl) (by omega) (by omega)) ?_; refine xel rfl (ev_loadF rfl rfl (sc rfl) l1) ?_; refine xep rfl rfl ?_; refine runL_nil ?_; refine then_normal ?_; (iterate 2 refine run_seq ?_))
    refine RunC.freeze ?_
    have q2 := fun G : Heap => sp_lprice (G ++ ([blk b3 (wq o q).cells 35] ++ F)) bi lv.p lv.es (hi.mono fun x m => List.mem_append_right _ (List.mem_append_right _ m))
    have q3 := fun F => sp_crosses F (wq o q) lv.p
    have l2 : AggF ([blk b3 (wq o q).cells 35] ++ F) b3 0 (wq o q).cells := ⟨_, _, _, memF (.head _), by simp, rfl⟩
    refine run_region_D mo ?_
    (refine runD_q 0 rfl rfl (by kernel_rfl) ?_; refine ⟨_, fun _ => ev_loadAK rfl rfl (ag rfl) (sz rfl) (memR (memF (.head _))) rfl, ?_⟩; refine runD_q 1 rfl rfl (by kernel_rfl) ?_; refine ⟨_, fun _ => ev_pure rfl, ?_⟩; refine runD_q 2 rfl rfl (by kernel_rfl) ?_; refine ⟨_, fun _ => ev_callQ rfl rfl rfl (pf rfl) (q2 ..), ?_⟩; refine runD_q 3 rfl rfl (by kernel_rfl) ?_; refine ⟨_, fun _ => ev_callQ rfl rfl rfl (pf rfl) (q3 ..), ?_⟩; refine runD_q 4 rfl rfl (by kernel_rfl) ?_; refine ⟨_, fun _ => ev_pure rfl, ?_⟩; refine runD_done (by kernel_rfl) ?_; refine then_normal ?_; refine RunC.whole rfl ?_)
    cases hcr : crosses (wq o q) lv.p with
    | false =>
      refine run_condT rfl rfl ?_
      (refine run_exit ?_; refine then_exit ?_; refine in_pass rfl ?_; (iterate 2 refine then_exit ?_); refine in_exit ?_; refine then_normal ?_; refine run_seq ?_; refine run_region ?_; refine xep rfl rfl ?_; refine runL_nil ?_; refine then_normal ?_; refine run_ret ?_)
      refine ⟨_, rfl, ?_⟩
      rw [hfl]; rw [if_pos hcr]; rfl
    | true =>
      refine run_condF rfl rfl ?_
      have q4 := fun G : Heap => sp_lreach (G ++ F) bi lv.p lv.es (hi.mono fun x m => List.mem_append_right _ m) hlok.1 o.firm
      clear q2 q3 l2
      (refine run_skip ?_; refine then_normal ?_; refine run_seq ?_; refine run_region ?_; refine xep rfl rfl ?_; refine xel rfl (ev_fieldAddr rfl rfl (fo rfl)) ?_; refine xel rfl (ev_loadK rfl rfl (sc rfl) (memF (.head _)) rfl) ?_; refine xel rfl (ev_callQ rfl rfl rfl (pf rfl) (q4 ..)) ?_; (iterate 5 refine xep rfl rfl ?_); refine runL_nil ?_; refine then_normal ?_; (iterate 2 refine run_seq ?_); refine run_region ?_; refine xep rfl rfl ?_; refine xel rfl (ev_fieldAddr rfl rfl (fo rfl)) ?_; refine xel rfl (ev_loadK rfl rfl (sc rfl) (memF (.head _)) rfl) ?_; refine xep rfl rfl ?_; refine runL_nil ?_; refine then_normal ?_)
      (refine run_cond rfl (fun hc => ?_) (fun hc => ?_) <;> (try simp only [z0, z1, z2, z3, z4, z5, z6, z7, z8, z9, Bool.not_true, Bool.not_false, Bool.false_or, Bool.true_and, true_and, and_true, false_or, or_false, reduceCtorEq, Bool.false_eq_true] at hc))
      · have hc2 : q ≤ (reachR o.firm lv.es).1 := hc
        (refine run_seq ?_; refine run_region ?_; refine xep rfl rfl ?_; refine runL_nil ?_; refine then_normal ?_; refine run_ret ?_; refine then_ret ?_; refine in_ret ?_; (iterate 2 refine then_ret ?_); refine in_ret ?_; refine then_ret ?_)
        refine ⟨_, rfl, ?_⟩
        rw [hfl]; rw [if_neg (by rw [hcr]; simp), if_pos hc2]; rfl
      · have hc2 : ¬ q ≤ (reachR o.firm lv.es).1 := by have h9 : ¬ (wq o q).qty ≤ (reachR o.firm lv.es).1 := by omega
                                                       exact h9
        (refine run_skip ?_; refine then_normal ?_; refine run_seq ?_; refine run_region ?_; refine xel rfl (ev_fieldAddr rfl rfl (fo rfl)) ?_; refine xel rfl (ev_loadK rfl rfl (sc rfl) (memF (.head _)) rfl) ?_; refine xep rfl rfl ?_; refine xel rfl (ev_sub rfl rfl rfl (by omega)) ?_; refine xel rfl (ev_fieldAddr rfl rfl (fo rfl)) ?_; refine runL_store0 rfl rfl rfl rfl rfl (sz rfl) rfl rfl rfl rfl rfl ?_; refine runL_nil ?_; refine then_normal ?_; refine run_seq ?_; refine run_region ?_; refine xep rfl rfl ?_; refine runL_nil ?_; refine then_normal ?_)
        cases hown : (reachR o.firm lv.es).2 with
        | true =>
          refine run_condT rfl rfl ?_
          (refine run_exit ?_; refine in_pass rfl ?_; (iterate 2 refine then_exit ?_); refine in_exit ?_; refine then_normal ?_; refine run_seq ?_; refine run_region ?_; refine xep rfl rfl ?_; refine runL_nil ?_; refine then_normal ?_; refine run_ret ?_)
          refine ⟨_, rfl, ?_⟩
          rw [hfl]; rw [if_neg (by rw [hcr]; simp), if_neg hc2, if_pos hown]; rfl
        | false =>
          refine run_condF rfl rfl ?_
          (refine run_skip ?_; refine in_normal ?_; refine then_normal ?_; refine run_region ?_; refine xel rfl (ev_add rfl rfl rfl (by omega)) ?_; refine xep rfl rfl ?_; refine runL_nil ?_; refine then_normal ?_)
          refine ⟨(i + 1, q - (reachR o.firm lv.es).1), ⟨by show i + 1 ≤ _; omega, by show 1 ≤ q - _; omega, by show q - _ ≤ _; omega, ?_⟩, by show l.length - (i + 1) < l.length - i; omega, rfl, [], fun y => by simp only [List.append_eq, cnt_append, cnt_cons, cnt_nil, blk, Ord.cells, wq]⟩
          rw [hfl]
          rw [if_neg (by rw [hcr]; simp), if_neg hc2, if_neg (by rw [hown]; simp)]
  · have : i = l.length := by omega
    subst this
    (refine run_exit ?_; (iterate 2 refine then_exit ?_); refine in_exit ?_; refine then_normal ?_)
    (refine run_seq ?_; refine run_region ?_; refine xep rfl rfl ?_; refine runL_nil ?_; refine then_normal ?_; refine run_ret ?_)
    refine ⟨_, rfl, ?_⟩
    rw [hfl, List.drop_length]; rfl
end Go.Proofs.YtmelpobcpcmdoaaGreat

set_option autoImplicit false
set_option linter.unusedSectionVars false
set_option linter.unusedSimpArgs false
set_option linter.unusedVariables false
set_option maxRecDepth 4000
set_option maxHeartbeats 16000000
namespace Go.Proofs.YtmelpobcpcmdoaaGreat
open Go Go.SL Go.Proofs
/-- Would a price meet what stands there? -/
def meets (o : Ord) (l : List Lv) : Bool := match l with
  | [] => false
  | lv :: _ => crosses o lv.p
def brefused (o : Ord) (B : Bk) : Int :=
  if right o ≠ 0 ∨ o.stop ≠ 0 then 1
  else if (bfind o.trader o.id B).2 = true then 5
  else if rests o = true ∧ 64 ≤ lenL B.buys + lenL B.sells then 4
  else if o.kind = 5 ∧ meets o (B.side (3 - o.side)) = true then 11
  else if o.kind = 4 ∧ fillsL o (B.side (3 - o.side)) = false then 12
  else 0
theorem right_zero {o : Ord} (h : right o = 0) : rightP o := by
  unfold right at h
  split at h
  · assumption
  · cases h
variable [Base]
theorem sp_brefused (F : Heap) (b : Nat) (B : Bk) (h : BkIn F b B) (hw : BW B) (o : Ord) (hk : InI o.kind) :
    Sp Tryz.prog F 76 [.pointer (some ⟨b, 0, none⟩), ov o] [] (Ret (.int .i64 (brefused o B))) := by
  have q1 := fun F => sp_right F o hk
  have q2 := fun G : Heap => sp_bFind (G ++ F) b B h.up hw o.trader o.id
  have q3 := fun F => sp_brests F o
  have q4 := fun G : Heap => sp_blen (G ++ F) b B h.up hw
  have hlen := hw.len
  refine sp_of_code Tryz.func76 rfl rfl ?_
  (refine run_seq ?_; refine run_region ?_; refine runL_box rfl rfl rfl rfl rfl rfl (fun _ => ?_); refine xep rfl rfl ?_; refine runL_nil ?_; refine then_normal ?_; (iterate 2 refine run_seq ?_); refine run_region ?_; refine xel rfl (ev_loadAK rfl rfl (ag rfl) (sz rfl) (memF (.head _)) rfl) ?_; refine xel rfl (ev_callQ rfl rfl rfl (pf rfl) (q1 ..)) ?_; (iterate 2 refine xep rfl rfl ?_); refine xgl rfl rfl (fun hq => ev_fieldAddr rfl rfl (fo rfl)) ?_; refine xgl rfl rfl (fun hq => ev_loadK rfl rfl (sc rfl) (memF (.head _)) rfl) ?_; refine xgp rfl rfl rfl ?_; refine xep rfl rfl ?_; refine runL_nil ?_; refine then_normal ?_)
  rename_i b3
  by_cases c1 : right o ≠ 0 ∨ o.stop ≠ 0
  · have e : brefused o B = 1 := by unfold brefused; rw [if_pos c1]
    rw [e]
    refine run_condT rfl (by rcases c1 with h | h <;> simp [h]) ?_
    (refine run_seq ?_; refine run_region ?_; refine xep rfl rfl ?_; refine runL_nil ?_; refine then_normal ?_; refine run_ret ?_; refine then_ret ?_)
    exact ⟨_, rfl, rfl⟩
  have c1a : right o = 0 := by omega
  have c1b : o.stop = 0 := by omega
  obtain ⟨-, -, -, -, -, -, hs1, hs2, -, -, hq1, hq2, -⟩ := right_zero c1a
  refine run_condF rfl (by simp [c1a, c1b]) ?_
  (refine run_skip ?_; refine then_normal ?_; (iterate 2 refine run_seq ?_); refine run_region ?_; refine xep rfl rfl ?_; refine xel rfl (ev_fieldAddr rfl rfl (fo rfl)) ?_; refine xel rfl (ev_loadK rfl rfl (sc rfl) (memF (.head _)) rfl) ?_; refine xel rfl (ev_fieldAddr rfl rfl (fo rfl)) ?_; refine xel rfl (ev_loadK rfl rfl (sc rfl) (memF (.head _)) rfl) ?_; refine xel rfl (ev_callQ rfl rfl rfl (pf rfl) (q2 ..)) ?_; (iterate 3 refine xep rfl rfl ?_); refine runL_alloc rfl rfl rfl rfl rfl ze35 (fun _ => ?_); refine runL_store0 rfl rfl rfl rfl rfl (sz rfl) rfl rfl rfl rfl rfl ?_; refine xep rfl rfl ?_; refine runL_nil ?_; refine then_normal ?_; refine run_seq ?_; refine run_region ?_; refine xep rfl rfl ?_; refine runL_nil ?_; refine then_normal ?_)
  by_cases c2 : (bfind o.trader o.id B).2 = true
  · have e : brefused o B = 5 := by unfold brefused; rw [if_neg c1, if_pos c2]
    rw [e]
    refine run_condT rfl c2 ?_
    (refine run_seq ?_; refine run_region ?_; refine xep rfl rfl ?_; refine runL_nil ?_; refine then_normal ?_; refine run_ret ?_; refine then_ret ?_)
    exact ⟨_, rfl, rfl⟩
  refine run_condF rfl (by simpa using c2) ?_
  (refine run_skip ?_; refine then_normal ?_; (iterate 2 refine run_seq ?_); refine run_region ?_; refine xel rfl (ev_loadAK rfl rfl (ag rfl) (sz rfl) (memF (.tail _ (.head _))) rfl) ?_; refine xel rfl (ev_callQ rfl rfl rfl (pf rfl) (q3 ..)) ?_; refine xep rfl rfl ?_; refine xgp rfl rfl rfl ?_; refine xgl rfl rfl (fun hq => ev_callQ rfl rfl rfl (pf rfl) (q4 ..)) ?_; refine xgp rfl rfl rfl ?_; refine xep rfl rfl ?_; refine runL_nil ?_; refine then_normal ?_)
  by_cases c3 : rests o = true ∧ 64 ≤ lenL B.buys + lenL B.sells
  · have e : brefused o B = 4 := by unfold brefused; rw [if_neg c1, if_neg c2, if_pos c3]
    rw [e]
    refine run_condT rfl (by rw [c3.1, decide_eq_true (by omega)]; rfl) ?_
    (refine run_seq ?_; refine run_region ?_; refine xep rfl rfl ?_; refine runL_nil ?_; refine then_normal ?_; refine run_ret ?_; refine then_ret ?_)
    exact ⟨_, rfl, rfl⟩
  refine run_condF rfl (by
    cases hr : rests o with
    | false => rfl
    | true => rw [decide_eq_false (fun h9 => c3 ⟨hr, by omega⟩)]; rfl) ?_
  have hsd : o.side = 1 ∨ o.side = 2 := by omega
  have q5 := fun F => sp_bagainst F b o hsd
  obtain ⟨so, a, c, bs, hv, l1, hc, hsrc, hin⟩ := h.side (s := 3 - o.side) (by omega)
  obtain ⟨hok, h64⟩ := hw.side (3 - o.side)
  have gl := lenL_ge hok
  have q6 := fun G : Heap => sp_bfills (G ++ F) b B h.up hw o hsd hq1 hq2
  rw [hv] at q5
  have hbr : brefused o B = if o.kind = 5 ∧ meets o (B.side (3 - o.side)) = true then 11 else if o.kind = 4 ∧ fillsL o (B.side (3 - o.side)) = false then 12 else 0 := by
    unfold brefused; rw [if_neg c1, if_neg c2, if_neg c3]
  rw [hbr]
  generalize B.side (3 - o.side) = l at *
  (refine run_skip ?_; refine then_normal ?_; (iterate 2 refine run_seq ?_); refine run_region ?_; refine xep rfl rfl ?_; refine xel rfl (ev_loadAK rfl rfl (ag rfl) (sz rfl) (memF (.tail _ (.head _))) rfl) ?_; refine xel rfl (ev_callQ rfl rfl rfl (pf rfl) (q5 ..)) ?_; refine xep rfl rfl ?_; refine xel rfl (ev_loadF rfl rfl (sc rfl) l1) ?_; refine xep rfl rfl ?_; refine runL_nil ?_; refine then_normal ?_; refine run_seq ?_)
  rename_i b5
  refine RunC.perm (h' := [blk b5 (bfind o.trader o.id B).1.cells 35, blk b3 o.cells 35]) (fun x => rfl) ?_
  refine run_midO (σ := Unit) [0, 3] (fun _ => [(53, .bool (decide (o.kind = 5) && meets o l))]) (fun _ => [blk b3 o.cells 35]) (fun _ => True) rfl ?_ ?_
  · refine RunC.freeze ?_
    have l2 : AggF ([blk b5 (bfind o.trader o.id B).1.cells 35, blk b3 o.cells 35] ++ F) b3 0 o.cells := ⟨_, _, _, memF (.tail _ (.head _)), by simp, rfl⟩
    have l3 := l2.at 4 _ rfl
    by_cases k5 : o.kind = 5
    · have hgd : decide (o.kind = 5) = true := decide_eq_true k5
      match l, hsrc, hin, hok with
      | [], hsrc, hin, hok =>
        have hge : (decide (o.kind = 5) && decide ((0 : Int) < ((([] : List Lv).length : Nat) : Int))) = false := by rw [hgd]; rfl
        refine run_region_D mo ?_
        (refine runD_q 0 rfl rfl (by kernel_rfl) ?_; refine ⟨_, fun _ => ev_fieldAddr rfl rfl (fo rfl), ?_⟩; refine runD_q 1 rfl rfl (by kernel_rfl) ?_; refine ⟨_, fun _ => ev_loadK rfl rfl (sc rfl) (memR (memF (.tail _ (.head _)))) rfl, ?_⟩; refine runD_q 2 rfl rfl (by kernel_rfl) ?_; refine ⟨_, fun _ => ev_pure rfl, ?_⟩; refine runD_q 3 rfl rfl (by kernel_rfl) ?_; refine ⟨_, fun _ => ev_pure rfl, ?_⟩; refine runD_gq 4 rfl rfl rfl rfl rfl rfl hgd (by kernel_rfl) ?_; refine ⟨_, fun _ => ev_pure rfl, ?_⟩; refine runD_gq 5 rfl rfl rfl rfl rfl rfl hgd (by kernel_rfl) ?_; refine ⟨_, fun _ => ev_len rfl rfl (se rfl), ?_⟩; refine runD_gq 6 rfl rfl rfl rfl rfl rfl hgd (by kernel_rfl) ?_; refine ⟨_, fun _ => ev_pure rfl, ?_⟩; refine runD_q 7 rfl rfl (by kernel_rfl) ?_; refine ⟨_, fun _ => ev_pure rfl, ?_⟩; refine runD_q 8 rfl rfl (by kernel_rfl) ?_; refine ⟨_, fun _ => ev_pure rfl, ?_⟩; refine runD_gn 9 rfl rfl rfl rfl rfl rfl hge (by kernel_rfl) ?_; refine runD_gn 10 rfl rfl rfl rfl rfl rfl hge (by kernel_rfl) ?_; refine runD_gn 11 rfl rfl rfl rfl rfl rfl hge (by kernel_rfl) ?_; refine runD_gn 12 rfl rfl rfl rfl rfl rfl hge (by kernel_rfl) ?_; refine runD_gn 13 rfl rfl rfl rfl rfl rfl hge (by kernel_rfl) ?_; refine runD_gn 14 rfl rfl rfl rfl rfl rfl hge (by kernel_rfl) ?_; refine runD_q 15 rfl rfl (by kernel_rfl) ?_; refine ⟨_, fun _ => ev_pickF rfl rfl hge rfl, ?_⟩; refine runD_done (by kernel_rfl) ?_)
        exact midN () [blk b5 (bfind o.trader o.id B).1.cells 35] trivial (by rw [show meets o [] = false from rfl, hgd]; rfl) (fun x => by (first | rfl | (simp only [List.append_eq, cnt_append, cnt_cons, cnt_nil, blk]; omega) | (simp only [List.append_eq, cnt_append, cnt_cons, cnt_nil, blk]; done)))
      | lv :: r, hsrc, hin, hok =>
        have hge : (decide (o.kind = 5) && decide ((0 : Int) < (((lv :: r).length : Nat) : Int))) = true := by rw [hgd, decide_eq_true (by simp)]; rfl
        obtain ⟨b2, off, bi, lv', rfl, hlv, l1', hi⟩ := SdIn.level (n := 0) (cap := 0) hsrc hin (i := 0) (by simp)
        simp only [List.getElem?_cons_zero, Option.some.injEq] at hlv
        subst hlv
        have l4 : LoadsF F b2 (off + (0 : Int).toNat * 1) (.pointer (some ⟨bi, 0, none⟩)) := l1'
        have hlen0 : 0 < (lv :: r).length := by simp
        have q7 := fun G : Heap => sp_lprice (G ++ ([blk b5 (bfind o.trader o.id B).1.cells 35, blk b3 o.cells 35] ++ F)) bi lv.p lv.es (hi.mono fun x m => List.mem_append_right _ (List.mem_append_right _ m))
        have q8 := fun F => sp_crosses F o lv.p
        refine run_region_D mo ?_
        (refine runD_q 0 rfl rfl (by kernel_rfl) ?_; refine ⟨_, fun _ => ev_fieldAddr rfl rfl (fo rfl), ?_⟩; refine runD_q 1 rfl rfl (by kernel_rfl) ?_; refine ⟨_, fun _ => ev_loadK rfl rfl (sc rfl) (memR (memF (.tail _ (.head _)))) rfl, ?_⟩; refine runD_q 2 rfl rfl (by kernel_rfl) ?_; refine ⟨_, fun _ => ev_pure rfl, ?_⟩; refine runD_q 3 rfl rfl (by kernel_rfl) ?_; refine ⟨_, fun _ => ev_pure rfl, ?_⟩; refine runD_gq 4 rfl rfl rfl rfl rfl rfl hgd (by kernel_rfl) ?_; refine ⟨_, fun _ => ev_pure rfl, ?_⟩; refine runD_gq 5 rfl rfl rfl rfl rfl rfl hgd (by kernel_rfl) ?_; refine ⟨_, fun _ => ev_len rfl rfl (se rfl), ?_⟩; refine runD_gq 6 rfl rfl rfl rfl rfl rfl hgd (by kernel_rfl) ?_; refine ⟨_, fun _ => ev_pure rfl, ?_⟩; refine runD_q 7 rfl rfl (by kernel_rfl) ?_; refine ⟨_, fun _ => ev_pure rfl, ?_⟩; refine runD_q 8 rfl rfl (by kernel_rfl) ?_; refine ⟨_, fun _ => ev_pure rfl, ?_⟩; refine runD_gq 9 rfl rfl rfl rfl rfl rfl hge (by kernel_rfl) ?_; refine ⟨_, fun _ => ev_loadAK rfl rfl (ag rfl) (sz rfl) (memR (memF (.tail _ (.head _)))) rfl, ?_⟩; refine runD_gq 10 rfl rfl rfl rfl rfl rfl hge (by kernel_rfl) ?_; refine ⟨_, fun _ => ev_pure rfl, ?_⟩; refine runD_gq 11 rfl rfl rfl rfl rfl rfl hge (by kernel_rfl) ?_; refine ⟨_, fun _ => ev_indexAddr rfl rfl rfl (se rfl) (by omega) (by omega), ?_⟩; refine runD_gq 12 rfl rfl rfl rfl rfl rfl hge (by kernel_rfl) ?_; refine ⟨_, fun _ => ev_loadF rfl rfl (sc rfl) l4.up, ?_⟩; refine runD_gq 13 rfl rfl rfl rfl rfl rfl hge (by kernel_rfl) ?_; refine ⟨_, fun _ => ev_callQ rfl rfl rfl (pf rfl) (q7 ..), ?_⟩; refine runD_gq 14 rfl rfl rfl rfl rfl rfl hge (by kernel_rfl) ?_; refine ⟨_, fun _ => ev_callQ rfl rfl rfl (pf rfl) (q8 ..), ?_⟩; refine runD_q 15 rfl rfl (by kernel_rfl) ?_; refine ⟨_, fun _ => ev_pure rfl, ?_⟩; refine runD_done (by kernel_rfl) ?_)
        exact midN () [blk b5 (bfind o.trader o.id B).1.cells 35] trivial (by rw [show meets o (lv :: r) = crosses o lv.p from rfl, hge, hgd]; rfl) (fun x => by (first | rfl | (simp only [List.append_eq, cnt_append, cnt_cons, cnt_nil, blk]; omega) | (simp only [List.append_eq, cnt_append, cnt_cons, cnt_nil, blk]; done)))
    · have hgd : decide (o.kind = 5) = false := decide_eq_false k5
      have hge : false = false := rfl
      refine run_region_D mo ?_
      (refine runD_q 0 rfl rfl (by kernel_rfl) ?_; refine ⟨_, fun _ => ev_fieldAddr rfl rfl (fo rfl), ?_⟩; refine runD_q 1 rfl rfl (by kernel_rfl) ?_; refine ⟨_, fun _ => ev_loadK rfl rfl (sc rfl) (memR (memF (.tail _ (.head _)))) rfl, ?_⟩; refine runD_q 2 rfl rfl (by kernel_rfl) ?_; refine ⟨_, fun _ => ev_pure rfl, ?_⟩; refine runD_q 3 rfl rfl (by kernel_rfl) ?_; refine ⟨_, fun _ => ev_pure rfl, ?_⟩; refine runD_gn 4 rfl rfl rfl rfl rfl rfl hgd (by kernel_rfl) ?_; refine runD_gn 5 rfl rfl rfl rfl rfl rfl hgd (by kernel_rfl) ?_; refine runD_gn 6 rfl rfl rfl rfl rfl rfl hgd (by kernel_rfl) ?_; refine runD_q 7 rfl rfl (by kernel_rfl) ?_; refine ⟨_, fun _ => ev_pickF rfl rfl hgd rfl, ?_⟩; refine runD_q 8 rfl rfl (by kernel_rfl) ?_; refine ⟨_, fun _ => ev_pure rfl, ?_⟩; refine runD_gn 9 rfl rfl rfl rfl rfl rfl hge (by kernel_rfl) ?_; refine runD_gn 10 rfl rfl rfl rfl rfl rfl hge (by kernel_rfl) ?_; refine runD_gn 11 rfl rfl rfl rfl rfl rfl hge (by kernel_rfl) ?_; refine runD_gn 12 rfl rfl rfl rfl rfl rfl hge (by kernel_rfl) ?_; refine runD_gn 13 rfl rfl rfl rfl rfl rfl hge (by kernel_rfl) ?_; refine runD_gn 14 rfl rfl rfl rfl rfl rfl hge (by kernel_rfl) ?_; refine runD_q 15 rfl rfl (by kernel_rfl) ?_; refine ⟨_, fun _ => ev_pickF rfl rfl hge rfl, ?_⟩; refine runD_done (by kernel_rfl) ?_)
      exact midN () [blk b5 (bfind o.trader o.id B).1.cells 35] trivial (by rw [hgd]; rfl) (fun x => by (first | rfl | (simp only [List.append_eq, cnt_append, cnt_cons, cnt_nil, blk]; omega) | (simp only [List.append_eq, cnt_append, cnt_cons, cnt_nil, blk]; done)))
  · intro fr' h' hm
    (refine then_normal ?_)
    refine midN_out hm ?_
    rintro ⟨⟩ -
    skip
    by_cases c4 : o.kind = 5 ∧ meets o l = true
    · rw [if_pos c4]
      refine run_condT rfl (by rw [c4.2, decide_eq_true c4.1]; rfl) ?_
      (refine run_seq ?_; refine run_region ?_; refine xep rfl rfl ?_; refine runL_nil ?_; refine then_normal ?_; refine run_ret ?_; refine then_ret ?_)
      exact ⟨_, rfl, rfl⟩
    rw [if_neg c4]
    refine run_condF rfl (by
      by_cases k5 : o.kind = 5
      · have : meets o l = false := by simpa using fun h9 => c4 ⟨k5, h9⟩
        rw [this, decide_eq_true k5]; rfl
      · rw [decide_eq_false k5]; rfl) ?_
    (refine run_skip ?_; refine then_normal ?_; (iterate 2 refine run_seq ?_); refine run_region ?_; refine xel rfl (ev_fieldAddr rfl rfl (fo rfl)) ?_; refine xel rfl (ev_loadK rfl rfl (sc rfl) (memF (.head _)) rfl) ?_; (iterate 2 refine xep rfl rfl ?_); refine xgp rfl rfl rfl ?_; refine xgl rfl rfl (fun hq => ev_loadAK rfl rfl (ag rfl) (sz rfl) (memF (.head _)) rfl) ?_; refine xgl rfl rfl (fun hq => ev_callQ rfl rfl rfl (pf rfl) (q6 ..)) ?_; refine xgp rfl rfl rfl ?_; refine xep rfl rfl ?_; refine runL_nil ?_; refine then_normal ?_)
    by_cases c5 : o.kind = 4 ∧ fillsL o l = false
    · rw [if_pos c5]
      refine run_condT rfl (by rw [c5.2, decide_eq_true c5.1]; rfl) ?_
      (refine run_seq ?_; refine run_region ?_; refine xep rfl rfl ?_; refine runL_nil ?_; refine then_normal ?_; refine run_ret ?_; refine then_ret ?_)
      exact ⟨_, rfl, rfl⟩
    rw [if_neg c5]
    refine run_condF rfl (by
      by_cases k5 : o.kind = 4
      · have : fillsL o l = true := by simpa using fun h9 => c5 ⟨k5, h9⟩
        rw [this, decide_eq_true k5]; rfl
      · rw [decide_eq_false k5]; rfl) ?_
    (refine run_skip ?_; refine then_normal ?_; refine run_seq ?_; refine run_region ?_; refine xep rfl rfl ?_; refine runL_nil ?_; refine then_normal ?_; refine run_ret ?_)
    exact ⟨_, rfl, rfl⟩
end Go.Proofs.YtmelpobcpcmdoaaGreat
