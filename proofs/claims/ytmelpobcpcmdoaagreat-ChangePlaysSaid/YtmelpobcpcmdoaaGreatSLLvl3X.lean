/- Contracts of functions of the given program over its translation, each proved by walking its text; used by the laws' rows. It proves no given statement by itself. -/
import Derived.Test.YtmelpobcpcmdoaaGreatSLSlcEX
set_option autoImplicit false
set_option linter.unusedSectionVars false
set_option linter.unusedSimpArgs false
set_option linter.unusedVariables false
namespace Go.Proofs.YtmelpobcpcmdoaaGreat
open Go Go.SL Go.Proofs
variable [Base]
theorem sp_ladd (F : Heap) (H : Heap) (b : Nat) (p : Int) (es : List Ent) (hH : LvH b p es H) (hb : es.length ≤ 65535) (o : Ord) :
    Sp Tryz.prog F 99 [.pointer (some ⟨b, 0, none⟩), ov o] H (fun v h' => LvH b p (es ++ [⟨o, tip o⟩]) h') := by
  obtain ⟨a, cap, A, own, rfl⟩ := hH
  have q1 := fun F => sp_tip F o
  refine Sp.up ?_
  refine sp_of_code Tryz.func99 rfl rfl ?_
  (refine run_seq ?_; refine run_region ?_; refine runL_box rfl rfl rfl rfl rfl rfl (fun _ => ?_); refine runL_nil ?_; refine then_normal ?_)
  rename_i b3
  refine RunC.perm (h' := (blk b [.int .i64 p, .slice a es.length cap] 121 :: A) ++ [blk b3 o.cells 35]) (fun x => by show cnt x (blk b3 o.cells 35 :: blk b [.int .i64 p, .slice a es.length cap] 121 :: A) = _; (first | rfl | (simp only [List.append_eq, cnt_append, cnt_cons, cnt_nil, blk]; omega) | (simp only [List.append_eq, cnt_append, cnt_cons, cnt_nil, blk]; done))) ?_
  refine RunC.freezeR ?_
  refine run_region_D mo ?_
  (refine runD_q 0 rfl rfl (by kernel_rfl) ?_; refine ⟨_, fun _ => ev_pure rfl, ?_⟩; refine runD_q 1 rfl rfl (by kernel_rfl) ?_; refine ⟨_, fun _ => ev_pure rfl, ?_⟩; refine runD_q 2 rfl rfl (by kernel_rfl) ?_; refine ⟨_, fun _ => ev_pure rfl, ?_⟩; refine runD_q 3 rfl rfl (by kernel_rfl) ?_; refine ⟨_, fun _ => ev_fieldAddr rfl rfl (fo rfl), ?_⟩; refine runD_q 5 rfl rfl (by kernel_rfl) ?_; refine ⟨_, fun _ => ev_loadAK rfl rfl (ag rfl) (sz rfl) (memR (memF (.head _))) rfl, ?_⟩; refine runD_q 6 rfl rfl (by kernel_rfl) ?_; refine ⟨_, fun _ => ev_loadAK rfl rfl (ag rfl) (sz rfl) (memR (memF (.head _))) rfl, ?_⟩; refine runD_q 7 rfl rfl (by kernel_rfl) ?_; refine ⟨_, fun _ => ev_callQ rfl rfl rfl (pf rfl) (q1 ..), ?_⟩; refine runD_q 8 rfl rfl (by kernel_rfl) ?_; refine ⟨_, fun _ => ev_build rfl pl118 rfl, ?_⟩)
  refine runD_ldNew (v := .slice a es.length cap) (V := fun b => .slice (some ⟨b, 0, none⟩) 1 1) (l := ec ⟨o, tip o⟩) (e := 118) 4 8 9 13 (by kernel_rfl) rfl rfl rfl rfl rfl rfl (ev_loadK rfl rfl (sc rfl) (memF (.head _)) rfl) (fun b9 => ev_loadK rfl rfl (sc rfl) (memF (.tail _ (.head _))) rfl)
    (fun K hk => runL_buildSlice rfl rfl rfl rfl rfl (se rfl) ze118 rfl rfl rfl rfl rfl fun b9 => runL_nil (endS_d rfl (hk b9)))
    (fun K hk => runL_buildSlice rfl rfl rfl rfl rfl (se rfl) ze118 rfl rfl rfl rfl rfl fun b9 => runL_nil (endS_d rfl (hk b9))) (fun b9 => ?_)
  (refine runD_1 10 (by kernel_rfl) rfl rfl rfl ?_)
  refine runL_append (sl := ec ⟨o, tip o⟩) [blk b9 (ec ⟨o, tip o⟩) 118, blk b [.int .i64 p, .slice a es.length cap] 121] rfl rfl rfl rfl rfl rfl rfl (se rfl) (se rfl) ze118 rfl (byt rfl) own (fun y => by (first | rfl | (simp only [List.append_eq, cnt_append, cnt_cons, cnt_nil, blk]; omega) | (simp only [List.append_eq, cnt_append, cnt_cons, cnt_nil, blk]; done))) ⟨rfl, .inr ⟨b9, 0, _, _, _, rfl, memF (.head _), by simp [ec], rfl⟩⟩ rfl (by decide) (by decide) (by omega) ?_
  rintro v' A' own'
  obtain ⟨a5, c5, rfl, own3⟩ := (own'.snoc (f := ec) (x := Ent.mk o (tip o)) rfl).at
  (refine runL_nil ?_; refine endS_d rfl ?_; refine runD_q 11 rfl rfl (by kernel_rfl) ?_; refine ⟨_, fun _ => ev_pure rfl, ?_⟩; refine runD_q 12 rfl rfl (by kernel_rfl) ?_; refine ⟨_, fun _ => ev_fieldAddr rfl rfl (fo rfl), ?_⟩; refine runD_1 13 (by kernel_rfl) rfl rfl rfl ?_)
  refine RunL.perm (h' := blk b [.int .i64 p, .slice a es.length cap] 121 :: blk b9 (ec ⟨o, tip o⟩) 118 :: A') (fun y => by (first | rfl | (simp only [List.append_eq, cnt_append, cnt_cons, cnt_nil, blk]; omega) | (simp only [List.append_eq, cnt_append, cnt_cons, cnt_nil, blk]; done))) ?_
  (refine runL_store0 rfl rfl rfl rfl rfl (sz rfl) rfl rfl rfl rfl rfl ?_; refine runL_nil ?_; refine endS_n rfl ?_; refine runD_done (by kernel_rfl) ?_)
  exact ⟨_, rfl, _, [blk b9 (ec ⟨o, tip o⟩) 118, blk b3 o.cells 35], ⟨a5, c5, A', own3, rfl⟩, fun y => by (first | rfl | (simp only [List.append_eq, cnt_append, cnt_cons, cnt_nil, blk]; omega) | (simp only [List.append_eq, cnt_append, cnt_cons, cnt_nil, blk]; done))⟩
def wq (o : Ord) (q : Int) : Ord := ⟨o.trader, o.id, o.firm, o.side, o.kind, o.price, q, o.show_, o.stop⟩
/-- What is left of a level when its first order gives so much. -/
def giveE (e : Ent) (l : List Ent) (n : Int) : List Ent :=
  if 0 < e.seen - n then ⟨wq e.o (e.o.qty - n), e.seen - n⟩ :: l
  else if 0 < e.o.qty - n then l ++ [⟨wq e.o (e.o.qty - n), tip (wq e.o (e.o.qty - n))⟩] else l
theorem giveE_LB {e : Ent} {l : List Ent} {n : Int} (h : LB (e :: l)) (h0 : 0 ≤ n) (h1 : n ≤ e.seen) : LB (giveE e l n) ∧ (giveE e l n).length ≤ l.length + 1 := by
  obtain ⟨hl, hb⟩ := h
  have he := hb e (by simp)
  have hr : ∀ x ∈ l, 1 ≤ x.o.qty ∧ x.o.qty ≤ 1048576 ∧ 1 ≤ x.seen ∧ x.seen ≤ x.o.qty := fun x m => hb x (List.mem_cons_of_mem _ m)
  rw [List.length_cons] at hl
  unfold giveE
  split
  · refine ⟨⟨by rw [List.length_cons]; omega, fun x m => ?_⟩, by rw [List.length_cons]; omega⟩
    rcases List.mem_cons.1 m with rfl | m
    · dsimp only [wq]; omega
    · exact hr x m
  · split
    · rename_i hq
      refine ⟨⟨by rw [List.length_append]; show _ + 1 ≤ _; omega, fun x m => ?_⟩, by rw [List.length_append]; show _ + 1 ≤ _; omega⟩
      rcases List.mem_append.1 m with m | m
      · exact hr x m
      · simp only [List.mem_singleton] at m
        subst m
        dsimp only [tip, wq]
        refine ⟨by omega, by omega, ?_, ?_⟩ <;> split <;> omega
    · exact ⟨⟨by omega, hr⟩, by omega⟩
set_option maxRecDepth 4000 in
theorem sp_lgive (F : Heap) (H : Heap) (b : Nat) (p : Int) (e : Ent) (l : List Ent) (hH : LvH b p (e :: l) H) (hb : LB (e :: l)) (n : Int) (h0 : 0 ≤ n) (h1 : n ≤ e.seen) :
    Sp Tryz.prog F 106 [.pointer (some ⟨b, 0, none⟩), .int .i64 n] H (fun v h' => LvH b p (giveE e l n) h') := by
  obtain ⟨a, cap, A, own, rfl⟩ := hH
  obtain ⟨hb1, hb2⟩ := hb
  have he := hb2 e (by simp)
  obtain ⟨b2, rest, cap', hv, rfl, hl2, hr2, hk2⟩ := own.pos (by simp)
  cases hv
  rw [List.length_cons] at *
  have hrw : rows ec (e :: l) ++ rest = ec e ++ (rows ec l ++ rest) := List.append_assoc ..
  rw [hrw]
  generalize hT : rows ec l ++ rest = T at *
  refine Sp.up ?_
  refine sp_of_code Tryz.func106 rfl rfl ?_
  (refine run_seq ?_; refine run_region ?_; (iterate 2 refine xep rfl rfl ?_); refine xel rfl (ev_fieldAddr rfl rfl (fo rfl)) ?_; refine xel rfl (ev_loadK rfl rfl (sc rfl) (memF (.head _)) rfl) ?_; refine xel rfl (ev_indexAddr rfl rfl rfl (se rfl) (by omega) (by omega)) ?_; refine xep rfl rfl ?_; refine runL_nil ?_; refine then_normal ?_; refine run_seq ?_; refine run_region ?_; (iterate 2 refine xep rfl rfl ?_); (iterate 2 refine xel rfl (ev_fieldAddr rfl rfl (fo rfl)) ?_); refine xel rfl (ev_loadK rfl rfl (sc rfl) (memF (.tail _ (.head _))) rfl) ?_; refine xep rfl rfl ?_; refine xel rfl (ev_sub rfl rfl rfl (by omega)) ?_; refine xep rfl rfl ?_; (iterate 2 refine xel rfl (ev_fieldAddr rfl rfl (fo rfl)) ?_); refine runL_store1 rfl rfl rfl rfl rfl (sz rfl) rfl rfl rfl rfl rfl ?_; refine runL_nil ?_; refine then_normal ?_; refine run_seq ?_; refine run_region ?_; (iterate 2 refine xep rfl rfl ?_); refine xel rfl (ev_fieldAddr rfl rfl (fo rfl)) ?_; refine xel rfl (ev_loadK rfl rfl (sc rfl) (memF (.tail _ (.head _))) rfl) ?_; refine xep rfl rfl ?_; refine xel rfl (ev_sub rfl rfl rfl (by omega)) ?_; refine xep rfl rfl ?_; refine xel rfl (ev_fieldAddr rfl rfl (fo rfl)) ?_; refine runL_store1 rfl rfl rfl rfl rfl (sz rfl) rfl rfl rfl rfl rfl ?_; refine runL_nil ?_; refine then_normal ?_; (iterate 2 refine run_seq ?_); refine run_region ?_; (iterate 2 refine xep rfl rfl ?_); refine xel rfl (ev_fieldAddr rfl rfl (fo rfl)) ?_; refine xel rfl (ev_loadK rfl rfl (sc rfl) (memF (.tail _ (.head _))) rfl) ?_; refine xep rfl rfl ?_; refine runL_nil ?_; refine then_normal ?_)
  -- the first entry as it stands now
  have own2 : OwnS 118 10 (.slice (some ⟨b2, 0, none⟩) (l.length + 1) cap) (l.length + 1) (rows ec (⟨wq e.o (e.o.qty - n), e.seen - n⟩ :: l)) [blk b2 (ec ⟨wq e.o (e.o.qty - n), e.seen - n⟩ ++ T) 118] :=
    .inr ⟨b2, rest, cap, rfl, by rw [← hT]; exact congrArg (fun c => [blk b2 c _]) (List.append_assoc ..).symm, by rw [rows_len ec_len]; rfl, hr2, hk2⟩
  (refine run_cond rfl (fun hc => ?_) (fun hc => ?_) <;> (try simp only [z0, z1, z2, z3, z4, z5, z6, z7, z8, z9, Bool.not_true, Bool.not_false, Bool.false_or, Bool.true_and, true_and, and_true, false_or, or_false, reduceCtorEq, Bool.false_eq_true] at hc))
  · (refine run_ret ?_; refine then_ret ?_)
    have e9 : giveE e l n = ⟨wq e.o (e.o.qty - n), e.seen - n⟩ :: l := by unfold giveE; rw [if_pos hc]
    rw [e9]
    exact ⟨_, rfl, _, [], ⟨_, _, _, own2, rfl⟩, fun x => by rw [List.append_nil]; rfl⟩
  · (refine run_skip ?_; refine then_normal ?_; refine run_seq ?_; refine run_region ?_; (iterate 2 refine xep rfl rfl ?_); refine xel rfl (ev_fieldAddr rfl rfl (fo rfl)) ?_; refine xel rfl (ev_loadAK rfl rfl (ag rfl) (sz rfl) (memF (.tail _ (.head _))) rfl) ?_; refine runL_alloc rfl rfl rfl rfl rfl ze35 (fun _ => ?_); refine runL_store0 rfl rfl rfl rfl rfl (sz rfl) rfl rfl rfl rfl rfl ?_; refine runL_nil ?_; refine then_normal ?_; refine run_seq ?_; refine run_region ?_; (iterate 3 refine xep rfl rfl ?_); refine xel rfl (ev_fieldAddr rfl rfl (fo rfl)) ?_; refine xel rfl (ev_loadK rfl rfl (sc rfl) (memF (.tail _ (.head _))) rfl) ?_)
    rename_i b5
    have hdel := fun F => sp_delEnt F _ _ _ _ _ own2 (rows_cells ec_cells _) 0 1 (by omega) (by omega)
    refine runL_call (caps := []) [blk b5 (wq e.o (e.o.qty - n)).cells 35, blk b [.int .i64 p, .slice (some ⟨b2, 0, none⟩) (l.length + 1) cap] 121] _ rfl rfl rfl rfl rfl rfl rfl (pf rfl) ?_ (by rw [List.append_nil]; exact hdel _) ?_
    · intro x
      show cnt x [blk b5 (wq e.o (e.o.qty - n)).cells 35, blk b [.int .i64 p, .slice (some ⟨b2, 0, none⟩) (l.length + 1) cap] 121, blk b2 (ec ⟨wq e.o (e.o.qty - n), e.seen - n⟩ ++ T) 118] = _
      (first | rfl | (simp only [List.append_eq, cnt_append, cnt_cons, cnt_nil, blk]; omega) | (simp only [List.append_eq, cnt_append, cnt_cons, cnt_nil, blk]; done))
    rintro v A' own3
    have e3 : (rows ec (⟨wq e.o (e.o.qty - n), e.seen - n⟩ :: l)).take (0 * 10) ++ (rows ec (⟨wq e.o (e.o.qty - n), e.seen - n⟩ :: l)).drop (1 * 10) = rows ec l := rfl
    rw [e3, show l.length + 1 - (1 - 0) = l.length by omega] at own3
    obtain ⟨a6, c6, rfl, own4⟩ := own3.at
    refine RunL.perm (h' := blk b [.int .i64 p, .slice (some ⟨b2, 0, none⟩) (l.length + 1) cap] 121 :: blk b5 (wq e.o (e.o.qty - n)).cells 35 :: A') (fun y => by (first | rfl | (simp only [List.append_eq, cnt_append, cnt_cons, cnt_nil, blk]; omega) | (simp only [List.append_eq, cnt_append, cnt_cons, cnt_nil, blk]; done))) ?_
    (refine xep rfl rfl ?_; refine xel rfl (ev_fieldAddr rfl rfl (fo rfl)) ?_; refine runL_store0 rfl rfl rfl rfl rfl (sz rfl) rfl rfl rfl rfl rfl ?_; refine runL_nil ?_; refine then_normal ?_; refine run_seq ?_; refine run_region ?_; refine xel rfl (ev_fieldAddr rfl rfl (fo rfl)) ?_; refine xel rfl (ev_loadK rfl rfl (sc rfl) (memF (.tail _ (.head _))) rfl) ?_; refine xep rfl rfl ?_; refine runL_nil ?_; refine then_normal ?_)
    (refine run_cond rfl (fun hc => ?_) (fun hc => ?_) <;> (try simp only [z0, z1, z2, z3, z4, z5, z6, z7, z8, z9, Bool.not_true, Bool.not_false, Bool.false_or, Bool.true_and, true_and, and_true, false_or, or_false, reduceCtorEq, Bool.false_eq_true] at hc))
    · have hq : 0 < e.o.qty - n := hc
      have e9 : giveE e l n = l ++ [⟨wq e.o (e.o.qty - n), tip (wq e.o (e.o.qty - n))⟩] := by
        unfold giveE; rw [if_neg (by omega), if_pos hq]
      rw [e9]
      (refine run_region ?_; refine xep rfl rfl ?_; refine xel rfl (ev_loadAK rfl rfl (ag rfl) (sz rfl) (memF (.tail _ (.head _))) rfl) ?_)
      refine runL_call (caps := []) [blk b5 (wq e.o (e.o.qty - n)).cells 35] _ rfl rfl rfl rfl rfl rfl rfl (pf rfl) (fun y => ?_) (by rw [List.append_nil]; exact sp_ladd _ _ b p l ⟨a6, c6, A', own4, rfl⟩ (by omega) (wq e.o (e.o.qty - n))) ?_
      · (first | rfl | (simp only [List.append_eq, cnt_append, cnt_cons, cnt_nil, blk]; omega) | (simp only [List.append_eq, cnt_append, cnt_cons, cnt_nil, blk]; done))
      rintro v h1 hh
      (refine runL_nil ?_)
      exact ⟨_, rfl, h1, [blk b5 (wq e.o (e.o.qty - n)).cells 35], hh, fun y => rfl⟩
    · have hq : ¬ 0 < e.o.qty - n := by have h9 : ¬ 0 < (wq e.o (e.o.qty - n)).qty := by omega
                                        exact h9
      have e9 : giveE e l n = l := by
        unfold giveE; rw [if_neg (by omega), if_neg hq]
      rw [e9]
      (refine run_skip ?_)
      exact ⟨_, rfl, _, [blk b5 (wq e.o (e.o.qty - n)).cells 35], ⟨a6, c6, A', own4, rfl⟩, fun y => by (first | rfl | (simp only [List.append_eq, cnt_append, cnt_cons, cnt_nil, blk]; omega) | (simp only [List.append_eq, cnt_append, cnt_cons, cnt_nil, blk]; done))⟩
end Go.Proofs.YtmelpobcpcmdoaaGreat

set_option autoImplicit false
set_option linter.unusedSectionVars false
set_option linter.unusedSimpArgs false
set_option linter.unusedVariables false
namespace Go.Proofs.YtmelpobcpcmdoaaGreat
open Go Go.SL Go.Proofs
/-- A hit: the maker, and how much. -/
def hcell (h : Ord × Int) : List Value := [.int .i64 h.1.trader, .int .i64 h.1.id, .int .i64 h.1.firm, .int .i64 h.1.side, .int .i64 h.1.kind, .int .i64 h.1.price, .int .i64 h.1.qty, .int .i64 h.1.show_, .int .i64 h.1.stop, .int .i64 h.2]
theorem hcell_len (h : Ord × Int) : (hcell h).length = 10 := rfl
def take (firm q : Int) (es : List Ent) : List (Ord × Int) × Bool × List Ent :=
  if h : 0 < q then
    match es with
    | [] => ([], false, [])
    | e :: l =>
      if e.o.firm = firm then ([], true, e :: l)
      else if hn : 0 < min q e.seen then
        ((e.o, min q e.seen) :: (take firm (q - min q e.seen) (giveE e l (min q e.seen))).1, (take firm (q - min q e.seen) (giveE e l (min q e.seen))).2)
      else ([], false, e :: l)
  else ([], false, es)
termination_by q.toNat
theorem take_le {firm q : Int} {es : List Ent} (h : q ≤ 0) : take firm q es = ([], false, es) := by
  rw [take.eq_def, dif_neg (by omega)]
theorem take_nil {firm q : Int} : take firm q [] = ([], false, []) := by
  rw [take.eq_def]; split <;> rfl
theorem take_own {firm q : Int} {e : Ent} {l : List Ent} (h : 0 < q) (hf : e.o.firm = firm) : take firm q (e :: l) = ([], true, e :: l) := by
  rw [take.eq_def, dif_pos h]; dsimp only; rw [if_pos hf]
theorem take_cons {firm q : Int} {e : Ent} {l : List Ent} (h : 0 < q) (hf : e.o.firm ≠ firm) (hs : 1 ≤ e.seen) :
    take firm q (e :: l) = ((e.o, min q e.seen) :: (take firm (q - min q e.seen) (giveE e l (min q e.seen))).1, (take firm (q - min q e.seen) (giveE e l (min q e.seen))).2) := by
  conv => lhs; rw [take.eq_def, dif_pos h]
  dsimp only
  rw [if_neg hf, dif_pos (by omega)]
variable [Base]
theorem giveE_sum {e : Ent} {l : List Ent} {n : Int} (hs : e.seen ≤ e.o.qty) (h1 : n ≤ e.seen) : sumE (fun x => x.o.qty) (giveE e l n) = e.o.qty - n + sumE (fun x => x.o.qty) l := by
  unfold giveE
  split
  · rfl
  · split
    · rw [sumE_append]
      show _ + (e.o.qty - n + 0) = _; omega
    · omega
set_option maxRecDepth 4000 in
set_option maxHeartbeats 1000000 in
theorem sp_ltakeW (F : Heap) (H : Heap) (b : Nat) (p : Int) (es : List Ent) (hH : LvH b p es H) (hb : LB es) (firm q : Int) (hq : InI q) (hq2 : min q (sumE (fun x => x.o.qty) es) ≤ 1048576) :
    Sp Tryz.prog F 93 [.pointer (some ⟨b, 0, none⟩), .int .i64 firm, .int .i64 q] H (fun v h' => ∃ a cap A H', v = .tuple #[.slice a (take firm q es).1.length cap, .bool (take firm q es).2.1] ∧
      OwnS 84 10 (.slice a (take firm q es).1.length cap) (take firm q es).1.length (rows hcell (take firm q es).1) A ∧ LvH b p (take firm q es).2.2 H' ∧ h' = H' ++ A) := by
  obtain ⟨a0, cap0, A0', own0, rfl⟩ := hH
  refine Sp.up ?_
  refine sp_of_code Tryz.func93 rfl rfl ?_
  (refine run_seq ?_; refine run_region ?_; (iterate 2 refine xep rfl rfl ?_); refine runL_nil ?_; refine then_normal ?_; refine run_seq ?_; refine run_region ?_; refine xep rfl rfl ?_; refine runL_nil ?_; refine then_normal ?_; refine run_seq ?_; refine run_block ?_)
  refine run_loopK (σ := Int × List Ent × List (Ord × Int) × (Option Addr × Nat × Heap) × (Option Addr × Nat × Heap)) [0, 1, 2, 8]
    (fun s => [(0, .pointer (some ⟨b, 0, none⟩)), (1, .int .i64 firm), (2, .int .i64 s.1), (8, .slice s.2.2.2.2.1 s.2.2.1.length s.2.2.2.2.2.1)])
    (fun s => blk b [.int .i64 p, .slice s.2.2.2.1.1 s.2.1.length s.2.2.2.1.2.1] 121 :: (s.2.2.2.1.2.2 ++ s.2.2.2.2.2.2))
    (fun s => s.1 ≤ 9223372036854775807 ∧ -9223372036854775808 ≤ s.1 ∧ (s.2.2.1.length : Int) + min s.1 (sumE (fun x => x.o.qty) s.2.1) ≤ 1048576 ∧ LB s.2.1 ∧ OwnS 118 10 (.slice s.2.2.2.1.1 s.2.1.length s.2.2.2.1.2.1) s.2.1.length (rows ec s.2.1) s.2.2.2.1.2.2
      ∧ OwnS 84 10 (.slice s.2.2.2.2.1 s.2.2.1.length s.2.2.2.2.2.1) s.2.2.1.length (rows hcell s.2.2.1) s.2.2.2.2.2.2
      ∧ take firm q es = (s.2.2.1 ++ (take firm s.1 s.2.1).1, (take firm s.1 s.2.1).2)) (fun s => s.1.toNat) (q, es, [], (a0, cap0, A0'), (none, 0, []))
    ⟨hq.2, hq.1, by show ((0 : Nat) : Int) + min q (sumE (fun x => x.o.qty) es) ≤ _; omega, hb, own0, .nil _ _, rfl⟩ rfl (fun x => by show cnt x (_ :: A0') = cnt x (_ :: (A0' ++ [])); rw [List.append_nil]) ?_
  rintro ⟨q1, es1, out, ⟨a, cap, A⟩, ⟨ao, co, O⟩⟩ ⟨g1, g2, g3, hb1, own, owno, htk⟩
  dsimp only at g1 g2 g3 hb1 own owno htk ⊢
  ((iterate 2 refine run_seq ?_); refine run_region ?_; (iterate 3 refine xep rfl rfl ?_); (iterate 2 refine xgp rfl rfl rfl ?_); refine xgl rfl rfl (fun hq => ev_fieldAddr rfl rfl (fo rfl)) ?_; refine xgl rfl rfl (fun hq => ev_loadK rfl rfl (sc rfl) (memF (.head _)) rfl) ?_; refine xgl rfl rfl (fun hq => ev_len rfl rfl (se rfl)) ?_; refine xgp rfl rfl rfl ?_; refine xep rfl rfl ?_; refine runL_nil ?_; refine then_normal ?_)
  (refine run_cond rfl (fun hc => ?_) (fun hc => ?_) <;> (try simp only [z0, z1, z2, z3, z4, z5, z6, z7, z8, z9, Bool.not_true, Bool.not_false, Bool.false_or, Bool.true_and, true_and, and_true, false_or, or_false, reduceCtorEq, Bool.false_eq_true] at hc))
  · have hq0 := hc.1
    match es1, hc.2 with
    | e :: l, _ =>
    obtain ⟨b2, rest, cap', hv, rfl, hl2, hr2, hk2⟩ := own.pos (by simp)
    cases hv
    have he := hb1.2 e (by simp)
    have hsl := sumE_in (g := fun x => x.o.qty) (l := l) fun x m => by have := hb1.2 x (List.mem_cons_of_mem _ m); omega
    have hse : sumE (fun x => x.o.qty) (e :: l) = e.o.qty + sumE (fun x => x.o.qty) l := rfl
    have hgs := giveE_sum (e := e) (l := l) (n := min q1 e.seen) (by omega) (by omega)
    rw [hse] at g3
    rw [List.length_cons] at *
    have hrw : rows ec (e :: l) ++ rest = ec e ++ (rows ec l ++ rest) := List.append_assoc ..
    (refine run_skip ?_; refine then_normal ?_; refine run_block ?_; refine run_seq ?_; refine run_region ?_; (iterate 2 refine xep rfl rfl ?_); refine xel rfl (ev_fieldAddr rfl rfl (fo rfl)) ?_; refine xel rfl (ev_loadK rfl rfl (sc rfl) (memF (.head _)) rfl) ?_; refine xel rfl (ev_indexAddr rfl rfl rfl (se rfl) (by omega) (by omega)) ?_; refine xel rfl (ev_loadAK rfl rfl (ag rfl) (sz rfl) (memF (.tail _ (.head _))) rfl) ?_; refine runL_alloc rfl rfl rfl rfl rfl ze84 (fun _ => ?_); refine runL_store0 rfl rfl rfl rfl rfl (sz rfl) rfl rfl rfl rfl rfl ?_; refine runL_nil ?_; refine then_normal ?_; (iterate 2 refine run_seq ?_); refine run_region ?_; (iterate 2 refine xel rfl (ev_fieldAddr rfl rfl (fo rfl)) ?_); refine xel rfl (ev_loadK rfl rfl (sc rfl) (memF (.head _)) rfl) ?_; (iterate 2 refine xep rfl rfl ?_); refine runL_nil ?_; refine then_normal ?_)
    rename_i b9
    (refine run_cond rfl (fun hc => ?_) (fun hc => ?_) <;> (try simp only [z0, z1, z2, z3, z4, z5, z6, z7, z8, z9, Bool.not_true, Bool.not_false, Bool.false_or, Bool.true_and, true_and, and_true, false_or, or_false, reduceCtorEq, Bool.false_eq_true] at hc))
    · (refine run_seq ?_; refine run_region ?_; (iterate 3 refine xep rfl rfl ?_); refine runL_nil ?_; refine then_normal ?_; refine run_ret ?_; refine then_ret ?_; refine in_ret ?_; refine then_ret ?_; refine in_ret ?_; refine then_ret ?_)
      rw [take_own hq0 hc] at htk
      rw [htk]
      refine ⟨_, rfl, _, [blk b9 (ec e) 118], ⟨ao, co, O, blk b [.int .i64 p, .slice (some ⟨b2, 0, none⟩) (l.length + 1) cap] 121 :: [blk b2 (rows ec (e :: l) ++ rest) 118], ?_, ?_, ⟨_, _, _, own, rfl⟩, rfl⟩, fun x => ?_⟩
      · simp only [List.append_nil]; rfl
      · simp only [List.append_nil]; exact owno
      · show cnt x (blk b9 (ec e) 118 :: _) = _
        (first | rfl | (simp only [List.append_eq, cnt_append, cnt_cons, cnt_nil, blk]; omega) | (simp only [List.append_eq, cnt_append, cnt_cons, cnt_nil, blk]; done))
    · have hfirm := hc
      (refine run_skip ?_; refine then_normal ?_; refine run_seq ?_; refine run_region ?_; refine xep rfl rfl ?_; refine xel rfl (ev_fieldAddr rfl rfl (fo rfl)) ?_; refine xel rfl (ev_loadK rfl rfl (sc rfl) (memF (.head _)) rfl) ?_; refine xel rfl (ev_min rfl rfl rfl) ?_; refine xep rfl rfl ?_; refine runL_nil ?_; refine then_normal ?_; refine run_seq ?_; refine run_region ?_; refine xep rfl rfl ?_; refine xel rfl (ev_fieldAddr rfl rfl (fo rfl)) ?_; refine xel rfl (ev_loadAK rfl rfl (ag rfl) (sz rfl) (memF (.head _)) rfl) ?_; refine xep rfl rfl ?_; refine xel rfl (ev_build rfl pl84 rfl) ?_)
      refine runL_buildSlice (l := hcell (e.o, min q1 e.seen)) rfl rfl rfl rfl rfl (se rfl) ze84 rfl rfl rfl rfl rfl (fun b10 => ?_)
      skip
      refine runL_append (sl := hcell (e.o, min q1 e.seen)) [blk b10 (hcell (e.o, min q1 e.seen)) 84, blk b9 (ec e) 118, blk b [.int .i64 p, .slice (some ⟨b2, 0, none⟩) (l.length + 1) cap] 121, blk b2 (rows ec (e :: l) ++ rest) 118] rfl rfl rfl rfl rfl rfl rfl (se rfl) (se rfl) ze84 rfl (byt rfl) owno
        (fun y => by show cnt y (blk b10 (hcell (e.o, min q1 e.seen)) 84 :: blk b9 (ec e) 118 :: _) = _; (first | rfl | (simp only [List.append_eq, cnt_append, cnt_cons, cnt_nil, blk]; omega) | (simp only [List.append_eq, cnt_append, cnt_cons, cnt_nil, blk]; done))) ⟨rfl, .inr ⟨b10, 0, _, _, _, rfl, memF (.head _), by simp [hcell], rfl⟩⟩ rfl (by decide) (by decide) (by omega) ?_
      rintro v' O' own'
      obtain ⟨a5, c5, rfl, own3⟩ := (own'.snoc (f := hcell) (x := (e.o, min q1 e.seen)) rfl).at
      have hgl := giveE_LB (n := min q1 e.seen) hb1 (by omega) (by omega)
      (refine xep rfl rfl ?_; refine runL_nil ?_; refine then_normal ?_; refine run_seq ?_; refine run_region ?_; (iterate 2 refine xep rfl rfl ?_); refine xel rfl (ev_sub rfl rfl rfl (by omega)) ?_; refine xep rfl rfl ?_; refine runL_nil ?_; refine then_normal ?_; refine run_region ?_; (iterate 2 refine xep rfl rfl ?_))
      refine runL_call (caps := []) (O' ++ [blk b10 (hcell (e.o, min q1 e.seen)) 84, blk b9 (ec e) 118]) _ rfl rfl rfl rfl rfl rfl rfl (pf rfl) (fun y => ?_) (by rw [List.append_nil]; exact sp_lgive _ _ b p e l ⟨_, _, _, own, rfl⟩ hb1 (min q1 e.seen) (by omega) (by omega)) ?_
      · show _ = cnt y ((blk b [.int .i64 p, .slice (some ⟨b2, 0, none⟩) (l.length + 1) cap] 121 :: [blk b2 (rows ec (e :: l) ++ rest) 118]) ++ _)
        (first | rfl | (simp only [List.append_eq, cnt_append, cnt_cons, cnt_nil, blk]; omega) | (simp only [List.append_eq, cnt_append, cnt_cons, cnt_nil, blk]; done))
      rintro v h1 ⟨a7, c7, A7, own7, rfl⟩
      (refine runL_nil ?_; refine in_normal ?_; refine then_normal ?_)
      refine ⟨(q1 - min q1 e.seen, giveE e l (min q1 e.seen), out ++ [(e.o, min q1 e.seen)], (a7, c7, A7), (a5, c5, O')), ⟨by show q1 - min q1 e.seen ≤ _; omega, by show _ ≤ q1 - min q1 e.seen; omega, ?_, hgl.1, own7, own3, ?_⟩, ?_, rfl, [blk b10 (hcell (e.o, min q1 e.seen)) 84, blk b9 (ec e) 118], fun x => ?_⟩
      · show (((out ++ [_]).length : Nat) : Int) + min (q1 - min q1 e.seen) (sumE (fun x => x.o.qty) (giveE e l (min q1 e.seen))) ≤ _
        rw [List.length_append, hgs]; show ((_ + 1 : Nat) : Int) + _ ≤ _; omega
      · rw [htk, take_cons hq0 hfirm he.2.2.1]
        dsimp only
        rw [List.append_assoc]; rfl
      · show (q1 - min q1 e.seen).toNat < q1.toNat; omega
      · (first | rfl | (simp only [List.append_eq, cnt_append, cnt_cons, cnt_nil, blk]; omega) | (simp only [List.append_eq, cnt_append, cnt_cons, cnt_nil, blk]; done))
  · (refine run_exit ?_; (iterate 2 refine then_exit ?_); refine in_exit ?_; refine then_normal ?_)
    (refine run_seq ?_; refine run_region ?_; (iterate 3 refine xep rfl rfl ?_); refine runL_nil ?_; refine then_normal ?_; refine run_ret ?_)
    have hend : take firm q1 es1 = ([], false, es1) := by
      rcases hc with h | h
      · exact take_le (by omega)
      · match es1, h with
        | [], _ => exact take_nil
    rw [hend] at htk
    rw [htk]
    refine ⟨_, rfl, _, [], ⟨ao, co, O, _, ?_, ?_, ⟨a, cap, A, own, rfl⟩, rfl⟩, fun x => by rw [List.append_nil]; rfl⟩
    · simp only [List.append_nil]; rfl
    · simp only [List.append_nil]; exact owno
theorem sp_ltake (F : Heap) (H : Heap) (b : Nat) (p : Int) (es : List Ent) (hH : LvH b p es H) (hb : LB es) (firm q : Int) (hq : InI q) (hq2 : q ≤ 1048576) :
    Sp Tryz.prog F 93 [.pointer (some ⟨b, 0, none⟩), .int .i64 firm, .int .i64 q] H (fun v h' => ∃ a cap A H', v = .tuple #[.slice a (take firm q es).1.length cap, .bool (take firm q es).2.1] ∧
      OwnS 84 10 (.slice a (take firm q es).1.length cap) (take firm q es).1.length (rows hcell (take firm q es).1) A ∧ LvH b p (take firm q es).2.2 H' ∧ h' = H' ++ A) :=
  sp_ltakeW F H b p es hH hb firm q hq (by omega)
end Go.Proofs.YtmelpobcpcmdoaaGreat

set_option autoImplicit false
set_option linter.unusedSectionVars false
set_option linter.unusedSimpArgs false
set_option linter.unusedVariables false
set_option maxRecDepth 4000
namespace Go.Proofs.YtmelpobcpcmdoaaGreat
open Go Go.SL Go.Proofs
def o0 : Ord := ⟨0, 0, 0, 0, 0, 0, 0, 0, 0⟩
/-- What a removal tells, and leaves. -/
def lrem (t i : Int) (es : List Ent) : Ord × Bool × List Ent := match es.findIdx? (isIt t i) with
  | none => (o0, false, es)
  | some k => match es[k]? with
    | none => (o0, false, es)
    | some x => (x.o, true, es.take k ++ es.drop (k + 1))
variable [Base]
theorem lrem_none {t i : Int} {es : List Ent} (h : ∀ x ∈ es, isIt t i x = false) : lrem t i es = (o0, false, es) := by
  unfold lrem; rw [List.findIdx?_eq_none_iff.2 h]
theorem lrem_some {t i : Int} {es : List Ent} {k : Nat} {x : Ent} (hx : es[k]? = some x) (hp : isIt t i x = true) (hn : ∀ j y, j < k → es[j]? = some y → isIt t i y = false) : lrem t i es = (x.o, true, es.take k ++ es.drop (k + 1)) := by
  have hlt := (List.getElem?_eq_some_iff.1 hx).1
  have hx2 := (List.getElem?_eq_some_iff.1 hx).2
  have : es.findIdx? (isIt t i) = some k := by
    rw [List.findIdx?_eq_some_iff_getElem]
    refine ⟨hlt, by rw [hx2]; exact hp, fun j hj => ?_⟩
    have := hn j _ hj (List.getElem?_eq_getElem (by omega))
    rw [this]; simp
  unfold lrem; rw [this]; simp only [hx]
set_option maxHeartbeats 1000000 in
theorem sp_lremove (F : Heap) (H : Heap) (b : Nat) (p : Int) (es : List Ent) (hH : LvH b p es H) (hb : es.length ≤ 65536) (t i : Int) :
    Sp Tryz.prog F 85 [.pointer (some ⟨b, 0, none⟩), .int .i64 t, .int .i64 i] H (fun v h' => v = .tuple #[ov (lrem t i es).1, .bool (lrem t i es).2.1] ∧ LvH b p (lrem t i es).2.2 h') := by
  have hin := fun G : Heap => hH.in (F := H ++ G) fun x m => List.mem_append_left _ m
  obtain ⟨a, cap, A, own, rfl⟩ := hH
  refine Sp.up ?_
  refine sp_of_codeR Tryz.func85 rfl rfl ?_
  (refine run_seq ?_; refine run_region ?_; refine runL_alloc rfl rfl rfl rfl rfl ze35 (fun _ => ?_); refine xep rfl rfl ?_; refine runL_nil ?_; refine then_normal ?_; refine run_seq ?_; refine run_region ?_; (iterate 3 refine xep rfl rfl ?_))
  rename_i b6
  refine runL_ev rfl rfl rfl rfl (ev_callQ rfl rfl rfl (pf rfl) (sp_lfind _ b p es ((hin F).mono fun x m => List.mem_cons_of_mem _ m) hb t i)) ?_
  (refine xep rfl rfl ?_; refine runL_nil ?_; refine then_normal ?_; (iterate 2 refine run_seq ?_); refine run_region ?_; (iterate 2 refine xep rfl rfl ?_); refine runL_nil ?_; refine then_normal ?_)
  rcases idxI_cases (isIt t i) es with ⟨hk, hno⟩ | ⟨k, x, hk, hx, hp, hn⟩
  · rw [hk, lrem_none hno]
    refine run_condT rfl rfl ?_
    (refine run_seq ?_; refine run_region ?_; refine xel rfl (ev_build rfl pl35 rfl) ?_; refine runL_store0 rfl rfl rfl rfl rfl (sz rfl) rfl rfl rfl rfl rfl ?_; refine xep rfl rfl ?_; refine runL_nil ?_; refine then_normal ?_; refine run_ret ?_; refine then_ret ?_)
    exact ⟨_, .agg rfl (memF (.head _)) (ag rfl) (sz rfl) rfl (.tmp rfl .nil), blk b [.int .i64 p, .slice a es.length cap] 121 :: A, [blk b6 o0.cells 35], ⟨rfl, a, cap, A, own, rfl⟩, fun y => by show cnt y (blk b6 o0.cells 35 :: _) = _; (first | rfl | (simp only [List.append_eq, cnt_append, cnt_cons, cnt_nil, blk]; omega) | (simp only [List.append_eq, cnt_append, cnt_cons, cnt_nil, blk]; done))⟩
  · rw [hk, lrem_some hx hp hn]
    have hlt := (List.getElem?_eq_some_iff.1 hx).1
    obtain ⟨b2, rest, cap', hv, rfl, hl2, hr2, hk2⟩ := own.pos (by omega)
    cases hv
    refine run_condF rfl (decide_eq_false (by omega)) ?_
    have r1 : RowAt (rows ec es ++ rest) (0 + (k : Int).toNat * 10) (ec x) := by
      rw [Nat.zero_add]; exact rows_at ec_len hx rest
    (refine run_skip ?_; refine then_normal ?_; refine run_seq ?_; refine run_region ?_; (iterate 2 refine xep rfl rfl ?_); refine xel rfl (ev_fieldAddr rfl rfl (fo rfl)) ?_; refine xel rfl (ev_loadK rfl rfl (sc rfl) (memF (.tail _ (.head _))) rfl) ?_; refine xep rfl rfl ?_; refine xel rfl (ev_indexAddr rfl rfl rfl (se rfl) (by omega) (by omega)) ?_; refine xel rfl (ev_fieldAddr rfl rfl (fo rfl)) ?_; refine xel rfl (ev_loadAR1 rfl rfl (ag rfl) (sz rfl) (memF (.tail _ (.tail _ (.head _)))) r1 rfl) ?_; refine runL_alloc rfl rfl rfl rfl rfl ze35 (fun _ => ?_); refine runL_store0 rfl rfl rfl rfl rfl (sz rfl) rfl rfl rfl rfl rfl ?_; refine runL_nil ?_; refine then_normal ?_; refine run_seq ?_; refine run_region ?_; (iterate 3 refine xep rfl rfl ?_); refine xel rfl (ev_fieldAddr rfl rfl (fo rfl)) ?_; refine xel rfl (ev_loadK rfl rfl (sc rfl) (memF (.tail _ (.tail _ (.head _)))) rfl) ?_; (iterate 2 refine xep rfl rfl ?_); refine xel rfl (ev_add rfl rfl rfl (by omega)) ?_)
    rename_i b9
    refine runL_callZ [blk b9 x.o.cells 35, blk b6 o0.cells 35, blk b [.int .i64 p, .slice (some ⟨b2, 0, none⟩) es.length cap] 121] [blk b2 (rows ec es ++ rest) 118] rfl rfl rfl rfl rfl rfl rfl (pf rfl) (fun y => rfl) (sp_delEnt _ _ _ _ _ _ own (rows_cells ec_cells _) k (k + 1) (by omega) (by omega)) ?_
    rintro v A' own'
    rw [rows_take ec_len es (by omega), rows_drop ec_len es (by omega), ← rows_append] at own'
    have hlen : es.length - (k + 1 - k) = (es.take k ++ es.drop (k + 1)).length := by
      rw [List.length_append, List.length_take, List.length_drop]; omega
    rw [hlen] at own'
    obtain ⟨a5, c5, rfl, own5⟩ := own'.at
    generalize es.take k ++ es.drop (k + 1) = es2 at *
    (refine xep rfl rfl ?_; refine xel rfl (ev_fieldAddr rfl rfl (fo rfl)) ?_; refine runL_store2 rfl rfl rfl rfl rfl (sz rfl) rfl rfl rfl rfl rfl ?_; refine runL_nil ?_; refine then_normal ?_; refine run_seq ?_; refine run_region ?_; refine xel rfl (ev_loadAK rfl rfl (ag rfl) (sz rfl) (memF (.head _)) rfl) ?_; refine runL_store1 rfl rfl rfl rfl rfl (sz rfl) rfl rfl rfl rfl rfl ?_; refine xep rfl rfl ?_; refine runL_nil ?_; refine then_normal ?_; refine run_ret ?_)
    exact ⟨_, .agg rfl (memF (.tail _ (.head _))) (ag rfl) (sz rfl) rfl (.tmp rfl .nil), blk b [.int .i64 p, .slice a5 es2.length c5] 121 :: A', [blk b9 x.o.cells 35, blk b6 x.o.cells 35], ⟨rfl, a5, c5, A', own5, rfl⟩, fun y => by show cnt y (blk b9 x.o.cells 35 :: blk b6 x.o.cells 35 :: blk b [.int .i64 p, .slice a5 es2.length c5] 121 :: A') = _; (first | rfl | (simp only [List.append_eq, cnt_append, cnt_cons, cnt_nil, blk]; omega) | (simp only [List.append_eq, cnt_append, cnt_cons, cnt_nil, blk]; done))⟩
end Go.Proofs.YtmelpobcpcmdoaaGreat

set_option autoImplicit false
set_option linter.unusedSectionVars false
set_option linter.unusedSimpArgs false
set_option linter.unusedVariables false
namespace Go.Proofs.YtmelpobcpcmdoaaGreat
open Go Go.SL Go.Proofs
variable [Base]
def lless (t i q : Int) (es : List Ent) : Bool × List Ent := match es.findIdx? (isIt t i) with
  | none => (false, es)
  | some k => match es[k]? with
    | none => (false, es)
    | some x => if q < 1 ∨ x.o.qty < q then (false, es) else (true, es.set k ⟨wq x.o q, min x.seen q⟩)
theorem lless_none {t i q : Int} {es : List Ent} (h : ∀ x ∈ es, isIt t i x = false) : lless t i q es = (false, es) := by
  unfold lless; rw [List.findIdx?_eq_none_iff.2 h]
theorem lless_some {t i q : Int} {es : List Ent} {k : Nat} {x : Ent} (hx : es[k]? = some x) (hp : isIt t i x = true) (hn : ∀ j y, j < k → es[j]? = some y → isIt t i y = false) :
    lless t i q es = if q < 1 ∨ x.o.qty < q then (false, es) else (true, es.set k ⟨wq x.o q, min x.seen q⟩) := by
  have hlt := (List.getElem?_eq_some_iff.1 hx).1
  have hx2 := (List.getElem?_eq_some_iff.1 hx).2
  have : es.findIdx? (isIt t i) = some k := by
    rw [List.findIdx?_eq_some_iff_getElem]
    refine ⟨hlt, by rw [hx2]; exact hp, fun j hj => ?_⟩
    have := hn j _ hj (List.getElem?_eq_getElem (by omega))
    rw [this]; simp
  unfold lless; rw [this]; simp only [hx]
set_option maxHeartbeats 1000000 in
theorem sp_lless (F : Heap) (H : Heap) (b : Nat) (p : Int) (es : List Ent) (hH : LvH b p es H) (hb : es.length ≤ 65536) (t i q : Int) :
    Sp Tryz.prog F 66 [.pointer (some ⟨b, 0, none⟩), .int .i64 t, .int .i64 i, .int .i64 q] H (fun v h' => v = .bool (lless t i q es).1 ∧ LvH b p (lless t i q es).2 h') := by
  have hin := fun G : Heap => hH.in (F := H ++ G) fun x m => List.mem_append_left _ m
  obtain ⟨a, cap, A, own, rfl⟩ := hH
  refine sp_of_code Tryz.func66 rfl rfl ?_
  (refine run_seq ?_; refine run_region ?_; refine xep rfl rfl ?_; refine runL_nil ?_; refine then_normal ?_; refine run_seq ?_; refine run_region ?_; (iterate 3 refine xep rfl rfl ?_))
  refine runL_ev rfl rfl rfl rfl (ev_callQ rfl rfl rfl (pf rfl) (sp_lfind _ b p es (hin F) hb t i)) ?_
  (refine xep rfl rfl ?_; refine runL_nil ?_; refine then_normal ?_; (iterate 2 refine run_seq ?_); refine run_region ?_; (iterate 3 refine xep rfl rfl ?_); (iterate 2 refine xgp rfl rfl rfl ?_); (iterate 2 refine xep rfl rfl ?_); (iterate 3 refine xgp rfl rfl rfl ?_); refine xgl rfl rfl (fun hq => ev_fieldAddr rfl rfl (fo rfl)) ?_; refine xgl rfl rfl (fun hq => ev_loadK rfl rfl (sc rfl) (memF (.head _)) rfl) ?_; refine xgp rfl rfl rfl ?_)
  rcases idxI_cases (isIt t i) es with ⟨hk, hno⟩ | ⟨k, x, hk, hx, hp, hn⟩
  · rw [hk, lless_none hno]
    have hgd : true = true := rfl
    ((iterate 5 refine runL_no rfl rfl rfl rfl hgd rfl rfl ?_); refine xel rfl (ev_pickT rfl rfl hgd rfl) ?_; refine runL_nil ?_; refine then_normal ?_)
    refine run_condT rfl rfl ?_
    (refine run_seq ?_; refine run_region ?_; refine xep rfl rfl ?_; refine runL_nil ?_; refine then_normal ?_; refine run_ret ?_; refine then_ret ?_)
    exact ⟨_, rfl, rfl, a, cap, A, own, rfl⟩
  · rw [hk, lless_some hx hp hn]
    have hlt := (List.getElem?_eq_some_iff.1 hx).1
    obtain ⟨b2, rest, cap', hv, rfl, hl2, hr2, hk2⟩ := own.pos (by omega)
    cases hv
    have r1 : RowAt (rows ec es ++ rest) (0 + (k : Int).toNat * 10) (ec x) := by
      rw [Nat.zero_add]; exact rows_at ec_len hx rest
    have y1 : decide ((k : Int) < 0) = false := decide_eq_false (by omega)
    (refine xgl rfl rfl (fun hq => ev_indexAddr rfl rfl rfl (se rfl) (by (try simp only [z0, z1, z2, z3, z4, z5, z6, z7, z8, z9, Bool.not_true, Bool.not_false, Bool.false_or, Bool.true_and, true_and, and_true, false_or, or_false, reduceCtorEq, Bool.false_eq_true] at hq); omega) (by (try simp only [z0, z1, z2, z3, z4, z5, z6, z7, z8, z9, Bool.not_true, Bool.not_false, Bool.false_or, Bool.true_and, true_and, and_true, false_or, or_false, reduceCtorEq, Bool.false_eq_true] at hq); omega)) ?_; (iterate 2 refine xgl rfl rfl (fun hq => ev_fieldAddr rfl rfl (fo rfl)) ?_); refine xgl rfl rfl (fun hq => ev_loadR1 rfl rfl (sc rfl) (memF (.tail _ (.head _))) r1 rfl) ?_; refine xgp rfl rfl rfl ?_; refine xep rfl rfl ?_; refine runL_nil ?_; refine then_normal ?_)
    by_cases hc : q < 1 ∨ x.o.qty < q
    · rw [if_pos hc]
      refine run_condT rfl (by rw [y1]; rcases hc with h | h <;> simp [h]) ?_
      (refine run_seq ?_; refine run_region ?_; refine xep rfl rfl ?_; refine runL_nil ?_; refine then_normal ?_; refine run_ret ?_; refine then_ret ?_)
      exact ⟨_, rfl, rfl, _, cap, _, own, rfl⟩
    · rw [if_neg hc]
      refine run_condF rfl (by rw [y1, decide_eq_false (by omega : ¬ q < 1), decide_eq_false (by omega : ¬ x.o.qty < q)]; rfl) ?_
      have hlen : (rows ec es ++ rest).length = cap * 10 := by rw [List.length_append, hl2]; exact hr2
      (refine run_skip ?_; refine then_normal ?_; refine run_seq ?_; refine run_region ?_; (iterate 2 refine xep rfl rfl ?_); refine xel rfl (ev_fieldAddr rfl rfl (fo rfl)) ?_; refine xel rfl (ev_loadK rfl rfl (sc rfl) (memF (.head _)) rfl) ?_; refine xep rfl rfl ?_; refine xel rfl (ev_indexAddr rfl rfl rfl (se rfl) (by omega) (by omega)) ?_; refine xep rfl rfl ?_; refine runL_nil ?_; refine then_normal ?_; refine run_seq ?_; refine run_region ?_; (iterate 5 refine xep rfl rfl ?_); refine xel rfl (ev_fieldAddr rfl rfl (fo rfl)) ?_; refine xel rfl (ev_loadR1 rfl rfl (sc rfl) (memF (.tail _ (.head _))) r1 rfl) ?_; refine xep rfl rfl ?_; refine xel rfl (ev_min rfl rfl rfl) ?_; refine xep rfl rfl ?_; (iterate 2 refine xel rfl (ev_fieldAddr rfl rfl (fo rfl)) ?_))
      refine runL_set [blk b [.int .i64 p, .slice (some ⟨b2, 0, none⟩) es.length cap] 121] [] rfl rfl rfl rfl rfl (sz rfl) rfl (by rw [hlen]; show 0 + (k : Int).toNat * 10 + 0 + 6 < _; rw [Int.toNat_natCast]; omega) rfl ?_
      rw [show 0 + (k : Int).toNat * 10 + 0 + 6 = k * 10 + 6 by rw [Int.toNat_natCast]; omega, rows_set ec_len hx (y := ⟨wq x.o q, x.seen⟩) (by omega) rfl]
      have hx3 : (es.set k ⟨wq x.o q, x.seen⟩)[k]? = some ⟨wq x.o q, x.seen⟩ := List.getElem?_set_self hlt
      have hlen2 : (rows ec (es.set k ⟨wq x.o q, x.seen⟩) ++ rest).length = cap * 10 := by rw [List.length_append, rows_len ec_len, List.length_set]; omega
      (refine xep rfl rfl ?_; refine xel rfl (ev_fieldAddr rfl rfl (fo rfl)) ?_)
      refine runL_set [blk b [.int .i64 p, .slice (some ⟨b2, 0, none⟩) es.length cap] 121] [] rfl rfl rfl rfl rfl (sz rfl) rfl (by rw [hlen2]; show 0 + (k : Int).toNat * 10 + 9 < _; rw [Int.toNat_natCast]; omega) rfl ?_
      rw [show 0 + (k : Int).toNat * 10 + 9 = k * 10 + 9 by rw [Int.toNat_natCast]; omega, rows_set ec_len hx3 (y := ⟨wq x.o q, min x.seen q⟩) (by omega) rfl, List.set_set]
      (refine runL_nil ?_; refine then_normal ?_; refine run_seq ?_; refine run_region ?_; refine xep rfl rfl ?_; refine runL_nil ?_; refine then_normal ?_; refine run_ret ?_)
      refine ⟨_, rfl, rfl, some ⟨b2, 0, none⟩, cap, [blk b2 (rows ec (es.set k ⟨wq x.o q, min x.seen q⟩) ++ rest) 118], .inr ⟨b2, rest, cap, rfl, rfl, ?_, ?_, ?_⟩, ?_⟩
      · rw [rows_len ec_len]
      · rw [List.length_set]; exact hr2
      · rw [List.length_set]; exact hk2
      · rw [List.length_set]; rfl
end Go.Proofs.YtmelpobcpcmdoaaGreat
