/- Contracts of functions of the given program over its translation, each proved by walking its text; used by the laws' rows. It proves no given statement by itself. -/
import Derived.Test.YtfhpoagnfmgfkaaSLLvl2
set_option autoImplicit false
set_option linter.unusedSectionVars false
set_option linter.unusedSimpArgs false
set_option linter.unusedVariables false
namespace Go.Proofs.Ytfhpoagnfmgfkaa
open Go Go.SL Go.Proofs
variable [Base]
theorem sp_ladd (F : Heap) (H : Heap) (b : Nat) (p : Int) (es : List Ent) (hH : LvH b p es H) (hb : es.length ≤ 65535) (o : Ord) :
    Sp Try.prog F 81 [.pointer (some ⟨b, 0, none⟩), ov o] H (fun v h' => LvH b p (es ++ [⟨o, tip o⟩]) h') := by
  obtain ⟨a, cap, A, own, rfl⟩ := hH
  have q1 := fun F => sp_tip F o
  refine Sp.up ?_
  refine sp_of_code Try.func81 rfl rfl ?_
  (refine run_seq ?_; refine run_region ?_; refine runL_box rfl rfl rfl rfl rfl rfl (fun _ => ?_); refine runL_nil ?_; refine then_normal ?_)
  rename_i b3
  refine RunC.perm (h' := (blk b [.int .i64 p, .slice a es.length cap] 96 :: A) ++ [blk b3 o.cells 24]) (fun x => by show cnt x (blk b3 o.cells 24 :: blk b [.int .i64 p, .slice a es.length cap] 96 :: A) = _; (first | rfl | (simp only [List.append_eq, cnt_append, cnt_cons, cnt_nil, blk]; omega) | (simp only [List.append_eq, cnt_append, cnt_cons, cnt_nil, blk]; done))) ?_
  refine RunC.freezeR ?_
  refine run_region_D mo ?_
  (refine runD_q 0 rfl rfl (by kernel_rfl) ?_; refine ⟨_, fun _ => ev_pure rfl, ?_⟩; refine runD_q 1 rfl rfl (by kernel_rfl) ?_; refine ⟨_, fun _ => ev_pure rfl, ?_⟩; refine runD_q 2 rfl rfl (by kernel_rfl) ?_; refine ⟨_, fun _ => ev_pure rfl, ?_⟩; refine runD_q 3 rfl rfl (by kernel_rfl) ?_; refine ⟨_, fun _ => ev_fieldAddr rfl rfl (fo rfl), ?_⟩; refine runD_q 5 rfl rfl (by kernel_rfl) ?_; refine ⟨_, fun _ => ev_loadAK rfl rfl (ag rfl) (sz rfl) (memR (memF (.head _))) rfl, ?_⟩; refine runD_q 6 rfl rfl (by kernel_rfl) ?_; refine ⟨_, fun _ => ev_loadAK rfl rfl (ag rfl) (sz rfl) (memR (memF (.head _))) rfl, ?_⟩; refine runD_q 7 rfl rfl (by kernel_rfl) ?_; refine ⟨_, fun _ => ev_callQ rfl rfl rfl (pf rfl) (q1 ..), ?_⟩; refine runD_q 8 rfl rfl (by kernel_rfl) ?_; refine ⟨_, fun _ => ev_build rfl pl98 rfl, ?_⟩)
  refine runD_ldNew (v := .slice a es.length cap) (V := fun b => .slice (some ⟨b, 0, none⟩) 1 1) (l := ec ⟨o, tip o⟩) (e := 98) 4 8 9 13 (by kernel_rfl) rfl rfl rfl rfl rfl rfl (ev_loadK rfl rfl (sc rfl) (memF (.head _)) rfl) (fun b9 => ev_loadK rfl rfl (sc rfl) (memF (.tail _ (.head _))) rfl)
    (fun K hk => runL_buildSlice rfl rfl rfl rfl rfl (se rfl) ze98 rfl rfl rfl rfl rfl fun b9 => runL_nil (endS_d rfl (hk b9)))
    (fun K hk => runL_buildSlice rfl rfl rfl rfl rfl (se rfl) ze98 rfl rfl rfl rfl rfl fun b9 => runL_nil (endS_d rfl (hk b9))) (fun b9 => ?_)
  (refine runD_1 10 (by kernel_rfl) rfl rfl rfl ?_)
  refine runL_append (sl := ec ⟨o, tip o⟩) [blk b9 (ec ⟨o, tip o⟩) 98, blk b [.int .i64 p, .slice a es.length cap] 96] rfl rfl rfl rfl rfl rfl rfl (se rfl) (se rfl) ze98 rfl (byt rfl) own (fun y => by (first | rfl | (simp only [List.append_eq, cnt_append, cnt_cons, cnt_nil, blk]; omega) | (simp only [List.append_eq, cnt_append, cnt_cons, cnt_nil, blk]; done))) ⟨rfl, .inr ⟨b9, 0, _, _, _, rfl, memF (.head _), by simp [ec], rfl⟩⟩ rfl (by decide) (by decide) (by omega) ?_
  rintro v' A' own'
  obtain ⟨a5, c5, rfl, own3⟩ := (own'.snoc (f := ec) (x := Ent.mk o (tip o)) rfl).at
  (refine runL_nil ?_; refine endS_d rfl ?_; refine runD_q 11 rfl rfl (by kernel_rfl) ?_; refine ⟨_, fun _ => ev_pure rfl, ?_⟩; refine runD_q 12 rfl rfl (by kernel_rfl) ?_; refine ⟨_, fun _ => ev_fieldAddr rfl rfl (fo rfl), ?_⟩; refine runD_1 13 (by kernel_rfl) rfl rfl rfl ?_)
  refine RunL.perm (h' := blk b [.int .i64 p, .slice a es.length cap] 96 :: blk b9 (ec ⟨o, tip o⟩) 98 :: A') (fun y => by (first | rfl | (simp only [List.append_eq, cnt_append, cnt_cons, cnt_nil, blk]; omega) | (simp only [List.append_eq, cnt_append, cnt_cons, cnt_nil, blk]; done))) ?_
  (refine runL_store0 rfl rfl rfl rfl rfl (sz rfl) rfl rfl rfl rfl rfl ?_; refine runL_nil ?_; refine endS_n rfl ?_; refine runD_done (by kernel_rfl) ?_)
  exact ⟨_, rfl, _, [blk b9 (ec ⟨o, tip o⟩) 98, blk b3 o.cells 24], ⟨a5, c5, A', own3, rfl⟩, fun y => by (first | rfl | (simp only [List.append_eq, cnt_append, cnt_cons, cnt_nil, blk]; omega) | (simp only [List.append_eq, cnt_append, cnt_cons, cnt_nil, blk]; done))⟩
def wq (o : Ord) (q : Int) : Ord := ⟨o.trader, o.id, o.firm, o.side, o.kind, o.price, q, o.show_, o.stop⟩
/-- What is left of a level when its first order gives so much. -/
def giveE (e : Ent) (l : List Ent) (n : Int) : List Ent :=
  if 0 < e.seen - n then ⟨wq e.o (e.o.qty - n), e.seen - n⟩ :: l
  else if 0 < e.o.qty - n then l ++ [⟨wq e.o (e.o.qty - n), tip (wq e.o (e.o.qty - n))⟩] else l
theorem giveE_LB {e : Ent} {l : List Ent} {n : Int} (h : LB (e :: l)) (h0 : 0 ≤ n) (h1 : n ≤ e.seen) : LB (giveE e l n) ∧ (giveE e l n).length ≤ l.length + 1 := by
  obtain ⟨hl, hb⟩ := h
  have he := hb e (by simp)
  have hr : ∀ x ∈ l, 1 ≤ x.o.qty ∧ x.o.qty ≤ 1048576 ∧ 1 ≤ x.seen ∧ x.seen ≤ x.o.qty := fun x m => hb x (List.mem_cons_of_mem _ m)
  rw [List.length_cons] at hl
  unfold giveE
  split
  · refine ⟨⟨by rw [List.length_cons]; omega, fun x m => ?_⟩, by rw [List.length_cons]; omega⟩
    rcases List.mem_cons.1 m with rfl | m
    · dsimp only [wq]; omega
    · exact hr x m
  · split
    · rename_i hq
      refine ⟨⟨by rw [List.length_append]; show _ + 1 ≤ _; omega, fun x m => ?_⟩, by rw [List.length_append]; show _ + 1 ≤ _; omega⟩
      rcases List.mem_append.1 m with m | m
      · exact hr x m
      · simp only [List.mem_singleton] at m
        subst m
        dsimp only [tip, wq]
        refine ⟨by omega, by omega, ?_, ?_⟩ <;> split <;> omega
    · exact ⟨⟨by omega, hr⟩, by omega⟩
set_option maxRecDepth 4000 in
theorem sp_lgive (F : Heap) (H : Heap) (b : Nat) (p : Int) (e : Ent) (l : List Ent) (hH : LvH b p (e :: l) H) (hb : LB (e :: l)) (n : Int) (h0 : 0 ≤ n) (h1 : n ≤ e.seen) :
    Sp Try.prog F 83 [.pointer (some ⟨b, 0, none⟩), .int .i64 n] H (fun v h' => LvH b p (giveE e l n) h') := by
  obtain ⟨a, cap, A, own, rfl⟩ := hH
  obtain ⟨hb1, hb2⟩ := hb
  have he := hb2 e (by simp)
  obtain ⟨b2, rest, cap', hv, rfl, hl2, hr2, hk2⟩ := own.pos (by simp)
  cases hv
  rw [List.length_cons] at *
  have hrw : rows ec (e :: l) ++ rest = ec e ++ (rows ec l ++ rest) := List.append_assoc ..
  rw [hrw]
  generalize hT : rows ec l ++ rest = T at *
  refine Sp.up ?_
  refine sp_of_code Try.func83 rfl rfl ?_
  (refine run_seq ?_; refine run_region ?_; (iterate 2 refine xep rfl rfl ?_); refine xel rfl (ev_fieldAddr rfl rfl (fo rfl)) ?_; refine xel rfl (ev_loadK rfl rfl (sc rfl) (memF (.head _)) rfl) ?_; refine xel rfl (ev_indexAddr rfl rfl rfl (se rfl) (by omega) (by omega)) ?_; refine xep rfl rfl ?_; refine runL_nil ?_; refine then_normal ?_; refine run_seq ?_; refine run_region ?_; (iterate 2 refine xep rfl rfl ?_); (iterate 2 refine xel rfl (ev_fieldAddr rfl rfl (fo rfl)) ?_); refine xel rfl (ev_loadK rfl rfl (sc rfl) (memF (.tail _ (.head _))) rfl) ?_; refine xep rfl rfl ?_; refine xel rfl (ev_sub rfl rfl rfl (by omega)) ?_; refine xep rfl rfl ?_; (iterate 2 refine xel rfl (ev_fieldAddr rfl rfl (fo rfl)) ?_); refine runL_store1 rfl rfl rfl rfl rfl (sz rfl) rfl rfl rfl rfl rfl ?_; refine runL_nil ?_; refine then_normal ?_; refine run_seq ?_; refine run_region ?_; (iterate 2 refine xep rfl rfl ?_); refine xel rfl (ev_fieldAddr rfl rfl (fo rfl)) ?_; refine xel rfl (ev_loadK rfl rfl (sc rfl) (memF (.tail _ (.head _))) rfl) ?_; refine xep rfl rfl ?_; refine xel rfl (ev_sub rfl rfl rfl (by omega)) ?_; refine xep rfl rfl ?_; refine xel rfl (ev_fieldAddr rfl rfl (fo rfl)) ?_; refine runL_store1 rfl rfl rfl rfl rfl (sz rfl) rfl rfl rfl rfl rfl ?_; refine runL_nil ?_; refine then_normal ?_; (iterate 2 refine run_seq ?_); refine run_region ?_; (iterate 2 refine xep rfl rfl ?_); refine xel rfl (ev_fieldAddr rfl rfl (fo rfl)) ?_; refine xel rfl (ev_loadK rfl rfl (sc rfl) (memF (.tail _ (.head _))) rfl) ?_; refine xep rfl rfl ?_; refine runL_nil ?_; refine then_normal ?_)
  -- the first entry as it stands now
  have own2 : OwnS 98 10 (.slice (some ⟨b2, 0, none⟩) (l.length + 1) cap) (l.length + 1) (rows ec (⟨wq e.o (e.o.qty - n), e.seen - n⟩ :: l)) [blk b2 (ec ⟨wq e.o (e.o.qty - n), e.seen - n⟩ ++ T) 98] :=
    .inr ⟨b2, rest, cap, rfl, by rw [← hT]; exact congrArg (fun c => [blk b2 c _]) (List.append_assoc ..).symm, by rw [rows_len ec_len]; rfl, hr2, hk2⟩
  (refine run_cond rfl (fun hc => ?_) (fun hc => ?_) <;> (try simp only [z0, z1, z2, z3, z4, z5, z6, z7, z8, z9, Bool.not_true, Bool.not_false, Bool.false_or, Bool.true_and, true_and, and_true, false_or, or_false, reduceCtorEq, Bool.false_eq_true] at hc))
  · (refine run_ret ?_; refine then_ret ?_)
    have e9 : giveE e l n = ⟨wq e.o (e.o.qty - n), e.seen - n⟩ :: l := by unfold giveE; rw [if_pos hc]
    rw [e9]
    exact ⟨_, rfl, _, [], ⟨_, _, _, own2, rfl⟩, fun x => by rw [List.append_nil]; rfl⟩
  · (refine run_skip ?_; refine then_normal ?_; refine run_seq ?_; refine run_region ?_; (iterate 2 refine xep rfl rfl ?_); refine xel rfl (ev_fieldAddr rfl rfl (fo rfl)) ?_; refine xel rfl (ev_loadAK rfl rfl (ag rfl) (sz rfl) (memF (.tail _ (.head _))) rfl) ?_; refine runL_alloc rfl rfl rfl rfl rfl ze24 (fun _ => ?_); refine runL_store0 rfl rfl rfl rfl rfl (sz rfl) rfl rfl rfl rfl rfl ?_; refine runL_nil ?_; refine then_normal ?_; refine run_seq ?_; refine run_region ?_; (iterate 3 refine xep rfl rfl ?_); refine xel rfl (ev_fieldAddr rfl rfl (fo rfl)) ?_; refine xel rfl (ev_loadK rfl rfl (sc rfl) (memF (.tail _ (.head _))) rfl) ?_)
    rename_i b5
    have hdel := fun F => sp_delEnt F _ _ _ _ _ own2 (rows_cells ec_cells _) 0 1 (by omega) (by omega)
    refine runL_call (caps := []) [blk b5 (wq e.o (e.o.qty - n)).cells 24, blk b [.int .i64 p, .slice (some ⟨b2, 0, none⟩) (l.length + 1) cap] 96] _ rfl rfl rfl rfl rfl rfl rfl (pf rfl) ?_ (by rw [List.append_nil]; exact hdel _) ?_
    · intro x
      show cnt x [blk b5 (wq e.o (e.o.qty - n)).cells 24, blk b [.int .i64 p, .slice (some ⟨b2, 0, none⟩) (l.length + 1) cap] 96, blk b2 (ec ⟨wq e.o (e.o.qty - n), e.seen - n⟩ ++ T) 98] = _
      (first | rfl | (simp only [List.append_eq, cnt_append, cnt_cons, cnt_nil, blk]; omega) | (simp only [List.append_eq, cnt_append, cnt_cons, cnt_nil, blk]; done))
    rintro v A' own3
    have e3 : (rows ec (⟨wq e.o (e.o.qty - n), e.seen - n⟩ :: l)).take (0 * 10) ++ (rows ec (⟨wq e.o (e.o.qty - n), e.seen - n⟩ :: l)).drop (1 * 10) = rows ec l := rfl
    rw [e3, show l.length + 1 - (1 - 0) = l.length by omega] at own3
    obtain ⟨a6, c6, rfl, own4⟩ := own3.at
    refine RunL.perm (h' := blk b [.int .i64 p, .slice (some ⟨b2, 0, none⟩) (l.length + 1) cap] 96 :: blk b5 (wq e.o (e.o.qty - n)).cells 24 :: A') (fun y => by (first | rfl | (simp only [List.append_eq, cnt_append, cnt_cons, cnt_nil, blk]; omega) | (simp only [List.append_eq, cnt_append, cnt_cons, cnt_nil, blk]; done))) ?_
    (refine xep rfl rfl ?_; refine xel rfl (ev_fieldAddr rfl rfl (fo rfl)) ?_; refine runL_store0 rfl rfl rfl rfl rfl (sz rfl) rfl rfl rfl rfl rfl ?_; refine runL_nil ?_; refine then_normal ?_; refine run_seq ?_; refine run_region ?_; refine xel rfl (ev_fieldAddr rfl rfl (fo rfl)) ?_; refine xel rfl (ev_loadK rfl rfl (sc rfl) (memF (.tail _ (.head _))) rfl) ?_; refine xep rfl rfl ?_; refine runL_nil ?_; refine then_normal ?_)
    (refine run_cond rfl (fun hc => ?_) (fun hc => ?_) <;> (try simp only [z0, z1, z2, z3, z4, z5, z6, z7, z8, z9, Bool.not_true, Bool.not_false, Bool.false_or, Bool.true_and, true_and, and_true, false_or, or_false, reduceCtorEq, Bool.false_eq_true] at hc))
    · have hq : 0 < e.o.qty - n := hc
      have e9 : giveE e l n = l ++ [⟨wq e.o (e.o.qty - n), tip (wq e.o (e.o.qty - n))⟩] := by
        unfold giveE; rw [if_neg (by omega), if_pos hq]
      rw [e9]
      (refine run_region ?_; refine xep rfl rfl ?_; refine xel rfl (ev_loadAK rfl rfl (ag rfl) (sz rfl) (memF (.tail _ (.head _))) rfl) ?_)
      refine runL_call (caps := []) [blk b5 (wq e.o (e.o.qty - n)).cells 24] _ rfl rfl rfl rfl rfl rfl rfl (pf rfl) (fun y => ?_) (by rw [List.append_nil]; exact sp_ladd _ _ b p l ⟨a6, c6, A', own4, rfl⟩ (by omega) (wq e.o (e.o.qty - n))) ?_
      · (first | rfl | (simp only [List.append_eq, cnt_append, cnt_cons, cnt_nil, blk]; omega) | (simp only [List.append_eq, cnt_append, cnt_cons, cnt_nil, blk]; done))
      rintro v h1 hh
      (refine runL_nil ?_)
      exact ⟨_, rfl, h1, [blk b5 (wq e.o (e.o.qty - n)).cells 24], hh, fun y => rfl⟩
    · have hq : ¬ 0 < e.o.qty - n := by have h9 : ¬ 0 < (wq e.o (e.o.qty - n)).qty := by omega
                                        exact h9
      have e9 : giveE e l n = l := by
        unfold giveE; rw [if_neg (by omega), if_neg hq]
      rw [e9]
      (refine run_skip ?_)
      exact ⟨_, rfl, _, [blk b5 (wq e.o (e.o.qty - n)).cells 24], ⟨a6, c6, A', own4, rfl⟩, fun y => by (first | rfl | (simp only [List.append_eq, cnt_append, cnt_cons, cnt_nil, blk]; omega) | (simp only [List.append_eq, cnt_append, cnt_cons, cnt_nil, blk]; done))⟩
end Go.Proofs.Ytfhpoagnfmgfkaa
