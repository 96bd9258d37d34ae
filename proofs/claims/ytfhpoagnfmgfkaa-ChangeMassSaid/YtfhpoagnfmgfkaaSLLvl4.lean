/- Contracts of functions of the given program over its translation, each proved by walking its text; used by the laws' rows. It proves no given statement by itself. -/
import Derived.Test.YtfhpoagnfmgfkaaSLLvl3
set_option autoImplicit false
set_option linter.unusedSectionVars false
set_option linter.unusedSimpArgs false
set_option linter.unusedVariables false
namespace Go.Proofs.Ytfhpoagnfmgfkaa
open Go Go.SL Go.Proofs
/-- A hit: the maker, and how much. -/
def hcell (h : Ord × Int) : List Value := [.int .i64 h.1.trader, .int .i64 h.1.id, .int .i64 h.1.firm, .int .i64 h.1.side, .int .i64 h.1.kind, .int .i64 h.1.price, .int .i64 h.1.qty, .int .i64 h.1.show_, .int .i64 h.1.stop, .int .i64 h.2]
theorem hcell_len (h : Ord × Int) : (hcell h).length = 10 := rfl
def take (firm q : Int) (es : List Ent) : List (Ord × Int) × Bool × List Ent :=
  if h : 0 < q then
    match es with
    | [] => ([], false, [])
    | e :: l =>
      if e.o.firm = firm then ([], true, e :: l)
      else if hn : 0 < min q e.seen then
        ((e.o, min q e.seen) :: (take firm (q - min q e.seen) (giveE e l (min q e.seen))).1, (take firm (q - min q e.seen) (giveE e l (min q e.seen))).2)
      else ([], false, e :: l)
  else ([], false, es)
termination_by q.toNat
theorem take_le {firm q : Int} {es : List Ent} (h : q ≤ 0) : take firm q es = ([], false, es) := by
  rw [take.eq_def, dif_neg (by omega)]
theorem take_nil {firm q : Int} : take firm q [] = ([], false, []) := by
  rw [take.eq_def]; split <;> rfl
theorem take_own {firm q : Int} {e : Ent} {l : List Ent} (h : 0 < q) (hf : e.o.firm = firm) : take firm q (e :: l) = ([], true, e :: l) := by
  rw [take.eq_def, dif_pos h]; dsimp only; rw [if_pos hf]
theorem take_cons {firm q : Int} {e : Ent} {l : List Ent} (h : 0 < q) (hf : e.o.firm ≠ firm) (hs : 1 ≤ e.seen) :
    take firm q (e :: l) = ((e.o, min q e.seen) :: (take firm (q - min q e.seen) (giveE e l (min q e.seen))).1, (take firm (q - min q e.seen) (giveE e l (min q e.seen))).2) := by
  conv => lhs; rw [take.eq_def, dif_pos h]
  dsimp only
  rw [if_neg hf, dif_pos (by omega)]
variable [Base]
theorem take_len {firm : Int} (k : Nat) : ∀ (q : Int) (es : List Ent), q.toNat ≤ k → LB es → (take firm q es).1.length ≤ k ∧ LB (take firm q es).2.2 ∧ (take firm q es).2.2.length ≤ es.length := by
  induction k with
  | zero =>
    intro q es hq hb
    rw [take_le (by omega)]
    exact ⟨Nat.le_refl _, hb, Nat.le_refl _⟩
  | succ k ih =>
    intro q es hq hb
    by_cases h : 0 < q
    · cases es with
      | nil => rw [take_nil]; exact ⟨Nat.zero_le _, hb, Nat.le_refl _⟩
      | cons e l =>
        by_cases hf : e.o.firm = firm
        · rw [take_own h hf]; exact ⟨Nat.zero_le _, hb, Nat.le_refl _⟩
        · have he := hb.2 e (by simp)
          rw [take_cons h hf he.2.2.1]
          have hg := giveE_LB (n := min q e.seen) hb (by omega) (by omega)
          have := ih (q - min q e.seen) (giveE e l (min q e.seen)) (by omega) hg.1
          refine ⟨by rw [List.length_cons]; omega, this.2.1, ?_⟩
          have h9 := this.2.2
          have h10 := hg.2
          rw [List.length_cons]; exact Nat.le_trans h9 h10
    · rw [take_le (by omega)]
      exact ⟨Nat.zero_le _, hb, Nat.le_refl _⟩
theorem giveE_sum {e : Ent} {l : List Ent} {n : Int} (hs : e.seen ≤ e.o.qty) (h1 : n ≤ e.seen) : sumE (fun x => x.o.qty) (giveE e l n) = e.o.qty - n + sumE (fun x => x.o.qty) l := by
  unfold giveE
  split
  · rfl
  · split
    · rw [sumE_append]
      show _ + (e.o.qty - n + 0) = _; omega
    · omega
set_option maxRecDepth 4000 in
set_option maxHeartbeats 1000000 in
theorem sp_ltakeW (F : Heap) (H : Heap) (b : Nat) (p : Int) (es : List Ent) (hH : LvH b p es H) (hb : LB es) (firm q : Int) (hq : InI q) (hq2 : min q (sumE (fun x => x.o.qty) es) ≤ 1048576) :
    Sp Try.prog F 75 [.pointer (some ⟨b, 0, none⟩), .int .i64 firm, .int .i64 q] H (fun v h' => ∃ a cap A H', v = .tuple #[.slice a (take firm q es).1.length cap, .bool (take firm q es).2.1] ∧
      OwnS 26 10 (.slice a (take firm q es).1.length cap) (take firm q es).1.length (rows hcell (take firm q es).1) A ∧ LvH b p (take firm q es).2.2 H' ∧ h' = H' ++ A) := by
  obtain ⟨a0, cap0, A0', own0, rfl⟩ := hH
  refine Sp.up ?_
  refine sp_of_code Try.func75 rfl rfl ?_
  (refine run_seq ?_; refine run_region ?_; (iterate 2 refine xep rfl rfl ?_); refine runL_nil ?_; refine then_normal ?_; refine run_seq ?_; refine run_region ?_; refine xep rfl rfl ?_; refine runL_nil ?_; refine then_normal ?_; refine run_seq ?_; refine run_block ?_)
  refine run_loopK (σ := Int × List Ent × List (Ord × Int) × (Option Addr × Nat × Heap) × (Option Addr × Nat × Heap)) [0, 1, 2, 8]
    (fun s => [(0, .pointer (some ⟨b, 0, none⟩)), (1, .int .i64 firm), (2, .int .i64 s.1), (8, .slice s.2.2.2.2.1 s.2.2.1.length s.2.2.2.2.2.1)])
    (fun s => blk b [.int .i64 p, .slice s.2.2.2.1.1 s.2.1.length s.2.2.2.1.2.1] 96 :: (s.2.2.2.1.2.2 ++ s.2.2.2.2.2.2))
    (fun s => s.1 ≤ 9223372036854775807 ∧ -9223372036854775808 ≤ s.1 ∧ (s.2.2.1.length : Int) + min s.1 (sumE (fun x => x.o.qty) s.2.1) ≤ 1048576 ∧ LB s.2.1 ∧ OwnS 98 10 (.slice s.2.2.2.1.1 s.2.1.length s.2.2.2.1.2.1) s.2.1.length (rows ec s.2.1) s.2.2.2.1.2.2
      ∧ OwnS 26 10 (.slice s.2.2.2.2.1 s.2.2.1.length s.2.2.2.2.2.1) s.2.2.1.length (rows hcell s.2.2.1) s.2.2.2.2.2.2
      ∧ take firm q es = (s.2.2.1 ++ (take firm s.1 s.2.1).1, (take firm s.1 s.2.1).2)) (fun s => s.1.toNat) (q, es, [], (a0, cap0, A0'), (none, 0, []))
    ⟨hq.2, hq.1, by show ((0 : Nat) : Int) + min q (sumE (fun x => x.o.qty) es) ≤ _; omega, hb, own0, .nil _ _, rfl⟩ rfl (fun x => by show cnt x (_ :: A0') = cnt x (_ :: (A0' ++ [])); rw [List.append_nil]) ?_
  rintro ⟨q1, es1, out, ⟨a, cap, A⟩, ⟨ao, co, O⟩⟩ ⟨g1, g2, g3, hb1, own, owno, htk⟩
  dsimp only at g1 g2 g3 hb1 own owno htk ⊢
  ((iterate 2 refine run_seq ?_); refine run_region ?_; (iterate 3 refine xep rfl rfl ?_); (iterate 2 refine xgp rfl rfl rfl ?_); refine xgl rfl rfl (fun hq => ev_fieldAddr rfl rfl (fo rfl)) ?_; refine xgl rfl rfl (fun hq => ev_loadK rfl rfl (sc rfl) (memF (.head _)) rfl) ?_; refine xgl rfl rfl (fun hq => ev_len rfl rfl (se rfl)) ?_; refine xgp rfl rfl rfl ?_; refine xep rfl rfl ?_; refine runL_nil ?_; refine then_normal ?_)
  (refine run_cond rfl (fun hc => ?_) (fun hc => ?_) <;> (try simp only [z0, z1, z2, z3, z4, z5, z6, z7, z8, z9, Bool.not_true, Bool.not_false, Bool.false_or, Bool.true_and, true_and, and_true, false_or, or_false, reduceCtorEq, Bool.false_eq_true] at hc))
  · have hq0 := hc.1
    match es1, hc.2 with
    | e :: l, _ =>
    obtain ⟨b2, rest, cap', hv, rfl, hl2, hr2, hk2⟩ := own.pos (by simp)
    cases hv
    have he := hb1.2 e (by simp)
    have hsl := sumE_in (g := fun x => x.o.qty) (l := l) fun x m => by have := hb1.2 x (List.mem_cons_of_mem _ m); omega
    have hse : sumE (fun x => x.o.qty) (e :: l) = e.o.qty + sumE (fun x => x.o.qty) l := rfl
    have hgs := giveE_sum (e := e) (l := l) (n := min q1 e.seen) (by omega) (by omega)
    rw [hse] at g3
    rw [List.length_cons] at *
    have hrw : rows ec (e :: l) ++ rest = ec e ++ (rows ec l ++ rest) := List.append_assoc ..
    (refine run_skip ?_; refine then_normal ?_; refine run_block ?_; refine run_seq ?_; refine run_region ?_; (iterate 2 refine xep rfl rfl ?_); refine xel rfl (ev_fieldAddr rfl rfl (fo rfl)) ?_; refine xel rfl (ev_loadK rfl rfl (sc rfl) (memF (.head _)) rfl) ?_; refine xel rfl (ev_indexAddr rfl rfl rfl (se rfl) (by omega) (by omega)) ?_; refine xel rfl (ev_loadAK rfl rfl (ag rfl) (sz rfl) (memF (.tail _ (.head _))) rfl) ?_; refine runL_alloc rfl rfl rfl rfl rfl ze26 (fun _ => ?_); refine runL_store0 rfl rfl rfl rfl rfl (sz rfl) rfl rfl rfl rfl rfl ?_; refine runL_nil ?_; refine then_normal ?_; (iterate 2 refine run_seq ?_); refine run_region ?_; (iterate 2 refine xel rfl (ev_fieldAddr rfl rfl (fo rfl)) ?_); refine xel rfl (ev_loadK rfl rfl (sc rfl) (memF (.head _)) rfl) ?_; (iterate 2 refine xep rfl rfl ?_); refine runL_nil ?_; refine then_normal ?_)
    rename_i b9
    (refine run_cond rfl (fun hc => ?_) (fun hc => ?_) <;> (try simp only [z0, z1, z2, z3, z4, z5, z6, z7, z8, z9, Bool.not_true, Bool.not_false, Bool.false_or, Bool.true_and, true_and, and_true, false_or, or_false, reduceCtorEq, Bool.false_eq_true] at hc))
    · (refine run_seq ?_; refine run_region ?_; (iterate 3 refine xep rfl rfl ?_); refine runL_nil ?_; refine then_normal ?_; refine run_ret ?_; refine then_ret ?_; refine in_ret ?_; refine then_ret ?_; refine in_ret ?_; refine then_ret ?_)
      rw [take_own hq0 hc] at htk
      rw [htk]
      refine ⟨_, rfl, _, [blk b9 (ec e) 98], ⟨ao, co, O, blk b [.int .i64 p, .slice (some ⟨b2, 0, none⟩) (l.length + 1) cap] 96 :: [blk b2 (rows ec (e :: l) ++ rest) 98], ?_, ?_, ⟨_, _, _, own, rfl⟩, rfl⟩, fun x => ?_⟩
      · simp only [List.append_nil]; rfl
      · simp only [List.append_nil]; exact owno
      · show cnt x (blk b9 (ec e) 98 :: _) = _
        (first | rfl | (simp only [List.append_eq, cnt_append, cnt_cons, cnt_nil, blk]; omega) | (simp only [List.append_eq, cnt_append, cnt_cons, cnt_nil, blk]; done))
    · have hfirm := hc
      (refine run_skip ?_; refine then_normal ?_; refine run_seq ?_; refine run_region ?_; refine xep rfl rfl ?_; refine xel rfl (ev_fieldAddr rfl rfl (fo rfl)) ?_; refine xel rfl (ev_loadK rfl rfl (sc rfl) (memF (.head _)) rfl) ?_; refine xel rfl (ev_min rfl rfl rfl) ?_; refine xep rfl rfl ?_; refine runL_nil ?_; refine then_normal ?_; refine run_seq ?_; refine run_region ?_; refine xep rfl rfl ?_; refine xel rfl (ev_fieldAddr rfl rfl (fo rfl)) ?_; refine xel rfl (ev_loadAK rfl rfl (ag rfl) (sz rfl) (memF (.head _)) rfl) ?_; refine xep rfl rfl ?_; refine xel rfl (ev_build rfl pl26 rfl) ?_)
      refine runL_buildSlice (l := hcell (e.o, min q1 e.seen)) rfl rfl rfl rfl rfl (se rfl) ze26 rfl rfl rfl rfl rfl (fun b10 => ?_)
      skip
      refine runL_append (sl := hcell (e.o, min q1 e.seen)) [blk b10 (hcell (e.o, min q1 e.seen)) 26, blk b9 (ec e) 98, blk b [.int .i64 p, .slice (some ⟨b2, 0, none⟩) (l.length + 1) cap] 96, blk b2 (rows ec (e :: l) ++ rest) 98] rfl rfl rfl rfl rfl rfl rfl (se rfl) (se rfl) ze26 rfl (byt rfl) owno
        (fun y => by show cnt y (blk b10 (hcell (e.o, min q1 e.seen)) 26 :: blk b9 (ec e) 98 :: _) = _; (first | rfl | (simp only [List.append_eq, cnt_append, cnt_cons, cnt_nil, blk]; omega) | (simp only [List.append_eq, cnt_append, cnt_cons, cnt_nil, blk]; done))) ⟨rfl, .inr ⟨b10, 0, _, _, _, rfl, memF (.head _), by simp [hcell], rfl⟩⟩ rfl (by decide) (by decide) (by omega) ?_
      rintro v' O' own'
      obtain ⟨a5, c5, rfl, own3⟩ := (own'.snoc (f := hcell) (x := (e.o, min q1 e.seen)) rfl).at
      have hgl := giveE_LB (n := min q1 e.seen) hb1 (by omega) (by omega)
      (refine xep rfl rfl ?_; refine runL_nil ?_; refine then_normal ?_; refine run_seq ?_; refine run_region ?_; (iterate 2 refine xep rfl rfl ?_); refine xel rfl (ev_sub rfl rfl rfl (by omega)) ?_; refine xep rfl rfl ?_; refine runL_nil ?_; refine then_normal ?_; refine run_region ?_; (iterate 2 refine xep rfl rfl ?_))
      refine runL_call (caps := []) (O' ++ [blk b10 (hcell (e.o, min q1 e.seen)) 26, blk b9 (ec e) 98]) _ rfl rfl rfl rfl rfl rfl rfl (pf rfl) (fun y => ?_) (by rw [List.append_nil]; exact sp_lgive _ _ b p e l ⟨_, _, _, own, rfl⟩ hb1 (min q1 e.seen) (by omega) (by omega)) ?_
      · show _ = cnt y ((blk b [.int .i64 p, .slice (some ⟨b2, 0, none⟩) (l.length + 1) cap] 96 :: [blk b2 (rows ec (e :: l) ++ rest) 98]) ++ _)
        (first | rfl | (simp only [List.append_eq, cnt_append, cnt_cons, cnt_nil, blk]; omega) | (simp only [List.append_eq, cnt_append, cnt_cons, cnt_nil, blk]; done))
      rintro v h1 ⟨a7, c7, A7, own7, rfl⟩
      (refine runL_nil ?_; refine in_normal ?_; refine then_normal ?_)
      refine ⟨(q1 - min q1 e.seen, giveE e l (min q1 e.seen), out ++ [(e.o, min q1 e.seen)], (a7, c7, A7), (a5, c5, O')), ⟨by show q1 - min q1 e.seen ≤ _; omega, by show _ ≤ q1 - min q1 e.seen; omega, ?_, hgl.1, own7, own3, ?_⟩, ?_, rfl, [blk b10 (hcell (e.o, min q1 e.seen)) 26, blk b9 (ec e) 98], fun x => ?_⟩
      · show (((out ++ [_]).length : Nat) : Int) + min (q1 - min q1 e.seen) (sumE (fun x => x.o.qty) (giveE e l (min q1 e.seen))) ≤ _
        rw [List.length_append, hgs]; show ((_ + 1 : Nat) : Int) + _ ≤ _; omega
      · rw [htk, take_cons hq0 hfirm he.2.2.1]
        dsimp only
        rw [List.append_assoc]; rfl
      · show (q1 - min q1 e.seen).toNat < q1.toNat; omega
      · (first | rfl | (simp only [List.append_eq, cnt_append, cnt_cons, cnt_nil, blk]; omega) | (simp only [List.append_eq, cnt_append, cnt_cons, cnt_nil, blk]; done))
  · (refine run_exit ?_; (iterate 2 refine then_exit ?_); refine in_exit ?_; refine then_normal ?_)
    (refine run_seq ?_; refine run_region ?_; (iterate 3 refine xep rfl rfl ?_); refine runL_nil ?_; refine then_normal ?_; refine run_ret ?_)
    have hend : take firm q1 es1 = ([], false, es1) := by
      rcases hc with h | h
      · exact take_le (by omega)
      · match es1, h with
        | [], _ => exact take_nil
    rw [hend] at htk
    rw [htk]
    refine ⟨_, rfl, _, [], ⟨ao, co, O, _, ?_, ?_, ⟨a, cap, A, own, rfl⟩, rfl⟩, fun x => by rw [List.append_nil]; rfl⟩
    · simp only [List.append_nil]; rfl
    · simp only [List.append_nil]; exact owno
theorem sp_ltake (F : Heap) (H : Heap) (b : Nat) (p : Int) (es : List Ent) (hH : LvH b p es H) (hb : LB es) (firm q : Int) (hq : InI q) (hq2 : q ≤ 1048576) :
    Sp Try.prog F 75 [.pointer (some ⟨b, 0, none⟩), .int .i64 firm, .int .i64 q] H (fun v h' => ∃ a cap A H', v = .tuple #[.slice a (take firm q es).1.length cap, .bool (take firm q es).2.1] ∧
      OwnS 26 10 (.slice a (take firm q es).1.length cap) (take firm q es).1.length (rows hcell (take firm q es).1) A ∧ LvH b p (take firm q es).2.2 H' ∧ h' = H' ++ A) :=
  sp_ltakeW F H b p es hH hb firm q hq (by omega)
end Go.Proofs.Ytfhpoagnfmgfkaa
