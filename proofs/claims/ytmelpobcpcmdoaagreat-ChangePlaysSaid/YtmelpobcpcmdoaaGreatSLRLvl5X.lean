/- Contracts of functions of the given program over its translation, each proved by walking its text; used by the laws' rows. It proves no given statement by itself. -/
import Derived.Test.YtmelpobcpcmdoaaGreatSLBk8X
set_option autoImplicit false
set_option linter.unusedSectionVars false
set_option linter.unusedSimpArgs false
set_option linter.unusedVariables false
set_option maxRecDepth 4000
set_option maxHeartbeats 16000000
namespace Go.Proofs.YtmelpobcpcmdoaaGreat
open Go Go.SL Go.Proofs
variable [Base]
theorem sp_rtake (F : Heap) (H : Heap) (b : Nat) (p : Int) (es : List Ent) (hH : RvH b p es H) (hb : LB es) (firm q : Int) (hq : InI q) (hq2 : min q (sumE (fun x => x.o.qty) es) ≤ 1048576) :
    Sp Tryz.prog F 80 [.pointer (some ⟨b, 0, none⟩), .int .i64 firm, .int .i64 q] H (fun v h' => ∃ a cap A H', v = .tuple #[.slice a (take firm q es).1.length cap, .bool (take firm q es).2.1] ∧
      OwnS 84 10 (.slice a (take firm q es).1.length cap) (take firm q es).1.length (rows hcell (take firm q es).1) A ∧ RvH b p (take firm q es).2.2 H' ∧ h' = H' ++ A) := by
  obtain ⟨a0, cap0, A0', own0, rfl⟩ := hH
  refine Sp.up ?_
  refine sp_of_code Tryz.func80 rfl rfl ?_
  (refine run_seq ?_; refine run_region ?_; (iterate 2 refine xep rfl rfl ?_); refine runL_nil ?_; refine then_normal ?_; refine run_seq ?_; refine run_region ?_; refine xep rfl rfl ?_; refine runL_nil ?_; refine then_normal ?_; refine run_seq ?_; refine run_block ?_)
  refine run_loopK (σ := Int × List Ent × List (Ord × Int) × (Option Addr × Nat × Heap) × (Option Addr × Nat × Heap)) [0, 1, 2, 8]
    (fun s => [(0, .pointer (some ⟨b, 0, none⟩)), (1, .int .i64 firm), (2, .int .i64 s.1), (8, .slice s.2.2.2.2.1 s.2.2.1.length s.2.2.2.2.2.1)])
    (fun s => blk b [.int .i64 p, .slice s.2.2.2.1.1 s.2.1.length s.2.2.2.1.2.1] 100 :: (s.2.2.2.1.2.2 ++ s.2.2.2.2.2.2))
    (fun s => s.1 ≤ 9223372036854775807 ∧ -9223372036854775808 ≤ s.1 ∧ (s.2.2.1.length : Int) + min s.1 (sumE (fun x => x.o.qty) s.2.1) ≤ 1048576 ∧ LB s.2.1 ∧ OwnS 102 10 (.slice s.2.2.2.1.1 s.2.1.length s.2.2.2.1.2.1) s.2.1.length (rows ec s.2.1) s.2.2.2.1.2.2
      ∧ OwnS 84 10 (.slice s.2.2.2.2.1 s.2.2.1.length s.2.2.2.2.2.1) s.2.2.1.length (rows hcell s.2.2.1) s.2.2.2.2.2.2
      ∧ take firm q es = (s.2.2.1 ++ (take firm s.1 s.2.1).1, (take firm s.1 s.2.1).2)) (fun s => s.1.toNat) (q, es, [], (a0, cap0, A0'), (none, 0, []))
    ⟨hq.2, hq.1, by show ((0 : Nat) : Int) + min q (sumE (fun x => x.o.qty) es) ≤ _; omega, hb, own0, .nil _ _, rfl⟩ rfl (fun x => by show cnt x (_ :: A0') = cnt x (_ :: (A0' ++ [])); rw [List.append_nil]) ?_
  rintro ⟨q1, es1, out, ⟨a, cap, A⟩, ⟨ao, co, O⟩⟩ ⟨g1, g2, g3, hb1, own, owno, htk⟩
  dsimp only at g1 g2 g3 hb1 own owno htk ⊢
  ((iterate 2 refine run_seq ?_); refine run_region ?_; (iterate 3 refine xep rfl rfl ?_); (iterate 2 refine xgp rfl rfl rfl ?_); refine xgl rfl rfl (fun hq => ev_fieldAddr rfl rfl (fo rfl)) ?_; refine xgl rfl rfl (fun hq => ev_loadK rfl rfl (sc rfl) (memF (.head _)) rfl) ?_; refine xgl rfl rfl (fun hq => ev_len rfl rfl (se rfl)) ?_; refine xgp rfl rfl rfl ?_; refine xep rfl rfl ?_; refine runL_nil ?_; refine then_normal ?_)
  (refine run_cond rfl (fun hc => ?_) (fun hc => ?_) <;> (try simp only [z0, z1, z2, z3, z4, z5, z6, z7, z8, z9, Bool.not_true, Bool.not_false, Bool.false_or, Bool.true_and, true_and, and_true, false_or, or_false, reduceCtorEq, Bool.false_eq_true] at hc))
  · have hq0 := hc.1
    match es1, hc.2 with
    | e :: l, _ =>
    obtain ⟨b2, rest, cap', hv, rfl, hl2, hr2, hk2⟩ := own.pos (by simp)
    cases hv
    have he := hb1.2 e (by simp)
    have hsl := sumE_in (g := fun x => x.o.qty) (l := l) fun x m => by have := hb1.2 x (List.mem_cons_of_mem _ m); omega
    have hse : sumE (fun x => x.o.qty) (e :: l) = e.o.qty + sumE (fun x => x.o.qty) l := rfl
    have hgs := giveE_sum (e := e) (l := l) (n := min q1 e.seen) (by omega) (by omega)
    rw [hse] at g3
    rw [List.length_cons] at *
    have hrw : rows ec (e :: l) ++ rest = ec e ++ (rows ec l ++ rest) := List.append_assoc ..
    have r1 : RowAt (rows ec (e :: l) ++ rest) (0 + (0 : Int).toNat * 10) (ec e) := by
      rw [Nat.zero_add]; exact rows_at (i := 0) ec_len rfl rest
    (refine run_skip ?_; refine then_normal ?_; refine run_block ?_; refine run_seq ?_; refine run_region ?_; (iterate 2 refine xep rfl rfl ?_); refine xel rfl (ev_fieldAddr rfl rfl (fo rfl)) ?_; refine xel rfl (ev_loadK rfl rfl (sc rfl) (memF (.head _)) rfl) ?_; refine xel rfl (ev_indexAddr rfl rfl rfl (se rfl) (by omega) (by omega)) ?_; refine xel rfl (ev_loadAK rfl rfl (ag rfl) (sz rfl) (memF (.tail _ (.head _))) rfl) ?_; refine runL_alloc rfl rfl rfl rfl rfl ze84 (fun _ => ?_); refine runL_store0 rfl rfl rfl rfl rfl (sz rfl) rfl rfl rfl rfl rfl ?_; refine runL_nil ?_; refine then_normal ?_; (iterate 2 refine run_seq ?_); refine run_region ?_; (iterate 2 refine xel rfl (ev_fieldAddr rfl rfl (fo rfl)) ?_); refine xel rfl (ev_loadK rfl rfl (sc rfl) (memF (.head _)) rfl) ?_; (iterate 2 refine xep rfl rfl ?_); refine runL_nil ?_; refine then_normal ?_)
    rename_i b9
    (refine run_cond rfl (fun hc => ?_) (fun hc => ?_) <;> (try simp only [z0, z1, z2, z3, z4, z5, z6, z7, z8, z9, Bool.not_true, Bool.not_false, Bool.false_or, Bool.true_and, true_and, and_true, false_or, or_false, reduceCtorEq, Bool.false_eq_true] at hc))
    · (refine run_seq ?_; refine run_region ?_; (iterate 3 refine xep rfl rfl ?_); refine runL_nil ?_; refine then_normal ?_; refine run_ret ?_; refine then_ret ?_; refine in_ret ?_; refine then_ret ?_; refine in_ret ?_; refine then_ret ?_)
      rw [take_own hq0 hc] at htk
      rw [htk]
      refine ⟨_, rfl, _, [blk b9 (ec e) 102], ⟨ao, co, O, blk b [.int .i64 p, .slice (some ⟨b2, 0, none⟩) (l.length + 1) cap] 100 :: [blk b2 (rows ec (e :: l) ++ rest) 102], ?_, ?_, ⟨_, _, _, own, rfl⟩, rfl⟩, fun x => ?_⟩
      · simp only [List.append_nil]; rfl
      · simp only [List.append_nil]; exact owno
      · show cnt x (blk b9 (ec e) 102 :: _) = _
        (first | rfl | (simp only [List.append_eq, cnt_append, cnt_cons, cnt_nil, blk]; omega) | (simp only [List.append_eq, cnt_append, cnt_cons, cnt_nil, blk]; done))
    · have hfirm := hc
      (refine run_skip ?_; refine then_normal ?_; refine run_seq ?_; refine run_region ?_; refine xep rfl rfl ?_; refine xel rfl (ev_fieldAddr rfl rfl (fo rfl)) ?_; refine xel rfl (ev_loadK rfl rfl (sc rfl) (memF (.head _)) rfl) ?_; refine xel rfl (ev_min rfl rfl rfl) ?_; refine xep rfl rfl ?_; refine runL_nil ?_; refine then_normal ?_; refine run_seq ?_; refine run_region ?_; refine xep rfl rfl ?_; refine xel rfl (ev_fieldAddr rfl rfl (fo rfl)) ?_; refine xel rfl (ev_loadAK rfl rfl (ag rfl) (sz rfl) (memF (.head _)) rfl) ?_; refine xep rfl rfl ?_; refine xel rfl (ev_build rfl pl84 rfl) ?_)
      refine runL_buildSlice (l := hcell (e.o, min q1 e.seen)) rfl rfl rfl rfl rfl (se rfl) ze84 rfl rfl rfl rfl rfl (fun b10 => ?_)
      skip
      refine runL_append (sl := hcell (e.o, min q1 e.seen)) [blk b10 (hcell (e.o, min q1 e.seen)) 84, blk b9 (ec e) 102, blk b [.int .i64 p, .slice (some ⟨b2, 0, none⟩) (l.length + 1) cap] 100, blk b2 (rows ec (e :: l) ++ rest) 102] rfl rfl rfl rfl rfl rfl rfl (se rfl) (se rfl) ze84 rfl (byt rfl) owno
        (fun y => by show cnt y (blk b10 (hcell (e.o, min q1 e.seen)) 84 :: blk b9 (ec e) 102 :: _) = _; (first | rfl | (simp only [List.append_eq, cnt_append, cnt_cons, cnt_nil, blk]; omega) | (simp only [List.append_eq, cnt_append, cnt_cons, cnt_nil, blk]; done))) ⟨rfl, .inr ⟨b10, 0, _, _, _, rfl, memF (.head _), by simp [hcell], rfl⟩⟩ rfl (by decide) (by decide) (by omega) ?_
      rintro v' O' own'
      obtain ⟨a5, c5, rfl, own3⟩ := (own'.snoc (f := hcell) (x := (e.o, min q1 e.seen)) rfl).at
      have hgl := giveE_LB (n := min q1 e.seen) hb1 (by omega) (by omega)
      have htn := take_cons (firm := firm) (q := q1) (e := e) (l := l) hq0 hfirm he.2.2.1
      generalize hn : min q1 e.seen = n at *
      refine RunL.perm (h' := blk b9 (ec e) 102 :: blk b [.int .i64 p, .slice (some ⟨b2, 0, none⟩) (l.length + 1) cap] 100 :: (blk b10 (hcell (e.o, n)) 84 :: blk b2 (rows ec (e :: l) ++ rest) 102 :: O')) (fun y => by (first | rfl | (simp only [List.append_eq, cnt_append, cnt_cons, cnt_nil, blk]; omega) | (simp only [List.append_eq, cnt_append, cnt_cons, cnt_nil, blk]; done))) ?_
      have hgd : true = true := rfl
      (refine xep rfl rfl ?_; refine runL_nil ?_; refine then_normal ?_; refine run_seq ?_; refine run_region ?_; (iterate 2 refine xep rfl rfl ?_); refine xel rfl (ev_sub rfl rfl rfl (by omega)) ?_; refine xep rfl rfl ?_; refine runL_nil ?_; refine then_normal ?_; refine run_seq ?_; refine run_region ?_; (iterate 2 refine xel rfl (ev_fieldAddr rfl rfl (fo rfl)) ?_); refine xel rfl (ev_loadK rfl rfl (sc rfl) (memF (.head _)) rfl) ?_; refine xep rfl rfl ?_; refine xel rfl (ev_sub rfl rfl rfl (by omega)) ?_; refine xel rfl (ev_fieldAddr rfl rfl (fo rfl)) ?_; refine xel rfl (ev_loadK rfl rfl (sc rfl) (memF (.head _)) rfl) ?_; refine xep rfl rfl ?_; refine xel rfl (ev_sub rfl rfl rfl (by omega)) ?_; (iterate 2 refine xel rfl (ev_fieldAddr rfl rfl (fo rfl)) ?_); refine runL_store0 rfl rfl rfl rfl rfl (sz rfl) rfl rfl rfl rfl rfl ?_; refine xel rfl (ev_fieldAddr rfl rfl (fo rfl)) ?_; refine runL_store0 rfl rfl rfl rfl rfl (sz rfl) rfl rfl rfl rfl rfl ?_; refine runL_nil ?_; refine then_normal ?_; refine run_seq ?_; refine run_region ?_)
      have hinv : (((out ++ [(e.o, n)]).length : Nat) : Int) + min (q1 - n) (sumE (fun x => x.o.qty) (giveE e l n)) ≤ 1048576 := by
        rw [List.length_append, hgs]; show ((_ + 1 : Nat) : Int) + _ ≤ _; omega
      have htk2 : take firm q es = ((out ++ [(e.o, n)]) ++ (take firm (q1 - n) (giveE e l n)).1, (take firm (q1 - n) (giveE e l n)).2) := by
        rw [htk, htn]; dsimp only; rw [List.append_assoc]; rfl
      refine runL_buildSlice (n := 10) (l := []) rfl rfl rfl rfl rfl (se rfl) ze102 rfl rfl rfl rfl rfl (fun b11 => ?_)
      refine RunL.perm (h' := blk b9 (ec ⟨wq e.o (e.o.qty - n), e.seen - n⟩) 102 :: blk b [.int .i64 p, .slice (some ⟨b2, 0, none⟩) (l.length + 1) cap] 100 :: (blk b11 [] 102 :: blk b10 (hcell (e.o, n)) 84 :: blk b2 (rows ec (e :: l) ++ rest) 102 :: O')) (fun y => by simp only [List.append_eq, cnt_append, cnt_cons, cnt_nil, blk, Ord.cells, ec, hcell, o0, wq]; omega) ?_
      ((iterate 2 refine xep rfl rfl ?_); refine xel rfl (ev_fieldAddr rfl rfl (fo rfl)) ?_; refine xel rfl (ev_loadK rfl rfl (sc rfl) (memF (.tail _ (.head _))) rfl) ?_; refine xel rfl (ev_sliceLo rfl rfl rfl (se rfl) (by omega) (by omega)) ?_)
      have s2 := (own.src (H := (blk b9 (ec ⟨wq e.o (e.o.qty - n), e.seen - n⟩) 102 :: blk b [.int .i64 p, .slice (some ⟨b2, 0, none⟩) (l.length + 1) cap] 100 :: (blk b11 [] 102 :: blk b10 (hcell (e.o, n)) 84 :: blk b2 (rows ec (e :: l) ++ rest) 102 :: O')) ++ F) fun y m => by simp at m; simp [m]).drop (k := 1) (cap := cap) (by omega) hk2
      refine runL_append (sl := rows ec l) (blk b9 (ec ⟨wq e.o (e.o.qty - n), e.seen - n⟩) 102 :: blk b [.int .i64 p, .slice (some ⟨b2, 0, none⟩) (l.length + 1) cap] 100 :: (blk b10 (hcell (e.o, n)) 84 :: blk b2 (rows ec (e :: l) ++ rest) 102 :: O')) rfl rfl rfl rfl rfl rfl rfl (se rfl) (se rfl) ze102 rfl (byt rfl) (OwnS.lit (l := []) rfl) (fun y => by (first | rfl | (simp only [List.append_eq, cnt_append, cnt_cons, cnt_nil, blk]; omega) | (simp only [List.append_eq, cnt_append, cnt_cons, cnt_nil, blk]; done))) s2 (rows_cells ec_cells _) (by decide) (by decide) (by have := hb1.1; simp only [List.length_cons] at this; show (2 * (0 + (l.length + 1 - 1)) + 768) * _ ≤ _; omega) ?_
      rintro v' A' own'
      rw [List.nil_append, show 0 + (l.length + 1 - (1 : Int).toNat) = l.length by show 0 + (l.length + 1 - 1) = _; omega] at own'
      obtain ⟨a6, c6, rfl, own6⟩ := own'.at
      refine RunL.perm (h' := blk b9 (ec ⟨wq e.o (e.o.qty - n), e.seen - n⟩) 102 :: blk b [.int .i64 p, .slice (some ⟨b2, 0, none⟩) (l.length + 1) cap] 100 :: (A' ++ (blk b10 (hcell (e.o, n)) 84 :: blk b2 (rows ec (e :: l) ++ rest) 102 :: O'))) (fun y => by (first | rfl | (simp only [List.append_eq, cnt_append, cnt_cons, cnt_nil, blk]; omega) | (simp only [List.append_eq, cnt_append, cnt_cons, cnt_nil, blk]; done))) ?_
      (refine xep rfl rfl ?_; refine runL_nil ?_; refine then_normal ?_; refine run_block ?_; refine run_seq ?_; refine run_region ?_; (iterate 2 refine xel rfl (ev_fieldAddr rfl rfl (fo rfl)) ?_); refine xel rfl (ev_loadK rfl rfl (sc rfl) (memF (.head _)) rfl) ?_; (iterate 2 refine xep rfl rfl ?_); refine runL_nil ?_; refine then_normal ?_)
      (refine run_cond rfl (fun hc => ?_) (fun hc => ?_) <;> (try simp only [z0, z1, z2, z3, z4, z5, z6, z7, z8, z9, Bool.not_true, Bool.not_false, Bool.false_or, Bool.true_and, true_and, and_true, false_or, or_false, reduceCtorEq, Bool.false_eq_true] at hc))
      · (refine run_region ?_; (iterate 3 refine xep rfl rfl ?_); refine xel rfl (ev_fieldAddr rfl rfl (fo rfl)) ?_; refine runL_store1 rfl rfl rfl rfl rfl (sz rfl) rfl rfl rfl rfl rfl ?_; refine runL_nil ?_; (iterate 2 refine in_normal ?_); refine then_normal ?_)
        have hc1 : e.o.qty - n = 0 := hc
        have hge : giveE e l n = l := by unfold giveE; rw [if_neg (by omega), if_neg (by omega)]
        rw [hge] at hinv htk2 hgl
        exact ⟨(q1 - n, l, out ++ [(e.o, n)], (a6, c6, A'), (a5, c5, O')), ⟨by show q1 - n ≤ _; omega, by show _ ≤ q1 - n; omega, hinv, hgl.1, own6, own3, htk2⟩, by show (q1 - n).toNat < q1.toNat; omega, rfl, [blk b9 (ec ⟨wq e.o (e.o.qty - n), e.seen - n⟩) 102, blk b10 (hcell (e.o, n)) 84, blk b2 (rows ec (e :: l) ++ rest) 102], fun x => by (first | rfl | (simp only [List.append_eq, cnt_append, cnt_cons, cnt_nil, blk]; omega) | (simp only [List.append_eq, cnt_append, cnt_cons, cnt_nil, blk]; done))⟩
      · (refine run_seq ?_; refine run_region ?_; refine xel rfl (ev_fieldAddr rfl rfl (fo rfl)) ?_; refine xel rfl (ev_loadK rfl rfl (sc rfl) (memF (.head _)) rfl) ?_; (iterate 2 refine xep rfl rfl ?_); refine runL_nil ?_; refine then_normal ?_)
        have hc1 : ¬ e.o.qty - n = 0 := hc
        have q2 := fun F => sp_rtip F (wq e.o (e.o.qty - n))
        (refine run_cond rfl (fun hc => ?_) (fun hc => ?_) <;> (try simp only [z0, z1, z2, z3, z4, z5, z6, z7, z8, z9, Bool.not_true, Bool.not_false, Bool.false_or, Bool.true_and, true_and, and_true, false_or, or_false, reduceCtorEq, Bool.false_eq_true] at hc))
        · (refine run_seq ?_; refine run_region ?_; refine xel rfl (ev_fieldAddr rfl rfl (fo rfl)) ?_; refine xel rfl (ev_loadAK rfl rfl (ag rfl) (sz rfl) (memF (.head _)) rfl) ?_; refine xel rfl (ev_callQ rfl rfl rfl (pf rfl) (q2 ..)) ?_; refine xel rfl (ev_fieldAddr rfl rfl (fo rfl)) ?_; refine runL_store0 rfl rfl rfl rfl rfl (sz rfl) rfl rfl rfl rfl rfl ?_; refine runL_nil ?_; refine then_normal ?_; refine run_region ?_; (iterate 2 refine xep rfl rfl ?_); refine xel rfl (ev_loadAK rfl rfl (ag rfl) (sz rfl) (memF (.head _)) rfl) ?_)
          have hc2 : e.seen - n = 0 := hc
          refine runL_buildSlice (l := (ec ⟨wq e.o (e.o.qty - n), tip (wq e.o (e.o.qty - n))⟩)) rfl rfl rfl rfl rfl (se rfl) ze102 rfl rfl rfl rfl rfl (fun b12 => ?_)
          refine RunL.perm (h' := blk b [.int .i64 p, .slice (some ⟨b2, 0, none⟩) (l.length + 1) cap] 100 :: blk b12 (ec ⟨wq e.o (e.o.qty - n), tip (wq e.o (e.o.qty - n))⟩) 102 :: (A' ++ (blk b9 (ec ⟨wq e.o (e.o.qty - n), tip (wq e.o (e.o.qty - n))⟩) 102 :: blk b10 (hcell (e.o, n)) 84 :: blk b2 (rows ec (e :: l) ++ rest) 102 :: O'))) (fun y => by simp only [List.append_eq, cnt_append, cnt_cons, cnt_nil, blk, Ord.cells, ec, hcell, o0, wq]; omega) ?_
          skip
          refine runL_append (sl := (ec ⟨wq e.o (e.o.qty - n), tip (wq e.o (e.o.qty - n))⟩)) (blk b [.int .i64 p, .slice (some ⟨b2, 0, none⟩) (l.length + 1) cap] 100 :: blk b12 (ec ⟨wq e.o (e.o.qty - n), tip (wq e.o (e.o.qty - n))⟩) 102 :: (blk b9 (ec ⟨wq e.o (e.o.qty - n), tip (wq e.o (e.o.qty - n))⟩) 102 :: blk b10 (hcell (e.o, n)) 84 :: blk b2 (rows ec (e :: l) ++ rest) 102 :: O')) rfl rfl rfl rfl rfl rfl rfl (se rfl) (se rfl) ze102 rfl (byt rfl) own6 (fun y => by (first | rfl | (simp only [List.append_eq, cnt_append, cnt_cons, cnt_nil, blk]; omega) | (simp only [List.append_eq, cnt_append, cnt_cons, cnt_nil, blk]; done))) ⟨rfl, .inr ⟨b12, 0, _, _, _, rfl, memF (.tail _ (.head _)), by simp [ec], rfl⟩⟩ rfl (by decide) (by decide) (by have := hb1.1; simp only [List.length_cons] at this; omega) ?_
          rintro v' A'' own''
          obtain ⟨a7, c7, rfl, own7⟩ := (own''.snoc (f := ec) (x := ⟨wq e.o (e.o.qty - n), tip (wq e.o (e.o.qty - n))⟩) rfl).at
          refine RunL.perm (h' := blk b [.int .i64 p, .slice (some ⟨b2, 0, none⟩) (l.length + 1) cap] 100 :: (A'' ++ (blk b12 (ec ⟨wq e.o (e.o.qty - n), tip (wq e.o (e.o.qty - n))⟩) 102 :: blk b9 (ec ⟨wq e.o (e.o.qty - n), tip (wq e.o (e.o.qty - n))⟩) 102 :: blk b10 (hcell (e.o, n)) 84 :: blk b2 (rows ec (e :: l) ++ rest) 102 :: O'))) (fun y => by (first | rfl | (simp only [List.append_eq, cnt_append, cnt_cons, cnt_nil, blk]; omega) | (simp only [List.append_eq, cnt_append, cnt_cons, cnt_nil, blk]; done))) ?_
          (refine xep rfl rfl ?_; refine xel rfl (ev_fieldAddr rfl rfl (fo rfl)) ?_; refine runL_store0 rfl rfl rfl rfl rfl (sz rfl) rfl rfl rfl rfl rfl ?_; refine runL_nil ?_; (iterate 2 refine in_normal ?_); refine then_normal ?_)
          have hge : giveE e l n = l ++ [⟨wq e.o (e.o.qty - n), tip (wq e.o (e.o.qty - n))⟩] := by unfold giveE; rw [if_neg (by omega), if_pos (by omega)]
          rw [hge] at hinv htk2 hgl
          exact ⟨(q1 - n, l ++ [⟨wq e.o (e.o.qty - n), tip (wq e.o (e.o.qty - n))⟩], out ++ [(e.o, n)], (a7, c7, A''), (a5, c5, O')), ⟨by show q1 - n ≤ _; omega, by show _ ≤ q1 - n; omega, hinv, hgl.1, own7, own3, htk2⟩, by show (q1 - n).toNat < q1.toNat; omega, rfl, [blk b12 (ec ⟨wq e.o (e.o.qty - n), tip (wq e.o (e.o.qty - n))⟩) 102, blk b9 (ec ⟨wq e.o (e.o.qty - n), tip (wq e.o (e.o.qty - n))⟩) 102, blk b10 (hcell (e.o, n)) 84, blk b2 (rows ec (e :: l) ++ rest) 102], fun x => by (first | rfl | (simp only [List.append_eq, cnt_append, cnt_cons, cnt_nil, blk]; omega) | (simp only [List.append_eq, cnt_append, cnt_cons, cnt_nil, blk]; done))⟩
        · (refine run_region ?_; refine xep rfl rfl ?_; refine xel rfl (ev_loadAK rfl rfl (ag rfl) (sz rfl) (memF (.head _)) rfl) ?_)
          have hc2 : ¬ e.seen - n = 0 := hc
          refine runL_buildSlice (l := (ec ⟨wq e.o (e.o.qty - n), e.seen - n⟩)) rfl rfl rfl rfl rfl (se rfl) ze102 rfl rfl rfl rfl rfl (fun b12 => ?_)
          refine RunL.perm (h' := blk b [.int .i64 p, .slice (some ⟨b2, 0, none⟩) (l.length + 1) cap] 100 :: blk b12 (ec ⟨wq e.o (e.o.qty - n), e.seen - n⟩) 102 :: (A' ++ (blk b9 (ec ⟨wq e.o (e.o.qty - n), e.seen - n⟩) 102 :: blk b10 (hcell (e.o, n)) 84 :: blk b2 (rows ec (e :: l) ++ rest) 102 :: O'))) (fun y => by simp only [List.append_eq, cnt_append, cnt_cons, cnt_nil, blk, Ord.cells, ec, hcell, o0, wq]; omega) ?_
          (refine xep rfl rfl ?_)
          refine runL_append (sl := rows ec l) (blk b [.int .i64 p, .slice (some ⟨b2, 0, none⟩) (l.length + 1) cap] 100 :: (A' ++ (blk b9 (ec ⟨wq e.o (e.o.qty - n), e.seen - n⟩) 102 :: blk b10 (hcell (e.o, n)) 84 :: blk b2 (rows ec (e :: l) ++ rest) 102 :: O'))) rfl rfl rfl rfl rfl rfl rfl (se rfl) (se rfl) ze102 rfl (byt rfl) (OwnS.lit (l := (ec ⟨wq e.o (e.o.qty - n), e.seen - n⟩)) rfl) (fun y => by (first | rfl | (simp only [List.append_eq, cnt_append, cnt_cons, cnt_nil, blk]; omega) | (simp only [List.append_eq, cnt_append, cnt_cons, cnt_nil, blk]; done))) (own6.src fun y m => by simp [m]) (rows_cells ec_cells _) (by decide) (by decide) (by have := hb1.1; simp only [List.length_cons] at this; omega) ?_
          rintro v' A'' own''
          rw [show 1 + l.length = (Ent.mk (wq e.o (e.o.qty - n)) (e.seen - n) :: l).length by rw [List.length_cons]; omega] at own''
          obtain ⟨a7, c7, rfl, own7⟩ := own''.at
          refine RunL.perm (h' := blk b [.int .i64 p, .slice (some ⟨b2, 0, none⟩) (l.length + 1) cap] 100 :: (A'' ++ (A' ++ (blk b9 (ec ⟨wq e.o (e.o.qty - n), e.seen - n⟩) 102 :: blk b10 (hcell (e.o, n)) 84 :: blk b2 (rows ec (e :: l) ++ rest) 102 :: O')))) (fun y => by (first | rfl | (simp only [List.append_eq, cnt_append, cnt_cons, cnt_nil, blk]; omega) | (simp only [List.append_eq, cnt_append, cnt_cons, cnt_nil, blk]; done))) ?_
          (refine xep rfl rfl ?_; refine xel rfl (ev_fieldAddr rfl rfl (fo rfl)) ?_; refine runL_store0 rfl rfl rfl rfl rfl (sz rfl) rfl rfl rfl rfl rfl ?_; refine runL_nil ?_; (iterate 2 refine in_normal ?_); refine then_normal ?_)
          have hge : giveE e l n = ⟨wq e.o (e.o.qty - n), e.seen - n⟩ :: l := by unfold giveE; rw [if_pos (by omega)]
          rw [hge] at hinv htk2 hgl
          exact ⟨(q1 - n, ⟨wq e.o (e.o.qty - n), e.seen - n⟩ :: l, out ++ [(e.o, n)], (a7, c7, A''), (a5, c5, O')), ⟨by show q1 - n ≤ _; omega, by show _ ≤ q1 - n; omega, hinv, hgl.1, own7, own3, htk2⟩, by show (q1 - n).toNat < q1.toNat; omega, rfl, A' ++ [blk b9 (ec ⟨wq e.o (e.o.qty - n), e.seen - n⟩) 102, blk b10 (hcell (e.o, n)) 84, blk b2 (rows ec (e :: l) ++ rest) 102], fun x => by (first | rfl | (simp only [List.append_eq, cnt_append, cnt_cons, cnt_nil, blk]; omega) | (simp only [List.append_eq, cnt_append, cnt_cons, cnt_nil, blk]; done))⟩
  · (refine run_exit ?_; (iterate 2 refine then_exit ?_); refine in_exit ?_; refine then_normal ?_)
    (refine run_seq ?_; refine run_region ?_; (iterate 3 refine xep rfl rfl ?_); refine runL_nil ?_; refine then_normal ?_; refine run_ret ?_)
    have hend : take firm q1 es1 = ([], false, es1) := by
      rcases hc with h | h
      · exact take_le (by omega)
      · match es1, h with
        | [], _ => exact take_nil
    rw [hend] at htk
    rw [htk]
    refine ⟨_, rfl, _, [], ⟨ao, co, O, _, ?_, ?_, ⟨a, cap, A, own, rfl⟩, rfl⟩, fun x => by rw [List.append_nil]; rfl⟩
    · simp only [List.append_nil]; rfl
    · simp only [List.append_nil]; exact owno
end Go.Proofs.YtmelpobcpcmdoaaGreat

set_option autoImplicit false
set_option linter.unusedSectionVars false
set_option linter.unusedSimpArgs false
set_option linter.unusedVariables false
set_option maxHeartbeats 1000000
namespace Go.Proofs.YtmelpobcpcmdoaaGreat
open Go Go.SL Go.Proofs
variable [Base]
theorem rp_in (F : Heap) (n lo hi : Int) : Sp Tryz.prog F 56 [.int .i64 n, .int .i64 lo, .int .i64 hi] [] (Ret (.bool (decide (lo ≤ n) && decide (n ≤ hi)))) := by
  refine sp_of_code Tryz.func56 rfl rfl ?_
  (refine run_seq ?_; refine run_region ?_; refine xep rfl rfl ?_; refine runL_nil ?_; refine then_normal ?_; refine run_seq ?_; refine run_region ?_; (iterate 4 refine xep rfl rfl ?_); (iterate 3 refine xgp rfl rfl rfl ?_); (iterate 2 refine xep rfl rfl ?_); refine runL_nil ?_; refine then_normal ?_; refine run_ret ?_)
  exact ⟨_, rfl, rfl⟩
theorem rp_crosses (F : Heap) (o : Ord) (p : Int) : Sp Tryz.prog F 58 [ov o, .int .i64 p] [] (Ret (.bool (crosses o p))) := by
  refine sp_of_code Tryz.func58 rfl rfl ?_
  (refine run_seq ?_; refine run_region ?_; refine runL_box rfl rfl rfl rfl rfl rfl (fun _ => ?_); refine xep rfl rfl ?_; refine runL_nil ?_; refine then_normal ?_; refine run_seq ?_; refine run_block ?_; refine run_seq ?_; refine run_region ?_; refine xel rfl (ev_fieldAddr rfl rfl (fo rfl)) ?_; refine xel rfl (ev_loadK rfl rfl (sc rfl) (memF (.head _)) rfl) ?_; (iterate 2 refine xep rfl rfl ?_); refine runL_nil ?_; refine then_normal ?_)
  (refine run_cond rfl (fun hc => ?_) (fun hc => ?_) <;> (try simp only [z0, z1, z2, z3, z4, z5, z6, z7, z8, z9, Bool.not_true, Bool.not_false, Bool.false_or, Bool.true_and, true_and, and_true, false_or, or_false, reduceCtorEq, Bool.false_eq_true] at hc))
  · (refine run_seq ?_; refine run_region ?_; refine xep rfl rfl ?_; refine runL_nil ?_; refine then_normal ?_; refine run_ret ?_; refine in_ret ?_; refine then_ret ?_)
    exact ⟨_, rfl, by unfold crosses; rw [if_pos hc]; rfl⟩
  · have hc1 := hc
    (refine run_seq ?_; refine run_region ?_; refine xel rfl (ev_fieldAddr rfl rfl (fo rfl)) ?_; refine xel rfl (ev_loadK rfl rfl (sc rfl) (memF (.head _)) rfl) ?_; (iterate 2 refine xep rfl rfl ?_); refine runL_nil ?_; refine then_normal ?_)
    (refine run_cond rfl (fun hc => ?_) (fun hc => ?_) <;> (try simp only [z0, z1, z2, z3, z4, z5, z6, z7, z8, z9, Bool.not_true, Bool.not_false, Bool.false_or, Bool.true_and, true_and, and_true, false_or, or_false, reduceCtorEq, Bool.false_eq_true] at hc))
    · (refine run_seq ?_; refine run_region ?_; refine xel rfl (ev_fieldAddr rfl rfl (fo rfl)) ?_; refine xel rfl (ev_loadK rfl rfl (sc rfl) (memF (.head _)) rfl) ?_; (iterate 3 refine xep rfl rfl ?_); refine runL_nil ?_; refine then_normal ?_; refine run_ret ?_; refine in_ret ?_; refine then_ret ?_)
      exact ⟨_, rfl, by unfold crosses; rw [if_neg hc1, if_pos hc]; rfl⟩
    · (refine run_skip ?_; refine in_normal ?_; refine then_normal ?_; refine run_seq ?_; refine run_region ?_; refine xel rfl (ev_fieldAddr rfl rfl (fo rfl)) ?_; refine xel rfl (ev_loadK rfl rfl (sc rfl) (memF (.head _)) rfl) ?_; (iterate 3 refine xep rfl rfl ?_); refine runL_nil ?_; refine then_normal ?_; refine run_ret ?_)
      exact ⟨_, rfl, by unfold crosses; rw [if_neg hc1, if_neg hc]; rfl⟩
theorem rp_hit (F : Heap) (o : Ord) (p : Int) : Sp Tryz.prog F 33 [ov o, .int .i64 p] [] (Ret (.bool (hit o p))) := by
  refine sp_of_code Tryz.func33 rfl rfl ?_
  (refine run_seq ?_; refine run_region ?_; refine runL_box rfl rfl rfl rfl rfl rfl (fun _ => ?_); refine xep rfl rfl ?_; refine runL_nil ?_; refine then_normal ?_; refine run_seq ?_; refine run_block ?_; refine run_seq ?_; refine run_region ?_; refine xel rfl (ev_fieldAddr rfl rfl (fo rfl)) ?_; refine xel rfl (ev_loadK rfl rfl (sc rfl) (memF (.head _)) rfl) ?_; (iterate 2 refine xep rfl rfl ?_); (iterate 2 refine xgp rfl rfl rfl ?_); (iterate 2 refine xep rfl rfl ?_); refine runL_nil ?_; refine then_normal ?_)
  (refine run_cond rfl (fun hc => ?_) (fun hc => ?_) <;> (try simp only [z0, z1, z2, z3, z4, z5, z6, z7, z8, z9, Bool.not_true, Bool.not_false, Bool.false_or, Bool.true_and, true_and, and_true, false_or, or_false, reduceCtorEq, Bool.false_eq_true] at hc))
  · (refine run_seq ?_; refine run_region ?_; refine xep rfl rfl ?_; refine runL_nil ?_; refine then_normal ?_; refine run_ret ?_; refine in_ret ?_; refine then_ret ?_)
    exact ⟨_, rfl, by unfold hit; rw [if_pos (by omega)]; rfl⟩
  · have hc1 : ¬ (o.stop ≤ 0 ∨ p ≤ 0) := by omega
    (refine run_seq ?_; refine run_region ?_; refine xel rfl (ev_fieldAddr rfl rfl (fo rfl)) ?_; refine xel rfl (ev_loadK rfl rfl (sc rfl) (memF (.head _)) rfl) ?_; (iterate 2 refine xep rfl rfl ?_); refine runL_nil ?_; refine then_normal ?_)
    (refine run_cond rfl (fun hc => ?_) (fun hc => ?_) <;> (try simp only [z0, z1, z2, z3, z4, z5, z6, z7, z8, z9, Bool.not_true, Bool.not_false, Bool.false_or, Bool.true_and, true_and, and_true, false_or, or_false, reduceCtorEq, Bool.false_eq_true] at hc))
    · (refine run_seq ?_; refine run_region ?_; refine xep rfl rfl ?_; refine xel rfl (ev_fieldAddr rfl rfl (fo rfl)) ?_; refine xel rfl (ev_loadK rfl rfl (sc rfl) (memF (.head _)) rfl) ?_; (iterate 2 refine xep rfl rfl ?_); refine runL_nil ?_; refine then_normal ?_; refine run_ret ?_; refine in_ret ?_; refine then_ret ?_)
      exact ⟨_, rfl, by unfold hit; rw [if_neg hc1, if_pos hc]; rfl⟩
    · (refine run_skip ?_; refine in_normal ?_; refine then_normal ?_; refine run_seq ?_; refine run_region ?_; refine xep rfl rfl ?_; refine xel rfl (ev_fieldAddr rfl rfl (fo rfl)) ?_; refine xel rfl (ev_loadK rfl rfl (sc rfl) (memF (.head _)) rfl) ?_; (iterate 2 refine xep rfl rfl ?_); refine runL_nil ?_; refine then_normal ?_; refine run_ret ?_)
      exact ⟨_, rfl, by unfold hit; rw [if_neg hc1, if_neg hc]; rfl⟩
theorem rp_better (F : Heap) (s a b : Int) : Sp Tryz.prog F 81 [.int .i64 s, .int .i64 a, .int .i64 b] [] (Ret (.bool (better s a b))) := by
  refine sp_of_code Tryz.func81 rfl rfl ?_
  (refine run_seq ?_; refine run_region ?_; refine xep rfl rfl ?_; refine runL_nil ?_; refine then_normal ?_; (iterate 2 refine run_seq ?_); refine run_region ?_; (iterate 2 refine xep rfl rfl ?_); refine runL_nil ?_; refine then_normal ?_)
  (refine run_cond rfl (fun hc => ?_) (fun hc => ?_) <;> (try simp only [z0, z1, z2, z3, z4, z5, z6, z7, z8, z9, Bool.not_true, Bool.not_false, Bool.false_or, Bool.true_and, true_and, and_true, false_or, or_false, reduceCtorEq, Bool.false_eq_true] at hc))
  · (refine run_seq ?_; refine run_region ?_; (iterate 4 refine xep rfl rfl ?_); refine runL_nil ?_; refine then_normal ?_; refine run_ret ?_; refine then_ret ?_)
    exact ⟨_, rfl, by unfold better; rw [if_pos hc]; rfl⟩
  · (refine run_skip ?_; refine then_normal ?_; refine run_seq ?_; refine run_region ?_; (iterate 4 refine xep rfl rfl ?_); refine runL_nil ?_; refine then_normal ?_; refine run_ret ?_)
    exact ⟨_, rfl, by unfold better; rw [if_neg hc]; rfl⟩
set_option maxHeartbeats 1000000 in
theorem rp_right (F : Heap) (o : Ord) (h1 : InI o.kind) : Sp Tryz.prog F 30 [ov o] [] (Ret (.int .i64 (right o))) := by
  have q1 := @rp_in
  refine sp_of_code Tryz.func30 rfl rfl ?_
  (refine run_seq ?_; refine run_region ?_; refine runL_box rfl rfl rfl rfl rfl rfl (fun _ => ?_); refine xep rfl rfl ?_; refine runL_nil ?_; refine then_normal ?_; (iterate 2 refine run_seq ?_); refine run_region ?_; refine xel rfl (ev_fieldAddr rfl rfl (fo rfl)) ?_; refine xel rfl (ev_loadK rfl rfl (sc rfl) (memF (.head _)) rfl) ?_; refine xel rfl (ev_callQ rfl rfl rfl (pf rfl) (q1 ..)) ?_; (iterate 2 refine xep rfl rfl ?_); refine xgl rfl rfl (fun hq => ev_fieldAddr rfl rfl (fo rfl)) ?_; refine xgl rfl rfl (fun hq => ev_loadK rfl rfl (sc rfl) (memF (.head _)) rfl) ?_; refine xgl rfl rfl (fun hq => ev_callQ rfl rfl rfl (pf rfl) (q1 ..)) ?_; refine xgp rfl rfl rfl ?_; (iterate 2 refine xep rfl rfl ?_); refine xgl rfl rfl (fun hq => ev_fieldAddr rfl rfl (fo rfl)) ?_; refine xgl rfl rfl (fun hq => ev_loadK rfl rfl (sc rfl) (memF (.head _)) rfl) ?_; refine xgl rfl rfl (fun hq => ev_callQ rfl rfl rfl (pf rfl) (q1 ..)) ?_; refine xgp rfl rfl rfl ?_; (iterate 2 refine xep rfl rfl ?_); refine xgl rfl rfl (fun hq => ev_fieldAddr rfl rfl (fo rfl)) ?_; refine xgl rfl rfl (fun hq => ev_loadK rfl rfl (sc rfl) (memF (.head _)) rfl) ?_; refine xgl rfl rfl (fun hq => ev_callQ rfl rfl rfl (pf rfl) (q1 ..)) ?_; refine xgp rfl rfl rfl ?_; (iterate 2 refine xep rfl rfl ?_); refine xgl rfl rfl (fun hq => ev_fieldAddr rfl rfl (fo rfl)) ?_; refine xgl rfl rfl (fun hq => ev_loadK rfl rfl (sc rfl) (memF (.head _)) rfl) ?_; refine xgl rfl rfl (fun hq => ev_callQ rfl rfl rfl (pf rfl) (q1 ..)) ?_; refine xgp rfl rfl rfl ?_; refine xep rfl rfl ?_; refine runL_nil ?_; refine then_normal ?_)
  (refine run_cond rfl (fun hc => ?_) (fun hc => ?_) <;> (try simp only [z0, z1, z2, z3, z4, z5, z6, z7, z8, z9, Bool.not_true, Bool.not_false, Bool.false_or, Bool.true_and, true_and, and_true, false_or, or_false, reduceCtorEq, Bool.false_eq_true] at hc))
  · (refine run_seq ?_; refine run_region ?_; refine xep rfl rfl ?_; refine runL_nil ?_; refine then_normal ?_; refine run_ret ?_; refine then_ret ?_)
    exact ⟨_, rfl, by unfold right; rw [if_neg (by intro h; unfold rightP at h; omega)]; rfl⟩
  have g1 := hc
  (refine run_skip ?_; refine then_normal ?_; (iterate 2 refine run_seq ?_); refine run_region ?_; refine xel rfl (ev_fieldAddr rfl rfl (fo rfl)) ?_; refine xel rfl (ev_loadK rfl rfl (sc rfl) (memF (.head _)) rfl) ?_; refine xel rfl (ev_callQ rfl rfl rfl (pf rfl) (q1 ..)) ?_; (iterate 2 refine xep rfl rfl ?_); refine xgl rfl rfl (fun hq => ev_fieldAddr rfl rfl (fo rfl)) ?_; refine xgl rfl rfl (fun hq => ev_loadK rfl rfl (sc rfl) (memF (.head _)) rfl) ?_; refine xgl rfl rfl (fun hq => ev_fieldAddr rfl rfl (fo rfl)) ?_; refine xgl rfl rfl (fun hq => ev_loadK rfl rfl (sc rfl) (memF (.head _)) rfl) ?_; refine xgl rfl rfl (fun hq => ev_callQ rfl rfl rfl (pf rfl) (q1 ..)) ?_; refine xgp rfl rfl rfl ?_; (iterate 2 refine xep rfl rfl ?_); refine xgl rfl rfl (fun hq => ev_fieldAddr rfl rfl (fo rfl)) ?_; refine xgl rfl rfl (fun hq => ev_loadK rfl rfl (sc rfl) (memF (.head _)) rfl) ?_; refine xgl rfl rfl (fun hq => ev_callQ rfl rfl rfl (pf rfl) (q1 ..)) ?_; refine xgp rfl rfl rfl ?_; refine xep rfl rfl ?_; refine runL_nil ?_; refine then_normal ?_)
  (refine run_cond rfl (fun hc => ?_) (fun hc => ?_) <;> (try simp only [z0, z1, z2, z3, z4, z5, z6, z7, z8, z9, Bool.not_true, Bool.not_false, Bool.false_or, Bool.true_and, true_and, and_true, false_or, or_false, reduceCtorEq, Bool.false_eq_true] at hc))
  · (refine run_seq ?_; refine run_region ?_; refine xep rfl rfl ?_; refine runL_nil ?_; refine then_normal ?_; refine run_ret ?_; refine then_ret ?_)
    exact ⟨_, rfl, by unfold right; rw [if_neg (by intro h; unfold rightP at h; omega)]; rfl⟩
  have g2 := hc
  (refine run_skip ?_; refine then_normal ?_; (iterate 2 refine run_seq ?_); refine run_region ?_; refine xel rfl (ev_fieldAddr rfl rfl (fo rfl)) ?_; refine xel rfl (ev_loadK rfl rfl (sc rfl) (memF (.head _)) rfl) ?_; refine xep rfl rfl ?_; refine runL_nil ?_; refine then_normal ?_)
  (refine run_cond rfl (fun hc => ?_) (fun hc => ?_) <;> (try simp only [z0, z1, z2, z3, z4, z5, z6, z7, z8, z9, Bool.not_true, Bool.not_false, Bool.false_or, Bool.true_and, true_and, and_true, false_or, or_false, reduceCtorEq, Bool.false_eq_true] at hc))
  · have g3 := hc
    (refine run_seq ?_; refine run_region ?_; refine xel rfl (ev_fieldAddr rfl rfl (fo rfl)) ?_; refine xel rfl (ev_loadK rfl rfl (sc rfl) (memF (.head _)) rfl) ?_; (iterate 2 refine xep rfl rfl ?_); refine xgl rfl rfl (fun hq => ev_fieldAddr rfl rfl (fo rfl)) ?_; refine xgl rfl rfl (fun hq => ev_loadK rfl rfl (sc rfl) (memF (.head _)) rfl) ?_; refine xgp rfl rfl rfl ?_; refine xep rfl rfl ?_; refine runL_nil ?_; refine then_normal ?_)
    (refine run_cond rfl (fun hc => ?_) (fun hc => ?_) <;> (try simp only [z0, z1, z2, z3, z4, z5, z6, z7, z8, z9, Bool.not_true, Bool.not_false, Bool.false_or, Bool.true_and, true_and, and_true, false_or, or_false, reduceCtorEq, Bool.false_eq_true] at hc))
    · (refine run_seq ?_; refine run_region ?_; refine xep rfl rfl ?_; refine runL_nil ?_; refine then_normal ?_; refine run_ret ?_; refine then_ret ?_)
      exact ⟨_, rfl, by unfold right; rw [if_neg (by intro h; unfold rightP at h; omega)]; rfl⟩
    have g4 := hc
    (refine run_skip ?_; refine then_normal ?_; (iterate 2 refine run_seq ?_); refine run_region ?_; refine xel rfl (ev_fieldAddr rfl rfl (fo rfl)) ?_; refine xel rfl (ev_loadK rfl rfl (sc rfl) (memF (.head _)) rfl) ?_; (iterate 2 refine xep rfl rfl ?_); refine xgl rfl rfl (fun hq => ev_fieldAddr rfl rfl (fo rfl)) ?_; refine xgl rfl rfl (fun hq => ev_loadK rfl rfl (sc rfl) (memF (.head _)) rfl) ?_; refine xgp rfl rfl rfl ?_; (iterate 2 refine xep rfl rfl ?_); refine xgl rfl rfl (fun hq => ev_fieldAddr rfl rfl (fo rfl)) ?_; refine xgl rfl rfl (fun hq => ev_loadK rfl rfl (sc rfl) (memF (.head _)) rfl) ?_; refine xgp rfl rfl rfl ?_; refine xep rfl rfl ?_; refine runL_nil ?_; refine then_normal ?_)
    (refine run_cond rfl (fun hc => ?_) (fun hc => ?_) <;> (try simp only [z0, z1, z2, z3, z4, z5, z6, z7, z8, z9, Bool.not_true, Bool.not_false, Bool.false_or, Bool.true_and, true_and, and_true, false_or, or_false, reduceCtorEq, Bool.false_eq_true] at hc))
    · (refine run_seq ?_; refine run_region ?_; refine xep rfl rfl ?_; refine runL_nil ?_; refine then_normal ?_; refine run_ret ?_; refine then_ret ?_)
      exact ⟨_, rfl, by unfold right; rw [if_neg (by intro h; unfold rightP at h; omega)]; rfl⟩
    · (refine run_skip ?_; refine then_normal ?_; refine run_seq ?_; refine run_region ?_; refine xep rfl rfl ?_; refine runL_nil ?_; refine then_normal ?_; refine run_ret ?_)
      exact ⟨_, rfl, by unfold right; rw [if_pos (by unfold rightP; omega)]; rfl⟩
  · have g3 := hc
    (refine run_seq ?_; refine run_region ?_; refine xel rfl (ev_fieldAddr rfl rfl (fo rfl)) ?_; refine xel rfl (ev_loadK rfl rfl (sc rfl) (memF (.head _)) rfl) ?_; refine xel rfl (ev_callQ rfl rfl rfl (pf rfl) (q1 ..)) ?_; refine xep rfl rfl ?_; refine runL_nil ?_; refine then_normal ?_)
    (refine run_cond rfl (fun hc => ?_) (fun hc => ?_) <;> (try simp only [z0, z1, z2, z3, z4, z5, z6, z7, z8, z9, Bool.not_true, Bool.not_false, Bool.false_or, Bool.true_and, true_and, and_true, false_or, or_false, reduceCtorEq, Bool.false_eq_true] at hc))
    · (refine run_seq ?_; refine run_region ?_; refine xep rfl rfl ?_; refine runL_nil ?_; refine then_normal ?_; refine run_ret ?_; refine then_ret ?_)
      exact ⟨_, rfl, by unfold right; rw [if_neg (by intro h; unfold rightP at h; omega)]; rfl⟩
    have g4 := hc
    (refine run_skip ?_; refine then_normal ?_; (iterate 2 refine run_seq ?_); refine run_region ?_; refine xel rfl (ev_fieldAddr rfl rfl (fo rfl)) ?_; refine xel rfl (ev_loadK rfl rfl (sc rfl) (memF (.head _)) rfl) ?_; (iterate 2 refine xep rfl rfl ?_); refine xgl rfl rfl (fun hq => ev_fieldAddr rfl rfl (fo rfl)) ?_; refine xgl rfl rfl (fun hq => ev_loadK rfl rfl (sc rfl) (memF (.head _)) rfl) ?_; refine xgp rfl rfl rfl ?_; (iterate 2 refine xep rfl rfl ?_); refine xgl rfl rfl (fun hq => ev_fieldAddr rfl rfl (fo rfl)) ?_; refine xgl rfl rfl (fun hq => ev_loadK rfl rfl (sc rfl) (memF (.head _)) rfl) ?_; refine xgp rfl rfl rfl ?_; refine xep rfl rfl ?_; refine runL_nil ?_; refine then_normal ?_)
    (refine run_cond rfl (fun hc => ?_) (fun hc => ?_) <;> (try simp only [z0, z1, z2, z3, z4, z5, z6, z7, z8, z9, Bool.not_true, Bool.not_false, Bool.false_or, Bool.true_and, true_and, and_true, false_or, or_false, reduceCtorEq, Bool.false_eq_true] at hc))
    · (refine run_seq ?_; refine run_region ?_; refine xep rfl rfl ?_; refine runL_nil ?_; refine then_normal ?_; refine run_ret ?_; refine then_ret ?_)
      exact ⟨_, rfl, by unfold right; rw [if_neg (by intro h; unfold rightP at h; omega)]; rfl⟩
    · (refine run_skip ?_; refine then_normal ?_; refine run_seq ?_; refine run_region ?_; refine xep rfl rfl ?_; refine runL_nil ?_; refine then_normal ?_; refine run_ret ?_)
      exact ⟨_, rfl, by unfold right; rw [if_pos (by unfold rightP; omega)]; rfl⟩
end Go.Proofs.YtmelpobcpcmdoaaGreat
