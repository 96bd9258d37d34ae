/- Contracts of functions of the given program over its translation, each proved by walking its text; used by the laws' rows. It proves no given statement by itself. -/
import Derived.Test.YtfclaleiciodmaaSLRLvl3
set_option autoImplicit false
set_option linter.unusedSectionVars false
set_option linter.unusedSimpArgs false
set_option linter.unusedVariables false
set_option maxRecDepth 4000
set_option maxHeartbeats 8000000
namespace Go.Proofs.Ytfclaleiciodmaa
open Go Go.SL Go.Proofs
variable [Base]
theorem sp_rless (F : Heap) (H : Heap) (b : Nat) (p : Int) (es : List Ent) (hH : RvH b p es H) (hb : es.length ≤ 65536) (t i q : Int) :
    Sp Try.prog F 26 [.pointer (some ⟨b, 0, none⟩), .int .i64 t, .int .i64 i, .int .i64 q] H (fun v h' => v = .bool (lless t i q es).1 ∧ RvH b p (lless t i q es).2 h') := by
  obtain ⟨a, cap, A, own, rfl⟩ := hH
  have hck : es.length ≤ cap := by
    obtain ⟨_, _, hv, h2⟩ := own.form
    cases hv; exact h2
  refine Sp.up ?_
  refine sp_of_code Try.func26 rfl rfl ?_
  (refine run_seq ?_; refine run_region ?_; refine xep rfl rfl ?_; refine runL_nil ?_; refine then_normal ?_; (iterate 2 refine run_seq ?_); refine run_region ?_; (iterate 2 refine xep rfl rfl ?_); refine xel rfl (ev_fieldAddr rfl rfl (fo rfl)) ?_; refine xel rfl (ev_loadK rfl rfl (sc rfl) (memF (.head _)) rfl) ?_; refine xel rfl (ev_len rfl rfl (se rfl)) ?_; refine xep rfl rfl ?_; refine runL_nil ?_; refine then_normal ?_; refine run_block ?_)
  refine run_loopK (σ := Nat) [0, 1, 2, 3, 15, 16, 17] (fun k => [(0, .pointer (some ⟨b, 0, none⟩)), (1, .int .i64 t), (2, .int .i64 i), (3, .int .i64 q), (15, .slice a es.length cap), (16, .int .i64 es.length), (17, .int .i64 k)])
    (fun _ => blk b [.int .i64 p, .slice a es.length cap] 51 :: A) (fun k => k ≤ es.length ∧ ∀ j y, j < k → es[j]? = some y → isIt t i y = false) (fun k => es.length - k) 0 ⟨Nat.zero_le _, fun j y h => absurd h (Nat.not_lt_zero _)⟩ rfl (fun _ => rfl) ?_
  rintro k ⟨g1, g2⟩
  (refine run_seq ?_; refine run_region ?_; refine xep rfl rfl ?_; refine runL_nil ?_; refine then_normal ?_; refine run_seq ?_)
  (refine run_cond rfl (fun hc => ?_) (fun hc => ?_) <;> (try simp only [z0, z1, z2, z3, z4, z5, z6, z7, z8, z9, Bool.not_true, Bool.not_false, Bool.false_or, Bool.true_and, true_and, and_true, false_or, or_false, reduceCtorEq, Bool.false_eq_true] at hc))
  · obtain ⟨x, hx⟩ : ∃ x, es[k]? = some x := ⟨es[k]'(by omega), List.getElem?_eq_getElem _⟩
    obtain ⟨b2, rest, cap', hv, rfl, hl2, hr2, hk2⟩ := own.pos (by omega)
    cases hv
    have r1 : RowAt (rows ec es ++ rest) (0 + (k : Int).toNat * 10) (ec x) := by
      rw [Nat.zero_add]; exact rows_at ec_len hx rest
    (refine run_skip ?_; refine then_normal ?_; refine run_seq ?_; refine run_block ?_; refine run_seq ?_; refine run_region ?_; refine xep rfl rfl ?_; refine xel rfl (ev_indexAddr rfl rfl rfl (se rfl) (by omega) (by omega)) ?_; refine xel rfl (ev_loadAR rfl rfl (ag rfl) (sz rfl) (memF (.tail _ (.head _))) r1 rfl) ?_; refine runL_alloc rfl rfl rfl rfl rfl ze35 (fun _ => ?_); refine xep rfl rfl ?_; refine runL_store0 rfl rfl rfl rfl rfl (sz rfl) rfl rfl rfl rfl rfl ?_; refine runL_nil ?_; refine then_normal ?_; refine run_seq ?_; refine run_region ?_; (iterate 2 refine xel rfl (ev_fieldAddr rfl rfl (fo rfl)) ?_); refine xel rfl (ev_loadK rfl rfl (sc rfl) (memF (.head _)) rfl) ?_; (iterate 3 refine xep rfl rfl ?_); (iterate 2 refine xgl rfl rfl (fun hq => ev_fieldAddr rfl rfl (fo rfl)) ?_); refine xgl rfl rfl (fun hq => ev_loadK rfl rfl (sc rfl) (memF (.head _)) rfl) ?_; (iterate 2 refine xgp rfl rfl rfl ?_); refine xep rfl rfl ?_; refine runL_nil ?_; refine then_normal ?_)
    rename_i b9
    by_cases hit : isIt t i x = true
    · refine run_condT rfl hit ?_
      rw [lless_some hx hit g2]
      ((iterate 2 refine run_seq ?_); refine run_region ?_; (iterate 3 refine xep rfl rfl ?_); refine xgp rfl rfl rfl ?_; (iterate 2 refine xgl rfl rfl (fun hq => ev_fieldAddr rfl rfl (fo rfl)) ?_); refine xgl rfl rfl (fun hq => ev_loadK rfl rfl (sc rfl) (memF (.head _)) rfl) ?_; refine xgp rfl rfl rfl ?_; refine xep rfl rfl ?_; refine runL_nil ?_; refine then_normal ?_)
      by_cases hc : q < 1 ∨ x.o.qty < q
      · rw [if_pos hc]
        refine run_condT rfl (by rcases hc with h | h <;> simp [h]) ?_
        (refine run_seq ?_; refine run_region ?_; refine xep rfl rfl ?_; refine runL_nil ?_; refine then_normal ?_; refine run_ret ?_; refine then_ret ?_; refine in_ret ?_; (iterate 2 refine then_ret ?_); refine in_ret ?_; refine then_ret ?_)
        exact ⟨_, rfl, _, [blk b9 (ec x) 67], ⟨rfl, _, cap, _, own, rfl⟩, fun y => by (simp only [List.append_eq, cnt_append, cnt_cons, cnt_nil, blk, Ord.cells, ec, hcell, o0]; omega)⟩
      · rw [if_neg hc]
        refine run_condF rfl (by rw [decide_eq_false (by omega : ¬ q < 1), decide_eq_false (by omega : ¬ x.o.qty < q)]; rfl) ?_
        (refine run_skip ?_; refine then_normal ?_; refine run_seq ?_; refine run_region ?_; refine xep rfl rfl ?_; refine xel rfl (ev_fieldAddr rfl rfl (fo rfl)) ?_; refine xel rfl (ev_loadK rfl rfl (sc rfl) (memF (.head _)) rfl) ?_; refine xep rfl rfl ?_; refine xel rfl (ev_min rfl rfl rfl) ?_; (iterate 2 refine xel rfl (ev_fieldAddr rfl rfl (fo rfl)) ?_); refine runL_store0 rfl rfl rfl rfl rfl (sz rfl) rfl rfl rfl rfl rfl ?_; refine xel rfl (ev_fieldAddr rfl rfl (fo rfl)) ?_; refine runL_store0 rfl rfl rfl rfl rfl (sz rfl) rfl rfl rfl rfl rfl ?_; refine runL_nil ?_; refine then_normal ?_; refine run_seq ?_; refine run_region ?_)
        refine runL_buildSlice (n := 10) (l := []) rfl rfl rfl rfl rfl (se rfl) ze67 rfl rfl rfl rfl rfl (fun b5 => ?_)
        refine RunL.perm (h' := blk b5 [] 67 :: blk b [.int .i64 p, .slice (some ⟨b2, 0, none⟩) es.length cap] 51 :: [blk b9 (ec ⟨wq x.o q, min x.seen q⟩) 67, blk b2 (rows ec es ++ rest) 67]) (fun y => by simp only [List.append_eq, cnt_append, cnt_cons, cnt_nil, blk, Ord.cells, ec, hcell, o0, wq]; omega) ?_
        ((iterate 2 refine xep rfl rfl ?_); refine xel rfl (ev_fieldAddr rfl rfl (fo rfl)) ?_; refine xel rfl (ev_loadK rfl rfl (sc rfl) (memF (.tail _ (.head _))) rfl) ?_)
        refine runL_append (sl := rows ec es) [blk b [.int .i64 p, .slice (some ⟨b2, 0, none⟩) es.length cap] 51, blk b9 (ec ⟨wq x.o q, min x.seen q⟩) 67, blk b2 (rows ec es ++ rest) 67] rfl rfl rfl rfl rfl rfl rfl (se rfl) (se rfl) ze67 rfl (byt rfl) (OwnS.lit (l := []) rfl) (fun y => by (first | rfl | (simp only [List.append_eq, cnt_append, cnt_cons, cnt_nil, blk]; omega) | (simp only [List.append_eq, cnt_append, cnt_cons, cnt_nil, blk]; done))) (own.src fun y m => by simp at m; simp [m]) (rows_cells ec_cells _) (by decide) (by decide) (by omega) ?_
        rintro v' A' own'
        rw [List.nil_append, Nat.zero_add] at own'
        obtain ⟨b6, rest6, c6, rfl, rfl, hl6, hr6, hk6⟩ := own'.pos (by omega)
        (refine xep rfl rfl ?_; refine runL_nil ?_; refine then_normal ?_; refine run_seq ?_; refine run_region ?_; (iterate 2 refine xep rfl rfl ?_); refine xel rfl (ev_loadAK rfl rfl (ag rfl) (sz rfl) (memF (.tail _ (.tail _ (.head _)))) rfl) ?_; refine xel rfl (ev_indexAddr rfl rfl rfl (se rfl) (by omega) (by omega)) ?_)
        have hlenb : (rows ec es ++ rest6).length = c6 * 10 := by rw [List.length_append, hl6]; exact hr6
        have hkk : k * 10 + 10 ≤ c6 * 10 := by omega
        refine RunL.perm (h' := blk b9 (ec ⟨wq x.o q, min x.seen q⟩) 67 :: blk b6 (rows ec es ++ rest6) 67 :: [blk b [.int .i64 p, .slice (some ⟨b2, 0, none⟩) es.length cap] 51, blk b2 (rows ec es ++ rest) 67]) (fun y => by (first | rfl | (simp only [List.append_eq, cnt_append, cnt_cons, cnt_nil, blk]; omega) | (simp only [List.append_eq, cnt_append, cnt_cons, cnt_nil, blk]; done))) ?_
        skip
        refine runL_store (c := rows ec es ++ rest6) (l := ec ⟨wq x.o q, min x.seen q⟩) [blk b9 (ec ⟨wq x.o q, min x.seen q⟩) 67] [blk b [.int .i64 p, .slice (some ⟨b2, 0, none⟩) es.length cap] 51, blk b2 (rows ec es ++ rest) 67] rfl rfl rfl rfl rfl (sz rfl) rfl rfl rfl (by rw [hlenb]; show 0 + (k : Int).toNat * 10 + 10 ≤ _; rw [Int.toNat_natCast]; omega) rfl ?_
        rw [show 0 + (k : Int).toNat * 10 = k * 10 by rw [Int.toNat_natCast]; omega, ec_len, rows_put ec_len hx]
        have hl9 : (es.set k ⟨wq x.o q, min x.seen q⟩).length = es.length := List.length_set
        refine RunL.perm (h' := blk b [.int .i64 p, .slice (some ⟨b2, 0, none⟩) es.length cap] 51 :: blk b6 (rows ec (es.set k ⟨wq x.o q, min x.seen q⟩) ++ rest6) 67 :: [blk b9 (ec ⟨wq x.o q, min x.seen q⟩) 67, blk b2 (rows ec es ++ rest) 67]) (fun y => by (first | rfl | (simp only [List.append_eq, cnt_append, cnt_cons, cnt_nil, blk]; omega) | (simp only [List.append_eq, cnt_append, cnt_cons, cnt_nil, blk]; done))) ?_
        (refine runL_nil ?_; refine then_normal ?_; refine run_seq ?_; refine run_region ?_; (iterate 3 refine xep rfl rfl ?_); refine xel rfl (ev_fieldAddr rfl rfl (fo rfl)) ?_; refine runL_store0 rfl rfl rfl rfl rfl (sz rfl) rfl rfl rfl rfl rfl ?_; refine runL_nil ?_; refine then_normal ?_; refine run_seq ?_; refine run_region ?_; refine xep rfl rfl ?_; refine runL_nil ?_; refine then_normal ?_; refine run_ret ?_; refine in_ret ?_; (iterate 2 refine then_ret ?_); refine in_ret ?_; refine then_ret ?_)
        refine ⟨_, rfl, blk b [.int .i64 p, .slice (some ⟨b6, 0, none⟩) es.length c6] 51 :: [blk b6 (rows ec (es.set k ⟨wq x.o q, min x.seen q⟩) ++ rest6) 67], [blk b9 (ec ⟨wq x.o q, min x.seen q⟩) 67, blk b2 (rows ec es ++ rest) 67], ⟨rfl, some ⟨b6, 0, none⟩, c6, [blk b6 (rows ec (es.set k ⟨wq x.o q, min x.seen q⟩) ++ rest6) 67], .inr ⟨b6, rest6, c6, rfl, rfl, ?_, ?_, ?_⟩, ?_⟩, fun y => by (first | rfl | (simp only [List.append_eq, cnt_append, cnt_cons, cnt_nil, blk]; omega) | (simp only [List.append_eq, cnt_append, cnt_cons, cnt_nil, blk]; done))⟩
        · rw [rows_len ec_len]
        · rw [hl9]; exact hr6
        · rw [hl9]; exact hk6
        · rw [hl9]
    · refine run_condF rfl (by simpa [isIt] using hit) ?_
      (refine run_skip ?_; refine in_normal ?_; refine then_normal ?_; refine run_region ?_; refine xel rfl (ev_add rfl rfl rfl (by omega)) ?_; refine xep rfl rfl ?_; refine runL_nil ?_; refine then_normal ?_)
      refine ⟨k + 1, ⟨by omega, fun j y hj hy => ?_⟩, by omega, rfl, [blk b9 (ec x) 67], fun y => by (simp only [List.append_eq, cnt_append, cnt_cons, cnt_nil, blk, Ord.cells, ec, hcell, o0]; omega)⟩
      by_cases e : j = k
      · subst e; rw [hx] at hy; cases hy; simpa using hit
      · exact g2 j y (by omega) hy
  · have : k = es.length := by omega
    subst this
    have hno : ∀ x ∈ es, isIt t i x = false := fun x m => by
      obtain ⟨j, hj⟩ := List.mem_iff_getElem?.1 m
      exact g2 j x ((List.getElem?_eq_some_iff.1 hj).1) hj
    rw [lless_none hno]
    (refine run_exit ?_; (iterate 2 refine then_exit ?_); refine in_exit ?_; refine then_normal ?_)
    (refine run_seq ?_; refine run_region ?_; refine xep rfl rfl ?_; refine runL_nil ?_; refine then_normal ?_; refine run_ret ?_)
    exact ⟨_, rfl, _, [], ⟨rfl, a, cap, A, own, rfl⟩, fun y => by (first | rfl | (simp only [List.append_eq, cnt_append, cnt_cons, cnt_nil, blk]; omega) | (simp only [List.append_eq, cnt_append, cnt_cons, cnt_nil, blk]; done))⟩
end Go.Proofs.Ytfclaleiciodmaa
