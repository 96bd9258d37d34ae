/- Contracts of functions of the given program over its translation, each proved by walking its text; used by the laws' rows. It proves no given statement by itself. -/
import Derived.Test.YtfclaleiciodmaaSLRLvl2
import Derived.Test.YtfclaleiciodmaaSLLaw9d
set_option autoImplicit false
set_option linter.unusedSectionVars false
set_option linter.unusedSimpArgs false
set_option linter.unusedVariables false
set_option maxRecDepth 4000
set_option maxHeartbeats 8000000
namespace Go.Proofs.Ytfclaleiciodmaa
open Go Go.SL Go.Proofs
variable [Base]
theorem rows_put {α : Type} {f : α → List Value} {n : Nat} (hf : ∀ x, (f x).length = n) {l : List α} {i : Nat} {x y : α} (h : l[i]? = some x) (rest : List Value) :
    (rows f l ++ rest).take (i * n) ++ f y ++ (rows f l ++ rest).drop (i * n + n) = rows f (l.set i y) ++ rest := by
  have hi := (List.getElem?_eq_some_iff.1 h).1
  have e : l.set i y = l.take i ++ y :: l.drop (i + 1) := by rw [List.set_eq_take_append_cons_drop, if_pos hi]
  have hl : (rows f l).length = l.length * n := rows_len hf l
  have h1 : i * n + n ≤ l.length * n := by
    have := Nat.mul_le_mul_right n (show i + 1 ≤ l.length by omega)
    rw [Nat.add_mul, Nat.one_mul] at this; exact this
  rw [List.take_append_of_le_length (by omega), List.drop_append_of_le_length (by omega), rows_take hf l (by omega), show i * n + n = (i + 1) * n by rw [Nat.add_mul, Nat.one_mul], rows_drop hf l (by omega), e, rows_append, List.append_assoc, List.append_assoc, show rows f (y :: l.drop (i + 1)) = f y ++ rows f (l.drop (i + 1)) from rfl, List.append_assoc]
theorem sp_rremove (F : Heap) (H : Heap) (b : Nat) (p : Int) (es : List Ent) (hH : RvH b p es H) (hb : es.length ≤ 65536) (t i : Int) :
    Sp Try.prog F 25 [.pointer (some ⟨b, 0, none⟩), .int .i64 t, .int .i64 i] H (fun v h' => v = .tuple #[ov (lrem t i es).1, .bool (lrem t i es).2.1] ∧ RvH b p (lrem t i es).2.2 h') := by
  obtain ⟨a, cap, A, own, rfl⟩ := hH
  have hck : es.length ≤ cap := by
    obtain ⟨_, _, hv, h2⟩ := own.form
    cases hv; exact h2
  refine Sp.up ?_
  refine sp_of_codeR Try.func25 rfl rfl ?_
  (refine run_seq ?_; refine run_region ?_; refine runL_alloc rfl rfl rfl rfl rfl ze25 (fun _ => ?_); refine xep rfl rfl ?_; refine runL_nil ?_; refine then_normal ?_; (iterate 2 refine run_seq ?_); refine run_region ?_; (iterate 2 refine xep rfl rfl ?_); refine xel rfl (ev_fieldAddr rfl rfl (fo rfl)) ?_; refine xel rfl (ev_loadK rfl rfl (sc rfl) (memF (.tail _ (.head _))) rfl) ?_; refine xel rfl (ev_len rfl rfl (se rfl)) ?_; refine xep rfl rfl ?_; refine runL_nil ?_; refine then_normal ?_; refine run_block ?_)
  rename_i b6
  refine run_loopK (σ := Nat) [0, 1, 2, 6, 13, 14, 15] (fun k => [(0, .pointer (some ⟨b, 0, none⟩)), (1, .int .i64 t), (2, .int .i64 i), (6, .pointer (some ⟨b6, 0, none⟩)), (13, .slice a es.length cap), (14, .int .i64 es.length), (15, .int .i64 k)])
    (fun _ => blk b6 o0.cells 25 :: blk b [.int .i64 p, .slice a es.length cap] 51 :: A) (fun k => k ≤ es.length ∧ ∀ j y, j < k → es[j]? = some y → isIt t i y = false) (fun k => es.length - k) 0 ⟨Nat.zero_le _, fun j y h => absurd h (Nat.not_lt_zero _)⟩ rfl (fun _ => rfl) ?_
  rintro k ⟨g1, g2⟩
  (refine run_seq ?_; refine run_region ?_; refine xep rfl rfl ?_; refine runL_nil ?_; refine then_normal ?_; refine run_seq ?_)
  (refine run_cond rfl (fun hc => ?_) (fun hc => ?_) <;> (try simp only [z0, z1, z2, z3, z4, z5, z6, z7, z8, z9, Bool.not_true, Bool.not_false, Bool.false_or, Bool.true_and, true_and, and_true, false_or, or_false, reduceCtorEq, Bool.false_eq_true] at hc))
  · obtain ⟨x, hx⟩ : ∃ x, es[k]? = some x := ⟨es[k]'(by omega), List.getElem?_eq_getElem _⟩
    obtain ⟨b2, rest, cap', hv, rfl, hl2, hr2, hk2⟩ := own.pos (by omega)
    cases hv
    have r1 : RowAt (rows ec es ++ rest) (0 + (k : Int).toNat * 10) (ec x) := by
      rw [Nat.zero_add]; exact rows_at ec_len hx rest
    (refine run_skip ?_; refine then_normal ?_; refine run_seq ?_; refine run_block ?_; refine run_seq ?_; refine run_region ?_; refine xep rfl rfl ?_; refine xel rfl (ev_indexAddr rfl rfl rfl (se rfl) (by omega) (by omega)) ?_; refine xel rfl (ev_loadAR rfl rfl (ag rfl) (sz rfl) (memF (.tail _ (.tail _ (.head _)))) r1 rfl) ?_; refine runL_alloc rfl rfl rfl rfl rfl ze35 (fun _ => ?_); refine xep rfl rfl ?_; refine runL_store0 rfl rfl rfl rfl rfl (sz rfl) rfl rfl rfl rfl rfl ?_; refine runL_nil ?_; refine then_normal ?_; refine run_seq ?_; refine run_region ?_; (iterate 2 refine xel rfl (ev_fieldAddr rfl rfl (fo rfl)) ?_); refine xel rfl (ev_loadK rfl rfl (sc rfl) (memF (.head _)) rfl) ?_; (iterate 3 refine xep rfl rfl ?_); (iterate 2 refine xgl rfl rfl (fun hq => ev_fieldAddr rfl rfl (fo rfl)) ?_); refine xgl rfl rfl (fun hq => ev_loadK rfl rfl (sc rfl) (memF (.head _)) rfl) ?_; (iterate 2 refine xgp rfl rfl rfl ?_); refine xep rfl rfl ?_; refine runL_nil ?_; refine then_normal ?_)
    rename_i b9
    by_cases hit : isIt t i x = true
    · refine run_condT rfl hit ?_
      obtain ⟨AA, hAA⟩ : ∃ AA, AA = blk b9 (ec x) 67 :: blk b6 o0.cells 25 :: blk b [.int .i64 p, .slice (some ⟨b2, 0, none⟩) es.length cap] 51 :: [blk b2 (rows ec es ++ rest) 67] := ⟨_, rfl⟩
      have src := own.src (H := AA ++ F) fun x m => by simp [hAA] at m ⊢; simp [m]
      have l1 : LoadsF (AA ++ F) b (0 + 1) (.slice (some ⟨b2, 0, none⟩) es.length cap) := ⟨_, _, _, by rw [hAA]; exact memF (.tail _ (.tail _ (.head _))), rfl⟩
      (refine run_seq ?_)
      refine RunC.perm (h' := [] ++ AA) (fun x => by rw [hAA]; rfl) ?_
      refine run_region_D3 (σ := Option Addr × Nat × Heap) 17 3 [6, 9] (fun s => [(48, .slice s.1 (cutE k es).length s.2.1), (32, .pointer (some ⟨b, 0, none⟩))]) (fun s => s.2.2) (fun s => OwnS 67 10 (.slice s.1 (cutE k es).length s.2.1) (cutE k es).length (rows ec (cutE k es)) s.2.2) mo rfl (by kernel_rfl) rfl ?_ ?_
      · have s1 := src.take (k := k) (by omega)
        rw [rows_take ec_len _ (by omega)] at s1
        have s2 := src.drop (k := k + 1) (cap := cap) (by omega) hck
        rw [rows_drop ec_len _ (by omega)] at s2
        (refine runD_q 0 rfl rfl (by kernel_rfl) ?_; refine ⟨_, fun _ => ev_pure rfl, ?_⟩; refine runD_q 2 rfl rfl (by kernel_rfl) ?_; refine ⟨_, fun _ => ev_pure rfl, ?_⟩; refine runD_q 3 rfl rfl (by kernel_rfl) ?_; refine ⟨_, fun _ => ev_pure rfl, ?_⟩; refine runD_q 4 rfl rfl (by kernel_rfl) ?_; refine ⟨_, fun _ => ev_fieldAddr rfl rfl (fo rfl), ?_⟩; refine runD_q 5 rfl rfl (by kernel_rfl) ?_; refine ⟨_, fun _ => ev_loadF rfl rfl (sc rfl) l1, ?_⟩; refine runD_q 6 rfl rfl (by kernel_rfl) ?_; refine ⟨_, fun _ => ev_pure rfl, ?_⟩; refine runD_q 7 rfl rfl (by kernel_rfl) ?_; refine ⟨_, fun _ => ev_sliceHi rfl rfl rfl (se rfl) (by omega) (by omega), ?_⟩; refine runD_q 9 rfl rfl (by kernel_rfl) ?_; refine ⟨_, fun _ => ev_pure rfl, ?_⟩; refine runD_q 10 rfl rfl (by kernel_rfl) ?_; refine ⟨_, fun _ => ev_pure rfl, ?_⟩; refine runD_q 11 rfl rfl (by kernel_rfl) ?_; refine ⟨_, fun _ => ev_fieldAddr rfl rfl (fo rfl), ?_⟩; refine runD_q 12 rfl rfl (by kernel_rfl) ?_; refine ⟨_, fun _ => ev_loadF rfl rfl (sc rfl) l1, ?_⟩; refine runD_q 13 rfl rfl (by kernel_rfl) ?_; refine ⟨_, fun _ => ev_pure rfl, ?_⟩; refine runD_q 14 rfl rfl (by kernel_rfl) ?_; refine ⟨_, fun _ => ev_add rfl rfl rfl (by omega), ?_⟩; refine runD_q 15 rfl rfl (by kernel_rfl) ?_; refine ⟨_, fun _ => ev_sliceLo rfl rfl rfl (se rfl) (by omega) (by omega), ?_⟩; refine runD_1 1 (by kernel_rfl) rfl rfl rfl ?_)
        refine runL_buildSlice (n := 10) (l := []) rfl rfl rfl rfl rfl (se rfl) ze67 rfl rfl rfl rfl rfl (fun b5 => ?_)
        (refine runL_nil ?_; refine endS_d rfl ?_; refine runD_1 8 (by kernel_rfl) rfl rfl rfl ?_)
        refine runL_append (sl := rows ec (es.take k)) [] rfl rfl rfl rfl rfl rfl rfl (se rfl) (se rfl) ze67 rfl (byt rfl) (OwnS.lit (l := []) rfl) (fun y => by (first | rfl | (simp only [List.append_eq, cnt_append, cnt_cons, cnt_nil, blk]; omega) | (simp only [List.append_eq, cnt_append, cnt_cons, cnt_nil, blk]; done))) (s1.mono fun x m => List.mem_append_right _ m) (rows_cells ec_cells _) (by decide) (by decide) (by simp only [Int.toNat_natCast]; omega) ?_
        rintro v' A' own'
        obtain ⟨a6, c6, rfl, own6⟩ := own'.at
        (refine runL_nil ?_; refine endS_d rfl ?_; refine runD_1 16 (by kernel_rfl) rfl rfl rfl ?_)
        refine runL_append (sl := rows ec (es.drop (k + 1))) [] rfl rfl rfl rfl rfl rfl rfl (se rfl) (se rfl) ze67 rfl (byt rfl) own6 (fun y => by (first | rfl | (simp only [List.append_eq, cnt_append, cnt_cons, cnt_nil, blk]; omega) | (simp only [List.append_eq, cnt_append, cnt_cons, cnt_nil, blk]; done))) (s2.mono fun x m => List.mem_append_right _ m) (rows_cells ec_cells _) (by decide) (by decide) (by simp only [Int.toNat_natCast]; omega) ?_
        rintro v' A'' own''
        rw [List.nil_append, ← rows_append, show 0 + (k : Int).toNat + (es.length - ((k : Int) + 1).toNat) = (cutE k es).length by rw [cutE_len (by omega)]; omega] at own''
        obtain ⟨a7, c7, rfl, own7⟩ := own''.at
        (refine runL_nil ?_; refine endS_d rfl ?_; refine runD_done (by kernel_rfl) ?_)
        exact midX (a7, c7, A'') own7 rfl (fun y => by (first | rfl | (simp only [List.append_eq, cnt_append, cnt_cons, cnt_nil, blk]; omega) | (simp only [List.append_eq, cnt_append, cnt_cons, cnt_nil, blk]; done)))
      · rintro ⟨a7, c7, A7⟩ own7
        dsimp only at own7 ⊢
        rw [lrem_some hx hit g2]
        show RunD _ _ _ _ _ _ _ _ _
        have hfold : es.take k ++ es.drop (k + 1) = cutE k es := rfl
        rw [hfold]
        generalize cutE k es = es2 at *
        subst hAA
        refine RunD.same (M' := blk b [.int .i64 p, .slice (some ⟨b2, 0, none⟩) es.length cap] 51 :: blk b6 o0.cells 25 :: blk b9 (ec x) 67 :: (blk b2 (rows ec es ++ rest) 67 :: A7)) (fun _ _ h => h) (fun x => by (first | rfl | (simp only [List.append_eq, cnt_append, cnt_cons, cnt_nil, blk]; omega) | (simp only [List.append_eq, cnt_append, cnt_cons, cnt_nil, blk]; done))) ?_
        (refine runD_q 17 rfl rfl (by kernel_rfl) ?_; refine ⟨_, fun _ => ev_pure rfl, ?_⟩; refine runD_q 18 rfl rfl (by kernel_rfl) ?_; refine ⟨_, fun _ => ev_fieldAddr rfl rfl (fo rfl), ?_⟩; refine runD_1 19 (by kernel_rfl) rfl rfl rfl ?_; refine runL_store0 rfl rfl rfl rfl rfl (sz rfl) rfl rfl rfl rfl rfl ?_; refine runL_nil ?_; refine endS_n rfl ?_; refine runD_done (by kernel_rfl) ?_; refine then_normal ?_; refine run_seq ?_; refine run_region ?_; refine xel rfl (ev_fieldAddr rfl rfl (fo rfl)) ?_; refine xel rfl (ev_loadAK rfl rfl (ag rfl) (sz rfl) (memF (.tail _ (.tail _ (.head _)))) rfl) ?_; refine runL_store1 rfl rfl rfl rfl rfl (sz rfl) rfl rfl rfl rfl rfl ?_; refine xep rfl rfl ?_; refine runL_nil ?_; refine then_normal ?_; refine run_ret ?_; refine in_ret ?_; (iterate 2 refine then_ret ?_); refine in_ret ?_; refine then_ret ?_)
        exact ⟨_, .agg rfl (memF (.tail _ (.head _))) (ag rfl) (sz rfl) rfl (.tmp rfl .nil), _, [blk b6 x.o.cells 25, blk b9 (ec x) 67, blk b2 (rows ec es ++ rest) 67], ⟨rfl, a7, c7, A7, own7, rfl⟩, fun y => by (simp only [List.append_eq, cnt_append, cnt_cons, cnt_nil, blk, Ord.cells, ec, hcell, o0]; omega)⟩
    · refine run_condF rfl (by simpa [isIt] using hit) ?_
      (refine run_skip ?_; refine in_normal ?_; refine then_normal ?_; refine run_region ?_; refine xel rfl (ev_add rfl rfl rfl (by omega)) ?_; refine xep rfl rfl ?_; refine runL_nil ?_; refine then_normal ?_)
      refine ⟨k + 1, ⟨by omega, fun j y hj hy => ?_⟩, by omega, rfl, [blk b9 (ec x) 67], fun y => by (simp only [List.append_eq, cnt_append, cnt_cons, cnt_nil, blk, Ord.cells, ec, hcell, o0]; omega)⟩
      by_cases e : j = k
      · subst e; rw [hx] at hy; cases hy; simpa using hit
      · exact g2 j y (by omega) hy
  · have : k = es.length := by omega
    subst this
    have hno : ∀ x ∈ es, isIt t i x = false := fun x m => by
      obtain ⟨j, hj⟩ := List.mem_iff_getElem?.1 m
      exact g2 j x ((List.getElem?_eq_some_iff.1 hj).1) hj
    rw [lrem_none hno]
    (refine run_exit ?_; (iterate 2 refine then_exit ?_); refine in_exit ?_; refine then_normal ?_)
    (refine run_seq ?_; refine run_region ?_; refine xel rfl (ev_build rfl pl25 rfl) ?_; refine runL_store0 rfl rfl rfl rfl rfl (sz rfl) rfl rfl rfl rfl rfl ?_; refine xep rfl rfl ?_; refine runL_nil ?_; refine then_normal ?_; refine run_ret ?_)
    exact ⟨_, .agg rfl (memF (.head _)) (ag rfl) (sz rfl) rfl (.tmp rfl .nil), blk b [.int .i64 p, .slice a es.length cap] 51 :: A, [blk b6 o0.cells 25], ⟨rfl, a, cap, A, own, rfl⟩, fun y => by (simp only [List.append_eq, cnt_append, cnt_cons, cnt_nil, blk, Ord.cells, ec, hcell, o0]; omega)⟩
end Go.Proofs.Ytfclaleiciodmaa
