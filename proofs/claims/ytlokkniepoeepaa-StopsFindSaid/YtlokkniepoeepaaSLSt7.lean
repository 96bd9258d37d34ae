/- Contracts of functions of the given program over its translation, each proved by walking its text; used by the laws' rows. It proves no given statement by itself. -/
import Derived.Test.YtlokkniepoeepaaSLSt1X
set_option autoImplicit false
set_option linter.unusedSectionVars false
set_option linter.unusedSimpArgs false
set_option linter.unusedVariables false
set_option maxRecDepth 4000
set_option maxHeartbeats 64000000
namespace Go.Proofs.Ytlokkniepoeepaa
open Go Go.SL Go.Proofs
variable [Base]
theorem sp_sremove (F H : Heap) (m : Nat) (M : Mk) (hH : MkH m M H) (hw : BW M.B) (hl : M.W.length ≤ 65536) (t i : Int) :
    Sp Try.prog F 27 [.pointer (some ⟨m, 0, none⟩), .int .i64 t, .int .i64 i] H (fun v h' => v = .tuple #[ov (mremove t i M).1, .bool (mremove t i M).2.1] ∧ MkH m (mremove t i M).2.2 h') := by
  obtain ⟨b, aw, cw, HB, AW, hB, ownW, rfl⟩ := hH
  refine Sp.up ?_
  refine sp_of_codeR Try.func27 rfl rfl ?_
  (refine run_seq ?_; refine run_region ?_; refine runL_alloc rfl rfl rfl rfl rfl ze27 (fun _ => ?_); refine xep rfl rfl ?_; refine runL_nil ?_; refine then_normal ?_; (iterate 2 refine run_seq ?_); refine run_region ?_; (iterate 2 refine xep rfl rfl ?_); refine xel rfl (ev_fieldAddr rfl rfl (fo rfl)) ?_; refine xel rfl (ev_loadK rfl rfl (sc rfl) (memF (.tail _ (.head _))) rfl) ?_; (iterate 2 refine xep rfl rfl ?_))
  rename_i b6
  refine RunL.perm (h' := blk m [.pointer (some ⟨b, 0, none⟩), .slice aw M.W.length cw] 58 :: blk b6 o0.cells 27 :: (HB ++ AW)) (fun y => by show cnt y (blk b6 o0.cells 27 :: (blk m [.pointer (some ⟨b, 0, none⟩), .slice aw M.W.length cw] 58 :: (HB ++ AW))) = _; (first | rfl | (simp only [List.append_eq, cnt_append, cnt_cons, cnt_nil, blk]; omega) | (simp only [List.append_eq, cnt_append, cnt_cons, cnt_nil, blk]; done))) ?_
  skip
  refine runL_callZ (blk m [.pointer (some ⟨b, 0, none⟩), .slice aw M.W.length cw] 58 :: blk b6 o0.cells 27 :: AW) HB rfl rfl rfl rfl rfl rfl rfl (pf rfl) (fun y => by (first | rfl | (simp only [List.append_eq, cnt_append, cnt_cons, cnt_nil, blk]; omega) | (simp only [List.append_eq, cnt_append, cnt_cons, cnt_nil, blk]; done))) (sp_bremove _ HB b M.B hB hw t i) ?_
  rintro v HB2 ⟨rfl, hB2⟩
  ((iterate 3 refine xep rfl rfl ?_); refine runL_alloc rfl rfl rfl rfl rfl ze27 (fun _ => ?_); refine runL_store0 rfl rfl rfl rfl rfl (sz rfl) rfl rfl rfl rfl rfl ?_; refine xep rfl rfl ?_; refine runL_nil ?_; refine then_normal ?_; refine run_seq ?_; refine run_region ?_; refine xep rfl rfl ?_; refine runL_nil ?_; refine then_normal ?_)
  rename_i b8
  generalize hX : bremove t i M.B = X at *
  obtain ⟨o1, is1, B2⟩ := X
  dsimp only at hB2 ⊢
  refine RunC.perm (h' := blk b8 o1.cells 27 :: blk b6 o0.cells 27 :: blk m [.pointer (some ⟨b, 0, none⟩), .slice aw M.W.length cw] 58 :: (HB2 ++ AW)) (fun y => by
    show cnt y (blk b8 o1.cells 27 :: (blk m [.pointer (some ⟨b, 0, none⟩), .slice aw M.W.length cw] 58 :: blk b6 o0.cells 27 :: AW ++ HB2)) = _
    (first | rfl | (simp only [List.append_eq, cnt_append, cnt_cons, cnt_nil, blk]; omega) | (simp only [List.append_eq, cnt_append, cnt_cons, cnt_nil, blk]; done))) ?_
  cases is1 with
  | true =>
    have e : mremove t i M = (o1, true, ⟨B2, M.W⟩) := by unfold mremove; rw [hX, if_pos rfl]
    rw [e]
    refine run_condT rfl rfl ?_
    (refine run_seq ?_; refine run_region ?_; refine xel rfl (ev_loadAK rfl rfl (ag rfl) (sz rfl) (memF (.head _)) rfl) ?_; refine runL_store1 rfl rfl rfl rfl rfl (sz rfl) rfl rfl rfl rfl rfl ?_; refine xep rfl rfl ?_; refine runL_nil ?_; refine then_normal ?_; refine run_ret ?_; refine then_ret ?_)
    exact ⟨_, .agg rfl (memF (.tail _ (.head _))) (ag rfl) (sz rfl) rfl (.tmp rfl .nil), blk m [.pointer (some ⟨b, 0, none⟩), .slice aw M.W.length cw] 58 :: (HB2 ++ AW), [blk b8 o1.cells 27, blk b6 o1.cells 27], ⟨rfl, b, aw, cw, HB2, AW, hB2, ownW, rfl⟩, fun y => by
      show cnt y (blk b8 o1.cells 27 :: blk b6 o1.cells 27 :: _) = _
      (first | rfl | (simp only [List.append_eq, cnt_append, cnt_cons, cnt_nil, blk]; omega) | (simp only [List.append_eq, cnt_append, cnt_cons, cnt_nil, blk]; done))⟩
  | false =>
    refine run_condF rfl rfl ?_
    (refine run_skip ?_; refine then_normal ?_; refine run_seq ?_; refine run_region ?_; (iterate 3 refine xep rfl rfl ?_))
    have hcw : M.W.length ≤ cw := by
      obtain ⟨_, _, hv, h2⟩ := ownW.form
      cases hv; exact h2
    refine runL_ev rfl rfl rfl rfl (ev_callQ rfl rfl rfl (pf rfl) (sp_splace _ m ⟨B2, M.W⟩ ⟨b, aw, cw, hB2.in fun y my => by simp [my], hcw, ownW.src fun x mx => by simp [mx], by simp⟩ hl t i)) ?_
    (refine xep rfl rfl ?_; refine runL_nil ?_; refine then_normal ?_; (iterate 2 refine run_seq ?_); refine run_region ?_; (iterate 2 refine xep rfl rfl ?_); refine runL_nil ?_; refine then_normal ?_)
    rcases idxI_cases (isO t i) M.W with ⟨hk, hno⟩ | ⟨k, x, hk, hx, hp, hn⟩
    · have e : mremove t i M = (o0, false, ⟨B2, M.W⟩) := by
        unfold mremove
        rw [hX, if_neg (by simp), List.findIdx?_eq_none_iff.2 hno]
      rw [e]
      dsimp only
      rw [hk]
      refine run_condT rfl rfl ?_
      (refine run_seq ?_; refine run_region ?_; refine xel rfl (ev_build rfl pl27 rfl) ?_; refine runL_store1 rfl rfl rfl rfl rfl (sz rfl) rfl rfl rfl rfl rfl ?_; refine xep rfl rfl ?_; refine runL_nil ?_; refine then_normal ?_; refine run_ret ?_; refine then_ret ?_)
      exact ⟨_, .agg rfl (memF (.tail _ (.head _))) (ag rfl) (sz rfl) rfl (.tmp rfl .nil), blk m [.pointer (some ⟨b, 0, none⟩), .slice aw M.W.length cw] 58 :: (HB2 ++ AW), [blk b8 o1.cells 27, blk b6 o0.cells 27], ⟨rfl, b, aw, cw, HB2, AW, hB2, ownW, rfl⟩, fun y => by
        show cnt y (blk b8 o1.cells 27 :: blk b6 o0.cells 27 :: _) = _
        (first | rfl | (simp only [List.append_eq, cnt_append, cnt_cons, cnt_nil, blk]; omega) | (simp only [List.append_eq, cnt_append, cnt_cons, cnt_nil, blk]; done))⟩
    · have hlt := (List.getElem?_eq_some_iff.1 hx).1
      have e0 : M.W.findIdx? (isO t i) = some k := by
        rw [List.findIdx?_eq_some_iff_getElem]
        refine ⟨hlt, by rw [(List.getElem?_eq_some_iff.1 hx).2]; exact hp, fun j hj => ?_⟩
        have := hn j _ hj (List.getElem?_eq_getElem (by omega))
        rw [this]; simp
      have e : mremove t i M = (x, true, ⟨B2, M.W.take k ++ M.W.drop (k + 1)⟩) := by
        unfold mremove
        rw [hX, if_neg (by simp), e0]
        dsimp only
        rw [hx]
      rw [e]
      dsimp only
      rw [hk]
      refine run_condF rfl (decide_eq_false (by omega)) ?_
      obtain ⟨b2, rest, cap', hv, rfl, hl2, hr2, hk2⟩ := ownW.pos (by omega)
      cases hv
      have r1 : RowAt (rows Ord.cells M.W ++ rest) (0 + (k : Int).toNat * 9) x.cells := by
        rw [Nat.zero_add]; exact rows_at oc_len hx rest
      refine RunC.perm (h' := blk b2 (rows Ord.cells M.W ++ rest) 27 :: blk m [.pointer (some ⟨b, 0, none⟩), .slice (some ⟨b2, 0, none⟩) M.W.length cw] 58 :: blk b6 o0.cells 27 :: blk b8 o1.cells 27 :: HB2) (fun y => by (first | rfl | (simp only [List.append_eq, cnt_append, cnt_cons, cnt_nil, blk]; omega) | (simp only [List.append_eq, cnt_append, cnt_cons, cnt_nil, blk]; done))) ?_
      (refine run_skip ?_; refine then_normal ?_; refine run_seq ?_; refine run_region ?_; (iterate 2 refine xep rfl rfl ?_); refine xel rfl (ev_fieldAddr rfl rfl (fo rfl)) ?_; refine xel rfl (ev_loadK rfl rfl (sc rfl) (memF (.tail _ (.head _))) rfl) ?_; refine xep rfl rfl ?_; refine xel rfl (ev_indexAddr rfl rfl rfl (se rfl) (by omega) (by omega)) ?_; refine xel rfl (ev_loadAR rfl rfl (ag rfl) (sz rfl) (memF (.head _)) r1 rfl) ?_; refine runL_alloc rfl rfl rfl rfl rfl ze27 (fun _ => ?_); refine runL_store0 rfl rfl rfl rfl rfl (sz rfl) rfl rfl rfl rfl rfl ?_; refine runL_nil ?_; refine then_normal ?_; refine run_seq ?_; refine run_region ?_; (iterate 3 refine xep rfl rfl ?_); refine xel rfl (ev_fieldAddr rfl rfl (fo rfl)) ?_; refine xel rfl (ev_loadK rfl rfl (sc rfl) (memF (.tail _ (.tail _ (.head _)))) rfl) ?_; (iterate 2 refine xep rfl rfl ?_); refine xel rfl (ev_add rfl rfl rfl (by omega)) ?_)
      rename_i b11
      refine runL_callZ (blk b11 x.cells 27 :: blk m [.pointer (some ⟨b, 0, none⟩), .slice (some ⟨b2, 0, none⟩) M.W.length cw] 58 :: blk b6 o0.cells 27 :: blk b8 o1.cells 27 :: HB2) [blk b2 (rows Ord.cells M.W ++ rest) 27] rfl rfl rfl rfl rfl rfl rfl (pf rfl) (fun y => by
        show cnt y (blk b11 x.cells 27 :: blk b2 (rows Ord.cells M.W ++ rest) 27 :: blk m [.pointer (some ⟨b, 0, none⟩), .slice (some ⟨b2, 0, none⟩) M.W.length cw] 58 :: blk b6 o0.cells 27 :: blk b8 o1.cells 27 :: HB2) = _
        (first | rfl | (simp only [List.append_eq, cnt_append, cnt_cons, cnt_nil, blk]; omega) | (simp only [List.append_eq, cnt_append, cnt_cons, cnt_nil, blk]; done))) (sp_delOrd _ _ _ _ _ _ ownW (rows_cells (fun _ => rfl) _) k (k + 1) (by omega) (by omega)) ?_
      rintro v A' own'
      rw [rows_take oc_len M.W (by omega), rows_drop oc_len M.W (by omega), ← rows_append] at own'
      have hlen : M.W.length - (k + 1 - k) = (M.W.take k ++ M.W.drop (k + 1)).length := by
        rw [List.length_append, List.length_take, List.length_drop]; omega
      rw [hlen] at own'
      obtain ⟨a5, c5, rfl, own5⟩ := own'.at
      generalize M.W.take k ++ M.W.drop (k + 1) = W2 at *
      (refine xep rfl rfl ?_; refine xel rfl (ev_fieldAddr rfl rfl (fo rfl)) ?_; refine runL_store1 rfl rfl rfl rfl rfl (sz rfl) rfl rfl rfl rfl rfl ?_; refine runL_nil ?_; refine then_normal ?_; refine run_seq ?_; refine run_region ?_; refine xel rfl (ev_loadAK rfl rfl (ag rfl) (sz rfl) (memF (.head _)) rfl) ?_; refine runL_store2 rfl rfl rfl rfl rfl (sz rfl) rfl rfl rfl rfl rfl ?_; refine xep rfl rfl ?_; refine runL_nil ?_; refine then_normal ?_; refine run_ret ?_)
      exact ⟨_, .agg rfl (memF (.tail _ (.tail _ (.head _)))) (ag rfl) (sz rfl) rfl (.tmp rfl .nil), blk m [.pointer (some ⟨b, 0, none⟩), .slice a5 W2.length c5] 58 :: (HB2 ++ A'), [blk b11 x.cells 27, blk b6 x.cells 27, blk b8 o1.cells 27], ⟨rfl, b, a5, c5, HB2, A', hB2, own5, rfl⟩, fun y => by
        simp only [List.append_eq, cnt_append, cnt_cons, cnt_nil, blk, Ord.cells]; omega⟩
end Go.Proofs.Ytlokkniepoeepaa
