/- Contracts of functions of the given program over its translation, each proved by walking its text; used by the laws' rows. It proves no given statement by itself. -/
import Derived.Test.YtmelpobcpcmdoaaGreatSLStAX
import Derived.Test.YtmelpobcpcmdoaaGreatSLPlRPX
set_option autoImplicit false
set_option linter.unusedSectionVars false
set_option linter.unusedSimpArgs false
set_option linter.unusedVariables false
set_option maxRecDepth 4000
set_option maxHeartbeats 100000000
namespace Go.Proofs.YtmelpobcpcmdoaaGreat
open Go Go.SL Go.Proofs
theorem idx_some {W : List Ord} {k : Nat} {x : Ord} {p : Ord → Bool} (hx : W[k]? = some x) (hp : p x = true) (hn : ∀ j y, j < k → W[j]? = some y → p y = false) : W.findIdx? p = some k := by
  have hlt := (List.getElem?_eq_some_iff.1 hx).1
  rw [List.findIdx?_eq_some_iff_getElem]
  refine ⟨hlt, by rw [(List.getElem?_eq_some_iff.1 hx).2]; exact hp, fun j hj => ?_⟩
  have := hn j _ hj (List.getElem?_eq_getElem (by omega))
  rw [this]; simp
variable [Base]
theorem sp_rmfind (F : Heap) (m : Nat) (M : Mk) (h : RmIn F m M) (hw : BW M.B) (hl : M.W.length ≤ 65536) (t i : Int) :
    Sp Tryz.prog F 42 [.pointer (some ⟨m, 0, none⟩), .int .i64 t, .int .i64 i] [] (Ret (.tuple #[ov (mfind t i M).1, .bool (mfind t i M).2])) := by
  have q2 := fun G : Heap => sp_rwaits (G ++ F) m M h.up hl t i
  obtain ⟨b, a, c, h1, h2, hs, hm⟩ := h
  have l1 : LoadsF F m (0 + 0) (.pointer (some ⟨b, 0, none⟩)) := ⟨_, _, _, hm, rfl⟩
  have l2 : LoadsF F m (0 + 1) (.slice a M.W.length c) := ⟨_, _, _, hm, rfl⟩
  have q1 := fun G : Heap => sp_rbfind (G ++ F) b M.B h1.up hw t i
  refine sp_of_codeR Tryz.func42 rfl rfl ?_
  (refine run_seq ?_; refine run_region ?_; refine runL_alloc rfl rfl rfl rfl rfl ze35 (fun _ => ?_); refine xep rfl rfl ?_; refine runL_nil ?_; refine then_normal ?_; (iterate 2 refine run_seq ?_); refine run_region ?_; (iterate 2 refine xep rfl rfl ?_); refine xel rfl (ev_fieldAddr rfl rfl (fo rfl)) ?_; refine xel rfl (ev_loadF rfl rfl (sc rfl) l1) ?_; (iterate 2 refine xep rfl rfl ?_); refine xel rfl (ev_callQ rfl rfl rfl (pf rfl) (q1 ..)) ?_; (iterate 3 refine xep rfl rfl ?_); refine runL_alloc rfl rfl rfl rfl rfl ze35 (fun _ => ?_); refine runL_store0 rfl rfl rfl rfl rfl (sz rfl) rfl rfl rfl rfl rfl ?_; refine xep rfl rfl ?_; refine runL_nil ?_; refine then_normal ?_; refine run_seq ?_; refine run_region ?_; refine xep rfl rfl ?_; refine runL_nil ?_; refine then_normal ?_)
  rename_i b6 b8
  unfold mfind
  cases hf : (bfind t i M.B).2 with
  | true =>
    refine run_condT rfl rfl ?_
    refine RunC.perm (h' := [blk b8 (bfind t i M.B).1.cells 35, blk b6 o0.cells 35]) (fun x => rfl) ?_
    (refine run_seq ?_; refine run_region ?_; refine xel rfl (ev_loadAK rfl rfl (ag rfl) (sz rfl) (memF (.head _)) rfl) ?_; refine runL_store1 rfl rfl rfl rfl rfl (sz rfl) rfl rfl rfl rfl rfl ?_; refine xep rfl rfl ?_; refine runL_nil ?_; refine then_normal ?_; refine run_ret ?_; refine then_ret ?_)
    exact ⟨_, .agg rfl (memF (.tail _ (.head _))) (ag rfl) (sz rfl) rfl (.tmp rfl .nil), by rw [if_pos rfl]; rfl⟩
  | false =>
    refine run_condF rfl rfl ?_
    refine RunC.perm (h' := [blk b8 (bfind t i M.B).1.cells 35, blk b6 o0.cells 35]) (fun x => rfl) ?_
    (refine run_skip ?_; refine then_normal ?_; (iterate 2 refine run_seq ?_); refine run_region ?_; (iterate 3 refine xep rfl rfl ?_); refine xel rfl (ev_callQ rfl rfl rfl (pf rfl) (q2 ..)) ?_; refine xep rfl rfl ?_; refine runL_nil ?_; refine then_normal ?_; refine run_seq ?_; refine run_region ?_; (iterate 2 refine xep rfl rfl ?_); refine runL_nil ?_; refine then_normal ?_)
    rcases idxI_cases (isO t i) M.W with ⟨hk, hno⟩ | ⟨k, x, hk, hx, hp, hn⟩
    · have e : M.W.findIdx? (isO t i) = none := by rw [List.findIdx?_eq_none_iff]; exact hno
      rw [hk, e]
      refine run_condF rfl rfl ?_
      (refine run_skip ?_; refine then_normal ?_; refine run_seq ?_; refine run_region ?_; refine xel rfl (ev_build rfl pl35 rfl) ?_; refine runL_store1 rfl rfl rfl rfl rfl (sz rfl) rfl rfl rfl rfl rfl ?_; refine xep rfl rfl ?_; refine runL_nil ?_; refine then_normal ?_; refine run_ret ?_)
      exact ⟨_, .agg rfl (memF (.tail _ (.head _))) (ag rfl) (sz rfl) rfl (.tmp rfl .nil), by rw [if_neg (by simp)]; rfl⟩
    · have hlt := (List.getElem?_eq_some_iff.1 hx).1
      have e := idx_some hx hp hn
      rw [hk, e]
      obtain ⟨b2, off, _, _, _, rfl, _⟩ := hs.pos (by omega)
      have l3 := SrcIs.row oc_len hs rfl hx
      refine run_condT rfl (decide_eq_true (by omega)) ?_
      (refine run_seq ?_; refine run_region ?_; (iterate 2 refine xep rfl rfl ?_); refine xel rfl (ev_fieldAddr rfl rfl (fo rfl)) ?_; refine xel rfl (ev_loadF rfl rfl (sc rfl) l2) ?_; refine xep rfl rfl ?_; refine xel rfl (ev_indexAddr rfl rfl rfl (se rfl) (by omega) (by omega)) ?_; refine xel rfl (ev_loadAF rfl rfl (ag rfl) (sz rfl) l3 rfl) ?_; refine runL_store1 rfl rfl rfl rfl rfl (sz rfl) rfl rfl rfl rfl rfl ?_; refine xep rfl rfl ?_; refine runL_nil ?_; refine then_normal ?_; refine run_ret ?_; refine then_ret ?_)
      exact ⟨_, .agg rfl (memF (.tail _ (.head _))) (ag rfl) (sz rfl) rfl (.tmp rfl .nil), by rw [if_neg (by simp)]; dsimp only; rw [hx]; rfl⟩
theorem sp_rmremove (F H : Heap) (m : Nat) (M : Mk) (hH : RmH m M H) (hw : BW M.B) (hl : M.W.length ≤ 65536) (t i : Int) :
    Sp Tryz.prog F 44 [.pointer (some ⟨m, 0, none⟩), .int .i64 t, .int .i64 i] H (fun v h' => v = .tuple #[ov (mremove t i M).1, .bool (mremove t i M).2.1] ∧ RmH m (mremove t i M).2.2 h') := by
  obtain ⟨b, aw, cw, HB, AW, hB, ownW, rfl⟩ := hH
  have hcw : M.W.length ≤ cw := by
    obtain ⟨_, _, hv, h2⟩ := ownW.form
    cases hv; exact h2
  refine Sp.up ?_
  refine sp_of_codeR Tryz.func44 rfl rfl ?_
  (refine run_seq ?_; refine run_region ?_; refine runL_alloc rfl rfl rfl rfl rfl ze35 (fun _ => ?_); refine xep rfl rfl ?_; refine runL_nil ?_; refine then_normal ?_; (iterate 2 refine run_seq ?_); refine run_region ?_; (iterate 2 refine xep rfl rfl ?_); refine xel rfl (ev_fieldAddr rfl rfl (fo rfl)) ?_; refine xel rfl (ev_loadK rfl rfl (sc rfl) (memF (.tail _ (.head _))) rfl) ?_; (iterate 2 refine xep rfl rfl ?_))
  rename_i b6
  refine runL_callZ (blk b6 o0.cells 35 :: blk m [.pointer (some ⟨b, 0, none⟩), .slice aw M.W.length cw] 62 :: AW) HB rfl rfl rfl rfl rfl rfl rfl (pf rfl) (fun x => by
    show cnt x (blk b6 o0.cells 35 :: blk m [.pointer (some ⟨b, 0, none⟩), .slice aw M.W.length cw] 62 :: (HB ++ AW)) = _
    (first | rfl | (simp only [List.append_eq, cnt_append, cnt_cons, cnt_nil, blk]; omega) | (simp only [List.append_eq, cnt_append, cnt_cons, cnt_nil, blk]; done))) (sp_rbremove _ HB b M.B hB hw t i) ?_
  rintro v HB2 ⟨rfl, hB2⟩
  unfold mremove
  generalize hX : bremove t i M.B = X at *
  obtain ⟨o1, is, B2⟩ := X
  dsimp only at hB2 ⊢
  ((iterate 3 refine xep rfl rfl ?_); refine runL_alloc rfl rfl rfl rfl rfl ze35 (fun _ => ?_); refine runL_store0 rfl rfl rfl rfl rfl (sz rfl) rfl rfl rfl rfl rfl ?_; refine xep rfl rfl ?_; refine runL_nil ?_; refine then_normal ?_; refine run_seq ?_; refine run_region ?_; refine xep rfl rfl ?_; refine runL_nil ?_; refine then_normal ?_)
  rename_i b8
  have hM2 : RmH m ⟨B2, M.W⟩ (blk m [.pointer (some ⟨b, 0, none⟩), .slice aw M.W.length cw] 62 :: (HB2 ++ AW)) := ⟨b, aw, cw, HB2, AW, hB2, ownW, rfl⟩
  refine RunC.perm (h' := blk b8 o1.cells 35 :: blk b6 o0.cells 35 :: blk m [.pointer (some ⟨b, 0, none⟩), .slice aw M.W.length cw] 62 :: (AW ++ HB2)) (fun x => by
    show cnt x (blk b8 o1.cells 35 :: blk b6 o0.cells 35 :: blk m [.pointer (some ⟨b, 0, none⟩), .slice aw M.W.length cw] 62 :: (AW ++ HB2)) = _
    (first | rfl | (simp only [List.append_eq, cnt_append, cnt_cons, cnt_nil, blk]; omega) | (simp only [List.append_eq, cnt_append, cnt_cons, cnt_nil, blk]; done))) ?_
  cases is with
  | true =>
    rw [if_pos rfl]
    refine run_condT rfl rfl ?_
    (refine run_seq ?_; refine run_region ?_; refine xel rfl (ev_loadAK rfl rfl (ag rfl) (sz rfl) (memF (.head _)) rfl) ?_; refine runL_store1 rfl rfl rfl rfl rfl (sz rfl) rfl rfl rfl rfl rfl ?_; refine xep rfl rfl ?_; refine runL_nil ?_; refine then_normal ?_; refine run_ret ?_; refine then_ret ?_)
    exact ⟨_, .agg rfl (memF (.tail _ (.head _))) (ag rfl) (sz rfl) rfl (.tmp rfl .nil), blk m [.pointer (some ⟨b, 0, none⟩), .slice aw M.W.length cw] 62 :: (HB2 ++ AW), blk b8 o1.cells 35 :: [blk b6 o1.cells 35], ⟨rfl, hM2⟩, fun x => by
      simp only [List.append_eq, cnt_append, cnt_cons, cnt_nil, blk, Ord.cells, o0]; omega⟩
  | false =>
    rw [if_neg (by simp)]
    refine run_condF rfl rfl ?_
    (refine run_skip ?_; refine then_normal ?_; (iterate 2 refine run_seq ?_); refine run_region ?_; (iterate 3 refine xep rfl rfl ?_))
    refine runL_ev rfl rfl rfl rfl (ev_callQ rfl rfl rfl (pf rfl) (sp_rwaits _ m ⟨B2, M.W⟩ (hM2.in fun x mx => by simp at mx; simp; rcases mx with h | h | h <;> simp [h]) hl t i)) ?_
    (refine xep rfl rfl ?_; refine runL_nil ?_; refine then_normal ?_; refine run_seq ?_; refine run_region ?_; (iterate 2 refine xep rfl rfl ?_); refine runL_nil ?_; refine then_normal ?_)
    rcases idxI_cases (isO t i) M.W with ⟨hk, hno⟩ | ⟨k, x, hk, hx, hp, hn⟩
    · have e : M.W.findIdx? (isO t i) = none := by rw [List.findIdx?_eq_none_iff]; exact hno
      rw [hk, e]
      refine run_condF rfl rfl ?_
      (refine run_skip ?_; refine then_normal ?_; refine run_seq ?_; refine run_region ?_; refine xel rfl (ev_build rfl pl35 rfl) ?_; refine runL_store1 rfl rfl rfl rfl rfl (sz rfl) rfl rfl rfl rfl rfl ?_; refine xep rfl rfl ?_; refine runL_nil ?_; refine then_normal ?_; refine run_ret ?_)
      exact ⟨_, .agg rfl (memF (.tail _ (.head _))) (ag rfl) (sz rfl) rfl (.tmp rfl .nil), blk m [.pointer (some ⟨b, 0, none⟩), .slice aw M.W.length cw] 62 :: (HB2 ++ AW), blk b8 o1.cells 35 :: [blk b6 o0.cells 35], ⟨rfl, hM2⟩, fun x => by
        simp only [List.append_eq, cnt_append, cnt_cons, cnt_nil, blk, Ord.cells, o0]; omega⟩
    · have hlt := (List.getElem?_eq_some_iff.1 hx).1
      have e := idx_some hx hp hn
      rw [hk, e]
      dsimp only
      rw [hx]
      dsimp only
      obtain ⟨b2, rest, cap', hv, rfl, hl2, hr2, hk2⟩ := ownW.pos (by omega)
      cases hv
      have r1 : RowAt (rows Ord.cells M.W ++ rest) (0 + (k : Int).toNat * 9) x.cells := by
        rw [Nat.zero_add]; exact rows_at oc_len hx rest
      refine run_condT rfl (decide_eq_true (by omega)) ?_
      (refine run_seq ?_; refine run_region ?_; (iterate 2 refine xep rfl rfl ?_); refine xel rfl (ev_fieldAddr rfl rfl (fo rfl)) ?_; refine xel rfl (ev_loadK rfl rfl (sc rfl) (memF (.tail _ (.tail _ (.head _)))) rfl) ?_; refine xep rfl rfl ?_; refine xel rfl (ev_indexAddr rfl rfl rfl (se rfl) (by omega) (by omega)) ?_; refine xel rfl (ev_loadAR rfl rfl (ag rfl) (sz rfl) (memF (.tail _ (.tail _ (.tail _ (.head _))))) r1 rfl) ?_; refine runL_alloc rfl rfl rfl rfl rfl ze35 (fun _ => ?_); refine runL_store0 rfl rfl rfl rfl rfl (sz rfl) rfl rfl rfl rfl rfl ?_; refine runL_nil ?_; refine then_normal ?_; refine run_seq ?_)
      rename_i b11
      obtain ⟨AA, hAA⟩ : ∃ AA, AA = blk b11 x.cells 35 :: blk b8 o1.cells 35 :: blk b6 o0.cells 35 :: blk m [.pointer (some ⟨b, 0, none⟩), .slice (some ⟨b2, 0, none⟩) M.W.length cw] 62 :: ([blk b2 (rows Ord.cells M.W ++ rest) 35] ++ HB2) := ⟨_, rfl⟩
      refine RunC.perm (h' := [] ++ AA) (fun x => by rw [hAA]; rfl) ?_
      have src := ownW.src (H := AA ++ F) fun x m => by rw [hAA]; simp at m; simp [m]
      have l1 : LoadsF (AA ++ F) m (0 + 1) (.slice (some ⟨b2, 0, none⟩) M.W.length cw) := ⟨_, _, _, by rw [hAA]; exact memF (.tail _ (.tail _ (.tail _ (.head _)))), rfl⟩
      have hN := cut_len hx
      have s1 := src.take (k := k) (by omega)
      rw [rows_take oc_len _ (by omega)] at s1
      have s2 := src.drop (k := k + 1) (cap := cw) (by omega) hcw
      rw [rows_drop oc_len _ (by omega)] at s2
      clear r1
      refine run_region_D3 (σ := Option Addr × Nat × Heap) 17 3 [6, 11] (fun s => [(53, .slice s.1 (M.W.take k ++ M.W.drop (k + 1)).length s.2.1), (37, .pointer (some ⟨m, 0, none⟩))])
        (fun s => s.2.2) (fun s => OwnS 35 9 (.slice s.1 (M.W.take k ++ M.W.drop (k + 1)).length s.2.1) (M.W.take k ++ M.W.drop (k + 1)).length (rows Ord.cells (M.W.take k ++ M.W.drop (k + 1))) s.2.2) mo rfl (by kernel_rfl) rfl ?_ ?_
      · (refine runD_q 0 rfl rfl (by kernel_rfl) ?_; refine ⟨_, fun _ => ev_pure rfl, ?_⟩; refine runD_q 2 rfl rfl (by kernel_rfl) ?_; refine ⟨_, fun _ => ev_pure rfl, ?_⟩; refine runD_q 3 rfl rfl (by kernel_rfl) ?_; refine ⟨_, fun _ => ev_pure rfl, ?_⟩; refine runD_q 4 rfl rfl (by kernel_rfl) ?_; refine ⟨_, fun _ => ev_fieldAddr rfl rfl (fo rfl), ?_⟩; refine runD_q 5 rfl rfl (by kernel_rfl) ?_; refine ⟨_, fun _ => ev_loadF rfl rfl (sc rfl) l1, ?_⟩; refine runD_q 6 rfl rfl (by kernel_rfl) ?_; refine ⟨_, fun _ => ev_pure rfl, ?_⟩; refine runD_q 7 rfl rfl (by kernel_rfl) ?_; refine ⟨_, fun _ => ev_sliceHi rfl rfl rfl (se rfl) (by omega) (by omega), ?_⟩; refine runD_q 9 rfl rfl (by kernel_rfl) ?_; refine ⟨_, fun _ => ev_pure rfl, ?_⟩; refine runD_q 10 rfl rfl (by kernel_rfl) ?_; refine ⟨_, fun _ => ev_pure rfl, ?_⟩; refine runD_q 11 rfl rfl (by kernel_rfl) ?_; refine ⟨_, fun _ => ev_fieldAddr rfl rfl (fo rfl), ?_⟩; refine runD_q 12 rfl rfl (by kernel_rfl) ?_; refine ⟨_, fun _ => ev_loadF rfl rfl (sc rfl) l1, ?_⟩; refine runD_q 13 rfl rfl (by kernel_rfl) ?_; refine ⟨_, fun _ => ev_pure rfl, ?_⟩; refine runD_q 14 rfl rfl (by kernel_rfl) ?_; refine ⟨_, fun _ => ev_add rfl rfl rfl (by omega), ?_⟩; refine runD_q 15 rfl rfl (by kernel_rfl) ?_; refine ⟨_, fun _ => ev_sliceLo rfl rfl rfl (se rfl) (by omega) (by omega), ?_⟩; refine runD_1 1 (by kernel_rfl) rfl rfl rfl ?_)
        refine runL_buildSlice (n := 9) (l := []) rfl rfl rfl rfl rfl (se rfl) ze35 rfl rfl rfl rfl rfl (fun b5 => ?_)
        (refine runL_nil ?_; refine endS_d rfl ?_; refine runD_1 8 (by kernel_rfl) rfl rfl rfl ?_)
        refine runL_append (sl := rows Ord.cells (M.W.take k)) [] rfl rfl rfl rfl rfl rfl rfl (se rfl) (se rfl) ze35 rfl (byt rfl) (OwnS.lit (l := []) rfl) (fun y => by (first | rfl | (simp only [List.append_eq, cnt_append, cnt_cons, cnt_nil, blk]; omega) | (simp only [List.append_eq, cnt_append, cnt_cons, cnt_nil, blk]; done))) (s1.mono fun x m => by simp [m]) (rows_cells oc_cells _) (by decide) (by decide) (by simp only [Int.toNat_natCast]; omega) ?_
        rintro v' A' own'
        obtain ⟨a6, c6, rfl, own6⟩ := own'.at
        (refine runL_nil ?_; refine endS_d rfl ?_; refine runD_1 16 (by kernel_rfl) rfl rfl rfl ?_)
        refine runL_append (sl := rows Ord.cells (M.W.drop (k + 1))) [] rfl rfl rfl rfl rfl rfl rfl (se rfl) (se rfl) ze35 rfl (byt rfl) own6 (fun y => by (first | rfl | (simp only [List.append_eq, cnt_append, cnt_cons, cnt_nil, blk]; omega) | (simp only [List.append_eq, cnt_append, cnt_cons, cnt_nil, blk]; done))) (s2.mono fun x m => by simp [m]) (rows_cells oc_cells _) (by decide) (by decide) (by simp only [Int.toNat_natCast]; omega) ?_
        rintro v' A'' own''
        rw [List.nil_append, ← rows_append, show 0 + (k : Int).toNat + (M.W.length - ((k : Int) + 1).toNat) = (M.W.take k ++ M.W.drop (k + 1)).length by omega] at own''
        obtain ⟨a7, c7, rfl, own7⟩ := own''.at
        (refine runL_nil ?_; refine endS_d rfl ?_; refine runD_done (by kernel_rfl) ?_)
        exact midX (a7, c7, A'') own7 rfl (fun y => by (first | rfl | (simp only [List.append_eq, cnt_append, cnt_cons, cnt_nil, blk]; omega) | (simp only [List.append_eq, cnt_append, cnt_cons, cnt_nil, blk]; done)))
      · rintro ⟨a7, c7, A7⟩ own7
        dsimp only at own7 ⊢
        subst hAA
        refine RunD.same (M' := blk m [.pointer (some ⟨b, 0, none⟩), .slice (some ⟨b2, 0, none⟩) M.W.length cw] 62 :: blk b11 x.cells 35 :: blk b8 o1.cells 35 :: blk b6 o0.cells 35 :: ([blk b2 (rows Ord.cells M.W ++ rest) 35] ++ HB2 ++ A7)) (fun _ _ h => h) (fun x => by (first | rfl | (simp only [List.append_eq, cnt_append, cnt_cons, cnt_nil, blk]; omega) | (simp only [List.append_eq, cnt_append, cnt_cons, cnt_nil, blk]; done))) ?_
        (refine runD_q 17 rfl rfl (by kernel_rfl) ?_; refine ⟨_, fun _ => ev_pure rfl, ?_⟩; refine runD_q 18 rfl rfl (by kernel_rfl) ?_; refine ⟨_, fun _ => ev_fieldAddr rfl rfl (fo rfl), ?_⟩; refine runD_1 19 (by kernel_rfl) rfl rfl rfl ?_; refine runL_store0 rfl rfl rfl rfl rfl (sz rfl) rfl rfl rfl rfl rfl ?_; refine runL_nil ?_; refine endS_n rfl ?_; refine runD_done (by kernel_rfl) ?_; refine then_normal ?_; refine run_seq ?_; refine run_region ?_; refine xel rfl (ev_loadAK rfl rfl (ag rfl) (sz rfl) (memF (.tail _ (.head _))) rfl) ?_; refine runL_store3 rfl rfl rfl rfl rfl (sz rfl) rfl rfl rfl rfl rfl ?_; refine xep rfl rfl ?_; refine runL_nil ?_; refine then_normal ?_; refine run_ret ?_; refine then_ret ?_)
        exact ⟨_, .agg rfl (memF (.tail _ (.tail _ (.tail _ (.head _))))) (ag rfl) (sz rfl) rfl (.tmp rfl .nil), blk m [.pointer (some ⟨b, 0, none⟩), .slice a7 (M.W.take k ++ M.W.drop (k + 1)).length c7] 62 :: (HB2 ++ A7), blk b11 x.cells 35 :: blk b8 o1.cells 35 :: blk b6 x.cells 35 :: [blk b2 (rows Ord.cells M.W ++ rest) 35], ⟨rfl, b, a7, c7, HB2, A7, hB2, own7, rfl⟩, fun y => by
          simp only [List.append_eq, cnt_append, cnt_cons, cnt_nil, blk, Ord.cells, o0]; omega⟩
end Go.Proofs.YtmelpobcpcmdoaaGreat
