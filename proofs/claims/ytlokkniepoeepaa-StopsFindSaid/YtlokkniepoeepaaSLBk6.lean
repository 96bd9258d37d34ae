/- Contracts of functions of the given program over its translation, each proved by walking its text; used by the laws' rows. It proves no given statement by itself. -/
import Derived.Test.YtlokkniepoeepaaSLBk4
set_option autoImplicit false
set_option linter.unusedSectionVars false
set_option linter.unusedSimpArgs false
set_option linter.unusedVariables false
set_option maxRecDepth 4000
set_option maxHeartbeats 16000000
namespace Go.Proofs.Ytlokkniepoeepaa
open Go Go.SL Go.Proofs
variable [Base]
theorem sp_brem1 (F H : Heap) (b : Nat) (B : Bk) (hH : BkH b B H) (hw : BW B) (t i : Int) (k : Nat) (o : Ord) (hf : findB t i B = some (1, k, o)) :
    Sp Try.prog F 43 [.pointer (some ⟨b, 0, none⟩), .int .i64 t, .int .i64 i] H (fun v h' => v = .tuple #[ov (bremove t i B).1, .bool (bremove t i B).2.1] ∧ BkH b (bremove t i B).2.2 h') := by
  obtain ⟨lv, hlv, -⟩ := findB_get hf
  have hbr : bremove t i B = ((lrem t i lv.es).1, (lrem t i lv.es).2.1, B.put 1 (if (lrem t i lv.es).2.2 = [] then (B.side 1).eraseIdx k else (B.side 1).set k ⟨lv.p, (lrem t i lv.es).2.2⟩)) := by
    unfold bremove; rw [hf]; simp only [hlv]
  rw [hbr]
  have hlok := (hw.side 1).1 lv (List.mem_of_getElem? hlv)
  have hlb := hlok.1.1
  have hls := lenL_ge (hw.side 1).1
  have h64 := (hw.side 1).2
  have cf : ∀ G, BkIn G b B → Sp Try.prog G 62 [.pointer (some ⟨b, 0, none⟩), .int .i64 t, .int .i64 i] [] (Ret (.tuple #[.pointer (some ⟨b, 0, none⟩), .int .i64 k, ov o])) := by
    intro G hG
    have := sp_bfind G b B hG hw t i
    rw [hf] at this; exact this
  refine Sp.up ?_
  refine sp_of_codeR Try.func43 rfl rfl ?_
  (refine run_seq ?_; refine run_region ?_; refine runL_alloc rfl rfl rfl rfl rfl ze27 (fun _ => ?_); refine xep rfl rfl ?_; refine runL_nil ?_; refine then_normal ?_; refine run_seq ?_; refine run_region ?_; (iterate 3 refine xep rfl rfl ?_))
  rename_i b6
  refine runL_ev rfl rfl rfl rfl (ev_callQ rfl rfl rfl (pf rfl) (cf _ (hH.in fun x m => List.mem_append_left _ (List.mem_cons_of_mem _ m)))) ?_
  ((iterate 4 refine xep rfl rfl ?_); refine runL_alloc rfl rfl rfl rfl rfl ze27 (fun _ => ?_); (iterate 2 refine xep rfl rfl ?_); refine runL_store0 rfl rfl rfl rfl rfl (sz rfl) rfl rfl rfl rfl rfl ?_; refine runL_nil ?_; refine then_normal ?_; (iterate 2 refine run_seq ?_); refine run_region ?_; refine xep rfl rfl ?_; refine xel rfl (ev_eqNil rfl rfl rfl (pt rfl)) ?_; refine runL_nil ?_; refine then_normal ?_)
  rename_i b10
  refine run_condF rfl rfl ?_
  obtain ⟨v, w, H0, H1, h0, h1, rfl⟩ := hH
  have h0 : SdH v (B.side 1) H0 := h0
  obtain ⟨ba, c, cap, bi, G1, G2, rfl, hcap, g1, hG1, hp, hset⟩ := h0.open (k := k) (lv := lv) hlv
  have hlt := (List.getElem?_eq_some_iff.1 hlv).1
  refine RunC.perm (h' := blk b [.slice (some ⟨ba, 0, none⟩) (B.side 1).length cap,w, .int .i64 B.last, .int .i64 B.no] 65 :: blk ba c 73 :: (G1 ++ (G2 ++ H1 ++ (blk b6 o0.cells 27 :: [blk b10 o.cells 27])))) (fun x => by
    have h1 := hp x
    simp only [List.append_eq, cnt_append, cnt_cons, cnt_nil, blk, Ord.cells, o0] at h1 ⊢
    omega) ?_
  (refine run_skip ?_; refine then_normal ?_; refine run_seq ?_; refine run_region ?_; (iterate 2 refine xep rfl rfl ?_); refine xel rfl (ev_loadK rfl rfl (sc rfl) (memF (.head _)) rfl) ?_; refine xep rfl rfl ?_; refine xel rfl (ev_indexAddr rfl rfl rfl (se rfl) (by omega) (by omega)) ?_; refine xel rfl (ev_load rfl rfl (sc rfl) (memF (.tail _ (.head _))) g1) ?_; (iterate 2 refine xep rfl rfl ?_))
  refine runL_callZ (blk b [.slice (some ⟨ba, 0, none⟩) (B.side 1).length cap,w, .int .i64 B.last, .int .i64 B.no] 65 :: blk ba c 73 :: (G2 ++ H1 ++ (blk b6 o0.cells 27 :: [blk b10 o.cells 27]))) G1 rfl rfl rfl rfl rfl rfl rfl (pf rfl) (fun x => by (first | rfl | (simp only [List.append_eq, cnt_append, cnt_cons, cnt_nil, blk]; omega) | (simp only [List.append_eq, cnt_append, cnt_cons, cnt_nil, blk]; done))) (sp_lremove _ G1 bi lv.p lv.es hG1 hlb t i) ?_
  rintro v G1' ⟨rfl, hG1'⟩
  obtain ⟨H0', hS', hp'⟩ := hset lv.p (lrem t i lv.es).2.2 G1' hG1'
  generalize lrem t i lv.es = T at *
  obtain ⟨o2, is, es2⟩ := T
  dsimp only at *
  ((iterate 3 refine xep rfl rfl ?_); refine runL_alloc rfl rfl rfl rfl rfl ze27 (fun _ => ?_); refine runL_store0 rfl rfl rfl rfl rfl (sz rfl) rfl rfl rfl rfl rfl ?_; refine xep rfl rfl ?_; refine runL_nil ?_; refine then_normal ?_; refine run_seq ?_; refine run_region ?_; (iterate 2 refine xep rfl rfl ?_))
  rename_i b11
  have hk2 : ((B.side 1).set k ⟨lv.p, es2⟩)[k]? = some ⟨lv.p, es2⟩ := List.getElem?_set_self hlt
  refine runL_callZ (blk b11 o2.cells 27 :: (blk b6 o0.cells 27 :: [blk b10 o.cells 27])) (blk b [.slice (some ⟨ba, 0, none⟩) (B.side 1).length cap,w, .int .i64 B.last, .int .i64 B.no] 65 :: (H0' ++ H1)) rfl rfl rfl rfl rfl rfl rfl (pf rfl) (fun x => by
    have h1 := hp' x
    simp only [List.append_eq, cnt_append, cnt_cons, cnt_nil, blk, Ord.cells] at h1 ⊢
    omega) (sp_swept1 _ H0' H1 b w _ B.last B.no _ hS' (by rw [List.length_set]; omega) k ⟨lv.p, es2⟩ hk2) ?_
  rintro v3 h3 ⟨v', H0'', hS2, rfl⟩
  have e1 : ((B.side 1).set k ⟨lv.p, es2⟩).eraseIdx k = (B.side 1).eraseIdx k := by
    rw [List.eraseIdx_eq_take_drop_succ, List.eraseIdx_eq_take_drop_succ, List.take_set, List.drop_set]
    rw [if_pos (by omega), List.set_eq_of_length_le (by rw [List.length_take]; omega)]
  dsimp only at hS2
  rw [e1] at hS2
  refine RunL.perm (h' := blk b6 o0.cells 27 :: blk b11 o2.cells 27 :: [blk b10 o.cells 27] ++ (blk b [v',w, .int .i64 B.last, .int .i64 B.no] 65 :: (H0'' ++ H1))) (fun x => by (first | rfl | (simp only [List.append_eq, cnt_append, cnt_cons, cnt_nil, blk]; omega) | (simp only [List.append_eq, cnt_append, cnt_cons, cnt_nil, blk]; done))) ?_
  (refine runL_nil ?_; refine then_normal ?_; refine run_seq ?_; refine run_region ?_; refine xel rfl (ev_loadAK rfl rfl (ag rfl) (sz rfl) (memF (.tail _ (.head _))) rfl) ?_; refine xep rfl rfl ?_; refine runL_store0 rfl rfl rfl rfl rfl (sz rfl) rfl rfl rfl rfl rfl ?_; refine xep rfl rfl ?_; refine runL_nil ?_; refine then_normal ?_; refine run_ret ?_)
  refine ⟨_, .agg rfl (memF (.head _)) (ag rfl) (sz rfl) rfl (.tmp rfl .nil), blk b [v',w, .int .i64 B.last, .int .i64 B.no] 65 :: (H0'' ++ H1), blk b6 o2.cells 27 :: blk b11 o2.cells 27 :: [blk b10 o.cells 27], ⟨rfl, ?_⟩, fun x => by simp only [List.append_eq, cnt_append, cnt_cons, cnt_nil, blk, Ord.cells]; omega⟩
  exact ⟨v', w, H0'', H1, hS2, h1, rfl⟩
theorem sp_brem2 (F H : Heap) (b : Nat) (B : Bk) (hH : BkH b B H) (hw : BW B) (t i : Int) (k : Nat) (o : Ord) (hf : findB t i B = some (2, k, o)) :
    Sp Try.prog F 43 [.pointer (some ⟨b, 0, none⟩), .int .i64 t, .int .i64 i] H (fun v h' => v = .tuple #[ov (bremove t i B).1, .bool (bremove t i B).2.1] ∧ BkH b (bremove t i B).2.2 h') := by
  obtain ⟨lv, hlv, -⟩ := findB_get hf
  have hbr : bremove t i B = ((lrem t i lv.es).1, (lrem t i lv.es).2.1, B.put 2 (if (lrem t i lv.es).2.2 = [] then (B.side 2).eraseIdx k else (B.side 2).set k ⟨lv.p, (lrem t i lv.es).2.2⟩)) := by
    unfold bremove; rw [hf]; simp only [hlv]
  rw [hbr]
  have hlok := (hw.side 2).1 lv (List.mem_of_getElem? hlv)
  have hlb := hlok.1.1
  have hls := lenL_ge (hw.side 2).1
  have h64 := (hw.side 2).2
  have cf : ∀ G, BkIn G b B → Sp Try.prog G 62 [.pointer (some ⟨b, 0, none⟩), .int .i64 t, .int .i64 i] [] (Ret (.tuple #[.pointer (some ⟨b, 1, none⟩), .int .i64 k, ov o])) := by
    intro G hG
    have := sp_bfind G b B hG hw t i
    rw [hf] at this; exact this
  refine Sp.up ?_
  refine sp_of_codeR Try.func43 rfl rfl ?_
  (refine run_seq ?_; refine run_region ?_; refine runL_alloc rfl rfl rfl rfl rfl ze27 (fun _ => ?_); refine xep rfl rfl ?_; refine runL_nil ?_; refine then_normal ?_; refine run_seq ?_; refine run_region ?_; (iterate 3 refine xep rfl rfl ?_))
  rename_i b6
  refine runL_ev rfl rfl rfl rfl (ev_callQ rfl rfl rfl (pf rfl) (cf _ (hH.in fun x m => List.mem_append_left _ (List.mem_cons_of_mem _ m)))) ?_
  ((iterate 4 refine xep rfl rfl ?_); refine runL_alloc rfl rfl rfl rfl rfl ze27 (fun _ => ?_); (iterate 2 refine xep rfl rfl ?_); refine runL_store0 rfl rfl rfl rfl rfl (sz rfl) rfl rfl rfl rfl rfl ?_; refine runL_nil ?_; refine then_normal ?_; (iterate 2 refine run_seq ?_); refine run_region ?_; refine xep rfl rfl ?_; refine xel rfl (ev_eqNil rfl rfl rfl (pt rfl)) ?_; refine runL_nil ?_; refine then_normal ?_)
  rename_i b10
  refine run_condF rfl rfl ?_
  obtain ⟨w, v, H1, H0, h1, h0, rfl⟩ := hH
  have h0 : SdH v (B.side 2) H0 := h0
  obtain ⟨ba, c, cap, bi, G1, G2, rfl, hcap, g1, hG1, hp, hset⟩ := h0.open (k := k) (lv := lv) hlv
  have hlt := (List.getElem?_eq_some_iff.1 hlv).1
  refine RunC.perm (h' := blk b [w,.slice (some ⟨ba, 0, none⟩) (B.side 2).length cap, .int .i64 B.last, .int .i64 B.no] 65 :: blk ba c 73 :: (G1 ++ (G2 ++ H1 ++ (blk b6 o0.cells 27 :: [blk b10 o.cells 27])))) (fun x => by
    have h1 := hp x
    simp only [List.append_eq, cnt_append, cnt_cons, cnt_nil, blk, Ord.cells, o0] at h1 ⊢
    omega) ?_
  (refine run_skip ?_; refine then_normal ?_; refine run_seq ?_; refine run_region ?_; (iterate 2 refine xep rfl rfl ?_); refine xel rfl (ev_loadK rfl rfl (sc rfl) (memF (.head _)) rfl) ?_; refine xep rfl rfl ?_; refine xel rfl (ev_indexAddr rfl rfl rfl (se rfl) (by omega) (by omega)) ?_; refine xel rfl (ev_load rfl rfl (sc rfl) (memF (.tail _ (.head _))) g1) ?_; (iterate 2 refine xep rfl rfl ?_))
  refine runL_callZ (blk b [w,.slice (some ⟨ba, 0, none⟩) (B.side 2).length cap, .int .i64 B.last, .int .i64 B.no] 65 :: blk ba c 73 :: (G2 ++ H1 ++ (blk b6 o0.cells 27 :: [blk b10 o.cells 27]))) G1 rfl rfl rfl rfl rfl rfl rfl (pf rfl) (fun x => by (first | rfl | (simp only [List.append_eq, cnt_append, cnt_cons, cnt_nil, blk]; omega) | (simp only [List.append_eq, cnt_append, cnt_cons, cnt_nil, blk]; done))) (sp_lremove _ G1 bi lv.p lv.es hG1 hlb t i) ?_
  rintro v G1' ⟨rfl, hG1'⟩
  obtain ⟨H0', hS', hp'⟩ := hset lv.p (lrem t i lv.es).2.2 G1' hG1'
  generalize lrem t i lv.es = T at *
  obtain ⟨o2, is, es2⟩ := T
  dsimp only at *
  ((iterate 3 refine xep rfl rfl ?_); refine runL_alloc rfl rfl rfl rfl rfl ze27 (fun _ => ?_); refine runL_store0 rfl rfl rfl rfl rfl (sz rfl) rfl rfl rfl rfl rfl ?_; refine xep rfl rfl ?_; refine runL_nil ?_; refine then_normal ?_; refine run_seq ?_; refine run_region ?_; (iterate 2 refine xep rfl rfl ?_))
  rename_i b11
  have hk2 : ((B.side 2).set k ⟨lv.p, es2⟩)[k]? = some ⟨lv.p, es2⟩ := List.getElem?_set_self hlt
  refine runL_callZ (blk b11 o2.cells 27 :: (blk b6 o0.cells 27 :: [blk b10 o.cells 27])) (blk b [w,.slice (some ⟨ba, 0, none⟩) (B.side 2).length cap, .int .i64 B.last, .int .i64 B.no] 65 :: (H0' ++ H1)) rfl rfl rfl rfl rfl rfl rfl (pf rfl) (fun x => by
    have h1 := hp' x
    simp only [List.append_eq, cnt_append, cnt_cons, cnt_nil, blk, Ord.cells] at h1 ⊢
    omega) (sp_swept2 _ H0' H1 b w _ B.last B.no _ hS' (by rw [List.length_set]; omega) k ⟨lv.p, es2⟩ hk2) ?_
  rintro v3 h3 ⟨v', H0'', hS2, rfl⟩
  have e1 : ((B.side 2).set k ⟨lv.p, es2⟩).eraseIdx k = (B.side 2).eraseIdx k := by
    rw [List.eraseIdx_eq_take_drop_succ, List.eraseIdx_eq_take_drop_succ, List.take_set, List.drop_set]
    rw [if_pos (by omega), List.set_eq_of_length_le (by rw [List.length_take]; omega)]
  dsimp only at hS2
  rw [e1] at hS2
  refine RunL.perm (h' := blk b6 o0.cells 27 :: blk b11 o2.cells 27 :: [blk b10 o.cells 27] ++ (blk b [w,v', .int .i64 B.last, .int .i64 B.no] 65 :: (H0'' ++ H1))) (fun x => by (first | rfl | (simp only [List.append_eq, cnt_append, cnt_cons, cnt_nil, blk]; omega) | (simp only [List.append_eq, cnt_append, cnt_cons, cnt_nil, blk]; done))) ?_
  (refine runL_nil ?_; refine then_normal ?_; refine run_seq ?_; refine run_region ?_; refine xel rfl (ev_loadAK rfl rfl (ag rfl) (sz rfl) (memF (.tail _ (.head _))) rfl) ?_; refine xep rfl rfl ?_; refine runL_store0 rfl rfl rfl rfl rfl (sz rfl) rfl rfl rfl rfl rfl ?_; refine xep rfl rfl ?_; refine runL_nil ?_; refine then_normal ?_; refine run_ret ?_)
  refine ⟨_, .agg rfl (memF (.head _)) (ag rfl) (sz rfl) rfl (.tmp rfl .nil), blk b [w,v', .int .i64 B.last, .int .i64 B.no] 65 :: (H1 ++ H0''), blk b6 o2.cells 27 :: blk b11 o2.cells 27 :: [blk b10 o.cells 27], ⟨rfl, ?_⟩, fun x => by simp only [List.append_eq, cnt_append, cnt_cons, cnt_nil, blk, Ord.cells]; omega⟩
  exact ⟨w, v', H1, H0'', h1, hS2, rfl⟩
theorem sp_bremove (F H : Heap) (b : Nat) (B : Bk) (hH : BkH b B H) (hw : BW B) (t i : Int) :
    Sp Try.prog F 43 [.pointer (some ⟨b, 0, none⟩), .int .i64 t, .int .i64 i] H (fun v h' => v = .tuple #[ov (bremove t i B).1, .bool (bremove t i B).2.1] ∧ BkH b (bremove t i B).2.2 h') := by
  cases hf : findB t i B with
  | some r =>
    obtain ⟨s, k, o⟩ := r
    rcases findB_side hf with rfl | rfl
    · exact sp_brem1 F H b B hH hw t i k o hf
    · exact sp_brem2 F H b B hH hw t i k o hf
  | none =>
    have hbr : bremove t i B = (o0, false, B) := by unfold bremove; rw [hf]
    rw [hbr]
    have cf : ∀ G, BkIn G b B → Sp Try.prog G 62 [.pointer (some ⟨b, 0, none⟩), .int .i64 t, .int .i64 i] [] (Ret (.tuple #[.pointer none, .int .i64 0, ov o0])) := by
      intro G hG
      have := sp_bfind G b B hG hw t i
      rw [hf] at this; exact this
    refine Sp.up ?_
    refine sp_of_codeR Try.func43 rfl rfl ?_
    (refine run_seq ?_; refine run_region ?_; refine runL_alloc rfl rfl rfl rfl rfl ze27 (fun _ => ?_); refine xep rfl rfl ?_; refine runL_nil ?_; refine then_normal ?_; refine run_seq ?_; refine run_region ?_; (iterate 3 refine xep rfl rfl ?_))
    rename_i b6
    refine runL_ev rfl rfl rfl rfl (ev_callQ rfl rfl rfl (pf rfl) (cf _ (hH.in fun x m => List.mem_append_left _ (List.mem_cons_of_mem _ m)))) ?_
    ((iterate 4 refine xep rfl rfl ?_); refine runL_alloc rfl rfl rfl rfl rfl ze27 (fun _ => ?_); (iterate 2 refine xep rfl rfl ?_); refine runL_store0 rfl rfl rfl rfl rfl (sz rfl) rfl rfl rfl rfl rfl ?_; refine runL_nil ?_; refine then_normal ?_; (iterate 2 refine run_seq ?_); refine run_region ?_; refine xep rfl rfl ?_; refine xel rfl (ev_eqNil rfl rfl rfl (pt rfl)) ?_; refine runL_nil ?_; refine then_normal ?_)
    rename_i b10
    refine run_condT rfl rfl ?_
    refine RunC.perm (h' := blk b6 o0.cells 27 :: blk b10 o0.cells 27 :: H) (fun x => by simp only [List.append_eq, cnt_append, cnt_cons, cnt_nil, blk, Ord.cells, o0]; omega) ?_
    (refine run_seq ?_; refine run_region ?_; refine xel rfl (ev_build rfl pl27 rfl) ?_; refine runL_store0 rfl rfl rfl rfl rfl (sz rfl) rfl rfl rfl rfl rfl ?_; refine xep rfl rfl ?_; refine runL_nil ?_; refine then_normal ?_; refine run_ret ?_; refine then_ret ?_)
    exact ⟨_, .agg rfl (memF (.head _)) (ag rfl) (sz rfl) rfl (.tmp rfl .nil), H, [blk b6 o0.cells 27, blk b10 o0.cells 27], ⟨rfl, hH⟩, fun x => by simp only [List.append_eq, cnt_append, cnt_cons, cnt_nil, blk, Ord.cells, o0]; omega⟩
end Go.Proofs.Ytlokkniepoeepaa
