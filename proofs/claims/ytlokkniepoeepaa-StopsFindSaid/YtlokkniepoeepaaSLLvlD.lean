/- Contracts of functions of the given program over its translation, each proved by walking its text; used by the laws' rows. It proves no given statement by itself. -/
import Derived.Test.YtlokkniepoeepaaSLLvl4
set_option autoImplicit false
set_option linter.unusedSectionVars false
set_option linter.unusedSimpArgs false
set_option linter.unusedVariables false
set_option maxRecDepth 4000
namespace Go.Proofs.Ytlokkniepoeepaa
open Go Go.SL Go.Proofs
def o0 : Ord := ⟨0, 0, 0, 0, 0, 0, 0, 0, 0⟩
/-- What a removal tells, and leaves. -/
def lrem (t i : Int) (es : List Ent) : Ord × Bool × List Ent := match es.findIdx? (isIt t i) with
  | none => (o0, false, es)
  | some k => match es[k]? with
    | none => (o0, false, es)
    | some x => (x.o, true, es.take k ++ es.drop (k + 1))
variable [Base]
theorem lrem_none {t i : Int} {es : List Ent} (h : ∀ x ∈ es, isIt t i x = false) : lrem t i es = (o0, false, es) := by
  unfold lrem; rw [List.findIdx?_eq_none_iff.2 h]
theorem lrem_some {t i : Int} {es : List Ent} {k : Nat} {x : Ent} (hx : es[k]? = some x) (hp : isIt t i x = true) (hn : ∀ j y, j < k → es[j]? = some y → isIt t i y = false) : lrem t i es = (x.o, true, es.take k ++ es.drop (k + 1)) := by
  have hlt := (List.getElem?_eq_some_iff.1 hx).1
  have hx2 := (List.getElem?_eq_some_iff.1 hx).2
  have : es.findIdx? (isIt t i) = some k := by
    rw [List.findIdx?_eq_some_iff_getElem]
    refine ⟨hlt, by rw [hx2]; exact hp, fun j hj => ?_⟩
    have := hn j _ hj (List.getElem?_eq_getElem (by omega))
    rw [this]; simp
  unfold lrem; rw [this]; simp only [hx]
set_option maxHeartbeats 1000000 in
theorem sp_lremove (F : Heap) (H : Heap) (b : Nat) (p : Int) (es : List Ent) (hH : LvH b p es H) (hb : es.length ≤ 65536) (t i : Int) :
    Sp Try.prog F 64 [.pointer (some ⟨b, 0, none⟩), .int .i64 t, .int .i64 i] H (fun v h' => v = .tuple #[ov (lrem t i es).1, .bool (lrem t i es).2.1] ∧ LvH b p (lrem t i es).2.2 h') := by
  have hin := fun G : Heap => hH.in (F := H ++ G) fun x m => List.mem_append_left _ m
  obtain ⟨a, cap, A, own, rfl⟩ := hH
  refine Sp.up ?_
  refine sp_of_codeR Try.func64 rfl rfl ?_
  (refine run_seq ?_; refine run_region ?_; refine runL_alloc rfl rfl rfl rfl rfl ze27 (fun _ => ?_); refine xep rfl rfl ?_; refine runL_nil ?_; refine then_normal ?_; refine run_seq ?_; refine run_region ?_; (iterate 3 refine xep rfl rfl ?_))
  rename_i b6
  refine runL_ev rfl rfl rfl rfl (ev_callQ rfl rfl rfl (pf rfl) (sp_lfind _ b p es ((hin F).mono fun x m => List.mem_cons_of_mem _ m) hb t i)) ?_
  (refine xep rfl rfl ?_; refine runL_nil ?_; refine then_normal ?_; (iterate 2 refine run_seq ?_); refine run_region ?_; (iterate 2 refine xep rfl rfl ?_); refine runL_nil ?_; refine then_normal ?_)
  rcases idxI_cases (isIt t i) es with ⟨hk, hno⟩ | ⟨k, x, hk, hx, hp, hn⟩
  · rw [hk, lrem_none hno]
    refine run_condT rfl rfl ?_
    (refine run_seq ?_; refine run_region ?_; refine xel rfl (ev_build rfl pl27 rfl) ?_; refine runL_store0 rfl rfl rfl rfl rfl (sz rfl) rfl rfl rfl rfl rfl ?_; refine xep rfl rfl ?_; refine runL_nil ?_; refine then_normal ?_; refine run_ret ?_; refine then_ret ?_)
    exact ⟨_, .agg rfl (memF (.head _)) (ag rfl) (sz rfl) rfl (.tmp rfl .nil), blk b [.int .i64 p, .slice a es.length cap] 92 :: A, [blk b6 o0.cells 27], ⟨rfl, a, cap, A, own, rfl⟩, fun y => by show cnt y (blk b6 o0.cells 27 :: _) = _; (first | rfl | (simp only [List.append_eq, cnt_append, cnt_cons, cnt_nil, blk]; omega) | (simp only [List.append_eq, cnt_append, cnt_cons, cnt_nil, blk]; done))⟩
  · rw [hk, lrem_some hx hp hn]
    have hlt := (List.getElem?_eq_some_iff.1 hx).1
    obtain ⟨b2, rest, cap', hv, rfl, hl2, hr2, hk2⟩ := own.pos (by omega)
    cases hv
    refine run_condF rfl (decide_eq_false (by omega)) ?_
    have r1 : RowAt (rows ec es ++ rest) (0 + (k : Int).toNat * 10) (ec x) := by
      rw [Nat.zero_add]; exact rows_at ec_len hx rest
    (refine run_skip ?_; refine then_normal ?_; refine run_seq ?_; refine run_region ?_; (iterate 2 refine xep rfl rfl ?_); refine xel rfl (ev_fieldAddr rfl rfl (fo rfl)) ?_; refine xel rfl (ev_loadK rfl rfl (sc rfl) (memF (.tail _ (.head _))) rfl) ?_; refine xep rfl rfl ?_; refine xel rfl (ev_indexAddr rfl rfl rfl (se rfl) (by omega) (by omega)) ?_; refine xel rfl (ev_fieldAddr rfl rfl (fo rfl)) ?_; refine xel rfl (ev_loadAR1 rfl rfl (ag rfl) (sz rfl) (memF (.tail _ (.tail _ (.head _)))) r1 rfl) ?_; refine runL_alloc rfl rfl rfl rfl rfl ze27 (fun _ => ?_); refine runL_store0 rfl rfl rfl rfl rfl (sz rfl) rfl rfl rfl rfl rfl ?_; refine runL_nil ?_; refine then_normal ?_; refine run_seq ?_; refine run_region ?_; (iterate 3 refine xep rfl rfl ?_); refine xel rfl (ev_fieldAddr rfl rfl (fo rfl)) ?_; refine xel rfl (ev_loadK rfl rfl (sc rfl) (memF (.tail _ (.tail _ (.head _)))) rfl) ?_; (iterate 2 refine xep rfl rfl ?_); refine xel rfl (ev_add rfl rfl rfl (by omega)) ?_)
    rename_i b9
    refine runL_callZ [blk b9 x.o.cells 27, blk b6 o0.cells 27, blk b [.int .i64 p, .slice (some ⟨b2, 0, none⟩) es.length cap] 92] [blk b2 (rows ec es ++ rest) 94] rfl rfl rfl rfl rfl rfl rfl (pf rfl) (fun y => rfl) (sp_delEnt _ _ _ _ _ _ own (rows_cells ec_cells _) k (k + 1) (by omega) (by omega)) ?_
    rintro v A' own'
    rw [rows_take ec_len es (by omega), rows_drop ec_len es (by omega), ← rows_append] at own'
    have hlen : es.length - (k + 1 - k) = (es.take k ++ es.drop (k + 1)).length := by
      rw [List.length_append, List.length_take, List.length_drop]; omega
    rw [hlen] at own'
    obtain ⟨a5, c5, rfl, own5⟩ := own'.at
    generalize es.take k ++ es.drop (k + 1) = es2 at *
    (refine xep rfl rfl ?_; refine xel rfl (ev_fieldAddr rfl rfl (fo rfl)) ?_; refine runL_store2 rfl rfl rfl rfl rfl (sz rfl) rfl rfl rfl rfl rfl ?_; refine runL_nil ?_; refine then_normal ?_; refine run_seq ?_; refine run_region ?_; refine xel rfl (ev_loadAK rfl rfl (ag rfl) (sz rfl) (memF (.head _)) rfl) ?_; refine runL_store1 rfl rfl rfl rfl rfl (sz rfl) rfl rfl rfl rfl rfl ?_; refine xep rfl rfl ?_; refine runL_nil ?_; refine then_normal ?_; refine run_ret ?_)
    exact ⟨_, .agg rfl (memF (.tail _ (.head _))) (ag rfl) (sz rfl) rfl (.tmp rfl .nil), blk b [.int .i64 p, .slice a5 es2.length c5] 92 :: A', [blk b9 x.o.cells 27, blk b6 x.o.cells 27], ⟨rfl, a5, c5, A', own5, rfl⟩, fun y => by show cnt y (blk b9 x.o.cells 27 :: blk b6 x.o.cells 27 :: blk b [.int .i64 p, .slice a5 es2.length c5] 92 :: A') = _; (first | rfl | (simp only [List.append_eq, cnt_append, cnt_cons, cnt_nil, blk]; omega) | (simp only [List.append_eq, cnt_append, cnt_cons, cnt_nil, blk]; done))⟩
end Go.Proofs.Ytlokkniepoeepaa
