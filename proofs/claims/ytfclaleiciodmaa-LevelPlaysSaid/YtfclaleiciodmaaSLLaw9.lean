/- Contracts of functions of the given program over its translation, each proved by walking its text; used by the laws' rows. It proves no given statement by itself. -/
import Derived.Test.YtfclaleiciodmaaSLLvl5
set_option autoImplicit false
set_option linter.unusedSectionVars false
set_option linter.unusedSimpArgs false
set_option linter.unusedVariables false
set_option maxRecDepth 4000
namespace Go.Proofs.Ytfclaleiciodmaa
open Go Go.SL Go.Proofs
def ra : Ord := ⟨1, 1, 1, 2, 1, 7, 5, 2, 0⟩
def rb : Ord := ⟨2, 1, 2, 2, 1, 7, 3, 0, 0⟩
theorem runs_take1 : take 3 4 [⟨ra, 2⟩, ⟨rb, 3⟩] = ([(ra, 2), (rb, 2)], false, [⟨wq rb 1, 1⟩, ⟨wq ra 3, 2⟩]) := by
  rw [take_cons (by decide) (by decide) (by decide)]
  rw [show min (4 : Int) (Ent.mk ra 2).seen = 2 by decide, show giveE ⟨ra, 2⟩ [⟨rb, 3⟩] 2 = [⟨rb, 3⟩, ⟨wq ra 3, 2⟩] by kernel_rfl, show (4 : Int) - 2 = 2 by decide]
  rw [take_cons (by decide) (by decide) (by decide)]
  rw [show min (2 : Int) (Ent.mk rb 3).seen = 2 by decide, show giveE ⟨rb, 3⟩ [⟨wq ra 3, 2⟩] 2 = [⟨wq rb 1, 1⟩, ⟨wq ra 3, 2⟩] by kernel_rfl, show (2 : Int) - 2 = 0 by decide]
  rw [take_le (by decide)]
theorem runs_take2 : take 2 1 [⟨wq rb 1, 1⟩, ⟨wq ra 3, 2⟩] = ([], true, [⟨wq rb 1, 1⟩, ⟨wq ra 3, 2⟩]) := take_own (by decide) (by decide)
variable [Base]
set_option maxHeartbeats 1000000 in
theorem levelRuns_sp (F : Heap) : Sp Try.prog F 3 [] [] (Ret (.bool true)) := by
  have lb2 : LB [⟨ra, 2⟩, ⟨rb, 3⟩] := ⟨by decide, fun x m => by simp only [List.mem_cons, List.not_mem_nil, or_false] at m; rcases m with rfl | rfl <;> decide⟩
  have lb3 : LB [⟨wq rb 1, 1⟩, ⟨wq ra 3, 2⟩] := ⟨by decide, fun x m => by simp only [List.mem_cons, List.not_mem_nil, or_false] at m; rcases m with rfl | rfl <;> decide⟩
  refine sp_of_code Try.func3 rfl rfl ?_
  (refine run_seq ?_; refine run_region ?_; refine xep rfl rfl ?_; refine runL_nil ?_; refine then_normal ?_; refine run_seq ?_; refine run_region ?_)
  refine runL_call0 rfl rfl rfl rfl rfl rfl rfl (pf rfl) (sp_lnew _ 7) ?_
  rintro v H ⟨b, rfl, hH⟩
  (refine xep rfl rfl ?_; refine runL_nil ?_; refine then_normal ?_; (iterate 2 refine run_seq ?_); refine run_region ?_; refine xep rfl rfl ?_; refine xel rfl (ev_eqNil rfl rfl rfl (pt rfl)) ?_; refine runL_nil ?_; refine then_normal ?_)
  refine run_condF rfl rfl ?_
  (refine run_skip ?_; refine then_normal ?_; refine run_seq ?_; refine run_region ?_; refine xel rfl (ev_build rfl pl25 rfl) ?_; refine runL_alloc rfl rfl rfl rfl rfl ze25 (fun _ => ?_); refine runL_store0 rfl rfl rfl rfl rfl (sz rfl) rfl rfl rfl rfl rfl ?_; refine runL_nil ?_; refine then_normal ?_; refine run_seq ?_; refine run_region ?_; refine xel rfl (ev_build rfl pl25 rfl) ?_; refine runL_alloc rfl rfl rfl rfl rfl ze25 (fun _ => ?_); refine runL_store0 rfl rfl rfl rfl rfl (sz rfl) rfl rfl rfl rfl rfl ?_; refine runL_nil ?_; refine then_normal ?_; refine run_seq ?_; refine run_region ?_; refine xep rfl rfl ?_; refine xel rfl (ev_loadAK rfl rfl (ag rfl) (sz rfl) (memF (.tail _ (.head _))) rfl) ?_)
  rename_i b2 b3
  refine runL_callZ [blk b3 rb.cells 25, blk b2 ra.cells 25] H rfl rfl rfl rfl rfl rfl rfl (pf rfl) (fun x => by show cnt x (blk b3 rb.cells 25 :: blk b2 ra.cells 25 :: (H ++ [])) = _; (first | rfl | (simp only [List.append_eq, cnt_append, cnt_cons, cnt_nil, blk]; omega) | (simp only [List.append_eq, cnt_append, cnt_cons, cnt_nil, blk]; done))) (sp_ladd _ H b 7 [] hH (by decide) ra) ?_
  rintro v H1 hH1
  (refine runL_nil ?_; refine then_normal ?_; refine run_seq ?_; refine run_region ?_; refine xep rfl rfl ?_; refine xel rfl (ev_loadAK rfl rfl (ag rfl) (sz rfl) (memF (.head _)) rfl) ?_)
  refine runL_callZ [blk b3 rb.cells 25, blk b2 ra.cells 25] H1 rfl rfl rfl rfl rfl rfl rfl (pf rfl) (fun x => rfl) (sp_ladd _ H1 b 7 _ hH1 (by decide) rb) ?_
  rintro v H2 hH2
  (refine runL_nil ?_; refine then_normal ?_; refine run_seq ?_; refine run_region ?_; refine xep rfl rfl ?_)
  refine runL_callZ [blk b3 rb.cells 25, blk b2 ra.cells 25] H2 rfl rfl rfl rfl rfl rfl rfl (pf rfl) (fun x => rfl) (sp_ltake _ H2 b 7 _ hH2 lb2 3 4 (inI rfl) (by decide)) ?_
  rintro v H3 ⟨a3, c3, A3, L3, rfl, own3, hL3, rfl⟩
  rw [show ([] ++ [⟨ra, tip ra⟩] ++ [⟨rb, tip rb⟩] : List Ent) = [⟨ra, 2⟩, ⟨rb, 3⟩] by rfl, runs_take1] at *
  dsimp only at own3 hL3
  ((iterate 5 refine xep rfl rfl ?_); refine runL_nil ?_; refine then_normal ?_; refine run_seq ?_; refine run_region ?_; refine xep rfl rfl ?_)
  refine runL_ev rfl rfl rfl rfl (ev_callQ rfl rfl rfl (pf rfl) (sp_lseen _ b 7 _ (hL3.in fun x m => memF (.tail _ (.tail _ (List.mem_append_right [] (List.mem_append_left _ m))))) lb3)) ?_
  (refine xep rfl rfl ?_)
  refine runL_callZ (blk b3 rb.cells 25 :: blk b2 ra.cells 25 :: (L3 ++ A3)) [] rfl rfl rfl rfl rfl rfl rfl (pf rfl) (fun x => by (first | rfl | (simp only [List.append_eq, cnt_append, cnt_cons, cnt_nil, blk]; omega) | (simp only [List.append_eq, cnt_append, cnt_cons, cnt_nil, blk]; done))) (sp_lorders _ b 7 _ (hL3.in fun x m => memF (.tail _ (.tail _ (List.mem_append_left _ m)))) lb3.1) ?_
  rintro v A4 own4
  obtain ⟨a4, c4, rfl, own4⟩ := own4.at
  ((iterate 2 refine xep rfl rfl ?_); refine runL_nil ?_; refine then_normal ?_; refine run_seq ?_; refine run_region ?_; refine xel rfl (ev_loadAK rfl rfl (ag rfl) (sz rfl) (memF (.head _)) rfl) ?_; refine xel rfl (ev_loadAK rfl rfl (ag rfl) (sz rfl) (memF (.tail _ (.head _))) rfl) ?_)
  refine RunL.perm (h' := blk b3 rb.cells 25 :: blk b2 ra.cells 25 :: (L3 ++ A3 ++ A4)) (fun x => by (first | rfl | (simp only [List.append_eq, cnt_append, cnt_cons, cnt_nil, blk]; omega) | (simp only [List.append_eq, cnt_append, cnt_cons, cnt_nil, blk]; done))) ?_
  refine runL_buildSlice (l := rb.cells ++ ra.cells) rfl rfl rfl rfl rfl (se rfl) ze25 rfl rfl rfl rfl rfl (fun b8 => ?_)
  (refine xep rfl rfl ?_; refine runL_nil ?_; refine then_normal ?_; refine run_seq ?_; refine run_region ?_; (iterate 2 refine xep rfl rfl ?_); refine xel rfl (ev_indexAddr rfl rfl rfl (se rfl) (by omega) (by omega)) ?_; refine xel rfl (ev_fieldAddr rfl rfl (fo rfl)) ?_; refine runL_store0 rfl rfl rfl rfl rfl (sz rfl) rfl rfl rfl rfl rfl ?_; refine xel rfl (ev_indexAddr rfl rfl rfl (se rfl) (by omega) (by omega)) ?_; refine xel rfl (ev_fieldAddr rfl rfl (fo rfl)) ?_; refine runL_store0 rfl rfl rfl rfl rfl (sz rfl) rfl rfl rfl rfl rfl ?_; refine runL_nil ?_; refine then_normal ?_; refine run_seq ?_; refine run_region ?_; refine xep rfl rfl ?_)
  refine runL_callZ (blk b8 (rows Ord.cells [wq rb 1, wq ra 3]) 25 :: blk b3 rb.cells 25 :: blk b2 ra.cells 25 :: (A3 ++ A4)) L3 rfl rfl rfl rfl rfl rfl rfl (pf rfl) (fun x => by show cnt x (blk b8 (rows Ord.cells [wq rb 1, wq ra 3]) 25 :: blk b3 rb.cells 25 :: blk b2 ra.cells 25 :: (L3 ++ A3 ++ A4)) = _; (first | rfl | (simp only [List.append_eq, cnt_append, cnt_cons, cnt_nil, blk]; omega) | (simp only [List.append_eq, cnt_append, cnt_cons, cnt_nil, blk]; done))) (sp_ltake _ L3 b 7 _ hL3 lb3 2 1 (inI rfl) (by decide)) ?_
  rintro v H5 ⟨a5, c5, A5, L5, rfl, own5, hL5, rfl⟩
  rw [runs_take2] at *
  dsimp only at own5 hL5
  have hgd : true = true := rfl
  ((iterate 5 refine xep rfl rfl ?_); refine runL_nil ?_; refine then_normal ?_; refine run_seq ?_; refine run_region ?_; refine xep rfl rfl ?_; refine xel rfl (ev_loadAK rfl rfl (ag rfl) (sz rfl) (memF (.tail _ (.tail _ (.head _)))) rfl) ?_; refine xel rfl (ev_build rfl pl35 rfl) ?_; refine xel rfl (ev_loadAK rfl rfl (ag rfl) (sz rfl) (memF (.tail _ (.head _))) rfl) ?_; refine xel rfl (ev_build rfl pl35 rfl) ?_)
  refine RunL.perm (h' := blk b8 (rows Ord.cells [wq rb 1, wq ra 3]) 25 :: blk b3 rb.cells 25 :: blk b2 ra.cells 25 :: (A3 ++ A4 ++ L5 ++ A5)) (fun x => by (first | rfl | (simp only [List.append_eq, cnt_append, cnt_cons, cnt_nil, blk]; omega) | (simp only [List.append_eq, cnt_append, cnt_cons, cnt_nil, blk]; done))) ?_
  skip
  refine runL_buildSlice (l := rows hcell [(ra, 2), (rb, 2)]) rfl rfl rfl rfl rfl (se rfl) ze35 rfl rfl rfl rfl rfl (fun b9 => ?_)
  skip
  refine runL_ev rfl rfl rfl rfl (ev_callQ rfl rfl rfl (pf rfl) (sp_sameHit _ a3 (some ⟨b9, 0, none⟩) 2 c3 2 [(ra, 2), (rb, 2)] rfl (by decide) (own3.src fun x m => memF (.tail _ (.tail _ (.tail _ (.tail _ (List.mem_append_left _ (List.mem_append_left _ (List.mem_append_left _ m)))))))) ⟨rfl, .inr ⟨b9, 0, _, _, _, rfl, memF (.head _), by decide, rfl⟩⟩)) ?_
  (refine xep rfl rfl ?_; refine runL_yes rfl rfl hgd ?_; refine xep rfl rfl ?_; refine runL_yes rfl rfl hgd ?_; (iterate 3 refine xep rfl rfl ?_); refine runL_yes rfl rfl hgd ?_; refine xep rfl rfl ?_; refine runL_yes rfl rfl hgd ?_; (iterate 3 refine xep rfl rfl ?_); refine runL_yes rfl rfl hgd ?_; refine xep rfl rfl ?_; refine runL_yes rfl rfl hgd ?_; refine xep rfl rfl ?_; refine runL_yes rfl rfl hgd ?_)
  refine runL_ev rfl rfl rfl rfl (ev_callQ rfl rfl rfl (pf rfl) (sp_sameOrd _ a4 (some ⟨b8, 0, none⟩) 2 c4 2 [wq rb 1, wq ra 3] rfl (by decide) (own4.src fun x m => memF (.tail _ (.tail _ (.tail _ (.tail _ (List.mem_append_left _ (List.mem_append_left _ (List.mem_append_right _ m)))))))) ⟨rfl, .inr ⟨b8, 0, _, _, _, rfl, memF (.tail _ (.head _)), by decide, rfl⟩⟩)) ?_
  ((iterate 2 refine xep rfl rfl ?_); refine runL_yes rfl rfl hgd ?_; refine xep rfl rfl ?_; refine runL_yes rfl rfl hgd ?_; refine xel rfl (ev_len rfl rfl (se rfl)) ?_; refine runL_yes rfl rfl hgd ?_; (iterate 3 refine xep rfl rfl ?_); refine runL_yes rfl rfl hgd ?_; (iterate 3 refine xep rfl rfl ?_); refine runL_nil ?_; refine then_normal ?_; refine run_ret ?_)
  exact ⟨_, rfl, rfl⟩
end Go.Proofs.Ytfclaleiciodmaa
