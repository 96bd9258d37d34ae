/- Contracts of functions of the given program over its translation, each proved by walking its text; used by the laws' rows. It proves no given statement by itself. -/
import Derived.Test.YtiilndlgfgikbaaSLBkF
set_option autoImplicit false
set_option linter.unusedSectionVars false
set_option linter.unusedSimpArgs false
set_option linter.unusedVariables false
set_option maxRecDepth 4000
set_option maxHeartbeats 32000000
namespace Go.Proofs.Ytiilndlgfgikbaa
open Go Go.SL Go.Proofs
variable [Base]
theorem sp_lo (F : Heap) (f i s k p q : Int) : Sp Try.prog F 15 [.int .i64 f, .int .i64 i, .int .i64 s, .int .i64 k, .int .i64 p, .int .i64 q] [] (Ret (ov ⟨f, i, f, s, k, p, q, 0, 0⟩)) := by
  refine sp_of_codeR Try.func15 rfl rfl ?_
  (refine run_seq ?_; refine run_region ?_; refine runL_alloc rfl rfl rfl rfl rfl ze25 (fun _ => ?_); refine runL_nil ?_; refine then_normal ?_; refine run_seq ?_; refine run_region ?_; (iterate 7 refine xep rfl rfl ?_); refine xel rfl (ev_build rfl pl25 rfl) ?_; refine runL_store0 rfl rfl rfl rfl rfl (sz rfl) rfl rfl rfl rfl rfl ?_; refine runL_nil ?_; refine then_normal ?_; refine run_ret ?_)
  exact ⟨_, .agg rfl (memF (.head _)) (ag rfl) (sz rfl) rfl .nil, rfl⟩
theorem bookRuns_sp (F : Heap) : Sp Try.prog F 3 [] [] (Ret (.bool true)) := by
  have q1 := fun F f i s k p q => sp_lo F f i s k p q
  have w0 := empty_BW
  have w1 : BW b1 := by have := (badd_BW (o := rA) w0 (by decide)).1; rw [r1e] at this; exact this
  have w2 : BW b2 := by have := (badd_BW (o := rB) w1 (by decide)).1; rw [r2e] at this; exact this
  have w3 : BW b3 := by have := (badd_BW (o := rC) w2 (by decide)).1; rw [r3e] at this; exact this
  have hgd : true = true := rfl
  have hge : false = false := rfl
  refine sp_of_code Try.func3 rfl rfl ?_
  (refine run_seq ?_; refine run_region ?_; refine xep rfl rfl ?_; refine runL_nil ?_; refine then_normal ?_; refine run_seq ?_; refine run_region ?_)
  refine runL_call0 rfl rfl rfl rfl rfl rfl rfl (pf rfl) (sp_bnew _) ?_
  rintro v H ⟨b, rfl, hH⟩
  (refine xep rfl rfl ?_; refine runL_nil ?_; refine then_normal ?_; (iterate 2 refine run_seq ?_); refine run_region ?_; refine xep rfl rfl ?_; refine xel rfl (ev_eqNil rfl rfl rfl (pt rfl)) ?_; refine runL_nil ?_; refine then_normal ?_)
  refine run_condF rfl rfl ?_
  (refine run_skip ?_; refine then_normal ?_; refine run_seq ?_; refine run_region ?_; refine xep rfl rfl ?_; refine xel rfl (ev_callQ rfl rfl rfl (pf rfl) (q1 ..)) ?_)
  refine runL_callZ [] H rfl rfl rfl rfl rfl rfl rfl (pf rfl) (fun x => by (first | rfl | (simp only [List.append_eq, cnt_append, cnt_cons, cnt_nil, blk]; omega) | (simp only [List.append_eq, cnt_append, cnt_cons, cnt_nil, blk]; done))) (sp_badd _ H b empty hH w0 rA (inI rfl) (by decide) (by decide)) ?_
  rw [r1e]
  rintro v _ ⟨a1, c1, A1, H1, rfl, -, hH1, rfl⟩
  dsimp only at hH1 ⊢
  (refine xep rfl rfl ?_; refine xel rfl (ev_callQ rfl rfl rfl (pf rfl) (q1 ..)) ?_)
  refine runL_callZ A1 H1 rfl rfl rfl rfl rfl rfl rfl (pf rfl) (fun x => by (first | rfl | (simp only [List.append_eq, cnt_append, cnt_cons, cnt_nil, blk]; omega) | (simp only [List.append_eq, cnt_append, cnt_cons, cnt_nil, blk]; done))) (sp_badd _ H1 b b1 hH1 w1 rB (inI rfl) (by decide) (by decide)) ?_
  rw [r2e]
  rintro v _ ⟨a2, c2, A2, H2, rfl, -, hH2, rfl⟩
  dsimp only at hH2 ⊢
  ((iterate 2 refine runL_alloc rfl rfl rfl rfl rfl ze29 (fun _ => ?_)); refine runL_store1 rfl rfl rfl rfl rfl (sz rfl) rfl rfl rfl rfl rfl ?_; refine runL_store0 rfl rfl rfl rfl rfl (sz rfl) rfl rfl rfl rfl rfl ?_; refine runL_nil ?_; refine then_normal ?_; refine run_seq ?_; refine run_region ?_; refine xep rfl rfl ?_; refine xel rfl (ev_callQ rfl rfl rfl (pf rfl) (q1 ..)) ?_)
  rename_i x2 x3
  refine runL_callZ (blk x3 (outV a2 c2 ⟨rB, [], 5, true, false, false, 0⟩) 29 :: blk x2 (outV a1 c1 ⟨rA, [], 5, true, false, false, 0⟩) 29 :: (A1 ++ A2)) H2 rfl rfl rfl rfl rfl rfl rfl (pf rfl) (fun x => by
    show cnt x (blk x3 (outV a2 c2 ⟨rB, [], 5, true, false, false, 0⟩) 29 :: blk x2 (outV a1 c1 ⟨rA, [], 5, true, false, false, 0⟩) 29 :: (A1 ++ (H2 ++ A2))) = _
    (first | rfl | (simp only [List.append_eq, cnt_append, cnt_cons, cnt_nil, blk]; omega) | (simp only [List.append_eq, cnt_append, cnt_cons, cnt_nil, blk]; done))) (sp_badd _ H2 b b2 hH2 w2 rC (inI rfl) (by decide) (by decide)) ?_
  rw [r3e]
  rintro v _ ⟨a3, c3, A3, H3, rfl, own3, hH3, rfl⟩
  dsimp only at own3 hH3 ⊢
  obtain ⟨b6, rest6, cap6, hv6, rfl, hl6, hr6, hk6⟩ := own3.pos (by decide)
  cases hv6
  (refine runL_alloc rfl rfl rfl rfl rfl ze29 (fun _ => ?_); refine runL_store0 rfl rfl rfl rfl rfl (sz rfl) rfl rfl rfl rfl rfl ?_; refine runL_nil ?_; refine then_normal ?_; (iterate 2 refine run_seq ?_); refine run_region ?_; refine xel rfl (ev_fieldAddr rfl rfl (fo rfl)) ?_; refine xel rfl (ev_loadK rfl rfl (sc rfl) (memF (.tail _ (.tail _ (.head _)))) rfl) ?_; (iterate 2 refine xep rfl rfl ?_); refine runL_yes rfl rfl hge ?_; refine xel rfl (ev_fieldAddr rfl rfl (fo rfl)) ?_; refine runL_yes rfl rfl hge ?_; refine xel rfl (ev_loadK rfl rfl (sc rfl) (memF (.tail _ (.head _))) rfl) ?_; refine runL_yes rfl rfl hge ?_; (iterate 3 refine xep rfl rfl ?_); refine runL_yes rfl rfl hge ?_; refine xel rfl (ev_fieldAddr rfl rfl (fo rfl)) ?_; refine runL_yes rfl rfl hge ?_; refine xel rfl (ev_loadK rfl rfl (sc rfl) (memF (.head _)) rfl) ?_; refine runL_yes rfl rfl hge ?_; (iterate 3 refine xep rfl rfl ?_); refine runL_yes rfl rfl hge ?_; refine xel rfl (ev_fieldAddr rfl rfl (fo rfl)) ?_; refine runL_yes rfl rfl hge ?_; refine xel rfl (ev_loadK rfl rfl (sc rfl) (memF (.head _)) rfl) ?_; refine runL_yes rfl rfl hge ?_; refine xel rfl (ev_len rfl rfl (se rfl)) ?_; refine runL_yes rfl rfl hge ?_; (iterate 3 refine xep rfl rfl ?_); refine runL_yes rfl rfl hge ?_; refine xel rfl (ev_fieldAddr rfl rfl (fo rfl)) ?_; refine runL_yes rfl rfl hge ?_; refine xel rfl (ev_loadK rfl rfl (sc rfl) (memF (.head _)) rfl) ?_; refine runL_yes rfl rfl hge ?_; (iterate 2 refine xep rfl rfl ?_); refine runL_nil ?_; refine then_normal ?_)
  rename_i x4
  refine run_condF rfl rfl ?_
  (refine run_skip ?_; refine then_normal ?_; refine run_seq ?_; refine run_region ?_; refine xep rfl rfl ?_)
  refine runL_callZ (blk x4 (outV (some ⟨b6, 0, none⟩) c3 ⟨rC, [⟨rB, rC, 9, 5, 1⟩, ⟨rA, wq rC 2, 10, 2, 2⟩], 0, false, false, false, 0⟩) 29 :: blk x3 (outV a2 c2 ⟨rB, [], 5, true, false, false, 0⟩) 29 :: blk x2 (outV a1 c1 ⟨rA, [], 5, true, false, false, 0⟩) 29 :: (A1 ++ A2 ++ (H3 ++ [blk b6 (rows fcell [⟨rB, rC, 9, 5, 1⟩, ⟨rA, wq rC 2, 10, 2, 2⟩] ++ rest6) 36]))) [] rfl rfl rfl rfl rfl rfl rfl (pf rfl) (fun x => by
    show cnt x (blk x4 (outV (some ⟨b6, 0, none⟩) c3 ⟨rC, [⟨rB, rC, 9, 5, 1⟩, ⟨rA, wq rC 2, 10, 2, 2⟩], 0, false, false, false, 0⟩) 29 :: blk x3 (outV a2 c2 ⟨rB, [], 5, true, false, false, 0⟩) 29 :: blk x2 (outV a1 c1 ⟨rA, [], 5, true, false, false, 0⟩) 29 :: ((A1 ++ A2) ++ (H3 ++ [blk b6 (rows fcell [⟨rB, rC, 9, 5, 1⟩, ⟨rA, wq rC 2, 10, 2, 2⟩] ++ rest6) 36]))) = _
    (first | rfl | (simp only [List.append_eq, cnt_append, cnt_cons, cnt_nil, blk]; omega) | (simp only [List.append_eq, cnt_append, cnt_cons, cnt_nil, blk]; done))) (sp_bdepth _ b b3 (hH3.in fun x m => by simp [m]) w3 2) ?_
  rintro v A5 own5
  obtain ⟨a5, c5, rfl, own5⟩ := own5.at
  (refine xep rfl rfl ?_)
  refine runL_ev rfl rfl rfl rfl (ev_callQ rfl rfl rfl (pf rfl) (sp_blast _ b b3 (hH3.in fun x m => by simp [m]))) ?_
  (refine xep rfl rfl ?_)
  refine runL_ev rfl rfl rfl rfl (ev_callQ rfl rfl rfl (pf rfl) (sp_bno _ b b3 (hH3.in fun x m => by simp [m]))) ?_
  ((iterate 3 refine xep rfl rfl ?_); refine runL_nil ?_; refine then_normal ?_; refine run_seq ?_; refine run_region ?_; refine xep rfl rfl ?_; refine xel rfl (ev_callQ rfl rfl rfl (pf rfl) (q1 ..)) ?_)
  refine runL_callZ (blk x4 (outV (some ⟨b6, 0, none⟩) c3 ⟨rC, [⟨rB, rC, 9, 5, 1⟩, ⟨rA, wq rC 2, 10, 2, 2⟩], 0, false, false, false, 0⟩) 29 :: blk x3 (outV a2 c2 ⟨rB, [], 5, true, false, false, 0⟩) 29 :: blk x2 (outV a1 c1 ⟨rA, [], 5, true, false, false, 0⟩) 29 :: (A1 ++ A2 ++ ([blk b6 (rows fcell [⟨rB, rC, 9, 5, 1⟩, ⟨rA, wq rC 2, 10, 2, 2⟩] ++ rest6) 36] ++ A5))) H3 rfl rfl rfl rfl rfl rfl rfl (pf rfl) (fun x => by (first | rfl | (simp only [List.append_eq, cnt_append, cnt_cons, cnt_nil, blk]; omega) | (simp only [List.append_eq, cnt_append, cnt_cons, cnt_nil, blk]; done))) (sp_badd _ H3 b b3 hH3 w3 rD (inI rfl) (by decide) (by decide)) ?_
  rw [r4e]
  rintro v _ ⟨a6, c6, A6, H4, rfl, -, hH4, rfl⟩
  dsimp only at hH4 ⊢
  (refine xep rfl rfl ?_; refine xel rfl (ev_callQ rfl rfl rfl (pf rfl) (q1 ..)) ?_)
  refine runL_callZ (blk x4 (outV (some ⟨b6, 0, none⟩) c3 ⟨rC, [⟨rB, rC, 9, 5, 1⟩, ⟨rA, wq rC 2, 10, 2, 2⟩], 0, false, false, false, 0⟩) 29 :: blk x3 (outV a2 c2 ⟨rB, [], 5, true, false, false, 0⟩) 29 :: blk x2 (outV a1 c1 ⟨rA, [], 5, true, false, false, 0⟩) 29 :: (A1 ++ A2 ++ ([blk b6 (rows fcell [⟨rB, rC, 9, 5, 1⟩, ⟨rA, wq rC 2, 10, 2, 2⟩] ++ rest6) 36] ++ (A5 ++ A6)))) H4 rfl rfl rfl rfl rfl rfl rfl (pf rfl) (fun x => by (first | rfl | (simp only [List.append_eq, cnt_append, cnt_cons, cnt_nil, blk]; omega) | (simp only [List.append_eq, cnt_append, cnt_cons, cnt_nil, blk]; done))) (sp_badd _ H4 b b3 hH4 w3 rE (inI rfl) (by decide) (by decide)) ?_
  rw [r5e]
  rintro v _ ⟨a7, c7, A7, H5, rfl, -, hH5, rfl⟩
  dsimp only at hH5 ⊢
  ((iterate 2 refine runL_alloc rfl rfl rfl rfl rfl ze29 (fun _ => ?_)); refine runL_store1 rfl rfl rfl rfl rfl (sz rfl) rfl rfl rfl rfl rfl ?_; refine runL_store0 rfl rfl rfl rfl rfl (sz rfl) rfl rfl rfl rfl rfl ?_; refine runL_nil ?_; refine then_normal ?_; refine run_seq ?_; refine run_region ?_; refine xel rfl (ev_fieldAddr rfl rfl (fo rfl)) ?_; refine xel rfl (ev_loadK rfl rfl (sc rfl) (memF (.tail _ (.tail _ (.head _)))) rfl) ?_)
  rename_i x8 x9
  refine RunL.perm (h' := blk x4 (outV (some ⟨b6, 0, none⟩) c3 ⟨rC, [⟨rB, rC, 9, 5, 1⟩, ⟨rA, wq rC 2, 10, 2, 2⟩], 0, false, false, false, 0⟩) 29 :: blk b6 (rows fcell [⟨rB, rC, 9, 5, 1⟩, ⟨rA, wq rC 2, 10, 2, 2⟩] ++ rest6) 36 :: blk x9 (outV a7 c7 ⟨rE, [], 1, false, false, true, 0⟩) 29 :: blk x8 (outV a6 c6 ⟨rD, [], 9, false, false, false, 12⟩) 29 :: (blk x3 (outV a2 c2 ⟨rB, [], 5, true, false, false, 0⟩) 29 :: blk x2 (outV a1 c1 ⟨rA, [], 5, true, false, false, 0⟩) 29 :: (A1 ++ A2 ++ (A5 ++ A6) ++ (H5 ++ A7)))) (fun x => by
    show cnt x (blk x9 (outV a7 c7 ⟨rE, [], 1, false, false, true, 0⟩) 29 :: blk x8 (outV a6 c6 ⟨rD, [], 9, false, false, false, 12⟩) 29 :: ((blk x4 (outV (some ⟨b6, 0, none⟩) c3 ⟨rC, [⟨rB, rC, 9, 5, 1⟩, ⟨rA, wq rC 2, 10, 2, 2⟩], 0, false, false, false, 0⟩) 29 :: blk x3 (outV a2 c2 ⟨rB, [], 5, true, false, false, 0⟩) 29 :: blk x2 (outV a1 c1 ⟨rA, [], 5, true, false, false, 0⟩) 29 :: (A1 ++ A2 ++ ([blk b6 (rows fcell [⟨rB, rC, 9, 5, 1⟩, ⟨rA, wq rC 2, 10, 2, 2⟩] ++ rest6) 36] ++ (A5 ++ A6)))) ++ (H5 ++ A7))) = _
    (first | rfl | (simp only [List.append_eq, cnt_append, cnt_cons, cnt_nil, blk]; omega) | (simp only [List.append_eq, cnt_append, cnt_cons, cnt_nil, blk]; done))) ?_
  refine runL_ev rfl rfl rfl rfl (ev_indexAddr rfl rfl rfl (se rfl) (by decide) (by decide)) ?_
  (refine xel rfl (ev_fieldAddr rfl rfl (fo rfl)) ?_; refine xel rfl (ev_loadK rfl rfl (sc rfl) (memF (.tail _ (.head _))) rfl) ?_; (iterate 2 refine xep rfl rfl ?_); refine runL_yes rfl rfl hgd ?_; refine xel rfl (ev_fieldAddr rfl rfl (fo rfl)) ?_; refine runL_yes rfl rfl hgd ?_; refine xel rfl (ev_loadK rfl rfl (sc rfl) (memF (.head _)) rfl) ?_; refine runL_yes rfl rfl hgd ?_)
  refine runL_ev rfl rfl rfl rfl (ev_indexAddr rfl rfl rfl (se rfl) (by decide) (by decide)) ?_
  (refine runL_yes rfl rfl hgd ?_; refine xel rfl (ev_fieldAddr rfl rfl (fo rfl)) ?_; refine runL_yes rfl rfl hgd ?_; refine xel rfl (ev_loadK rfl rfl (sc rfl) (memF (.tail _ (.head _))) rfl) ?_; refine runL_yes rfl rfl hgd ?_; (iterate 3 refine xep rfl rfl ?_); refine runL_yes rfl rfl hgd ?_; refine xel rfl (ev_fieldAddr rfl rfl (fo rfl)) ?_; refine runL_yes rfl rfl hgd ?_; refine xel rfl (ev_loadK rfl rfl (sc rfl) (memF (.head _)) rfl) ?_; refine runL_yes rfl rfl hgd ?_)
  refine runL_ev rfl rfl rfl rfl (ev_indexAddr rfl rfl rfl (se rfl) (by decide) (by decide)) ?_
  (refine runL_yes rfl rfl hgd ?_; refine xel rfl (ev_fieldAddr rfl rfl (fo rfl)) ?_; refine runL_yes rfl rfl hgd ?_; refine xel rfl (ev_loadK rfl rfl (sc rfl) (memF (.tail _ (.head _))) rfl) ?_; refine runL_yes rfl rfl hgd ?_; (iterate 3 refine xep rfl rfl ?_); refine runL_yes rfl rfl hgd ?_; refine xel rfl (ev_fieldAddr rfl rfl (fo rfl)) ?_; refine runL_yes rfl rfl hgd ?_; refine xel rfl (ev_loadK rfl rfl (sc rfl) (memF (.head _)) rfl) ?_; refine runL_yes rfl rfl hgd ?_)
  refine runL_ev rfl rfl rfl rfl (ev_indexAddr rfl rfl rfl (se rfl) (by decide) (by decide)) ?_
  (refine runL_yes rfl rfl hgd ?_; refine xel rfl (ev_fieldAddr rfl rfl (fo rfl)) ?_; refine runL_yes rfl rfl hgd ?_; refine xel rfl (ev_loadK rfl rfl (sc rfl) (memF (.tail _ (.head _))) rfl) ?_; refine runL_yes rfl rfl hgd ?_; (iterate 3 refine xep rfl rfl ?_); refine runL_yes rfl rfl hgd ?_; refine xep rfl rfl ?_; refine runL_yes rfl rfl hgd ?_; refine xel rfl (ev_build rfl pl25 rfl) ?_; refine runL_yes rfl rfl hgd ?_; refine xel rfl (ev_build rfl pl39 rfl) ?_; refine runL_yes rfl rfl hgd ?_)
  refine runL_buildSlice (l := hcell (depO 2 10, 3)) rfl rfl rfl rfl rfl (se rfl) ze39 rfl rfl rfl rfl rfl (fun b20 => ?_)
  (refine runL_yes rfl rfl hgd ?_)
  refine runL_ev rfl rfl rfl rfl (ev_callQ rfl rfl rfl (pf rfl) (sp_sameHit _ a5 (some ⟨b20, 0, none⟩) 1 c5 1 [(depO 2 10, 3)] rfl (by decide) (own5.src fun x m => by simp [m]) ⟨rfl, .inr ⟨b20, 0, _, _, _, rfl, memF (.head _), by simp [hcell], rfl⟩⟩)) ?_
  ((iterate 2 refine xep rfl rfl ?_); refine runL_yes rfl rfl hgd ?_; refine xep rfl rfl ?_; refine runL_yes rfl rfl hgd ?_; (iterate 3 refine xep rfl rfl ?_); refine runL_yes rfl rfl hgd ?_; refine xep rfl rfl ?_; refine runL_yes rfl rfl hgd ?_; (iterate 3 refine xep rfl rfl ?_); refine runL_yes rfl rfl hgd ?_; refine xel rfl (ev_fieldAddr rfl rfl (fo rfl)) ?_; refine runL_yes rfl rfl hgd ?_; refine xel rfl (ev_loadK rfl rfl (sc rfl) (memF (.tail _ (.tail _ (.tail _ (.tail _ (.head _)))))) rfl) ?_; refine runL_yes rfl rfl hgd ?_; (iterate 3 refine xep rfl rfl ?_); refine runL_yes rfl rfl hgd ?_; refine xel rfl (ev_fieldAddr rfl rfl (fo rfl)) ?_; refine runL_yes rfl rfl hgd ?_; refine xel rfl (ev_loadK rfl rfl (sc rfl) (memF (.tail _ (.tail _ (.tail _ (.head _))))) rfl) ?_; (iterate 2 refine xep rfl rfl ?_); refine runL_yes rfl rfl hgd ?_; refine xel rfl (ev_fieldAddr rfl rfl (fo rfl)) ?_; refine runL_yes rfl rfl hgd ?_; refine xel rfl (ev_loadK rfl rfl (sc rfl) (memF (.tail _ (.tail _ (.tail _ (.head _))))) rfl) ?_; refine runL_yes rfl rfl hgd ?_; (iterate 3 refine xep rfl rfl ?_); refine runL_yes rfl rfl hgd ?_; refine xel rfl (ev_fieldAddr rfl rfl (fo rfl)) ?_; refine runL_yes rfl rfl hgd ?_; refine xel rfl (ev_loadK rfl rfl (sc rfl) (memF (.tail _ (.tail _ (.tail _ (.head _))))) rfl) ?_; refine runL_yes rfl rfl hgd ?_; (iterate 3 refine xep rfl rfl ?_); refine runL_nil ?_; refine then_normal ?_; refine run_ret ?_)
  exact ⟨_, rfl, rfl⟩
end Go.Proofs.Ytiilndlgfgikbaa
