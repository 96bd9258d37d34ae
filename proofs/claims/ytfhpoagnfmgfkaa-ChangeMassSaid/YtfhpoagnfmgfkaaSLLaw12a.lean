/- Contracts of functions of the given program over its translation, each proved by walking its text; used by the laws' rows. It proves no given statement by itself. -/
import Derived.Test.YtfhpoagnfmgfkaaSLStG
set_option autoImplicit false
set_option linter.unusedSectionVars false
set_option linter.unusedSimpArgs false
set_option linter.unusedVariables false
set_option maxRecDepth 4000
set_option maxHeartbeats 100000000
namespace Go.Proofs.Ytfhpoagnfmgfkaa
open Go Go.SL Go.Proofs
variable [Base]
theorem changeRuns_sp (F : Heap) : Sp Try.prog F 3 [] [] (Ret (.bool true)) := by
  have w0 := emptyM_ok
  have w1 : MW gM1 := by have := (madd_ok (o := gA) w0).1; rw [g1e] at this; exact this
  have w2 : MW gM2 := by have := (madd_ok (o := gB) w1).1; rw [g2e] at this; exact this
  have w3b : BW gM3.B := by
    refine ⟨?_, (fun _ m => nomatch m), by decide⟩
    intro lv m
    have m : lv ∈ [(⟨10, [⟨wq gA 3, 3⟩, ⟨gB, 5⟩]⟩ : Lv)] := m
    rw [List.mem_singleton] at m
    subst m
    refine ⟨⟨by decide, fun x mx => ?_⟩, by simp⟩
    rcases List.mem_cons.1 mx with rfl | mx
    · decide
    · rw [List.mem_singleton] at mx
      subst mx; decide
  have w3 : MW gM3 := ⟨w3b, by decide, by decide, (fun _ m => nomatch m)⟩
  have w4 : MW gM4 := by
    have h := (madd_ok (o := wq gA 6) (M := (mremove 1 1 gM2).2.2) (mremove_MW w2)).1
    have e : madd (wq gA 6) (mremove 1 1 gM2).2.2 = ([⟨wq gA 6, [], 6, true, false, false, 0⟩], gM4) := (madd_eqF 16 _ _ (by decide) (by intro x h; have : x ∈ ([] : List Ord) := h; cases this)).trans (by kernel_rfl)
    rw [e] at h; exact h
  have e3 : hits [⟨gC, [⟨wq gA 3, gC, 10, 3, 1⟩, ⟨gB, wq gC 1, 10, 1, 2⟩], 0, false, false, false, 0⟩] = [(depT 1, 3), (depT 2, 1)] := rfl
  have e6 : hits [⟨gC, [⟨gB, gC, 10, 4, 1⟩], 0, false, false, false, 0⟩] = [(depT 2, 4)] := rfl
  have s3 := fun F => sp_gives F 3 (inI rfl) gM3 _ g3e w3 (by decide) _ g5e (by decide) (by decide)
  have s6 := fun F => sp_gives F 6 (inI rfl) gM4 _ g4e w4 (by decide) _ g6e (by decide) (by decide)
  rw [e3] at s3
  rw [e6] at s6
  have hgd : true = true := rfl
  refine sp_of_code Try.func3 rfl rfl ?_
  (refine run_seq ?_; refine run_region ?_; refine xep rfl rfl ?_; refine runL_nil ?_; refine then_normal ?_; refine run_seq ?_; refine run_region ?_)
  refine runL_call0 rfl rfl rfl rfl rfl rfl rfl (pf rfl) (s3 _) ?_
  rintro v A1 own1
  obtain ⟨a1, c1, rfl, own1⟩ := own1.at
  (refine xel rfl (ev_build rfl pl24 rfl) ?_; refine xel rfl (ev_build rfl pl26 rfl) ?_; refine xel rfl (ev_build rfl pl24 rfl) ?_; refine xel rfl (ev_build rfl pl26 rfl) ?_)
  refine runL_buildSlice (l := rows hcell [(depT 1, 3), (depT 2, 1)]) rfl rfl rfl rfl rfl (se rfl) ze26 rfl rfl rfl rfl rfl (fun b6 => ?_)
  skip
  refine runL_ev rfl rfl rfl rfl (ev_callQ rfl rfl rfl (pf rfl) (sp_sameHit _ a1 (some ⟨b6, 0, none⟩) 2 c1 2 [(depT 1, 3), (depT 2, 1)] rfl (by decide) (own1.src fun x mx => by simp [mx]) ⟨rfl, .inr ⟨b6, 0, _, _, _, rfl, memF (.head _), by simp [rows, hcell], rfl⟩⟩)) ?_
  (refine xep rfl rfl ?_; refine runL_yes rfl rfl hgd ?_)
  refine runL_callZ (blk b6 (rows hcell [(depT 1, 3), (depT 2, 1)]) 26 :: A1) [] rfl rfl rfl rfl rfl rfl rfl (pf rfl) (fun x => by (first | rfl | (simp only [List.append_eq, cnt_append, cnt_cons, cnt_nil, blk]; omega) | (simp only [List.append_eq, cnt_append, cnt_cons, cnt_nil, blk]; done))) (s6 _) ?_
  rintro v A2 own2
  obtain ⟨a2, c2, rfl, own2⟩ := own2.at
  (refine runL_yes rfl rfl hgd ?_; refine xel rfl (ev_build rfl pl24 rfl) ?_; refine runL_yes rfl rfl hgd ?_; refine xel rfl (ev_build rfl pl26 rfl) ?_; refine runL_yes rfl rfl hgd ?_)
  refine runL_buildSlice (l := rows hcell [(depT 2, 4)]) rfl rfl rfl rfl rfl (se rfl) ze26 rfl rfl rfl rfl rfl (fun b7 => ?_)
  (refine runL_yes rfl rfl hgd ?_)
  refine runL_ev rfl rfl rfl rfl (ev_callQ rfl rfl rfl (pf rfl) (sp_sameHit _ a2 (some ⟨b7, 0, none⟩) 1 c2 1 [(depT 2, 4)] rfl (by decide) (own2.src fun x mx => by simp [mx]) ⟨rfl, .inr ⟨b7, 0, _, _, _, rfl, memF (.head _), by simp [rows, hcell], rfl⟩⟩)) ?_
  ((iterate 2 refine xep rfl rfl ?_); refine runL_nil ?_; refine then_normal ?_; refine run_ret ?_)
  exact ⟨_, rfl, rfl⟩
end Go.Proofs.Ytfhpoagnfmgfkaa
