/- Contracts of functions of the given program over its translation, each proved by walking its text; used by the laws' rows. It proves no given statement by itself. -/
import Derived.Test.YtfhpoagnfmgfkaaSLSt1X
import Derived.Test.YtfhpoagnfmgfkaaSLSlcC
set_option autoImplicit false
set_option linter.unusedSectionVars false
set_option linter.unusedSimpArgs false
set_option linter.unusedVariables false
set_option maxRecDepth 4000
set_option maxHeartbeats 64000000
namespace Go.Proofs.Ytfhpoagnfmgfkaa
open Go Go.SL Go.Proofs
def mall (M : Mk) : List Ord := ordersL (M.B.side 1) ++ (ordersL (M.B.side 2) ++ M.W)
theorem mall_len (M : Mk) : (mall M).length = mlen M := by
  have h1 := ordersL_len (M.B.side 1)
  have h2 := ordersL_len (M.B.side 2)
  have hs1 : lenL (M.B.side 1) = lenL M.B.buys := rfl
  have hs2 : lenL (M.B.side 2) = lenL M.B.sells := rfl
  unfold mall mlen
  rw [List.length_append, List.length_append]; omega
variable [Base]
theorem sp_sall (F : Heap) (m : Nat) (M : Mk) (h : MkIn F m M) (hw : BW M.B) (hl : mlen M ≤ 64) : Sp Try.prog F 12 [.pointer (some ⟨m, 0, none⟩)] [] (fun v h' => OwnS 24 9 v (mall M).length (rows Ord.cells (mall M)) h') := by
  obtain ⟨b, a, c, hB, h2, hs, hm⟩ := h
  have l1 : LoadsF F m (0 + 0) (.pointer (some ⟨b, 0, none⟩)) := ⟨_, _, _, hm, rfl⟩
  have l2 : LoadsF F m (0 + 1) (.slice a M.W.length c) := ⟨_, _, _, hm, rfl⟩
  refine Sp.up ?_
  refine sp_of_code Try.func12 rfl rfl ?_
  (refine run_seq ?_; refine run_region ?_; refine xep rfl rfl ?_; refine runL_nil ?_; refine then_normal ?_; refine run_seq ?_)
  refine run_region_D mo ?_
  (refine runD_q 0 rfl rfl (by kernel_rfl) ?_; refine ⟨_, fun _ => ev_pure rfl, ?_⟩; refine runD_q 1 rfl rfl (by kernel_rfl) ?_; refine ⟨_, fun _ => ev_pure rfl, ?_⟩; refine runD_q 2 rfl rfl (by kernel_rfl) ?_; refine ⟨_, fun _ => ev_fieldAddr rfl rfl (fo rfl), ?_⟩; refine runD_q 3 rfl rfl (by kernel_rfl) ?_; refine ⟨_, fun _ => ev_loadF rfl rfl (sc rfl) l1, ?_⟩; refine runD_q 5 rfl rfl (by kernel_rfl) ?_; refine ⟨_, fun _ => ev_pure rfl, ?_⟩; refine runD_q 6 rfl rfl (by kernel_rfl) ?_; refine ⟨_, fun _ => ev_pure rfl, ?_⟩; refine runD_q 7 rfl rfl (by kernel_rfl) ?_; refine ⟨_, fun _ => ev_fieldAddr rfl rfl (fo rfl), ?_⟩; refine runD_q 8 rfl rfl (by kernel_rfl) ?_; refine ⟨_, fun _ => ev_loadF rfl rfl (sc rfl) l1, ?_⟩; refine runD_q 10 rfl rfl (by kernel_rfl) ?_; refine ⟨_, fun _ => ev_pure rfl, ?_⟩; refine runD_q 11 rfl rfl (by kernel_rfl) ?_; refine ⟨_, fun _ => ev_pure rfl, ?_⟩; refine runD_q 12 rfl rfl (by kernel_rfl) ?_; refine ⟨_, fun _ => ev_fieldAddr rfl rfl (fo rfl), ?_⟩; refine runD_q 13 rfl rfl (by kernel_rfl) ?_; refine ⟨_, fun _ => ev_loadF rfl rfl (sc rfl) l2, ?_⟩; refine runD_1 4 (by kernel_rfl) rfl rfl rfl ?_)
  refine runL_callZ [] [] rfl rfl rfl rfl rfl rfl rfl (pf rfl) (fun x => by (first | rfl | (simp only [List.append_eq, cnt_append, cnt_cons, cnt_nil, blk]; omega) | (simp only [List.append_eq, cnt_append, cnt_cons, cnt_nil, blk]; done))) (sp_borders _ b M.B hB.up hw 1) ?_
  rintro v A1 own1
  obtain ⟨a1, c1, rfl, own1⟩ := own1.at
  (refine runL_nil ?_; refine endS_d rfl ?_; refine runD_1 9 (by kernel_rfl) rfl rfl rfl ?_)
  refine runL_callZ A1 [] rfl rfl rfl rfl rfl rfl rfl (pf rfl) (fun x => by (first | rfl | (simp only [List.append_eq, cnt_append, cnt_cons, cnt_nil, blk]; omega) | (simp only [List.append_eq, cnt_append, cnt_cons, cnt_nil, blk]; done))) (sp_borders _ b M.B hB.up hw 2) ?_
  rintro v A2 own2
  obtain ⟨a2, c2, rfl, own2⟩ := own2.at
  (refine runL_nil ?_; refine endS_d rfl ?_; refine runD_1 14 (by kernel_rfl) rfl rfl rfl ?_)
  refine runL_buildSlice (l := rows slcV [((a1, c1), ordersL (M.B.side 1)), ((a2, c2), ordersL (M.B.side 2)), ((a, c), M.W)]) rfl rfl rfl rfl rfl (se rfl) ze33 rfl rfl rfl rfl rfl (fun b14 => ?_)
  (refine runL_nil ?_; refine endS_d rfl ?_; refine runD_1 15 (by kernel_rfl) rfl rfl rfl ?_)
  have hcat : catL [((a1, c1), ordersL (M.B.side 1)), ((a2, c2), ordersL (M.B.side 2)), ((a, c), M.W)] = mall M := by simp [catL, mall]
  have hml := mall_len M
  refine runL_callZ (blk b14 (rows slcV [((a1, c1), ordersL (M.B.side 1)), ((a2, c2), ordersL (M.B.side 2)), ((a, c), M.W)]) 33 :: (A1 ++ A2)) [] rfl rfl rfl rfl rfl rfl rfl (pf rfl) (fun x => by (first | rfl | (simp only [List.append_eq, cnt_append, cnt_cons, cnt_nil, blk]; omega) | (simp only [List.append_eq, cnt_append, cnt_cons, cnt_nil, blk]; done))) (sp_concat _ _ _ [((a1, c1), ordersL (M.B.side 1)), ((a2, c2), ordersL (M.B.side 2)), ((a, c), M.W)] 3 rfl (by decide) (by rw [hcat]; omega) ⟨rfl, .inr ⟨b14, 0, _, _, _, rfl, memF (.head _), by simp [rows, slcV], rfl⟩⟩ fun t mt => by
    rcases List.mem_cons.1 mt with rfl | mt
    · exact own1.src fun x mx => by simp [mx]
    · rcases List.mem_cons.1 mt with rfl | mt
      · exact own2.src fun x mx => by simp [mx]
      · rw [List.mem_singleton] at mt
        subst mt
        exact hs.up) ?_
  rw [hcat]
  rintro v A3 own3
  obtain ⟨a3, c3, rfl, own3⟩ := own3.at
  (refine runL_nil ?_; refine endS_d rfl ?_; refine runD_q 16 rfl rfl (by kernel_rfl) ?_; refine ⟨_, fun _ => ev_pure rfl, ?_⟩; refine runD_done (by kernel_rfl) ?_; refine then_normal ?_; refine run_ret ?_)
  exact ⟨_, rfl, A3, blk b14 (rows slcV [((a1, c1), ordersL (M.B.side 1)), ((a2, c2), ordersL (M.B.side 2)), ((a, c), M.W)]) 33 :: (A1 ++ A2), own3, fun y => by (first | rfl | (simp only [List.append_eq, cnt_append, cnt_cons, cnt_nil, blk]; omega) | (simp only [List.append_eq, cnt_append, cnt_cons, cnt_nil, blk]; done))⟩
end Go.Proofs.Ytfhpoagnfmgfkaa
