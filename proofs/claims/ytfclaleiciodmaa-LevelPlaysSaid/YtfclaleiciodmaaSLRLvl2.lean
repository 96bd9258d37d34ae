/- Contracts of functions of the given program over its translation, each proved by walking its text; used by the laws' rows. It proves no given statement by itself. -/
import Derived.Test.YtfclaleiciodmaaSLRLvl
set_option autoImplicit false
set_option linter.unusedSectionVars false
set_option linter.unusedSimpArgs false
set_option linter.unusedVariables false
set_option maxRecDepth 4000
set_option maxHeartbeats 8000000
namespace Go.Proofs.Ytfclaleiciodmaa
open Go Go.SL Go.Proofs
variable [Base]
theorem sp_radd (F : Heap) (H : Heap) (b : Nat) (p : Int) (es : List Ent) (hH : RvH b p es H) (hb : es.length ≤ 65535) (o : Ord) :
    Sp Try.prog F 23 [.pointer (some ⟨b, 0, none⟩), ov o] H (fun v h' => RvH b p (es ++ [Ent.mk o (tip o)]) h') := by
  obtain ⟨a, cap, A, own, rfl⟩ := hH
  have q1 := fun F => sp_rtip F o
  refine Sp.up ?_
  refine sp_of_code Try.func23 rfl rfl ?_
  (refine run_seq ?_; refine run_region ?_; refine runL_box rfl rfl rfl rfl rfl rfl (fun _ => ?_); refine runL_nil ?_; refine then_normal ?_)
  rename_i b3
  have src := own.src (H := (blk b3 o.cells 25 :: blk b [.int .i64 p, .slice a es.length cap] 51 :: A) ++ F) fun x m => by simp [m]
  refine RunC.perm (h' := [] ++ (blk b3 o.cells 25 :: blk b [.int .i64 p, .slice a es.length cap] 51 :: A)) (fun x => rfl) ?_
  refine run_region_D3 (σ := Option Addr × Nat × Heap × Heap) 13 3 [0] (fun s => [(16, .slice s.1 (es ++ [Ent.mk o (tip o)]).length s.2.1), (4, .pointer (some ⟨b, 0, none⟩))]) (fun s => s.2.2.1 ++ s.2.2.2) (fun s => OwnS 67 10 (.slice s.1 (es ++ [Ent.mk o (tip o)]).length s.2.1) (es ++ [Ent.mk o (tip o)]).length (rows ec (es ++ [Ent.mk o (tip o)])) s.2.2.1) mo rfl (by kernel_rfl) rfl ?_ ?_
  · (refine runD_q 0 rfl rfl (by kernel_rfl) ?_; refine ⟨_, fun _ => ev_pure rfl, ?_⟩; refine runD_q 2 rfl rfl (by kernel_rfl) ?_; refine ⟨_, fun _ => ev_pure rfl, ?_⟩; refine runD_q 3 rfl rfl (by kernel_rfl) ?_; refine ⟨_, fun _ => ev_pure rfl, ?_⟩; refine runD_q 4 rfl rfl (by kernel_rfl) ?_; refine ⟨_, fun _ => ev_fieldAddr rfl rfl (fo rfl), ?_⟩; refine runD_q 5 rfl rfl (by kernel_rfl) ?_; refine ⟨_, fun _ => ev_loadK rfl rfl (sc rfl) (memR (memF (.tail _ (.head _)))) rfl, ?_⟩; refine runD_q 7 rfl rfl (by kernel_rfl) ?_; refine ⟨_, fun _ => ev_loadAK rfl rfl (ag rfl) (sz rfl) (memR (memF (.head _))) rfl, ?_⟩; refine runD_q 8 rfl rfl (by kernel_rfl) ?_; refine ⟨_, fun _ => ev_loadAK rfl rfl (ag rfl) (sz rfl) (memR (memF (.head _))) rfl, ?_⟩; refine runD_1 1 (by kernel_rfl) rfl rfl rfl ?_)
    refine runL_buildSlice (n := 10) (l := []) rfl rfl rfl rfl rfl (se rfl) ze67 rfl rfl rfl rfl rfl (fun b5 => ?_)
    (refine runL_nil ?_; refine endS_d rfl ?_; refine runD_1 6 (by kernel_rfl) rfl rfl rfl ?_)
    refine runL_append (sl := rows ec es) [] rfl rfl rfl rfl rfl rfl rfl (se rfl) (se rfl) ze67 rfl (byt rfl) (OwnS.lit (l := []) rfl) (fun y => by (first | rfl | (simp only [List.append_eq, cnt_append, cnt_cons, cnt_nil, blk]; omega) | (simp only [List.append_eq, cnt_append, cnt_cons, cnt_nil, blk]; done))) (src.mono fun x m => List.mem_append_right _ m) (rows_cells ec_cells _) (by decide) (by decide) (by omega) ?_
    rintro v' A' own'
    rw [List.nil_append, Nat.zero_add] at own'
    obtain ⟨a6, c6, rfl, own6⟩ := own'.at
    (refine runL_nil ?_; refine endS_d rfl ?_; refine runD_q 9 rfl rfl (by kernel_rfl) ?_; refine ⟨_, fun _ => ev_callQ rfl rfl rfl (pf rfl) (q1 ..), ?_⟩; refine runD_q 10 rfl rfl (by kernel_rfl) ?_; refine ⟨_, fun _ => ev_build rfl pl67 rfl, ?_⟩; refine runD_1 11 (by kernel_rfl) rfl rfl rfl ?_)
    refine runL_buildSlice (l := ec ⟨o, tip o⟩) rfl rfl rfl rfl rfl (se rfl) ze67 rfl rfl rfl rfl rfl (fun b15 => ?_)
    (refine runL_nil ?_; refine endS_d rfl ?_; refine runD_1 12 (by kernel_rfl) rfl rfl rfl ?_)
    refine runL_append (sl := ec ⟨o, tip o⟩) [blk b15 (ec ⟨o, tip o⟩) 67] rfl rfl rfl rfl rfl rfl rfl (se rfl) (se rfl) ze67 rfl (byt rfl) own6 (fun y => by (first | rfl | (simp only [List.append_eq, cnt_append, cnt_cons, cnt_nil, blk]; omega) | (simp only [List.append_eq, cnt_append, cnt_cons, cnt_nil, blk]; done))) ⟨rfl, .inr ⟨b15, 0, _, _, _, rfl, memF (.head _), by simp [ec], rfl⟩⟩ rfl (by decide) (by decide) (by omega) ?_
    rintro v' A'' own''
    obtain ⟨a7, c7, rfl, own7⟩ := (own''.snoc (f := ec) (x := Ent.mk o (tip o)) rfl).at
    (refine runL_nil ?_; refine endS_d rfl ?_; refine runD_done (by kernel_rfl) ?_)
    exact midX (a7, c7, A'', [blk b15 (ec ⟨o, tip o⟩) 67]) own7 rfl (fun y => by (first | rfl | (simp only [List.append_eq, cnt_append, cnt_cons, cnt_nil, blk]; omega) | (simp only [List.append_eq, cnt_append, cnt_cons, cnt_nil, blk]; done)))
  · rintro ⟨a7, c7, A7, G⟩ own7
    dsimp only at own7 ⊢
    generalize es ++ [Ent.mk o (tip o)] = es2 at *
    refine RunD.same (M' := blk b [.int .i64 p, .slice a es.length cap] 51 :: (blk b3 o.cells 25 :: (A ++ (A7 ++ G)))) (fun _ _ h => h) (fun x => by (first | rfl | (simp only [List.append_eq, cnt_append, cnt_cons, cnt_nil, blk]; omega) | (simp only [List.append_eq, cnt_append, cnt_cons, cnt_nil, blk]; done))) ?_
    (refine runD_q 13 rfl rfl (by kernel_rfl) ?_; refine ⟨_, fun _ => ev_pure rfl, ?_⟩; refine runD_q 14 rfl rfl (by kernel_rfl) ?_; refine ⟨_, fun _ => ev_fieldAddr rfl rfl (fo rfl), ?_⟩; refine runD_1 15 (by kernel_rfl) rfl rfl rfl ?_; refine runL_store0 rfl rfl rfl rfl rfl (sz rfl) rfl rfl rfl rfl rfl ?_; refine runL_nil ?_; refine endS_n rfl ?_; refine runD_done (by kernel_rfl) ?_)
    exact ⟨_, rfl, _, blk b3 o.cells 25 :: (A ++ G), ⟨a7, c7, A7, own7, rfl⟩, fun y => by (first | rfl | (simp only [List.append_eq, cnt_append, cnt_cons, cnt_nil, blk]; omega) | (simp only [List.append_eq, cnt_append, cnt_cons, cnt_nil, blk]; done))⟩
end Go.Proofs.Ytfclaleiciodmaa
