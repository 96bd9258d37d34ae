/- Contracts of functions of the given program over its translation, each proved by walking its text; used by the laws' rows. It proves no given statement by itself. -/
import Derived.Test.YtlokkniepoeepaaSLSt1X
import Derived.Test.YtlokkniepoeepaaSLSlcOX
import Derived.Test.YtlokkniepoeepaaSLSame
set_option autoImplicit false
set_option linter.unusedSectionVars false
set_option linter.unusedSimpArgs false
set_option linter.unusedVariables false
set_option maxRecDepth 4000
set_option maxHeartbeats 64000000
namespace Go.Proofs.Ytlokkniepoeepaa
open Go Go.SL Go.Proofs
theorem map_one {α β : Type} {l : List (α × β)} {x : β} (h : l.map (·.2) = [x]) : ∃ a, l = [(a, x)] := by
  match l, h with
  | [(a, y)], h => exact ⟨a, by rw [show y = x from (List.cons.inj h).1]⟩
theorem map_two {α β : Type} {l : List (α × β)} {x y : β} (h : l.map (·.2) = [x, y]) : ∃ a b, l = [(a, x), (b, y)] := by
  match l, h with
  | [(a, u), (b, v)], h => exact ⟨a, b, by rw [show u = x from (List.cons.inj h).1, show v = y from (List.cons.inj (List.cons.inj h).2).1]⟩
variable [Base]
theorem stopsRuns_sp (F : Heap) : Sp Try.prog F 3 [] [] (Ret (.bool true)) := by
  have q1 := fun F f i s p q st => sp_slo F f i s p q st
  have w0 := emptyM_ok
  have w1 : MW m1 := by have := (madd_ok (o := uA) w0).1; rw [u1e] at this; exact this
  have w2 : MW m2 := by have := (madd_ok (o := uB) w1).1; rw [u2e] at this; exact this
  have w3 : MW m3 := by have := (madd_ok (o := uC) w2).1; rw [u3e] at this; exact this
  have w4 : MW m4 := by have := (madd_ok (o := uD) w3).1; rw [u4e] at this; exact this
  have hgd : true = true := rfl
  have hge : false = false := rfl
  refine sp_of_code Try.func3 rfl rfl ?_
  (refine run_seq ?_; refine run_region ?_; refine xep rfl rfl ?_; refine runL_nil ?_; refine then_normal ?_; refine run_seq ?_; refine run_region ?_)
  refine runL_call0 rfl rfl rfl rfl rfl rfl rfl (pf rfl) (sp_snew _) ?_
  rintro v H ⟨m, rfl, hH⟩
  (refine xep rfl rfl ?_; refine runL_nil ?_; refine then_normal ?_; (iterate 2 refine run_seq ?_); refine run_region ?_; refine xep rfl rfl ?_; refine xel rfl (ev_eqNil rfl rfl rfl (pt rfl)) ?_; refine runL_nil ?_; refine then_normal ?_)
  refine run_condF rfl rfl ?_
  (refine run_skip ?_; refine then_normal ?_; refine run_seq ?_; refine run_region ?_; refine xep rfl rfl ?_; refine xel rfl (ev_callQ rfl rfl rfl (pf rfl) (q1 ..)) ?_)
  refine runL_callZ [] H rfl rfl rfl rfl rfl rfl rfl (pf rfl) (fun x => by (first | rfl | (simp only [List.append_eq, cnt_append, cnt_cons, cnt_nil, blk]; omega) | (simp only [List.append_eq, cnt_append, cnt_cons, cnt_nil, blk]; done))) (sp_sadd _ H m emptyM hH w0 (by decide) uA (inI rfl)) ?_
  rw [u1e]
  rintro v _ ⟨a1, c1, ts1, A1, G1, H1, rfl, -, -, -, -, hH1, rfl⟩
  dsimp only at hH1 ⊢
  (refine runL_nil ?_; refine then_normal ?_; refine run_seq ?_; refine run_region ?_; refine xep rfl rfl ?_; refine xel rfl (ev_callQ rfl rfl rfl (pf rfl) (q1 ..)) ?_)
  refine runL_callZ (A1 ++ G1) H1 rfl rfl rfl rfl rfl rfl rfl (pf rfl) (fun x => by (first | rfl | (simp only [List.append_eq, cnt_append, cnt_cons, cnt_nil, blk]; omega) | (simp only [List.append_eq, cnt_append, cnt_cons, cnt_nil, blk]; done))) (sp_sadd _ H1 m m1 hH1 w1 (by decide) uB (inI rfl)) ?_
  rw [u2e]
  rintro v _ ⟨a2, c2, ts2, A2, G2, H2, rfl, -, -, -, -, hH2, rfl⟩
  dsimp only at hH2 ⊢
  (refine runL_nil ?_; refine then_normal ?_; refine run_seq ?_; refine run_region ?_; refine xep rfl rfl ?_; refine xel rfl (ev_callQ rfl rfl rfl (pf rfl) (q1 ..)) ?_)
  refine runL_callZ (A1 ++ G1 ++ (A2 ++ G2)) H2 rfl rfl rfl rfl rfl rfl rfl (pf rfl) (fun x => by (first | rfl | (simp only [List.append_eq, cnt_append, cnt_cons, cnt_nil, blk]; omega) | (simp only [List.append_eq, cnt_append, cnt_cons, cnt_nil, blk]; done))) (sp_sadd _ H2 m m2 hH2 w2 (by decide) uC (inI rfl)) ?_
  rw [u3e]
  rintro v _ ⟨a3, c3, ts3, A3, G3, H3, rfl, ht3, -, own3, -, hH3, rfl⟩
  dsimp only at hH3 ⊢
  (refine xep rfl rfl ?_; refine runL_nil ?_; refine then_normal ?_; refine run_seq ?_; refine run_region ?_; refine xep rfl rfl ?_; refine xel rfl (ev_callQ rfl rfl rfl (pf rfl) (q1 ..)) ?_)
  refine runL_callZ (A1 ++ G1 ++ (A2 ++ G2) ++ (A3 ++ G3)) H3 rfl rfl rfl rfl rfl rfl rfl (pf rfl) (fun x => by (first | rfl | (simp only [List.append_eq, cnt_append, cnt_cons, cnt_nil, blk]; omega) | (simp only [List.append_eq, cnt_append, cnt_cons, cnt_nil, blk]; done))) (sp_sadd _ H3 m m3 hH3 w3 (by decide) uD (inI rfl)) ?_
  rw [u4e]
  rintro v _ ⟨a4, c4, ts4, A4, G4, H4, rfl, ht4, -, own4, hF4, hH4, rfl⟩
  dsimp only at hH4 ht3 ht4 ⊢
  have hl3 : ts3.length = 1 := by simpa using congrArg List.length ht3
  have hl4 : ts4.length = 2 := by simpa using congrArg List.length ht4
  rw [hl3] at own3 ⊢
  rw [hl4] at own4 ⊢
  obtain ⟨⟨a5, c5⟩, rfl⟩ := map_one ht3
  obtain ⟨⟨a6, c6⟩, ⟨a7, c7⟩, rfl⟩ := map_two ht4
  obtain ⟨A6, G6, own6, ⟨A7, G7, own7, hG7, rfl⟩, rfl⟩ := hF4
  obtain rfl : G7 = [] := hG7
  clear ht3 ht4 hl3 hl4
  dsimp only at own6 own7
  replace own6 : OwnS 34 21 (.slice a6 1 c6) 1 (rows fcell [⟨uA, uD, 10, 5, 1⟩]) A6 := own6
  replace own7 : OwnS 34 21 (.slice a7 1 c7) 1 (rows fcell [⟨uB, bare uC, 11, 3, 2⟩]) A7 := own7
  obtain ⟨b3, rest3, cap3, hv3, rfl, -, -, -⟩ := own3.pos (by decide)
  obtain ⟨b4, rest4, cap4, hv4, rfl, -, -, -⟩ := own4.pos (by decide)
  obtain ⟨b6, rest6, cap6, hv6, rfl, -, -, -⟩ := own6.pos (by decide)
  obtain ⟨b7, rest7, cap7, hv7, rfl, -, -, -⟩ := own7.pos (by decide)
  cases hv3
  cases hv4
  cases hv6
  cases hv7
  (refine xep rfl rfl ?_)
  refine runL_nil ?_
  (refine then_normal ?_)
  refine RunC.freeze ?_
  generalize hX : A1 ++ G1 ++ (A2 ++ G2) ++ ([blk b3 (rows orow [((a5, c5), ⟨uC, [], 3, false, true, false, 0⟩)] ++ rest3) 32] ++ G3) ++ (H4 ++ [blk b4 (rows orow [((some ⟨b6, 0, none⟩, c6), ⟨uD, [⟨uA, uD, 10, 5, 1⟩], 0, false, false, false, 0⟩), ((some ⟨b7, 0, none⟩, c7), ⟨uC, [⟨uB, bare uC, 11, 3, 2⟩], 0, false, false, false, 0⟩)] ++ rest4) 32] ++ ([blk b6 (rows fcell [⟨uA, uD, 10, 5, 1⟩] ++ rest6) 34] ++ ([blk b7 (rows fcell [⟨uB, bare uC, 11, 3, 2⟩] ++ rest7) 34] ++ []))) = X
  have hm3 : blk b3 (rows orow [((a5, c5), ⟨uC, [], 3, false, true, false, 0⟩)] ++ rest3) 32 ∈ X ++ F := List.mem_append_left _ (by rw [← hX]; simp only [List.mem_append, List.mem_singleton, true_or, or_true])
  have l1 : LoadsF (X ++ F) b3 (0 + 12) (.bool true) := ⟨_, _, _, hm3, rfl⟩
  have hm4 : blk b4 (rows orow [((some ⟨b6, 0, none⟩, c6), ⟨uD, [⟨uA, uD, 10, 5, 1⟩], 0, false, false, false, 0⟩), ((some ⟨b7, 0, none⟩, c7), ⟨uC, [⟨uB, bare uC, 11, 3, 2⟩], 0, false, false, false, 0⟩)] ++ rest4) 32 ∈ X ++ F := List.mem_append_left _ (by rw [← hX]; simp only [List.mem_append, List.mem_singleton, true_or, or_true])
  have hm6 : blk b6 (rows fcell [⟨uA, uD, 10, 5, 1⟩] ++ rest6) 34 ∈ X ++ F := List.mem_append_left _ (by rw [← hX]; simp only [List.mem_append, List.mem_singleton, true_or, or_true])
  have hm7 : blk b7 (rows fcell [⟨uB, bare uC, 11, 3, 2⟩] ++ rest7) 34 ∈ X ++ F := List.mem_append_left _ (by rw [← hX]; simp only [List.mem_append, List.mem_singleton, true_or, or_true])
  have hMi : MkIn (X ++ F) m m4 := hH4.in fun x mx => List.mem_append_left _ (by rw [← hX]; simp only [List.mem_append, mx, true_or, or_true])
  have l2 : LoadsF (X ++ F) b4 (0 + 9) (.slice (some ⟨b6, 0, none⟩) 1 c6) := ⟨_, _, _, hm4, rfl⟩
  have l3 : LoadsF (X ++ F) b4 (0 + 15 + 9) (.slice (some ⟨b7, 0, none⟩) 1 c7) := ⟨_, _, _, hm4, rfl⟩
  have l4 : LoadsF (X ++ F) b6 (0 + 18) (.int .i64 10) := ⟨_, _, _, hm6, rfl⟩
  have l5 : LoadsF (X ++ F) b4 (0 + 10) (.int .i64 0) := ⟨_, _, _, hm4, rfl⟩
  have l6 : AggF (X ++ F) b4 (0 + 15) uC.cells := ⟨_, _, _, hm4, by rw [List.length_append]; exact Nat.le_add_right_of_le (show 24 ≤ 30 by decide), rfl⟩
  have l7 : LoadsF (X ++ F) b7 (0 + 18) (.int .i64 11) := ⟨_, _, _, hm7, rfl⟩
  have l8 : LoadsF (X ++ F) b7 (0 + 19) (.int .i64 3) := ⟨_, _, _, hm7, rfl⟩
  clear hm3 hm4 hm6 hm7 hX
  ((iterate 2 refine run_seq ?_); refine run_region ?_; refine xep rfl rfl ?_; refine xel rfl (ev_len rfl rfl (se rfl)) ?_; (iterate 2 refine xep rfl rfl ?_); refine runL_yes rfl rfl hge ?_; refine xep rfl rfl ?_; refine runL_yes rfl rfl hge ?_; refine xel rfl (ev_indexAddr rfl rfl rfl (se rfl) (by omega) (by omega)) ?_; refine runL_yes rfl rfl hge ?_; refine xel rfl (ev_fieldAddr rfl rfl (fo rfl)) ?_; refine runL_yes rfl rfl hge ?_; refine xel rfl (ev_loadF rfl rfl (sc rfl) l1) ?_; refine runL_yes rfl rfl hge ?_; (iterate 3 refine xep rfl rfl ?_); refine runL_yes rfl rfl hge ?_; refine xep rfl rfl ?_; refine runL_yes rfl rfl hge ?_; refine xel rfl (ev_len rfl rfl (se rfl)) ?_; refine runL_yes rfl rfl hge ?_; (iterate 3 refine xep rfl rfl ?_); refine runL_yes rfl rfl hge ?_; refine xep rfl rfl ?_; refine runL_yes rfl rfl hge ?_; refine xel rfl (ev_indexAddr rfl rfl rfl (se rfl) (by omega) (by omega)) ?_; refine runL_yes rfl rfl hge ?_; refine xel rfl (ev_fieldAddr rfl rfl (fo rfl)) ?_; refine runL_yes rfl rfl hge ?_; refine xel rfl (ev_loadF rfl rfl (sc rfl) l2) ?_; refine runL_yes rfl rfl hge ?_; refine xel rfl (ev_len rfl rfl (se rfl)) ?_; refine runL_yes rfl rfl hge ?_; (iterate 3 refine xep rfl rfl ?_); refine runL_yes rfl rfl hge ?_; refine xep rfl rfl ?_; refine runL_yes rfl rfl hge ?_; refine xel rfl (ev_indexAddr rfl rfl rfl (se rfl) (by omega) (by omega)) ?_; refine runL_yes rfl rfl hge ?_; refine xel rfl (ev_fieldAddr rfl rfl (fo rfl)) ?_; refine runL_yes rfl rfl hge ?_; refine xel rfl (ev_loadF rfl rfl (sc rfl) l3) ?_; refine runL_yes rfl rfl hge ?_; refine xel rfl (ev_len rfl rfl (se rfl)) ?_; refine runL_yes rfl rfl hge ?_; (iterate 2 refine xep rfl rfl ?_); refine runL_nil ?_; refine then_normal ?_)
  refine run_condF rfl rfl ?_
  (refine run_skip ?_; refine then_normal ?_)
  have q2 := fun F => sp_slo F 2 1 1 12 3 10
  have y1 : decide ((10 : Int) = 10) = true := rfl
  have k1 := ctOrd
  have k2 := tyOrd uC
  have k3 := eqOrd uC
  refine run_seq ?_
  refine run_region_D mo ?_
  (refine runD_q 0 rfl rfl (by kernel_rfl) ?_; refine ⟨_, fun _ => ev_pure rfl, ?_⟩; refine runD_q 1 rfl rfl (by kernel_rfl) ?_; refine ⟨_, fun _ => ev_indexAddr rfl rfl rfl (se rfl) (by omega) (by omega), ?_⟩; refine runD_q 2 rfl rfl (by kernel_rfl) ?_; refine ⟨_, fun _ => ev_fieldAddr rfl rfl (fo rfl), ?_⟩; refine runD_q 3 rfl rfl (by kernel_rfl) ?_; refine ⟨_, fun _ => ev_loadF rfl rfl (sc rfl) l2, ?_⟩; refine runD_q 4 rfl rfl (by kernel_rfl) ?_; refine ⟨_, fun _ => ev_indexAddr rfl rfl rfl (se rfl) (by omega) (by omega), ?_⟩; refine runD_q 5 rfl rfl (by kernel_rfl) ?_; refine ⟨_, fun _ => ev_fieldAddr rfl rfl (fo rfl), ?_⟩; refine runD_q 6 rfl rfl (by kernel_rfl) ?_; refine ⟨_, fun _ => ev_loadF rfl rfl (sc rfl) l4, ?_⟩; refine runD_q 7 rfl rfl (by kernel_rfl) ?_; refine ⟨_, fun _ => ev_pure rfl, ?_⟩; refine runD_q 8 rfl rfl (by kernel_rfl) ?_; refine ⟨_, fun _ => ev_pure rfl, ?_⟩; refine runD_gq 9 rfl rfl rfl rfl rfl rfl hgd (by kernel_rfl) ?_; refine ⟨_, fun _ => ev_pure rfl, ?_⟩; refine runD_gq 10 rfl rfl rfl rfl rfl rfl hgd (by kernel_rfl) ?_; refine ⟨_, fun _ => ev_indexAddr rfl rfl rfl (se rfl) (by omega) (by omega), ?_⟩; refine runD_gq 11 rfl rfl rfl rfl rfl rfl hgd (by kernel_rfl) ?_; refine ⟨_, fun _ => ev_fieldAddr rfl rfl (fo rfl), ?_⟩; refine runD_gq 12 rfl rfl rfl rfl rfl rfl hgd (by kernel_rfl) ?_; refine ⟨_, fun _ => ev_loadF rfl rfl (sc rfl) l5, ?_⟩; refine runD_gq 13 rfl rfl rfl rfl rfl rfl hgd (by kernel_rfl) ?_; refine ⟨_, fun _ => ev_pure rfl, ?_⟩; refine runD_q 14 rfl rfl (by kernel_rfl) ?_; refine ⟨_, fun _ => ev_pure rfl, ?_⟩; refine runD_q 15 rfl rfl (by kernel_rfl) ?_; refine ⟨_, fun _ => ev_pure rfl, ?_⟩; refine runD_gq 16 rfl rfl rfl rfl rfl rfl hgd (by kernel_rfl) ?_; refine ⟨_, fun _ => ev_pure rfl, ?_⟩; refine runD_gq 17 rfl rfl rfl rfl rfl rfl hgd (by kernel_rfl) ?_; refine ⟨_, fun _ => ev_indexAddr rfl rfl rfl (se rfl) (by omega) (by omega), ?_⟩; refine runD_gq 18 rfl rfl rfl rfl rfl rfl hgd (by kernel_rfl) ?_; refine ⟨_, fun _ => ev_fieldAddr rfl rfl (fo rfl), ?_⟩; refine runD_gq 19 rfl rfl rfl rfl rfl rfl hgd (by kernel_rfl) ?_; refine ⟨_, fun _ => ev_loadAF rfl rfl (ag rfl) (sz rfl) l6 rfl, ?_⟩; refine runD_gq 20 rfl rfl rfl rfl rfl rfl hgd (by kernel_rfl) ?_; refine ⟨_, fun _ => ev_callQ rfl rfl rfl (pf rfl) (q1 ..), ?_⟩; refine runD_gq 21 rfl rfl rfl rfl rfl rfl hgd (by kernel_rfl) ?_; refine ⟨_, fun _ => ev_eqQ rfl rfl rfl k1 rfl k2 k3, ?_⟩; refine runD_q 22 rfl rfl (by kernel_rfl) ?_; refine ⟨_, fun _ => ev_pure rfl, ?_⟩; refine runD_q 23 rfl rfl (by kernel_rfl) ?_; refine ⟨_, fun _ => ev_pure rfl, ?_⟩; refine runD_gq 24 rfl rfl rfl rfl rfl rfl hgd (by kernel_rfl) ?_; refine ⟨_, fun _ => ev_pure rfl, ?_⟩; refine runD_gq 25 rfl rfl rfl rfl rfl rfl hgd (by kernel_rfl) ?_; refine ⟨_, fun _ => ev_indexAddr rfl rfl rfl (se rfl) (by omega) (by omega), ?_⟩; refine runD_gq 26 rfl rfl rfl rfl rfl rfl hgd (by kernel_rfl) ?_; refine ⟨_, fun _ => ev_fieldAddr rfl rfl (fo rfl), ?_⟩; refine runD_gq 27 rfl rfl rfl rfl rfl rfl hgd (by kernel_rfl) ?_; refine ⟨_, fun _ => ev_loadF rfl rfl (sc rfl) l3, ?_⟩; refine runD_gq 28 rfl rfl rfl rfl rfl rfl hgd (by kernel_rfl) ?_; refine ⟨_, fun _ => ev_indexAddr rfl rfl rfl (se rfl) (by omega) (by omega), ?_⟩; refine runD_gq 29 rfl rfl rfl rfl rfl rfl hgd (by kernel_rfl) ?_; refine ⟨_, fun _ => ev_fieldAddr rfl rfl (fo rfl), ?_⟩; refine runD_gq 30 rfl rfl rfl rfl rfl rfl hgd (by kernel_rfl) ?_; refine ⟨_, fun _ => ev_loadF rfl rfl (sc rfl) l7, ?_⟩; refine runD_gq 31 rfl rfl rfl rfl rfl rfl hgd (by kernel_rfl) ?_; refine ⟨_, fun _ => ev_pure rfl, ?_⟩; refine runD_q 32 rfl rfl (by kernel_rfl) ?_; refine ⟨_, fun _ => ev_pure rfl, ?_⟩; refine runD_q 33 rfl rfl (by kernel_rfl) ?_; refine ⟨_, fun _ => ev_pure rfl, ?_⟩; refine runD_gq 34 rfl rfl rfl rfl rfl rfl hgd (by kernel_rfl) ?_; refine ⟨_, fun _ => ev_pure rfl, ?_⟩; refine runD_gq 35 rfl rfl rfl rfl rfl rfl hgd (by kernel_rfl) ?_; refine ⟨_, fun _ => ev_indexAddr rfl rfl rfl (se rfl) (by omega) (by omega), ?_⟩; refine runD_gq 36 rfl rfl rfl rfl rfl rfl hgd (by kernel_rfl) ?_; refine ⟨_, fun _ => ev_fieldAddr rfl rfl (fo rfl), ?_⟩; refine runD_gq 37 rfl rfl rfl rfl rfl rfl hgd (by kernel_rfl) ?_; refine ⟨_, fun _ => ev_loadF rfl rfl (sc rfl) l3, ?_⟩; refine runD_gq 38 rfl rfl rfl rfl rfl rfl hgd (by kernel_rfl) ?_; refine ⟨_, fun _ => ev_indexAddr rfl rfl rfl (se rfl) (by omega) (by omega), ?_⟩; refine runD_gq 39 rfl rfl rfl rfl rfl rfl hgd (by kernel_rfl) ?_; refine ⟨_, fun _ => ev_fieldAddr rfl rfl (fo rfl), ?_⟩; refine runD_gq 40 rfl rfl rfl rfl rfl rfl hgd (by kernel_rfl) ?_; refine ⟨_, fun _ => ev_loadF rfl rfl (sc rfl) l8, ?_⟩; refine runD_gq 41 rfl rfl rfl rfl rfl rfl hgd (by kernel_rfl) ?_; refine ⟨_, fun _ => ev_pure rfl, ?_⟩; refine runD_q 42 rfl rfl (by kernel_rfl) ?_; refine ⟨_, fun _ => ev_pure rfl, ?_⟩; refine runD_q 43 rfl rfl (by kernel_rfl) ?_; refine ⟨_, fun _ => ev_pure rfl, ?_⟩; refine runD_gq 44 rfl rfl rfl rfl rfl rfl hgd (by kernel_rfl) ?_; refine ⟨_, fun _ => ev_pure rfl, ?_⟩; refine runD_g1 45 (by kernel_rfl) rfl rfl rfl rfl hgd rfl rfl ?_)
  refine runL_call0 rfl rfl rfl rfl rfl rfl rfl (pf rfl) (sp_swaiting _ m m4 hMi.up (by decide)) ?_
  rintro v A9 own9
  obtain ⟨a9, c9, rfl, own9⟩ := own9.at
  (refine runL_nil ?_; refine endS_d rfl ?_; refine runD_gq 46 rfl rfl rfl rfl rfl rfl hgd (by kernel_rfl) ?_; refine ⟨_, fun _ => ev_len rfl rfl (se rfl), ?_⟩; refine runD_gq 47 rfl rfl rfl rfl rfl rfl hgd (by kernel_rfl) ?_; refine ⟨_, fun _ => ev_pure rfl, ?_⟩; refine runD_q 48 rfl rfl (by kernel_rfl) ?_; refine ⟨_, fun _ => ev_pure rfl, ?_⟩; refine runD_q 49 rfl rfl (by kernel_rfl) ?_; refine ⟨_, fun _ => ev_pure rfl, ?_⟩; refine runD_done (by kernel_rfl) ?_; refine then_normal ?_; refine run_ret ?_)
  exact ⟨_, rfl, rfl⟩
end Go.Proofs.Ytlokkniepoeepaa
