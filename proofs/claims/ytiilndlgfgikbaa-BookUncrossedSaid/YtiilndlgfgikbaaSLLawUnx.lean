/- Contracts of functions of the given program over its translation, each proved by walking its text; used by the laws' rows. It proves no given statement by itself. -/
import Derived.Test.YtiilndlgfgikbaaSLPlU
set_option autoImplicit false
set_option linter.unusedSectionVars false
set_option linter.unusedSimpArgs false
set_option linter.unusedVariables false
set_option maxRecDepth 4000
set_option maxHeartbeats 100000000
namespace Go.Proofs.Ytiilndlgfgikbaa
open Go Go.SL Go.Proofs
variable [Base]
theorem bookUncrossed_sp (F : Heap) (a : Option Addr) (len cap : Nat) (rs : List (List Int)) (hR : RowsF F a len 7 rs) (hC : len ≤ cap) (hM : cap ≤ 9223372036854775807) :
    Sp Try.prog F 6 [.slice a len cap] [] (Ret (.bool true)) := by
  have q1 := bookRuns_sp
  refine sp_of_code Try.func6 rfl rfl ?_
  (refine run_seq ?_; refine run_region ?_; refine xep rfl rfl ?_; refine runL_nil ?_; refine then_normal ?_; refine run_seq ?_; refine run_region ?_; refine xep rfl rfl ?_)
  refine runL_call0 rfl rfl rfl rfl rfl rfl rfl (pf rfl) (sp_bfilled _ a len cap rs (RowsF.mono hR fun x m => by simp [m]) (by omega) 60 (by omega)) ?_
  rintro v H ⟨b, rfl, hH⟩
  obtain ⟨hw, hn0, hn1⟩ := bfill_ok rs 60
  have hg := bfill_Gd rs 60
  generalize bfill rs 60 = B at *
  (refine xep rfl rfl ?_; refine runL_nil ?_; refine then_normal ?_; (iterate 2 refine run_seq ?_); refine run_region ?_; refine xep rfl rfl ?_; refine xel rfl (ev_eqNil rfl rfl rfl (pt rfl)) ?_; refine runL_nil ?_; refine then_normal ?_)
  refine run_condF rfl rfl ?_
  (refine run_skip ?_; refine then_normal ?_)
  refine RunC.perm (h' := [] ++ H) (fun y => by (first | rfl | (simp only [List.append_eq, cnt_append, cnt_cons, cnt_nil, blk]; omega) | (simp only [List.append_eq, cnt_append, cnt_cons, cnt_nil, blk]; done))) ?_
  refine RunC.freezeR (h := []) (A := H) ?_
  have hIn : BkIn (H ++ F) b B := hH.in fun x m => by simp [m]
  clear hH
  (refine run_seq ?_; refine run_region ?_; refine xep rfl rfl ?_)
  refine runL_callZ [] [] rfl rfl rfl rfl rfl rfl rfl (pf rfl) (fun x => by (first | rfl | (simp only [List.append_eq, cnt_append, cnt_cons, cnt_nil, blk]; omega) | (simp only [List.append_eq, cnt_append, cnt_cons, cnt_nil, blk]; done))) (sp_borders _ b B hIn.up hw 1) ?_
  rintro v A1 own1
  obtain ⟨a1, c1, rfl, own1⟩ := own1.at
  (refine xep rfl rfl ?_)
  refine runL_callZ A1 [] rfl rfl rfl rfl rfl rfl rfl (pf rfl) (fun x => by (first | rfl | (simp only [List.append_eq, cnt_append, cnt_cons, cnt_nil, blk]; omega) | (simp only [List.append_eq, cnt_append, cnt_cons, cnt_nil, blk]; done))) (sp_borders _ b B hIn.up hw 2) ?_
  rintro v A2 own2
  obtain ⟨a2, c2, rfl, own2⟩ := own2.at
  ((iterate 2 refine xep rfl rfl ?_); refine runL_nil ?_; refine then_normal ?_; (iterate 2 refine run_seq ?_))
  refine RunC.perm (h' := [] ++ (A1 ++ A2)) (fun y => by (first | rfl | (simp only [List.append_eq, cnt_append, cnt_cons, cnt_nil, blk]; omega) | (simp only [List.append_eq, cnt_append, cnt_cons, cnt_nil, blk]; done))) ?_
  refine RunC.freezeR (h := []) (A := A1 ++ A2) ?_
  have src1 := own1.src (H := (A1 ++ A2) ++ (H ++ F)) fun x m => by simp [m]
  have src2 := own2.src (H := (A1 ++ A2) ++ (H ++ F)) fun x m => by simp [m]
  have hIn2 : BkIn ((A1 ++ A2) ++ (H ++ F)) b B := hIn.up
  have q2 := fun G => sp_blen (G ++ ((A1 ++ A2) ++ (H ++ F))) b B hIn2.up hw
  clear own1 own2
  have hs1 := orders_sorted hg.s1 hg.a1
  have hs2 := orders_sorted hg.s2 hg.a2
  have hap : ∀ x ∈ ordersL (B.side 1), ∀ y ∈ ordersL (B.side 2), x.price < y.price := fun x hx y hy => gd_apart hg hx hy
  have ho1 := ordersL_len (B.side 1)
  have ho2 := ordersL_len (B.side 2)
  have h64 := hw.len
  have hlen : lenL B.buys = (ordersL (B.side 1)).length ∧ lenL B.sells = (ordersL (B.side 2)).length := ⟨ho1.symm, ho2.symm⟩
  rw [hlen.1, hlen.2] at q2 h64
  change (ordersL (B.side 1)).Pairwise _ at hs1
  change (ordersL (B.side 2)).Pairwise _ at hs2
  clear ho1 ho2 hlen
  generalize ordersL (B.side 1) = xs at *
  generalize ordersL (B.side 2) = ys at *
  generalize hx1 : xs.length = n1 at *
  generalize hx2 : ys.length = n2 at *
  refine run_midO (σ := Unit) [3, 4, 5] (fun _ => [(45, .bool false)]) (fun _ => []) (fun _ => True) rfl ?_ ?_
  · by_cases e1 : n1 = 0
    · subst e1
      have hgd : true = true := rfl
      have hge : false = false := rfl
      refine run_region_D mo ?_
      (refine runD_q 0 rfl rfl (by kernel_rfl) ?_; refine ⟨_, fun _ => ev_pure rfl, ?_⟩; refine runD_q 1 rfl rfl (by kernel_rfl) ?_; refine ⟨_, fun _ => ev_len rfl rfl (se rfl), ?_⟩; refine runD_q 2 rfl rfl (by kernel_rfl) ?_; refine ⟨_, fun _ => ev_pure rfl, ?_⟩; refine runD_q 3 rfl rfl (by kernel_rfl) ?_; refine ⟨_, fun _ => ev_pure rfl, ?_⟩; refine runD_gn 4 rfl rfl rfl rfl rfl rfl hge (by kernel_rfl) ?_; refine runD_gn 5 rfl rfl rfl rfl rfl rfl hge (by kernel_rfl) ?_; refine runD_gn 6 rfl rfl rfl rfl rfl rfl hge (by kernel_rfl) ?_; refine runD_q 7 rfl rfl (by kernel_rfl) ?_; refine ⟨_, fun _ => ev_pickF rfl rfl hge rfl, ?_⟩; refine runD_q 8 rfl rfl (by kernel_rfl) ?_; refine ⟨_, fun _ => ev_pure rfl, ?_⟩; refine runD_gn 9 rfl rfl rfl rfl rfl rfl hge (by kernel_rfl) ?_; refine runD_gn 10 rfl rfl rfl rfl rfl rfl hge (by kernel_rfl) ?_; refine runD_gn 11 rfl rfl rfl rfl rfl rfl hge (by kernel_rfl) ?_; refine runD_gn 12 rfl rfl rfl rfl rfl rfl hge (by kernel_rfl) ?_; refine runD_gn 13 rfl rfl rfl rfl rfl rfl hge (by kernel_rfl) ?_; refine runD_gn 14 rfl rfl rfl rfl rfl rfl hge (by kernel_rfl) ?_; refine runD_gn 15 rfl rfl rfl rfl rfl rfl hge (by kernel_rfl) ?_; refine runD_gn 16 rfl rfl rfl rfl rfl rfl hge (by kernel_rfl) ?_; refine runD_gn 17 rfl rfl rfl rfl rfl rfl hge (by kernel_rfl) ?_; refine runD_q 18 rfl rfl (by kernel_rfl) ?_; refine ⟨_, fun _ => ev_pickF rfl rfl hge rfl, ?_⟩; refine runD_q 19 rfl rfl (by kernel_rfl) ?_; refine ⟨_, fun _ => ev_pure rfl, ?_⟩; refine runD_gn 20 rfl rfl rfl rfl rfl rfl hge (by kernel_rfl) ?_; refine runD_gn 21 rfl rfl rfl rfl rfl rfl hge (by kernel_rfl) ?_; refine runD_gn 22 rfl rfl rfl rfl rfl rfl hge (by kernel_rfl) ?_; refine runD_gn 23 rfl rfl rfl rfl rfl rfl hge (by kernel_rfl) ?_; refine runD_gn 24 rfl rfl rfl rfl rfl rfl hge (by kernel_rfl) ?_; refine runD_gn 25 rfl rfl rfl rfl rfl rfl hge (by kernel_rfl) ?_; refine runD_gn 26 rfl rfl rfl rfl rfl rfl hge (by kernel_rfl) ?_; refine runD_gn 27 rfl rfl rfl rfl rfl rfl hge (by kernel_rfl) ?_; refine runD_gn 28 rfl rfl rfl rfl rfl rfl hge (by kernel_rfl) ?_; refine runD_q 29 rfl rfl (by kernel_rfl) ?_; refine ⟨_, fun _ => ev_pickF rfl rfl hge rfl, ?_⟩; refine runD_done (by kernel_rfl) ?_)
      exact midN () [] trivial rfl (fun x => by (first | rfl | (simp only [List.append_eq, cnt_append, cnt_cons, cnt_nil, blk]; omega) | (simp only [List.append_eq, cnt_append, cnt_cons, cnt_nil, blk]; done)))
    · have hgd : decide ((0 : Int) < (n1 : Int)) = true := decide_eq_true (by omega)
      by_cases e2 : n2 = 0
      · subst e2
        have hge : (decide ((0 : Int) < (n1 : Int)) && decide ((0 : Int) < ((0 : Nat) : Int))) = false := by simp
        have y1 : true = true := rfl
        have y2 : false = false := rfl
        refine run_region_D mo ?_
        (refine runD_q 0 rfl rfl (by kernel_rfl) ?_; refine ⟨_, fun _ => ev_pure rfl, ?_⟩; refine runD_q 1 rfl rfl (by kernel_rfl) ?_; refine ⟨_, fun _ => ev_len rfl rfl (se rfl), ?_⟩; refine runD_q 2 rfl rfl (by kernel_rfl) ?_; refine ⟨_, fun _ => ev_pure rfl, ?_⟩; refine runD_q 3 rfl rfl (by kernel_rfl) ?_; refine ⟨_, fun _ => ev_pure rfl, ?_⟩; refine runD_gq 4 rfl rfl rfl rfl rfl rfl hgd (by kernel_rfl) ?_; refine ⟨_, fun _ => ev_pure rfl, ?_⟩; refine runD_gq 5 rfl rfl rfl rfl rfl rfl hgd (by kernel_rfl) ?_; refine ⟨_, fun _ => ev_len rfl rfl (se rfl), ?_⟩; refine runD_gq 6 rfl rfl rfl rfl rfl rfl hgd (by kernel_rfl) ?_; refine ⟨_, fun _ => ev_pure rfl, ?_⟩; refine runD_q 7 rfl rfl (by kernel_rfl) ?_; refine ⟨_, fun _ => ev_pure rfl, ?_⟩; refine runD_q 8 rfl rfl (by kernel_rfl) ?_; refine ⟨_, fun _ => ev_pure rfl, ?_⟩; refine runD_gn 9 rfl rfl rfl rfl rfl rfl hge (by kernel_rfl) ?_; refine runD_gn 10 rfl rfl rfl rfl rfl rfl hge (by kernel_rfl) ?_; refine runD_gn 11 rfl rfl rfl rfl rfl rfl hge (by kernel_rfl) ?_; refine runD_gn 12 rfl rfl rfl rfl rfl rfl hge (by kernel_rfl) ?_; refine runD_gn 13 rfl rfl rfl rfl rfl rfl hge (by kernel_rfl) ?_; refine runD_gn 14 rfl rfl rfl rfl rfl rfl hge (by kernel_rfl) ?_; refine runD_gn 15 rfl rfl rfl rfl rfl rfl hge (by kernel_rfl) ?_; refine runD_gn 16 rfl rfl rfl rfl rfl rfl hge (by kernel_rfl) ?_; refine runD_gn 17 rfl rfl rfl rfl rfl rfl hge (by kernel_rfl) ?_; refine runD_q 18 rfl rfl (by kernel_rfl) ?_; refine ⟨_, fun _ => ev_pickF rfl rfl hge rfl, ?_⟩; refine runD_q 19 rfl rfl (by kernel_rfl) ?_; refine ⟨_, fun _ => ev_pure rfl, ?_⟩; refine runD_gn 20 rfl rfl rfl rfl rfl rfl y2 (by kernel_rfl) ?_; refine runD_gn 21 rfl rfl rfl rfl rfl rfl y2 (by kernel_rfl) ?_; refine runD_gn 22 rfl rfl rfl rfl rfl rfl y2 (by kernel_rfl) ?_; refine runD_gn 23 rfl rfl rfl rfl rfl rfl y2 (by kernel_rfl) ?_; refine runD_gn 24 rfl rfl rfl rfl rfl rfl y2 (by kernel_rfl) ?_; refine runD_gn 25 rfl rfl rfl rfl rfl rfl y2 (by kernel_rfl) ?_; refine runD_gn 26 rfl rfl rfl rfl rfl rfl y2 (by kernel_rfl) ?_; refine runD_gn 27 rfl rfl rfl rfl rfl rfl y2 (by kernel_rfl) ?_; refine runD_gn 28 rfl rfl rfl rfl rfl rfl y2 (by kernel_rfl) ?_; refine runD_1 29 (by kernel_rfl) rfl rfl rfl ?_)
        clear hge
        have hge : false = false := rfl
        (refine xel rfl (ev_pickF rfl rfl hge rfl) ?_; refine runL_nil ?_; refine endS_d rfl ?_; refine runD_done (by kernel_rfl) ?_)
        refine midN () [] trivial ?_ (fun x => by (first | rfl | (simp only [List.append_eq, cnt_append, cnt_cons, cnt_nil, blk]; omega) | (simp only [List.append_eq, cnt_append, cnt_cons, cnt_nil, blk]; done)))
        first | rfl | simp
      · have y1 : (decide ((0 : Int) < (n1 : Int)) && decide ((0 : Int) < (n2 : Int))) = true := by rw [hgd, decide_eq_true (by omega : (0 : Int) < (n2 : Int))]; rfl
        obtain ⟨b1, o1, _, _, _, rfl, _⟩ := src1.pos (by omega)
        obtain ⟨b2, o2, _, _, _, rfl, _⟩ := src2.pos (by omega)
        obtain ⟨x, hx⟩ : ∃ x, xs[0]? = some x := ⟨xs[0]'(by omega), List.getElem?_eq_getElem _⟩
        obtain ⟨y, hy⟩ : ∃ y, ys[0]? = some y := ⟨ys[0]'(by omega), List.getElem?_eq_getElem _⟩
        have l1 : AggF ((A1 ++ A2) ++ (H ++ F)) b1 (o1 + (0 : Int).toNat * 9) x.cells := SrcIs.row oc_len src1 hx1 hx
        have l3 := l1.at 2 _ rfl
        have l4 := l1.at 5 _ rfl
        have l2 : AggF ((A1 ++ A2) ++ (H ++ F)) b2 (o2 + (0 : Int).toNat * 9) y.cells := SrcIs.row oc_len src2 hx2 hy
        have l5 := l2.at 2 _ rfl
        have l6 := l2.at 5 _ rfl
        have hlt := hap x (List.mem_of_getElem? hx) y (List.mem_of_getElem? hy)
        by_cases e3 : x.firm = y.firm
        · have hge : (decide ((0 : Int) < (n1 : Int)) && decide ((0 : Int) < (n2 : Int)) && !decide (x.firm = y.firm)) = false := by rw [decide_eq_true e3]; simp
          have y5 : true = true := rfl
          have y6 : false = false := rfl
          refine run_region_D mo ?_
          (refine runD_q 0 rfl rfl (by kernel_rfl) ?_; refine ⟨_, fun _ => ev_pure rfl, ?_⟩; refine runD_q 1 rfl rfl (by kernel_rfl) ?_; refine ⟨_, fun _ => ev_len rfl rfl (se rfl), ?_⟩; refine runD_q 2 rfl rfl (by kernel_rfl) ?_; refine ⟨_, fun _ => ev_pure rfl, ?_⟩; refine runD_q 3 rfl rfl (by kernel_rfl) ?_; refine ⟨_, fun _ => ev_pure rfl, ?_⟩; refine runD_gq 4 rfl rfl rfl rfl rfl rfl hgd (by kernel_rfl) ?_; refine ⟨_, fun _ => ev_pure rfl, ?_⟩; refine runD_gq 5 rfl rfl rfl rfl rfl rfl hgd (by kernel_rfl) ?_; refine ⟨_, fun _ => ev_len rfl rfl (se rfl), ?_⟩; refine runD_gq 6 rfl rfl rfl rfl rfl rfl hgd (by kernel_rfl) ?_; refine ⟨_, fun _ => ev_pure rfl, ?_⟩; refine runD_q 7 rfl rfl (by kernel_rfl) ?_; refine ⟨_, fun _ => ev_pure rfl, ?_⟩; refine runD_q 8 rfl rfl (by kernel_rfl) ?_; refine ⟨_, fun _ => ev_pure rfl, ?_⟩; refine runD_gq 9 rfl rfl rfl rfl rfl rfl y1 (by kernel_rfl) ?_; refine ⟨_, fun _ => ev_pure rfl, ?_⟩; refine runD_gq 10 rfl rfl rfl rfl rfl rfl y1 (by kernel_rfl) ?_; refine ⟨_, fun _ => ev_indexAddr rfl rfl rfl (se rfl) (by omega) (by omega), ?_⟩; refine runD_gq 11 rfl rfl rfl rfl rfl rfl y1 (by kernel_rfl) ?_; refine ⟨_, fun _ => ev_fieldAddr rfl rfl (fo rfl), ?_⟩; refine runD_gq 12 rfl rfl rfl rfl rfl rfl y1 (by kernel_rfl) ?_; refine ⟨_, fun _ => ev_loadF rfl rfl (sc rfl) l3, ?_⟩; refine runD_gq 13 rfl rfl rfl rfl rfl rfl y1 (by kernel_rfl) ?_; refine ⟨_, fun _ => ev_pure rfl, ?_⟩; refine runD_gq 14 rfl rfl rfl rfl rfl rfl y1 (by kernel_rfl) ?_; refine ⟨_, fun _ => ev_indexAddr rfl rfl rfl (se rfl) (by omega) (by omega), ?_⟩; refine runD_gq 15 rfl rfl rfl rfl rfl rfl y1 (by kernel_rfl) ?_; refine ⟨_, fun _ => ev_fieldAddr rfl rfl (fo rfl), ?_⟩; refine runD_gq 16 rfl rfl rfl rfl rfl rfl y1 (by kernel_rfl) ?_; refine ⟨_, fun _ => ev_loadF rfl rfl (sc rfl) l5, ?_⟩; refine runD_gq 17 rfl rfl rfl rfl rfl rfl y1 (by kernel_rfl) ?_; refine ⟨_, fun _ => ev_pure rfl, ?_⟩; refine runD_q 18 rfl rfl (by kernel_rfl) ?_; refine ⟨_, fun _ => ev_pure rfl, ?_⟩; refine runD_q 19 rfl rfl (by kernel_rfl) ?_; refine ⟨_, fun _ => ev_pure rfl, ?_⟩; refine runD_gn 20 rfl rfl rfl rfl rfl rfl hge (by kernel_rfl) ?_; refine runD_gn 21 rfl rfl rfl rfl rfl rfl hge (by kernel_rfl) ?_; refine runD_gn 22 rfl rfl rfl rfl rfl rfl hge (by kernel_rfl) ?_; refine runD_gn 23 rfl rfl rfl rfl rfl rfl hge (by kernel_rfl) ?_; refine runD_gn 24 rfl rfl rfl rfl rfl rfl hge (by kernel_rfl) ?_; refine runD_gn 25 rfl rfl rfl rfl rfl rfl hge (by kernel_rfl) ?_; refine runD_gn 26 rfl rfl rfl rfl rfl rfl hge (by kernel_rfl) ?_; refine runD_gn 27 rfl rfl rfl rfl rfl rfl hge (by kernel_rfl) ?_; refine runD_gn 28 rfl rfl rfl rfl rfl rfl hge (by kernel_rfl) ?_; refine runD_q 29 rfl rfl (by kernel_rfl) ?_; refine ⟨_, fun _ => ev_pickF rfl rfl hge rfl, ?_⟩; refine runD_done (by kernel_rfl) ?_)
          refine midN () [] trivial ?_ (fun x => by (first | rfl | (simp only [List.append_eq, cnt_append, cnt_cons, cnt_nil, blk]; omega) | (simp only [List.append_eq, cnt_append, cnt_cons, cnt_nil, blk]; done)))
          first | rfl | (rw [hge]; rfl)
        · have y2 : (decide ((0 : Int) < (n1 : Int)) && decide ((0 : Int) < (n2 : Int)) && !decide (x.firm = y.firm)) = true := by rw [y1, decide_eq_false e3]; rfl
          have hf : decide (y.price ≤ x.price) = false := decide_eq_false (by omega)
          refine run_region_D mo ?_
          (refine runD_q 0 rfl rfl (by kernel_rfl) ?_; refine ⟨_, fun _ => ev_pure rfl, ?_⟩; refine runD_q 1 rfl rfl (by kernel_rfl) ?_; refine ⟨_, fun _ => ev_len rfl rfl (se rfl), ?_⟩; refine runD_q 2 rfl rfl (by kernel_rfl) ?_; refine ⟨_, fun _ => ev_pure rfl, ?_⟩; refine runD_q 3 rfl rfl (by kernel_rfl) ?_; refine ⟨_, fun _ => ev_pure rfl, ?_⟩; refine runD_gq 4 rfl rfl rfl rfl rfl rfl hgd (by kernel_rfl) ?_; refine ⟨_, fun _ => ev_pure rfl, ?_⟩; refine runD_gq 5 rfl rfl rfl rfl rfl rfl hgd (by kernel_rfl) ?_; refine ⟨_, fun _ => ev_len rfl rfl (se rfl), ?_⟩; refine runD_gq 6 rfl rfl rfl rfl rfl rfl hgd (by kernel_rfl) ?_; refine ⟨_, fun _ => ev_pure rfl, ?_⟩; refine runD_q 7 rfl rfl (by kernel_rfl) ?_; refine ⟨_, fun _ => ev_pure rfl, ?_⟩; refine runD_q 8 rfl rfl (by kernel_rfl) ?_; refine ⟨_, fun _ => ev_pure rfl, ?_⟩; refine runD_gq 9 rfl rfl rfl rfl rfl rfl y1 (by kernel_rfl) ?_; refine ⟨_, fun _ => ev_pure rfl, ?_⟩; refine runD_gq 10 rfl rfl rfl rfl rfl rfl y1 (by kernel_rfl) ?_; refine ⟨_, fun _ => ev_indexAddr rfl rfl rfl (se rfl) (by omega) (by omega), ?_⟩; refine runD_gq 11 rfl rfl rfl rfl rfl rfl y1 (by kernel_rfl) ?_; refine ⟨_, fun _ => ev_fieldAddr rfl rfl (fo rfl), ?_⟩; refine runD_gq 12 rfl rfl rfl rfl rfl rfl y1 (by kernel_rfl) ?_; refine ⟨_, fun _ => ev_loadF rfl rfl (sc rfl) l3, ?_⟩; refine runD_gq 13 rfl rfl rfl rfl rfl rfl y1 (by kernel_rfl) ?_; refine ⟨_, fun _ => ev_pure rfl, ?_⟩; refine runD_gq 14 rfl rfl rfl rfl rfl rfl y1 (by kernel_rfl) ?_; refine ⟨_, fun _ => ev_indexAddr rfl rfl rfl (se rfl) (by omega) (by omega), ?_⟩; refine runD_gq 15 rfl rfl rfl rfl rfl rfl y1 (by kernel_rfl) ?_; refine ⟨_, fun _ => ev_fieldAddr rfl rfl (fo rfl), ?_⟩; refine runD_gq 16 rfl rfl rfl rfl rfl rfl y1 (by kernel_rfl) ?_; refine ⟨_, fun _ => ev_loadF rfl rfl (sc rfl) l5, ?_⟩; refine runD_gq 17 rfl rfl rfl rfl rfl rfl y1 (by kernel_rfl) ?_; refine ⟨_, fun _ => ev_pure rfl, ?_⟩; refine runD_q 18 rfl rfl (by kernel_rfl) ?_; refine ⟨_, fun _ => ev_pure rfl, ?_⟩; refine runD_q 19 rfl rfl (by kernel_rfl) ?_; refine ⟨_, fun _ => ev_pure rfl, ?_⟩; refine runD_gq 20 rfl rfl rfl rfl rfl rfl y2 (by kernel_rfl) ?_; refine ⟨_, fun _ => ev_pure rfl, ?_⟩; refine runD_gq 21 rfl rfl rfl rfl rfl rfl y2 (by kernel_rfl) ?_; refine ⟨_, fun _ => ev_indexAddr rfl rfl rfl (se rfl) (by omega) (by omega), ?_⟩; refine runD_gq 22 rfl rfl rfl rfl rfl rfl y2 (by kernel_rfl) ?_; refine ⟨_, fun _ => ev_fieldAddr rfl rfl (fo rfl), ?_⟩; refine runD_gq 23 rfl rfl rfl rfl rfl rfl y2 (by kernel_rfl) ?_; refine ⟨_, fun _ => ev_loadF rfl rfl (sc rfl) l4, ?_⟩; refine runD_gq 24 rfl rfl rfl rfl rfl rfl y2 (by kernel_rfl) ?_; refine ⟨_, fun _ => ev_pure rfl, ?_⟩; refine runD_gq 25 rfl rfl rfl rfl rfl rfl y2 (by kernel_rfl) ?_; refine ⟨_, fun _ => ev_indexAddr rfl rfl rfl (se rfl) (by omega) (by omega), ?_⟩; refine runD_gq 26 rfl rfl rfl rfl rfl rfl y2 (by kernel_rfl) ?_; refine ⟨_, fun _ => ev_fieldAddr rfl rfl (fo rfl), ?_⟩; refine runD_gq 27 rfl rfl rfl rfl rfl rfl y2 (by kernel_rfl) ?_; refine ⟨_, fun _ => ev_loadF rfl rfl (sc rfl) l6, ?_⟩; refine runD_gq 28 rfl rfl rfl rfl rfl rfl y2 (by kernel_rfl) ?_; refine ⟨_, fun _ => ev_pure rfl, ?_⟩; refine runD_q 29 rfl rfl (by kernel_rfl) ?_; refine ⟨_, fun _ => ev_pure rfl, ?_⟩; refine runD_done (by kernel_rfl) ?_)
          refine midN () [] trivial ?_ (fun x => by (first | rfl | (simp only [List.append_eq, cnt_append, cnt_cons, cnt_nil, blk]; omega) | (simp only [List.append_eq, cnt_append, cnt_cons, cnt_nil, blk]; done)))
          rw [hf, Bool.and_false]; rfl
  · intro fr' h' hm
    (refine then_normal ?_)
    refine RunC.freezeR (h := h') (A := A1 ++ A2) ?_
    refine midN_out hm ?_
    rintro ⟨⟩ -
    refine run_condF rfl rfl ?_
    (refine run_skip ?_; refine then_normal ?_)
    refine RunC.perm (h' := [] ++ (A1 ++ A2)) (fun y => by (first | rfl | (simp only [List.append_eq, cnt_append, cnt_cons, cnt_nil, blk]; omega) | (simp only [List.append_eq, cnt_append, cnt_cons, cnt_nil, blk]; done))) ?_
    refine RunC.freezeR (h := []) (A := A1 ++ A2) ?_
    ((iterate 2 refine run_seq ?_); refine run_region ?_; refine xep rfl rfl ?_; refine runL_nil ?_; refine then_normal ?_; refine run_block ?_)
    refine run_loopK (σ := Nat) [3, 4, 5, 6] (fun i => [(3, .pointer (some ⟨b, 0, none⟩)), (4, .slice a1 n1 c1), (5, .slice a2 n2 c2), (6, .int .i64 i)]) (fun _ => []) (fun i => 1 ≤ i ∧ (i ≤ n1 ∨ i = 1)) (fun i => n1 - i) 1 ⟨Nat.le_refl _, .inr rfl⟩ rfl (fun _ => rfl) ?_
    rintro i ⟨g1, g2⟩
    ((iterate 2 refine run_seq ?_); refine run_region ?_; (iterate 2 refine xep rfl rfl ?_); refine xel rfl (ev_len rfl rfl (se rfl)) ?_; refine xep rfl rfl ?_; refine runL_nil ?_; refine then_normal ?_)
    (refine run_cond rfl (fun hc => ?_) (fun hc => ?_) <;> (try simp only [z0, z1, z2, z3, z4, z5, z6, z7, z8, z9, Bool.not_true, Bool.not_false, Bool.false_or, Bool.true_and, true_and, and_true, false_or, or_false, reduceCtorEq, Bool.false_eq_true] at hc))
    · obtain ⟨b1, o1, _, _, _, rfl, _⟩ := src1.pos (by omega)
      obtain ⟨x, hx⟩ : ∃ x, xs[i]? = some x := ⟨xs[i]'(by omega), List.getElem?_eq_getElem _⟩
      obtain ⟨y, hy⟩ : ∃ y, xs[i - 1]? = some y := ⟨xs[i - 1]'(by omega), List.getElem?_eq_getElem _⟩
      have l1 : AggF ((A1 ++ A2) ++ (H ++ F)) b1 (o1 + (i : Int).toNat * 9) x.cells := SrcIs.row oc_len src1 hx1 hx
      have l2 : AggF ((A1 ++ A2) ++ (H ++ F)) b1 (o1 + ((i : Int) - 1).toNat * 9) y.cells := by
        rw [show ((i : Int) - 1).toNat = i - 1 by omega]; exact SrcIs.row oc_len src1 hx1 hy
      have l3 := l1.at 5 _ rfl
      have l4 := l2.at 5 _ rfl
      have hs := sorted_at hs1 hy hx (by omega)
      have hs : decide (y.price < x.price) = false := hs
      (refine run_skip ?_; refine then_normal ?_; refine run_seq ?_; refine run_block ?_; refine run_seq ?_; refine run_region_draw mo (by kernel_rfl) ?_; (iterate 2 refine xqp rfl rfl ?_); refine xql rfl (ev_indexAddr rfl rfl rfl (se rfl) (by omega) (by omega)) ?_; refine xql rfl (ev_fieldAddr rfl rfl (fo rfl)) ?_; refine xql rfl (ev_loadF rfl rfl (sc rfl) l3) ?_; (iterate 2 refine xqp rfl rfl ?_); refine xql rfl (ev_sub rfl rfl rfl (by omega)) ?_; refine xql rfl (ev_indexAddr rfl rfl rfl (se rfl) (by omega) (by omega)) ?_; refine xql rfl (ev_fieldAddr rfl rfl (fo rfl)) ?_; refine xql rfl (ev_loadF rfl rfl (sc rfl) l4) ?_; refine xqp rfl rfl ?_; refine runQ_nil ?_; refine then_normal ?_)
      refine run_condF rfl hs ?_
      (refine run_skip ?_; refine in_normal ?_; refine then_normal ?_; refine run_region ?_; refine xep rfl rfl ?_; refine xel rfl (ev_add rfl rfl rfl (by omega)) ?_; refine xep rfl rfl ?_; refine runL_nil ?_; refine then_normal ?_)
      exact ⟨i + 1, ⟨by omega, by omega⟩, by omega, rfl, [], fun _ => rfl⟩
    · (refine run_exit ?_; (iterate 2 refine then_exit ?_); refine in_exit ?_; refine then_normal ?_)
      ((iterate 2 refine run_seq ?_); refine run_region ?_; refine xep rfl rfl ?_; refine runL_nil ?_; refine then_normal ?_; refine run_block ?_)
      refine run_loopK (σ := Nat) [3, 4, 5, 7] (fun i => [(3, .pointer (some ⟨b, 0, none⟩)), (4, .slice a1 n1 c1), (5, .slice a2 n2 c2), (7, .int .i64 i)]) (fun _ => []) (fun i => 1 ≤ i ∧ (i ≤ n2 ∨ i = 1)) (fun i => n2 - i) 1 ⟨Nat.le_refl _, .inr rfl⟩ rfl (fun _ => rfl) ?_
      rintro i ⟨g1, g2⟩
      ((iterate 2 refine run_seq ?_); refine run_region ?_; (iterate 2 refine xep rfl rfl ?_); refine xel rfl (ev_len rfl rfl (se rfl)) ?_; refine xep rfl rfl ?_; refine runL_nil ?_; refine then_normal ?_)
      (refine run_cond rfl (fun hc => ?_) (fun hc => ?_) <;> (try simp only [z0, z1, z2, z3, z4, z5, z6, z7, z8, z9, Bool.not_true, Bool.not_false, Bool.false_or, Bool.true_and, true_and, and_true, false_or, or_false, reduceCtorEq, Bool.false_eq_true] at hc))
      · obtain ⟨b1, o1, _, _, _, rfl, _⟩ := src2.pos (by omega)
        obtain ⟨x, hx⟩ : ∃ x, ys[i]? = some x := ⟨ys[i]'(by omega), List.getElem?_eq_getElem _⟩
        obtain ⟨y, hy⟩ : ∃ y, ys[i - 1]? = some y := ⟨ys[i - 1]'(by omega), List.getElem?_eq_getElem _⟩
        have l1 : AggF ((A1 ++ A2) ++ (H ++ F)) b1 (o1 + (i : Int).toNat * 9) x.cells := SrcIs.row oc_len src2 hx2 hx
        have l2 : AggF ((A1 ++ A2) ++ (H ++ F)) b1 (o1 + ((i : Int) - 1).toNat * 9) y.cells := by
          rw [show ((i : Int) - 1).toNat = i - 1 by omega]; exact SrcIs.row oc_len src2 hx2 hy
        have l3 := l1.at 5 _ rfl
        have l4 := l2.at 5 _ rfl
        have hs := sorted_at hs2 hy hx (by omega)
        have hs : decide (x.price < y.price) = false := hs
        (refine run_skip ?_; refine then_normal ?_; refine run_seq ?_; refine run_block ?_; refine run_seq ?_; refine run_region_draw mo (by kernel_rfl) ?_; (iterate 2 refine xqp rfl rfl ?_); refine xql rfl (ev_indexAddr rfl rfl rfl (se rfl) (by omega) (by omega)) ?_; refine xql rfl (ev_fieldAddr rfl rfl (fo rfl)) ?_; refine xql rfl (ev_loadF rfl rfl (sc rfl) l3) ?_; (iterate 2 refine xqp rfl rfl ?_); refine xql rfl (ev_sub rfl rfl rfl (by omega)) ?_; refine xql rfl (ev_indexAddr rfl rfl rfl (se rfl) (by omega) (by omega)) ?_; refine xql rfl (ev_fieldAddr rfl rfl (fo rfl)) ?_; refine xql rfl (ev_loadF rfl rfl (sc rfl) l4) ?_; refine xqp rfl rfl ?_; refine runQ_nil ?_; refine then_normal ?_)
        refine run_condF rfl hs ?_
        (refine run_skip ?_; refine in_normal ?_; refine then_normal ?_; refine run_region ?_; refine xep rfl rfl ?_; refine xel rfl (ev_add rfl rfl rfl (by omega)) ?_; refine xep rfl rfl ?_; refine runL_nil ?_; refine then_normal ?_)
        exact ⟨i + 1, ⟨by omega, by omega⟩, by omega, rfl, [], fun _ => rfl⟩
      · (refine run_exit ?_; (iterate 2 refine then_exit ?_); refine in_exit ?_; refine then_normal ?_)
        have hgd : decide (((n1 + n2 : Nat) : Int) = (n1 : Int) + n2) = true := decide_eq_true (by push_cast; omega)
        have y1 : (decide (((n1 + n2 : Nat) : Int) = (n1 : Int) + n2) && decide (((n1 + n2 : Nat) : Int) ≤ 64)) = true := by rw [hgd, decide_eq_true (by omega : ((n1 + n2 : Nat) : Int) ≤ 64)]; rfl
        (refine run_seq ?_; refine run_region ?_; refine xep rfl rfl ?_; refine xel rfl (ev_callQ rfl rfl rfl (pf rfl) (q2 ..)) ?_; refine xep rfl rfl ?_; refine xel rfl (ev_len rfl rfl (se rfl)) ?_; refine xep rfl rfl ?_; refine xel rfl (ev_len rfl rfl (se rfl)) ?_; refine xel rfl (ev_add rfl rfl rfl (by omega)) ?_; (iterate 2 refine xep rfl rfl ?_); refine runL_yes rfl rfl hgd ?_; refine xep rfl rfl ?_; refine runL_yes rfl rfl hgd ?_; refine xel rfl (ev_callQ rfl rfl rfl (pf rfl) (q2 ..)) ?_; refine runL_yes rfl rfl hgd ?_; (iterate 3 refine xep rfl rfl ?_); refine runL_yes rfl rfl y1 ?_; refine xel rfl (ev_callQ rfl rfl rfl (pf rfl) (q1 ..)) ?_; (iterate 2 refine xep rfl rfl ?_); refine runL_nil ?_; refine then_normal ?_; refine run_ret ?_)
        exact ⟨_, rfl, congrArg Value.bool (by rw [y1]; rfl)⟩
end Go.Proofs.Ytiilndlgfgikbaa
