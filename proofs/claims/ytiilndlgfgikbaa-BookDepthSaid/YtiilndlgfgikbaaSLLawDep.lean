/- Contracts of functions of the given program over its translation, each proved by walking its text; used by the laws' rows. It proves no given statement by itself. -/
import Derived.Test.YtiilndlgfgikbaaSLPlKX
import Derived.Test.YtiilndlgfgikbaaSLLaw10b
set_option autoImplicit false
set_option linter.unusedSectionVars false
set_option linter.unusedSimpArgs false
set_option linter.unusedVariables false
set_option maxRecDepth 4000
set_option maxHeartbeats 200000000
namespace Go.Proofs.Ytiilndlgfgikbaa
open Go Go.SL Go.Proofs
theorem imap : IntMap Try.prog 59 3 3 := ⟨by kernel_rfl, ⟨.i64, by kernel_rfl⟩, by kernel_rfl⟩
variable [Base]
theorem bookDepth_sp (F : Heap) (a : Option Addr) (len cap : Nat) (rs : List (List Int)) (hR : RowsF F a len 7 rs) (hC : len ≤ cap) (hM : cap ≤ 9223372036854775807) :
    Sp Try.prog F 10 [.slice a len cap] [] (Ret (.bool true)) := by
  have q1 := bookRuns_sp
  refine sp_of_code Try.func10 rfl rfl ?_
  (refine run_seq ?_; refine run_region ?_; refine xep rfl rfl ?_; refine runL_nil ?_; refine then_normal ?_; refine run_seq ?_; refine run_region ?_; refine xep rfl rfl ?_)
  refine runL_call0 rfl rfl rfl rfl rfl rfl rfl (pf rfl) (sp_bfilled _ a len cap rs (RowsF.mono hR fun x m => by simp [m]) (by omega) 50 (by omega)) ?_
  rintro v H ⟨b, rfl, hH⟩
  obtain ⟨hw, hn0, hn1⟩ := bfill_ok rs 50
  have hg := bfill_Gd rs 50
  generalize bfill rs 50 = B at *
  (refine xep rfl rfl ?_; refine runL_nil ?_; refine then_normal ?_; (iterate 2 refine run_seq ?_); refine run_region ?_; refine xep rfl rfl ?_; refine xel rfl (ev_eqNil rfl rfl rfl (pt rfl)) ?_; refine runL_nil ?_; refine then_normal ?_)
  refine run_condF rfl rfl ?_
  (refine run_skip ?_; refine then_normal ?_)
  refine RunC.perm (h' := [] ++ H) (fun y => by (first | rfl | (simp only [List.append_eq, cnt_append, cnt_cons, cnt_nil, blk]; omega) | (simp only [List.append_eq, cnt_append, cnt_cons, cnt_nil, blk]; done))) ?_
  refine RunC.freezeR (h := []) (A := H) ?_
  have hIn : BkIn (H ++ F) b B := hH.in fun x m => by simp [m]
  clear hH
  ((iterate 2 refine run_seq ?_); refine run_region ?_; refine xep rfl rfl ?_; refine runL_nil ?_; refine then_normal ?_; refine run_block ?_)
  refine run_loopK (σ := Nat) [3, 4] (fun s => [(3, .pointer (some ⟨b, 0, none⟩)), (4, .int .i64 s)]) (fun _ => []) (fun s => 1 ≤ s ∧ s ≤ 3) (fun s => 3 - s) 1 ⟨Nat.le_refl _, by omega⟩ rfl (fun _ => rfl) ?_
  rintro s ⟨g1, g2⟩
  ((iterate 2 refine run_seq ?_); refine run_region ?_; (iterate 2 refine xep rfl rfl ?_); refine runL_nil ?_; refine then_normal ?_)
  (refine run_cond rfl (fun hc => ?_) (fun hc => ?_) <;> (try simp only [z0, z1, z2, z3, z4, z5, z6, z7, z8, z9, Bool.not_true, Bool.not_false, Bool.false_or, Bool.true_and, true_and, and_true, false_or, or_false, reduceCtorEq, Bool.false_eq_true] at hc))
  · have hs12 : (s : Int) = 1 ∨ (s : Int) = 2 := by omega
    have hok := hw.side s
    have hsd := hg.side hs12
    have hfold := acc_levels (l := []) hsd.s1 hsd.a1 (fun lv m => (hok.1 lv m).2) (fun _ m => nomatch m)
    have hside : ∀ x ∈ ordersL (B.side s), x.side = s := fun x m => (orders_price hsd.a1 m).1
    have hqty : ∀ x ∈ ordersL (B.side s), 1 ≤ x.qty ∧ x.qty ≤ 1048576 := fun x m => orders_qty hok.1 m
    have hlen := ordersL_len (B.side s)
    have hdl : (depthL s (B.side s)).length = (B.side s).length := by unfold depthL; rw [List.length_map]
    have hgl := lenL_ge hok.1
    have hdat := fun (i : Nat) x (h : (depthL s (B.side s))[i]? = some x) => depth_at hok.1 hsd.s1 h
    have hwl : (wholes (B.side s)).length = (B.side s).length := by unfold wholes; rw [List.length_map]
    have hl64 := hok.2
    (refine run_skip ?_; refine then_normal ?_; refine run_seq ?_; refine run_block ?_; refine run_seq ?_; refine run_region ?_)
    refine runL_makeMap rfl rfl rfl rfl rfl (fun bm => ?_)
    (refine xep rfl rfl ?_; refine runL_nil ?_; refine then_normal ?_; (iterate 2 refine run_seq ?_); refine run_region ?_; (iterate 2 refine xep rfl rfl ?_))
    refine runL_callZ [(bm, Obj.map ⟨[]⟩ 0)] [] rfl rfl rfl rfl rfl rfl rfl (pf rfl) (fun y => by (first | rfl | (simp only [List.append_eq, cnt_append, cnt_cons, cnt_nil, blk]; omega) | (simp only [List.append_eq, cnt_append, cnt_cons, cnt_nil, blk]; done))) (sp_borders _ b B hIn.up hw s) ?_
    rintro v A5 own5
    obtain ⟨a5, c5, rfl, own5⟩ := own5.at
    rw [List.nil_append] at hfold
    generalize ordersL (B.side s) = xs at *
    (refine xel rfl (ev_len rfl rfl (se rfl)) ?_; refine xep rfl rfl ?_; refine runL_nil ?_; refine then_normal ?_; refine run_block ?_; refine RunC.whole rfl ?_)
    refine RunC.perm (h' := [(bm, Obj.map ⟨[]⟩ 0)] ++ A5) (fun y => by (first | rfl | (simp only [List.append_eq, cnt_append, cnt_cons, cnt_nil, blk]; omega) | (simp only [List.append_eq, cnt_append, cnt_cons, cnt_nil, blk]; done))) ?_
    refine RunC.freezeR (h := [(bm, Obj.map ⟨[]⟩ 0)]) (A := A5) ?_
    have src5 := own5.src (H := A5 ++ (H ++ F)) fun y m => by simp [m]
    clear own5
    refine run_loopK (σ := Nat × Array MapEntry × Nat) [3, 4, 5, 22, 23, 24] (fun t => [(3, .pointer (some ⟨b, 0, none⟩)), (4, .int .i64 s), (5, .map (some bm)), (22, .slice a5 xs.length c5), (23, .int .i64 xs.length), (24, .int .i64 t.1)]) (fun t => [(bm, Obj.map t.2.1 t.2.2)])
      (fun t => t.1 ≤ xs.length ∧ EsIs t.2.1 ((xs.take t.1).foldl accP [])) (fun t => xs.length - t.1) (0, ⟨[]⟩, 0) ⟨Nat.zero_le _, rfl⟩ rfl (fun _ => rfl) ?_
    rintro ⟨i, es, n⟩ ⟨gi, hes⟩
    dsimp only at gi hes ⊢
    obtain ⟨an, asv⟩ := acc_ok (os := xs.take i) (l := []) (fun x m => (hqty x (List.mem_of_mem_take m)).1) (fun _ m => nomatch m)
    have hpt := sumO_part hqty i
    (refine run_seq ?_; refine run_region ?_; refine xep rfl rfl ?_; refine runL_nil ?_; refine then_normal ?_; refine run_seq ?_)
    (refine run_cond rfl (fun hc => ?_) (fun hc => ?_) <;> (try simp only [z0, z1, z2, z3, z4, z5, z6, z7, z8, z9, Bool.not_true, Bool.not_false, Bool.false_or, Bool.true_and, true_and, and_true, false_or, or_false, reduceCtorEq, Bool.false_eq_true] at hc))
    · obtain ⟨b2, off, _, _, _, rfl, _⟩ := src5.pos (by omega)
      obtain ⟨x, hx⟩ : ∃ x, xs[i]? = some x := ⟨xs[i]'(by omega), List.getElem?_eq_getElem _⟩
      have l1 := SrcIs.row oc_len src5 rfl hx
      have hxs := hside x (List.mem_of_getElem? hx)
      have hxq := hqty x (List.mem_of_getElem? hx)
      have hft := fold_take hx
      have hgi := getI_le (k := x.price) an
      simp only [sumV] at asv
      (refine run_skip ?_; refine then_normal ?_; refine run_seq ?_; refine run_block ?_; refine run_seq ?_; refine run_region ?_; refine xel rfl (ev_indexAddr rfl rfl rfl (se rfl) (by omega) (by omega)) ?_; refine xel rfl (ev_loadAF rfl rfl (ag rfl) (sz rfl) l1 rfl) ?_; refine runL_alloc rfl rfl rfl rfl rfl ze25 (fun _ => ?_); refine runL_store0 rfl rfl rfl rfl rfl (sz rfl) rfl rfl rfl rfl rfl ?_; refine runL_nil ?_; refine then_normal ?_; (iterate 2 refine run_seq ?_); refine run_region ?_; refine xel rfl (ev_fieldAddr rfl rfl (fo rfl)) ?_; refine xel rfl (ev_loadK rfl rfl (sc rfl) (memF (.head _)) rfl) ?_; (iterate 2 refine xep rfl rfl ?_); refine runL_nil ?_; refine then_normal ?_)
      rename_i xo
      refine run_condF rfl (by rw [decide_eq_true hxs]; rfl) ?_
      (refine run_skip ?_; refine then_normal ?_; refine run_region ?_; refine xep rfl rfl ?_; refine xel rfl (ev_fieldAddr rfl rfl (fo rfl)) ?_; refine xel rfl (ev_loadK rfl rfl (sc rfl) (memF (.head _)) rfl) ?_; refine xep rfl rfl ?_; refine xel rfl (ev_fieldAddr rfl rfl (fo rfl)) ?_; refine xel rfl (ev_loadK rfl rfl (sc rfl) (memF (.head _)) rfl) ?_)
      refine RunL.perm (h' := (bm, Obj.map es n) :: [blk xo x.cells 25]) (fun y => by show cnt y (blk xo x.cells 25 :: [(bm, Obj.map es n)]) = _; (first | rfl | (simp only [List.append_eq, cnt_append, cnt_cons, cnt_nil, blk]; omega) | (simp only [List.append_eq, cnt_append, cnt_cons, cnt_nil, blk]; done))) ?_
      refine runL_ev rfl rfl rfl rfl (ev_lookupI rfl rfl rfl imap hes (List.mem_cons_self ..)) ?_
      (refine xel rfl (ev_fieldAddr rfl rfl (fo rfl)) ?_; refine xel rfl (ev_loadK rfl rfl (sc rfl) (memF (.tail _ (.head _))) rfl) ?_; refine xel rfl (ev_add rfl rfl rfl (by omega)) ?_)
      refine runL_mapPutI rfl rfl rfl rfl rfl rfl imap hes (fun es' n' hes' => ?_)
      (refine runL_nil ?_; refine in_normal ?_; refine then_normal ?_; refine run_region ?_; refine xel rfl (ev_add rfl rfl rfl (by omega)) ?_; refine xep rfl rfl ?_; refine runL_nil ?_; refine then_normal ?_)
      refine ⟨(i + 1, es', n'), ⟨by show i + 1 ≤ _; omega, by show EsIs es' _; rw [hft]; exact hes'⟩, by show xs.length - (i + 1) < xs.length - i; omega, rfl, [blk xo x.cells 25], fun y => by (first | rfl | (simp only [List.append_eq, cnt_append, cnt_cons, cnt_nil, blk]; omega) | (simp only [List.append_eq, cnt_append, cnt_cons, cnt_nil, blk]; done))⟩
    · have hi : i = xs.length := by omega
      subst hi
      rw [List.take_length, hfold] at hes
      (refine run_exit ?_; (iterate 2 refine then_exit ?_); refine in_exit ?_; refine then_normal ?_)
      refine RunC.perm (h' := [] ++ ([(bm, Obj.map es n)] ++ A5)) (fun y => by (first | rfl | (simp only [List.append_eq, cnt_append, cnt_cons, cnt_nil, blk]; omega) | (simp only [List.append_eq, cnt_append, cnt_cons, cnt_nil, blk]; done))) ?_
      have hm : (bm, Obj.map es n) ∈ ([(bm, Obj.map es n)] ++ A5) ++ (H ++ F) := by simp
      have hIn2 : BkIn (([(bm, Obj.map es n)] ++ A5) ++ (H ++ F)) b B := hIn.up
      clear src5
      generalize [(bm, Obj.map es n)] ++ A5 = M5 at *
      refine RunC.freezeR (h := []) (A := M5) ?_
      (refine run_seq ?_; refine run_region ?_; (iterate 2 refine xep rfl rfl ?_))
      refine runL_callZ [] [] rfl rfl rfl rfl rfl rfl rfl (pf rfl) (fun y => by (first | rfl | (simp only [List.append_eq, cnt_append, cnt_cons, cnt_nil, blk]; omega) | (simp only [List.append_eq, cnt_append, cnt_cons, cnt_nil, blk]; done))) (sp_bdepth _ b B hIn2.up hw s) ?_
      rintro v A6 own6
      obtain ⟨a6, c6, rfl, own6⟩ := own6.at
      (refine xep rfl rfl ?_; refine runL_nil ?_; refine then_normal ?_; (iterate 2 refine run_seq ?_); refine run_region ?_; refine xep rfl rfl ?_; refine xel rfl (ev_len rfl rfl (se rfl)) ?_; refine xep rfl rfl ?_)
      refine runL_ev rfl rfl rfl rfl (ev_lenM rfl rfl imap hes (List.mem_append_right _ hm)) ?_
      rw [hwl]
      (refine xep rfl rfl ?_; refine runL_nil ?_; refine then_normal ?_; refine RunC.whole rfl ?_)
      refine run_condF rfl (by simp) ?_
      (refine run_skip ?_; refine then_normal ?_)
      (refine run_seq ?_; refine run_region ?_; refine xep rfl rfl ?_; refine xel rfl (ev_len rfl rfl (se rfl)) ?_; refine xep rfl rfl ?_; refine runL_nil ?_; refine then_normal ?_; refine run_block ?_)
      have src6 := own6.src (H := A6 ++ (M5 ++ (H ++ F))) fun y m => by simp [m]
      clear own6
      generalize depthL s (B.side s) = ds at *
      generalize wholes (B.side s) = ws at *
      rw [← hdl] at src6 ⊢
      refine RunC.perm (h' := [] ++ A6) (fun y => by (first | rfl | (simp only [List.append_eq, cnt_append, cnt_cons, cnt_nil, blk]; omega) | (simp only [List.append_eq, cnt_append, cnt_cons, cnt_nil, blk]; done))) ?_
      refine RunC.freezeR (h := []) (A := A6) ?_
      refine run_loopK (σ := Nat) [3, 4, 5, 8, 51, 52, 53] (fun i => [(3, .pointer (some ⟨b, 0, none⟩)), (4, .int .i64 s), (5, .map (some bm)), (8, .slice a6 ds.length c6), (51, .slice a6 ds.length c6), (52, .int .i64 ds.length), (53, .int .i64 i)]) (fun _ => []) (fun i => i ≤ ds.length) (fun i => ds.length - i) 0 (Nat.zero_le _) rfl (fun _ => rfl) ?_
      intro i gi
      (refine run_seq ?_; refine run_region ?_; refine xep rfl rfl ?_; refine runL_nil ?_; refine then_normal ?_; refine run_seq ?_)
      (refine run_cond rfl (fun hc => ?_) (fun hc => ?_) <;> (try simp only [z0, z1, z2, z3, z4, z5, z6, z7, z8, z9, Bool.not_true, Bool.not_false, Bool.false_or, Bool.true_and, true_and, and_true, false_or, or_false, reduceCtorEq, Bool.false_eq_true] at hc))
      · obtain ⟨b2, off, _, _, _, rfl, _⟩ := src6.pos (by omega)
        obtain ⟨x, hx⟩ : ∃ x, ds[i]? = some x := ⟨ds[i]'(by omega), List.getElem?_eq_getElem _⟩
        obtain ⟨d1, d2, d3⟩ := hdat i x hx
        have l1 := SrcIs.row hcell_len src6 rfl hx
        (refine run_skip ?_; refine then_normal ?_; refine run_seq ?_; refine run_block ?_; refine run_seq ?_; refine run_region ?_; refine xep rfl rfl ?_; refine xel rfl (ev_indexAddr rfl rfl rfl (se rfl) (by omega) (by omega)) ?_; refine xel rfl (ev_loadAF rfl rfl (ag rfl) (sz rfl) l1 rfl) ?_; refine runL_alloc rfl rfl rfl rfl rfl ze39 (fun _ => ?_); refine xep rfl rfl ?_; refine runL_store0 rfl rfl rfl rfl rfl (sz rfl) rfl rfl rfl rfl rfl ?_; refine runL_nil ?_; refine then_normal ?_; refine run_seq ?_)
        rename_i xg
        refine RunC.perm (h' := [] ++ [blk xg (hcell x) 39]) (fun y => rfl) ?_
        have y1 : decide (x.2 < 1) = false := decide_eq_false (by omega)
        have y2 : (decide (x.2 < 1) || decide (getI x.1.price ws < x.2)) = false := by rw [y1, decide_eq_false (by omega)]; rfl
        have g1 : AggF ([blk xg (hcell x) 39] ++ (A6 ++ (M5 ++ (H ++ F)))) xg 0 (hcell x) := ⟨_, _, _, memF (.head _), Nat.le_refl _, rfl⟩
        have l2 := g1.at 9 _ rfl
        have l3 := g1.at 5 _ rfl
        refine run_midO (σ := Unit) [3, 4, 5, 8, 51, 52, 53] (fun _ => [(89, .bool false)]) (fun _ => [blk xg (hcell x) 39]) (fun _ => True) rfl ?_ ?_
        · refine RunC.freezeR ?_
          by_cases h0 : i = 0
          · subst h0
            have y3 : decide ((0 : Int) < ((0 : Nat) : Int)) = false := rfl
            have hge : false = false := rfl
            refine run_region_D mo ?_
            (refine runD_q 0 rfl rfl (by kernel_rfl) ?_; refine ⟨_, fun _ => ev_fieldAddr rfl rfl (fo rfl), ?_⟩; refine runD_q 1 rfl rfl (by kernel_rfl) ?_; refine ⟨_, fun _ => ev_loadK rfl rfl (sc rfl) (memR (memF (.head _))) rfl, ?_⟩; refine runD_q 2 rfl rfl (by kernel_rfl) ?_; refine ⟨_, fun _ => ev_pure rfl, ?_⟩; refine runD_q 3 rfl rfl (by kernel_rfl) ?_; refine ⟨_, fun _ => ev_pure rfl, ?_⟩; refine runD_gq 4 rfl rfl rfl rfl rfl rfl y1 (by kernel_rfl) ?_; refine ⟨_, fun _ => ev_fieldAddr rfl rfl (fo rfl), ?_⟩; refine runD_gq 5 rfl rfl rfl rfl rfl rfl y1 (by kernel_rfl) ?_; refine ⟨_, fun _ => ev_loadK rfl rfl (sc rfl) (memR (memF (.head _))) rfl, ?_⟩; refine runD_gq 6 rfl rfl rfl rfl rfl rfl y1 (by kernel_rfl) ?_; refine ⟨_, fun _ => ev_pure rfl, ?_⟩; refine runD_gq 7 rfl rfl rfl rfl rfl rfl y1 (by kernel_rfl) ?_; refine ⟨_, fun _ => ev_fieldAddr rfl rfl (fo rfl), ?_⟩; refine runD_gq 8 rfl rfl rfl rfl rfl rfl y1 (by kernel_rfl) ?_; refine ⟨_, fun _ => ev_fieldAddr rfl rfl (fo rfl), ?_⟩; refine runD_gq 9 rfl rfl rfl rfl rfl rfl y1 (by kernel_rfl) ?_; refine ⟨_, fun _ => ev_loadK rfl rfl (sc rfl) (memR (memF (.head _))) rfl, ?_⟩; refine runD_g1 10 (by kernel_rfl) rfl rfl rfl rfl y1 rfl rfl ?_)
            refine runL_ev rfl rfl rfl rfl (ev_lookupI rfl rfl rfl imap hes (List.mem_append_right _ (List.mem_append_right _ (List.mem_append_right _ hm)))) ?_
            (refine runL_nil ?_; refine endS_d rfl ?_; refine runD_gq 11 rfl rfl rfl rfl rfl rfl y1 (by kernel_rfl) ?_; refine ⟨_, fun _ => ev_pure rfl, ?_⟩; refine runD_q 12 rfl rfl (by kernel_rfl) ?_; refine ⟨_, fun _ => ev_pure rfl, ?_⟩; refine runD_q 13 rfl rfl (by kernel_rfl) ?_; refine ⟨_, fun _ => ev_pure rfl, ?_⟩; refine runD_gq 14 rfl rfl rfl rfl rfl rfl y2 (by kernel_rfl) ?_; refine ⟨_, fun _ => ev_pure rfl, ?_⟩; refine runD_gq 15 rfl rfl rfl rfl rfl rfl y2 (by kernel_rfl) ?_; refine ⟨_, fun _ => ev_pure rfl, ?_⟩; refine runD_gq 16 rfl rfl rfl rfl rfl rfl y2 (by kernel_rfl) ?_; refine ⟨_, fun _ => ev_pure rfl, ?_⟩; refine runD_gn 17 rfl rfl rfl rfl rfl rfl hge (by kernel_rfl) ?_; refine runD_gn 18 rfl rfl rfl rfl rfl rfl hge (by kernel_rfl) ?_; refine runD_gn 19 rfl rfl rfl rfl rfl rfl hge (by kernel_rfl) ?_; refine runD_gn 20 rfl rfl rfl rfl rfl rfl hge (by kernel_rfl) ?_; refine runD_gn 21 rfl rfl rfl rfl rfl rfl hge (by kernel_rfl) ?_; refine runD_gn 22 rfl rfl rfl rfl rfl rfl hge (by kernel_rfl) ?_; refine runD_gn 23 rfl rfl rfl rfl rfl rfl hge (by kernel_rfl) ?_; refine runD_gn 24 rfl rfl rfl rfl rfl rfl hge (by kernel_rfl) ?_; refine runD_gn 25 rfl rfl rfl rfl rfl rfl hge (by kernel_rfl) ?_; refine runD_gn 26 rfl rfl rfl rfl rfl rfl hge (by kernel_rfl) ?_; refine runD_gn 27 rfl rfl rfl rfl rfl rfl hge (by kernel_rfl) ?_; refine runD_gn 28 rfl rfl rfl rfl rfl rfl hge (by kernel_rfl) ?_; refine runD_gn 29 rfl rfl rfl rfl rfl rfl hge (by kernel_rfl) ?_; refine runD_gq 30 rfl rfl rfl rfl rfl rfl y2 (by kernel_rfl) ?_; refine ⟨_, fun _ => ev_pickF rfl rfl hge rfl, ?_⟩; refine runD_q 31 rfl rfl (by kernel_rfl) ?_; refine ⟨_, fun _ => ev_pure rfl, ?_⟩; refine runD_done (by kernel_rfl) ?_)
            refine midN () [] trivial ?_ (fun y => by (first | rfl | (simp only [List.append_eq, cnt_append, cnt_cons, cnt_nil, blk]; omega) | (simp only [List.append_eq, cnt_append, cnt_cons, cnt_nil, blk]; done)))
            rw [y2]; rfl
          · have y3 : decide ((0 : Int) < (i : Int)) = true := decide_eq_true (by omega)
            obtain ⟨y, hy⟩ : ∃ y, ds[i - 1]? = some y := ⟨ds[i - 1]'(by omega), List.getElem?_eq_getElem _⟩
            have hb := d3 y (by omega) hy
            have l4 : AggF ([blk xg (hcell x) 39] ++ (A6 ++ (M5 ++ (H ++ F)))) b2 (off + ((i : Int) - 1).toNat * 10) (hcell y) := by
              rw [show ((i : Int) - 1).toNat = i - 1 by omega]; exact (SrcIs.row hcell_len src6 rfl hy).up
            have l5 := l4.at 5 _ rfl
            have q5 := fun F => sp_better F s y.1.price x.1.price
            refine run_region_D mo ?_
            (refine runD_q 0 rfl rfl (by kernel_rfl) ?_; refine ⟨_, fun _ => ev_fieldAddr rfl rfl (fo rfl), ?_⟩; refine runD_q 1 rfl rfl (by kernel_rfl) ?_; refine ⟨_, fun _ => ev_loadK rfl rfl (sc rfl) (memR (memF (.head _))) rfl, ?_⟩; refine runD_q 2 rfl rfl (by kernel_rfl) ?_; refine ⟨_, fun _ => ev_pure rfl, ?_⟩; refine runD_q 3 rfl rfl (by kernel_rfl) ?_; refine ⟨_, fun _ => ev_pure rfl, ?_⟩; refine runD_gq 4 rfl rfl rfl rfl rfl rfl y1 (by kernel_rfl) ?_; refine ⟨_, fun _ => ev_fieldAddr rfl rfl (fo rfl), ?_⟩; refine runD_gq 5 rfl rfl rfl rfl rfl rfl y1 (by kernel_rfl) ?_; refine ⟨_, fun _ => ev_loadK rfl rfl (sc rfl) (memR (memF (.head _))) rfl, ?_⟩; refine runD_gq 6 rfl rfl rfl rfl rfl rfl y1 (by kernel_rfl) ?_; refine ⟨_, fun _ => ev_pure rfl, ?_⟩; refine runD_gq 7 rfl rfl rfl rfl rfl rfl y1 (by kernel_rfl) ?_; refine ⟨_, fun _ => ev_fieldAddr rfl rfl (fo rfl), ?_⟩; refine runD_gq 8 rfl rfl rfl rfl rfl rfl y1 (by kernel_rfl) ?_; refine ⟨_, fun _ => ev_fieldAddr rfl rfl (fo rfl), ?_⟩; refine runD_gq 9 rfl rfl rfl rfl rfl rfl y1 (by kernel_rfl) ?_; refine ⟨_, fun _ => ev_loadK rfl rfl (sc rfl) (memR (memF (.head _))) rfl, ?_⟩; refine runD_g1 10 (by kernel_rfl) rfl rfl rfl rfl y1 rfl rfl ?_)
            refine runL_ev rfl rfl rfl rfl (ev_lookupI rfl rfl rfl imap hes (List.mem_append_right _ (List.mem_append_right _ (List.mem_append_right _ hm)))) ?_
            (refine runL_nil ?_; refine endS_d rfl ?_; refine runD_gq 11 rfl rfl rfl rfl rfl rfl y1 (by kernel_rfl) ?_; refine ⟨_, fun _ => ev_pure rfl, ?_⟩; refine runD_q 12 rfl rfl (by kernel_rfl) ?_; refine ⟨_, fun _ => ev_pure rfl, ?_⟩; refine runD_q 13 rfl rfl (by kernel_rfl) ?_; refine ⟨_, fun _ => ev_pure rfl, ?_⟩; refine runD_gq 14 rfl rfl rfl rfl rfl rfl y2 (by kernel_rfl) ?_; refine ⟨_, fun _ => ev_pure rfl, ?_⟩; refine runD_gq 15 rfl rfl rfl rfl rfl rfl y2 (by kernel_rfl) ?_; refine ⟨_, fun _ => ev_pure rfl, ?_⟩; refine runD_gq 16 rfl rfl rfl rfl rfl rfl y2 (by kernel_rfl) ?_; refine ⟨_, fun _ => ev_pure rfl, ?_⟩; refine runD_gq 17 rfl rfl rfl rfl rfl rfl y3 (by kernel_rfl) ?_; refine ⟨_, fun _ => ev_pure rfl, ?_⟩; refine runD_gq 18 rfl rfl rfl rfl rfl rfl y3 (by kernel_rfl) ?_; refine ⟨_, fun _ => ev_pure rfl, ?_⟩; refine runD_gq 19 rfl rfl rfl rfl rfl rfl y3 (by kernel_rfl) ?_; refine ⟨_, fun _ => ev_pure rfl, ?_⟩; refine runD_gq 20 rfl rfl rfl rfl rfl rfl y3 (by kernel_rfl) ?_; refine ⟨_, fun _ => ev_sub rfl rfl rfl (by omega), ?_⟩; refine runD_gq 21 rfl rfl rfl rfl rfl rfl y3 (by kernel_rfl) ?_; refine ⟨_, fun _ => ev_indexAddr rfl rfl rfl (se rfl) (by omega) (by omega), ?_⟩; refine runD_gq 22 rfl rfl rfl rfl rfl rfl y3 (by kernel_rfl) ?_; refine ⟨_, fun _ => ev_fieldAddr rfl rfl (fo rfl), ?_⟩; refine runD_gq 23 rfl rfl rfl rfl rfl rfl y3 (by kernel_rfl) ?_; refine ⟨_, fun _ => ev_fieldAddr rfl rfl (fo rfl), ?_⟩; refine runD_gq 24 rfl rfl rfl rfl rfl rfl y3 (by kernel_rfl) ?_; refine ⟨_, fun _ => ev_loadF rfl rfl (sc rfl) l5, ?_⟩; refine runD_gq 25 rfl rfl rfl rfl rfl rfl y3 (by kernel_rfl) ?_; refine ⟨_, fun _ => ev_fieldAddr rfl rfl (fo rfl), ?_⟩; refine runD_gq 26 rfl rfl rfl rfl rfl rfl y3 (by kernel_rfl) ?_; refine ⟨_, fun _ => ev_fieldAddr rfl rfl (fo rfl), ?_⟩; refine runD_gq 27 rfl rfl rfl rfl rfl rfl y3 (by kernel_rfl) ?_; refine ⟨_, fun _ => ev_loadK rfl rfl (sc rfl) (memR (memF (.head _))) rfl, ?_⟩; refine runD_gq 28 rfl rfl rfl rfl rfl rfl y3 (by kernel_rfl) ?_; refine ⟨_, fun _ => ev_callQ rfl rfl rfl (pf rfl) (q5 ..), ?_⟩; refine runD_gq 29 rfl rfl rfl rfl rfl rfl y3 (by kernel_rfl) ?_; refine ⟨_, fun _ => ev_pure rfl, ?_⟩; refine runD_gq 30 rfl rfl rfl rfl rfl rfl y2 (by kernel_rfl) ?_; refine ⟨_, fun _ => ev_pure rfl, ?_⟩; refine runD_q 31 rfl rfl (by kernel_rfl) ?_; refine ⟨_, fun _ => ev_pure rfl, ?_⟩; refine runD_done (by kernel_rfl) ?_)
            refine midN () [] trivial ?_ (fun y => by (first | rfl | (simp only [List.append_eq, cnt_append, cnt_cons, cnt_nil, blk]; omega) | (simp only [List.append_eq, cnt_append, cnt_cons, cnt_nil, blk]; done)))
            rw [y2, hb, Bool.not_true, Bool.and_false]; rfl
        · intro fr' h' hm2
          (refine then_normal ?_)
          refine midN_out hm2 ?_
          rintro ⟨⟩ -
          refine run_condF rfl rfl ?_
          (refine run_skip ?_; refine in_normal ?_; refine then_normal ?_; refine run_region ?_; refine xel rfl (ev_add rfl rfl rfl (by omega)) ?_; refine xep rfl rfl ?_; refine runL_nil ?_; refine then_normal ?_)
          exact ⟨i + 1, by omega, by omega, rfl, [blk xg (hcell x) 39], fun y => by (first | rfl | (simp only [List.append_eq, cnt_append, cnt_cons, cnt_nil, blk]; omega) | (simp only [List.append_eq, cnt_append, cnt_cons, cnt_nil, blk]; done))⟩
      · (refine run_exit ?_; (iterate 2 refine then_exit ?_); refine in_exit ?_; refine in_normal ?_; refine then_normal ?_)
        (refine run_region ?_; refine xep rfl rfl ?_; refine xel rfl (ev_add rfl rfl rfl (by omega)) ?_; refine xep rfl rfl ?_; refine runL_nil ?_; refine then_normal ?_)
        exact ⟨s + 1, ⟨by omega, by omega⟩, by omega, rfl, _, fun _ => rfl⟩
  · (refine run_exit ?_; (iterate 2 refine then_exit ?_); refine in_exit ?_; refine then_normal ?_)
    have hgd : true = true := rfl
    (refine run_seq ?_; refine run_region ?_; refine xep rfl rfl ?_)
    refine runL_callZ [] [] rfl rfl rfl rfl rfl rfl rfl (pf rfl) (fun y => by (first | rfl | (simp only [List.append_eq, cnt_append, cnt_cons, cnt_nil, blk]; omega) | (simp only [List.append_eq, cnt_append, cnt_cons, cnt_nil, blk]; done))) (sp_bdepth _ b B hIn.up hw 0) ?_
    rintro v A7 own7
    obtain ⟨a7, c7, rfl, own7⟩ := own7.at
    have e0 : (B.side 0).length = 0 := rfl
    rw [e0]
    (refine xel rfl (ev_len rfl rfl (se rfl)) ?_; (iterate 2 refine xep rfl rfl ?_); refine runL_yes rfl rfl hgd ?_; refine xep rfl rfl ?_; refine runL_yes rfl rfl hgd ?_)
    refine runL_callZ A7 [] rfl rfl rfl rfl rfl rfl rfl (pf rfl) (fun y => by (first | rfl | (simp only [List.append_eq, cnt_append, cnt_cons, cnt_nil, blk]; omega) | (simp only [List.append_eq, cnt_append, cnt_cons, cnt_nil, blk]; done))) (sp_borders _ b B hIn.up hw 3) ?_
    rintro v A8 own8
    obtain ⟨a8, c8, rfl, own8⟩ := own8.at
    have e3 : (ordersL (B.side 3)).length = 0 := rfl
    rw [e3]
    (refine runL_yes rfl rfl hgd ?_; refine xel rfl (ev_len rfl rfl (se rfl)) ?_; refine runL_yes rfl rfl hgd ?_; (iterate 3 refine xep rfl rfl ?_); refine runL_yes rfl rfl hgd ?_; refine xel rfl (ev_callQ rfl rfl rfl (pf rfl) (q1 ..)) ?_; (iterate 2 refine xep rfl rfl ?_); refine runL_nil ?_; refine then_normal ?_; refine run_ret ?_)
    exact ⟨_, rfl, rfl⟩
end Go.Proofs.Ytiilndlgfgikbaa
