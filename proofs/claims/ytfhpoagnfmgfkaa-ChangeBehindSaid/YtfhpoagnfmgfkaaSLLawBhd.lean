/- Contracts of functions of the given program over its translation, each proved by walking its text; used by the laws' rows. It proves no given statement by itself. -/
import Derived.Test.YtfhpoagnfmgfkaaSLPlRPX
import Derived.Test.YtfhpoagnfmgfkaaSLStFlX
set_option autoImplicit false
set_option linter.unusedSectionVars false
set_option linter.unusedSimpArgs false
set_option linter.unusedVariables false
set_option maxRecDepth 4000
set_option maxHeartbeats 100000000
namespace Go.Proofs.Ytfhpoagnfmgfkaa
open Go Go.SL Go.Proofs
variable [Base]
theorem amend_more {t i p q : Int} {M : Mk} {x : Ord} (h : mfind t i M = (x, true)) (hr : rightP (amO x p q)) (hp : p ≠ x.price ∨ x.qty < q) : mamend t i p q M = ((madd (amO x p q) (mremove t i M).2.2).1, 0, (madd (amO x p q) (mremove t i M).2.2).2) := by
  unfold mamend
  rw [h, if_neg (by simp), if_neg (by unfold right; rw [if_pos hr]; decide), if_neg (fun hc => by dsimp only at hc; rcases hp with hp | hp <;> omega)]
theorem changeBehind_sp (F : Heap) (a : Option Addr) (len cap : Nat) (rs : List (List Int)) (at_ more : Int) (hR : RowsF F a len 7 rs) (hC : len ≤ cap) (hM : cap ≤ 9223372036854775807) (hat : InI at_) (hmo : InI more) :
    Sp Try.prog F 6 [.slice a len cap, .int .i64 at_, .int .i64 more] [] (Ret (.bool true)) := by
  have q3 := changeRuns_sp
  refine sp_of_code Try.func6 rfl rfl ?_
  (refine run_seq ?_; refine run_region ?_; refine xep rfl rfl ?_; refine runL_nil ?_; refine then_normal ?_; refine run_seq ?_; refine run_region ?_; refine xep rfl rfl ?_)
  refine runL_call0 rfl rfl rfl rfl rfl rfl rfl (pf rfl) (sp_filled12 _ a len cap rs (RowsF.mono hR fun x m => by simp [m]) (by omega)) ?_
  rintro v H ⟨m, rfl, hH⟩
  have hok := mfill_ok rs 40
  have hsm := mfill_sum rs 40
  generalize mfill rs 40 = M at *
  have hno := hok.no
  have hw := hok.w
  have hn0 := hw.no
  have hml := mall_len M
  have hl64 := hw.len
  have hwl : M.W.length ≤ 64 := by have := hw.len; unfold mlen at this; omega
  obtain ⟨b, aw, cw, HB, AW, hB, ownW, hHe⟩ := hH
  have hmem : ∀ G : Heap, blk m [.pointer (some ⟨b, 0, none⟩), .slice aw M.W.length cw] 67 ∈ H ++ G := fun G => by rw [hHe]; simp
  have hmem2 : ∀ K G : Heap, blk m [.pointer (some ⟨b, 0, none⟩), .slice aw M.W.length cw] 67 ∈ (H ++ K) ++ G := fun K G => by rw [hHe]; simp
  have hBi : ∀ K G : Heap, BkIn ((H ++ K) ++ G) b M.B := fun K G => hB.in fun y my => by rw [hHe]; simp [my]
  have hH : MkH m M H := ⟨b, aw, cw, HB, AW, hB, ownW, hHe⟩
  have hge : (Option.isNone (some (⟨m, 0, none⟩ : Addr))) = false := rfl
  (refine xep rfl rfl ?_; refine runL_nil ?_; refine then_normal ?_; (iterate 2 refine run_seq ?_); refine run_region ?_; refine xep rfl rfl ?_; refine xel rfl (ev_eqNil rfl rfl rfl (pt rfl)) ?_; refine xep rfl rfl ?_; refine runL_yes rfl rfl hge ?_; refine xep rfl rfl ?_; refine runL_yes rfl rfl hge ?_)
  refine runL_ev rfl rfl rfl rfl (ev_callQ rfl rfl rfl (pf rfl) (sp_sbook _ m b aw _ cw (hmem2 _ _))) ?_
  (refine runL_yes rfl rfl hge ?_; refine xel rfl (ev_eqNil rfl rfl rfl (pt rfl)) ?_; refine xep rfl rfl ?_; refine runL_nil ?_; refine then_normal ?_)
  refine run_condF rfl rfl ?_
  clear hge
  (refine run_skip ?_; refine then_normal ?_; refine run_seq ?_; refine run_region ?_; refine xep rfl rfl ?_)
  refine runL_callZ H [] rfl rfl rfl rfl rfl rfl rfl (pf rfl) (fun y => by (first | rfl | (simp only [List.append_eq, cnt_append, cnt_cons, cnt_nil, blk]; omega) | (simp only [List.append_eq, cnt_append, cnt_cons, cnt_nil, blk]; done))) (sp_sall _ m M (hH.in fun x mx => by simp [mx]) hw.b hw.len) ?_
  rintro v A7 own7
  obtain ⟨a7, c7, rfl, own7⟩ := own7.at
  (refine xep rfl rfl ?_)
  refine runL_nil ?_
  (refine then_normal ?_)
  refine RunC.freezeR ?_
  have srcA := own7.src (H := A7 ++ F) fun x mx => List.mem_append_left _ mx
  clear own7 hR
  generalize A7 ++ F = Y at *
  have hfa : ∀ {k : Nat} {x : Ord}, (mall M)[k]? = some x → mfind x.trader x.id M = (x, true) := fun h => mfind_at hok.u h
  have hoa : ∀ x ∈ mall M, okP x := fun x mx => all_ok hw hok.r mx
  have hsq := (sumM_pos hw).2
  have hsu : ∀ {k : Nat} {x : Ord}, (mall M)[k]? = some x → x.qty ≤ sumM M := fun h => mem_sum hw h
  generalize hall : mall M = all at *
  (refine run_seq ?_; refine run_region ?_; refine xep rfl rfl ?_; refine xel rfl (ev_len rfl rfl (se rfl)) ?_; refine xep rfl rfl ?_)
  refine runL_callZ H [] rfl rfl rfl rfl rfl rfl rfl (pf rfl) (fun y => by (first | rfl | (simp only [List.append_eq, cnt_append, cnt_cons, cnt_nil, blk]; omega) | (simp only [List.append_eq, cnt_append, cnt_cons, cnt_nil, blk]; done))) (sp_swaiting _ m M (hH.in fun x mx => by simp [mx]) (by omega)) ?_
  rintro v A8 own8
  obtain ⟨a8, c8, rfl, own8⟩ := own8.at
  (refine xel rfl (ev_len rfl rfl (se rfl)) ?_; refine xel rfl (ev_sub rfl rfl rfl (by omega)) ?_; refine xep rfl rfl ?_; refine runL_nil ?_; refine then_normal ?_; (iterate 2 refine run_seq ?_); refine run_region ?_; (iterate 2 refine xep rfl rfl ?_); refine runL_nil ?_; refine then_normal ?_)
  by_cases hr0 : all.length ≤ M.W.length
  · refine run_condT rfl (decide_eq_true (by omega)) ?_
    (refine run_seq ?_; refine run_region ?_; refine xel rfl (ev_callQ rfl rfl rfl (pf rfl) (q3 ..)) ?_; refine xep rfl rfl ?_; refine runL_nil ?_; refine then_normal ?_; refine run_ret ?_; refine then_ret ?_)
    exact ⟨_, rfl, rfl⟩
  · refine run_condF rfl (decide_eq_false (by omega)) ?_
    have q8 := fun F => sp_Win F at_ 0 ((all.length : Int) - (M.W.length : Int) - 1) (by omega) (by omega) (by omega)
    have wk := win_in at_ (show (0 : Int) ≤ (all.length : Int) - (M.W.length : Int) - 1 by omega)
    obtain ⟨k, hk⟩ : ∃ k : Nat, win at_ 0 ((all.length : Int) - (M.W.length : Int) - 1) = k := ⟨(win at_ 0 ((all.length : Int) - (M.W.length : Int) - 1)).toNat, by omega⟩
    rw [hk] at q8 wk
    obtain ⟨x, hx⟩ : ∃ x, all[k]? = some x := ⟨all[k]'(by omega), List.getElem?_eq_getElem _⟩
    have hxf := hfa hx
    have hxo := hoa x (List.mem_of_getElem? hx)
    have hxq := hsq x (List.mem_of_getElem? hx)
    have hxs := hsu hx
    have q9 := fun F => sp_Win F more 1 9 (by omega) (by omega) (by omega)
    have wn := win_in more (show (1 : Int) ≤ 9 by omega)
    generalize win more 1 9 = n at *
    have hxk : InI x.kind := by
      obtain ⟨-, -, -, -, -, -, -, -, h9, h10, -⟩ := hxo
      unfold InI; omega
    obtain ⟨b7, off7, _, _, _, rfl, _⟩ := srcA.pos (by omega)
    have l1 := SrcIs.row oc_len srcA rfl hx
    (refine run_skip ?_; refine then_normal ?_; refine run_seq ?_; refine run_region ?_; (iterate 3 refine xep rfl rfl ?_); refine xel rfl (ev_sub rfl rfl rfl (by omega)) ?_; refine xel rfl (ev_callQ rfl rfl rfl (pf rfl) (q8 ..)) ?_; refine xel rfl (ev_indexAddr rfl rfl rfl (se rfl) (by omega) (by omega)) ?_; refine xel rfl (ev_loadAF rfl rfl (ag rfl) (sz rfl) l1 rfl) ?_; refine runL_alloc rfl rfl rfl rfl rfl ze24 (fun _ => ?_); refine runL_store0 rfl rfl rfl rfl rfl (sz rfl) rfl rfl rfl rfl rfl ?_; refine runL_nil ?_; refine then_normal ?_; (iterate 2 refine run_seq ?_); refine run_region ?_; refine xel rfl (ev_fieldAddr rfl rfl (fo rfl)) ?_; refine xel rfl (ev_loadK rfl rfl (sc rfl) (memF (.head _)) rfl) ?_; refine xep rfl rfl ?_; refine runL_nil ?_; refine then_normal ?_)
    rename_i b10
    refine RunC.perm (h' := (H ++ A8) ++ [blk b10 x.cells 24]) (fun y => by show cnt y (blk b10 x.cells 24 :: (H ++ A8)) = _; (first | rfl | (simp only [List.append_eq, cnt_append, cnt_cons, cnt_nil, blk]; omega) | (simp only [List.append_eq, cnt_append, cnt_cons, cnt_nil, blk]; done))) ?_
    by_cases hk1 : x.kind = 1
    · refine run_condF rfl (by simp [hk1]) ?_
      have hxp : 1 ≤ x.price ∧ x.price ≤ 1048576 := by
        obtain ⟨-, -, -, -, -, -, -, -, -, -, -, -, -, -, h18, -⟩ := hxo
        exact h18 (by omega)
      have hrt := am_right (p := x.price) (q := x.qty + n) hxo (by omega) (by omega) ⟨fun h => by omega, fun _ => hxp⟩
      have ham := amend_more hxf hrt (.inr (by omega))
      have hmw := mremove_MW (t := x.trader) (i := x.id) hw
      have hmn := mremove_no x.trader x.id M
      have hbh := behind_is hw hok.g hok.done hrt x.trader x.id
      have K := madd_ok (o := amO x x.price (x.qty + n)) hmw
      have hfs := madd_fs (o := amO x x.price (x.qty + n)) hmw
      have hfirst : (madd (amO x x.price (x.qty + n)) (mremove x.trader x.id M).2.2).1[0]? = some (mfirst (amO x x.price (x.qty + n)) (mremove x.trader x.id M).2.2).1 := rfl
      have hoi : (amO x x.price (x.qty + n)).price = x.price ∧ (amO x x.price (x.qty + n)).side = x.side ∧ (amO x x.price (x.qty + n)).trader = x.trader ∧ (amO x x.price (x.qty + n)).id = x.id := ⟨rfl, rfl, rfl, rfl⟩
      rw [hoi.1, hoi.2.1, hoi.2.2.1, hoi.2.2.2] at hbh
      generalize (mfirst (amO x x.price (x.qty + n)) (mremove x.trader x.id M).2.2).1 = f0 at *
      generalize madd (amO x x.price (x.qty + n)) (mremove x.trader x.id M).2.2 = X at *
      (refine run_skip ?_; refine then_normal ?_)
      refine RunC.freezeR ?_
      have l2 : AggF ([blk b10 x.cells 24] ++ Y) b10 0 x.cells := ⟨_, _, _, memF (.head _), Nat.le_refl _, rfl⟩
      clear l1
      generalize [blk b10 x.cells 24] ++ Y = Y2 at *
      have l3 := l2.at 0 _ rfl
      have l4 := l2.at 1 _ rfl
      have l5 := l2.at 3 _ rfl
      have l6 := l2.at 5 _ rfl
      have l7 := l2.at 6 _ rfl
      refine run_seq ?_
      refine run_region_D mo ?_
      (refine runD_q 0 rfl rfl (by kernel_rfl) ?_; refine ⟨_, fun _ => ev_pure rfl, ?_⟩; refine runD_q 1 rfl rfl (by kernel_rfl) ?_; refine ⟨_, fun _ => ev_fieldAddr rfl rfl (fo rfl), ?_⟩; refine runD_q 2 rfl rfl (by kernel_rfl) ?_; refine ⟨_, fun _ => ev_loadF rfl rfl (sc rfl) l3, ?_⟩; refine runD_q 3 rfl rfl (by kernel_rfl) ?_; refine ⟨_, fun _ => ev_fieldAddr rfl rfl (fo rfl), ?_⟩; refine runD_q 4 rfl rfl (by kernel_rfl) ?_; refine ⟨_, fun _ => ev_loadF rfl rfl (sc rfl) l4, ?_⟩; refine runD_q 5 rfl rfl (by kernel_rfl) ?_; refine ⟨_, fun _ => ev_fieldAddr rfl rfl (fo rfl), ?_⟩; refine runD_q 6 rfl rfl (by kernel_rfl) ?_; refine ⟨_, fun _ => ev_loadF rfl rfl (sc rfl) l6, ?_⟩; refine runD_q 7 rfl rfl (by kernel_rfl) ?_; refine ⟨_, fun _ => ev_fieldAddr rfl rfl (fo rfl), ?_⟩; refine runD_q 8 rfl rfl (by kernel_rfl) ?_; refine ⟨_, fun _ => ev_loadF rfl rfl (sc rfl) l7, ?_⟩; refine runD_q 9 rfl rfl (by kernel_rfl) ?_; refine ⟨_, fun _ => ev_pure rfl, ?_⟩; refine runD_q 10 rfl rfl (by kernel_rfl) ?_; refine ⟨_, fun _ => ev_callQ rfl rfl rfl (pf rfl) (q9 ..), ?_⟩; refine runD_q 11 rfl rfl (by kernel_rfl) ?_; refine ⟨_, fun _ => ev_add rfl rfl rfl (by omega), ?_⟩; refine runD_1 12 (by kernel_rfl) rfl rfl rfl ?_)
      refine runL_callZ A8 H rfl rfl rfl rfl rfl rfl rfl (pf rfl) (fun y => by (first | rfl | (simp only [List.append_eq, cnt_append, cnt_cons, cnt_nil, blk]; omega) | (simp only [List.append_eq, cnt_append, cnt_cons, cnt_nil, blk]; done))) (sp_amend _ H m M hH hw (by omega) x.trader x.id x.price (x.qty + n) (by unfold InI; omega) (by unfold InI; omega) (by rw [hxf]; exact hxk)) ?_
      rw [ham]
      rintro v _ ⟨a1, c1, ts, A1, F1, H1, rfl, hts, htl, own1, hF1, hH1, rfl⟩
      dsimp only at hts hH1 ⊢
      have hts0 : 0 < ts.length := by
        rw [← List.length_map (f := fun t : (Option Addr × Nat) × Out => t.2), hts]
        exact (List.getElem?_eq_some_iff.1 hfirst).1
      obtain ⟨t0, ht0⟩ : ∃ t, ts[0]? = some t := ⟨ts[0]'hts0, List.getElem?_eq_getElem _⟩
      have ht0f : t0.2 = f0 := by
        rw [← hts, List.getElem?_map, ht0] at hfirst
        cases hfirst; rfl
      have hf0l : f0.fs.length ≤ 2097152 := hfs f0 (List.mem_of_getElem? hfirst)
      (refine runL_nil ?_; refine endS_d rfl ?_; refine runD_q 13 rfl rfl (by kernel_rfl) ?_; refine ⟨_, fun _ => ev_pure rfl, ?_⟩; refine runD_q 14 rfl rfl (by kernel_rfl) ?_; refine ⟨_, fun _ => ev_pure rfl, ?_⟩; refine runD_q 15 rfl rfl (by kernel_rfl) ?_; refine ⟨_, fun _ => ev_pure rfl, ?_⟩; refine runD_q 16 rfl rfl (by kernel_rfl) ?_; refine ⟨_, fun _ => ev_pure rfl, ?_⟩; refine runD_q 17 rfl rfl (by kernel_rfl) ?_; refine ⟨_, fun _ => ev_pure rfl, ?_⟩; refine runD_done (by kernel_rfl) ?_; refine then_normal ?_; (iterate 2 refine run_seq ?_); refine run_region ?_; (iterate 3 refine xep rfl rfl ?_); refine xgp rfl rfl rfl ?_; refine xgl rfl rfl (fun hq => ev_len rfl rfl (se rfl)) ?_; refine xgp rfl rfl rfl ?_; refine xep rfl rfl ?_; refine runL_nil ?_; refine then_normal ?_)
      refine run_condF rfl (by rw [decide_eq_false (by omega : ¬ (ts.length : Int) < 1)]; rfl) ?_
      (refine run_skip ?_; refine then_normal ?_)
      refine RunC.freeze ?_
      generalize hZ : A8 ++ (H1 ++ A1 ++ F1) = Z
      have s1 := own1.src (H := Z ++ Y2) fun z mz => List.mem_append_left _ (by rw [← hZ]; simp only [List.mem_append, mz, true_or, or_true])
      obtain ⟨b', aw', cw', HB', AW', hB', ownW', hHe'⟩ := hH1
      have hm' : blk m [.pointer (some ⟨b', 0, none⟩), .slice aw' X.2.W.length cw'] 67 ∈ Z ++ Y2 := List.mem_append_left _ (by rw [← hZ, hHe']; simp)
      have hBi' : BkIn (Z ++ Y2) b' X.2.B := hB'.in fun z mz => List.mem_append_left _ (by rw [← hZ, hHe']; simp [mz])
      have la := l3.up (A := Z)
      have lb := l4.up (A := Z)
      have lc := l5.up (A := Z)
      have ld := l6.up (A := Z)
      clear hZ own1 hF1 l2 l3 l4 l5 l6 l7 hH hHe
      have l4 := la
      have l5 := lb
      have l6 := lc
      have l7 := ld
      clear la lb lc ld
      obtain ⟨⟨p0, c0⟩, g0⟩ := t0
      dsimp only at ht0f
      subst ht0f
      generalize Z ++ Y2 = Y3 at *
      obtain ⟨b1, off1, _, _, _, rfl, _⟩ := s1.pos hts0
      have l1 := SrcIs.row orow_len s1 rfl ht0
      have l2 : LoadsF Y3 b1 (off1 + (0 : Int).toNat * 15 + 11) (.bool g0.rests) := l1.at 11 _ rfl
      have l3 : LoadsF Y3 b1 (off1 + (0 : Int).toNat * 15 + 9) (.slice p0 g0.fs.length c0) := l1.at 9 _ rfl
      ((iterate 2 refine run_seq ?_); refine run_region ?_; refine xep rfl rfl ?_; refine xel rfl (ev_indexAddr rfl rfl rfl (se rfl) (by omega) (by omega)) ?_; refine xel rfl (ev_fieldAddr rfl rfl (fo rfl)) ?_; refine xel rfl (ev_loadF rfl rfl (sc rfl) l2) ?_; (iterate 2 refine xep rfl rfl ?_); refine xgp rfl rfl rfl ?_; refine xgl rfl rfl (fun hq => ev_indexAddr rfl rfl rfl (se rfl) (by (try simp only [z0, z1, z2, z3, z4, z5, z6, z7, z8, z9, Bool.not_true, Bool.not_false, Bool.false_or, Bool.true_and, true_and, and_true, false_or, or_false, reduceCtorEq, Bool.false_eq_true] at hq); omega) (by (try simp only [z0, z1, z2, z3, z4, z5, z6, z7, z8, z9, Bool.not_true, Bool.not_false, Bool.false_or, Bool.true_and, true_and, and_true, false_or, or_false, reduceCtorEq, Bool.false_eq_true] at hq); omega)) ?_; refine xgl rfl rfl (fun hq => ev_fieldAddr rfl rfl (fo rfl)) ?_; refine xgl rfl rfl (fun hq => ev_loadF rfl rfl (sc rfl) l3) ?_; refine xgl rfl rfl (fun hq => ev_len rfl rfl (se rfl)) ?_; refine xgp rfl rfl rfl ?_; refine xep rfl rfl ?_; refine runL_nil ?_; refine then_normal ?_)
      by_cases hcd : g0.rests = true ∧ g0.fs = []
      · refine run_condF rfl (by rw [hcd.1, hcd.2]; rfl) ?_
        have hend := hbh hcd.1 hcd.2 o0
        (refine run_skip ?_; refine then_normal ?_; refine run_seq ?_; refine run_region ?_; refine xel rfl (ev_build rfl pl24 rfl) ?_; refine runL_alloc rfl rfl rfl rfl rfl ze24 (fun _ => ?_); refine runL_store0 rfl rfl rfl rfl rfl (sz rfl) rfl rfl rfl rfl rfl ?_; refine runL_nil ?_; refine then_normal ?_; (iterate 2 refine run_seq ?_))
        rename_i b13
        refine RunC.perm (h' := [blk b13 o0.cells 24]) (fun y => rfl) ?_
        have q1 := fun Q : Heap => sp_sbook (Q ++ Y3) m b' aw' _ cw' (List.mem_append_right Q hm')
        have hlo := ordersL_len (X.2.B.side x.side)
        have hso : lenL (X.2.B.side x.side) ≤ 64 := (K.1.b.side x.side).2
        refine run_region_D mo ?_
        (refine runD_q 0 rfl rfl (by kernel_rfl) ?_; refine ⟨_, fun _ => ev_pure rfl, ?_⟩; refine runD_q 1 rfl rfl (by kernel_rfl) ?_; refine ⟨_, fun _ => ev_callQ rfl rfl rfl (pf rfl) (q1 ..), ?_⟩; refine runD_q 2 rfl rfl (by kernel_rfl) ?_; refine ⟨_, fun _ => ev_fieldAddr rfl rfl (fo rfl), ?_⟩; refine runD_q 3 rfl rfl (by kernel_rfl) ?_; refine ⟨_, fun _ => ev_loadF rfl rfl (sc rfl) l6, ?_⟩; refine runD_q 6 rfl rfl (by kernel_rfl) ?_; refine ⟨_, fun _ => ev_pure rfl, ?_⟩; refine runD_1 4 (by kernel_rfl) rfl rfl rfl ?_)
        refine runL_callZ [blk b13 o0.cells 24] [] rfl rfl rfl rfl rfl rfl rfl (pf rfl) (fun y => by (first | rfl | (simp only [List.append_eq, cnt_append, cnt_cons, cnt_nil, blk]; omega) | (simp only [List.append_eq, cnt_append, cnt_cons, cnt_nil, blk]; done))) (sp_borders _ b' X.2.B hBi'.up K.1.b x.side) ?_
        rintro v A9 own9
        obtain ⟨a9, c9, rfl, own9⟩ := own9.at
        generalize ordersL (X.2.B.side x.side) = os at *
        (refine runL_nil ?_; refine endS_d rfl ?_; refine runD_q 5 rfl rfl (by kernel_rfl) ?_; refine ⟨_, fun _ => ev_len rfl rfl (se rfl), ?_⟩; refine runD_done (by kernel_rfl) ?_; refine then_normal ?_; refine run_block ?_; refine RunC.whole rfl ?_)
        refine run_loopK (σ := Nat) [10, 13, 89, 90, 91] (fun j => [(10, .pointer (some ⟨b10, 0, none⟩)), (13, .pointer (some ⟨b13, 0, none⟩)), (89, .slice a9 os.length c9), (90, .int .i64 os.length), (91, .int .i64 j)])
          (fun j => blk b13 (lastAt x.price o0 (os.take j)).cells 24 :: A9) (fun j => j ≤ os.length) (fun j => os.length - j) 0 (Nat.zero_le _) rfl (fun y => by show cnt y ([blk b13 o0.cells 24] ++ A9) = cnt y (blk b13 o0.cells 24 :: A9); (first | rfl | (simp only [List.append_eq, cnt_append, cnt_cons, cnt_nil, blk]; omega) | (simp only [List.append_eq, cnt_append, cnt_cons, cnt_nil, blk]; done))) ?_
        intro j gj
        (refine run_seq ?_; refine run_region ?_; refine xep rfl rfl ?_; refine runL_nil ?_; refine then_normal ?_; refine run_seq ?_)
        (refine run_cond rfl (fun hc => ?_) (fun hc => ?_) <;> (try simp only [z0, z1, z2, z3, z4, z5, z6, z7, z8, z9, Bool.not_true, Bool.not_false, Bool.false_or, Bool.true_and, true_and, and_true, false_or, or_false, reduceCtorEq, Bool.false_eq_true] at hc))
        · obtain ⟨b9, rest9, cap9, hv9, rfl, -, -, -⟩ := own9.pos (by omega)
          cases hv9
          obtain ⟨y, hy⟩ : ∃ y, os[j]? = some y := ⟨os[j]'(by omega), List.getElem?_eq_getElem _⟩
          have r1 : RowAt (rows Ord.cells os ++ rest9) (0 + (j : Int).toNat * 9) y.cells := by
            rw [Nat.zero_add]; exact rows_at oc_len hy rest9
          have hst := lastAt_take (p := x.price) (i := o0) hy
          generalize lastAt x.price o0 (os.take j) = acc at *
          refine RunC.perm (h' := blk b9 (rows Ord.cells os ++ rest9) 24 :: [blk b13 acc.cells 24]) (fun y => by (first | rfl | (simp only [List.append_eq, cnt_append, cnt_cons, cnt_nil, blk]; omega) | (simp only [List.append_eq, cnt_append, cnt_cons, cnt_nil, blk]; done))) ?_
          (refine run_skip ?_; refine then_normal ?_; refine run_seq ?_; refine run_block ?_; refine run_seq ?_; refine run_region ?_; refine xel rfl (ev_indexAddr rfl rfl rfl (se rfl) (by omega) (by omega)) ?_; refine xel rfl (ev_loadAR rfl rfl (ag rfl) (sz rfl) (memF (.head _)) r1 rfl) ?_; refine runL_alloc rfl rfl rfl rfl rfl ze24 (fun _ => ?_); refine runL_store0 rfl rfl rfl rfl rfl (sz rfl) rfl rfl rfl rfl rfl ?_; refine runL_nil ?_; refine then_normal ?_; refine run_seq ?_; refine run_region ?_; refine xel rfl (ev_fieldAddr rfl rfl (fo rfl)) ?_; refine xel rfl (ev_loadK rfl rfl (sc rfl) (memF (.head _)) rfl) ?_; refine xel rfl (ev_fieldAddr rfl rfl (fo rfl)) ?_; refine xel rfl (ev_loadF rfl rfl (sc rfl) l7) ?_; refine xep rfl rfl ?_; refine runL_nil ?_; refine then_normal ?_)
          rename_i b15
          refine RunC.perm (h' := [blk b15 y.cells 24, blk b9 (rows Ord.cells os ++ rest9) 24, blk b13 acc.cells 24]) (fun y => rfl) ?_
          by_cases hyp : y.price = x.price
          · rw [if_pos hyp] at hst
            refine run_condT rfl (decide_eq_true hyp) ?_
            (refine run_region ?_; refine xel rfl (ev_loadAK rfl rfl (ag rfl) (sz rfl) (memF (.head _)) rfl) ?_; refine runL_store2 rfl rfl rfl rfl rfl (sz rfl) rfl rfl rfl rfl rfl ?_; refine runL_nil ?_; refine in_normal ?_; refine then_normal ?_; refine run_region ?_; refine xel rfl (ev_add rfl rfl rfl (by omega)) ?_; refine xep rfl rfl ?_; refine runL_nil ?_; refine then_normal ?_)
            exact ⟨j + 1, by show j + 1 ≤ _; omega, by show os.length - (j + 1) < os.length - j; omega, rfl, [blk b15 y.cells 24], fun z => by
              rw [hst]
              show cnt z [blk b15 y.cells 24, blk b9 (rows Ord.cells os ++ rest9) 24, blk b13 y.cells 24] = _
              (first | rfl | (simp only [List.append_eq, cnt_append, cnt_cons, cnt_nil, blk]; omega) | (simp only [List.append_eq, cnt_append, cnt_cons, cnt_nil, blk]; done))⟩
          · rw [if_neg hyp] at hst
            refine run_condF rfl (decide_eq_false hyp) ?_
            (refine run_skip ?_; refine in_normal ?_; refine then_normal ?_; refine run_region ?_; refine xel rfl (ev_add rfl rfl rfl (by omega)) ?_; refine xep rfl rfl ?_; refine runL_nil ?_; refine then_normal ?_)
            exact ⟨j + 1, by show j + 1 ≤ _; omega, by show os.length - (j + 1) < os.length - j; omega, rfl, [blk b15 y.cells 24], fun z => by rw [hst]; (first | rfl | (simp only [List.append_eq, cnt_append, cnt_cons, cnt_nil, blk]; omega) | (simp only [List.append_eq, cnt_append, cnt_cons, cnt_nil, blk]; done))⟩
        · (refine run_exit ?_; (iterate 2 refine then_exit ?_); refine in_exit ?_; refine then_normal ?_)
          have ej : os.take j = os := List.take_of_length_le (by omega)
          rw [ej]
          generalize lastAt x.price o0 os = res at *
          (refine run_seq ?_; refine run_region ?_; refine xel rfl (ev_fieldAddr rfl rfl (fo rfl)) ?_; refine xel rfl (ev_loadK rfl rfl (sc rfl) (memF (.head _)) rfl) ?_; refine xel rfl (ev_fieldAddr rfl rfl (fo rfl)) ?_; refine xel rfl (ev_loadF rfl rfl (sc rfl) l4) ?_; (iterate 2 refine xep rfl rfl ?_); refine xgl rfl rfl (fun hq => ev_fieldAddr rfl rfl (fo rfl)) ?_; refine xgl rfl rfl (fun hq => ev_loadK rfl rfl (sc rfl) (memF (.head _)) rfl) ?_; refine xgl rfl rfl (fun hq => ev_fieldAddr rfl rfl (fo rfl)) ?_; refine xgl rfl rfl (fun hq => ev_loadF rfl rfl (sc rfl) l5) ?_; refine xgp rfl rfl rfl ?_; (iterate 2 refine xep rfl rfl ?_); refine xgl rfl rfl (fun hq => ev_callQ rfl rfl rfl (pf rfl) (q3 ..)) ?_; (iterate 2 refine xep rfl rfl ?_); refine runL_nil ?_; refine then_normal ?_; refine run_ret ?_)
          exact ⟨_, rfl, by rw [decide_eq_true hend.1, decide_eq_true hend.2]; rfl⟩
      · refine run_condT rfl (by
          cases h1 : g0.rests with
          | false => rfl
          | true =>
            have h2 : g0.fs ≠ [] := fun h => hcd ⟨h1, h⟩
            have h3 := List.length_pos_iff.2 h2
            rw [decide_eq_true (by omega : (0 : Int) < (g0.fs.length : Int))]; rfl) ?_
        (refine run_seq ?_; refine run_region ?_; refine xel rfl (ev_callQ rfl rfl rfl (pf rfl) (q3 ..)) ?_; refine xep rfl rfl ?_; refine runL_nil ?_; refine then_normal ?_; refine run_ret ?_; refine then_ret ?_)
        exact ⟨_, rfl, rfl⟩
    · refine run_condT rfl (by simp [hk1]) ?_
      (refine run_seq ?_; refine run_region ?_; refine xel rfl (ev_callQ rfl rfl rfl (pf rfl) (q3 ..)) ?_; refine xep rfl rfl ?_; refine runL_nil ?_; refine then_normal ?_; refine run_ret ?_; refine then_ret ?_)
      exact ⟨_, rfl, rfl⟩
end Go.Proofs.Ytfhpoagnfmgfkaa
