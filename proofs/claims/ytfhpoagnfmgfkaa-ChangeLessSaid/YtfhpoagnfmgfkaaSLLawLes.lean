/- Contracts of functions of the given program over its translation, each proved by walking its text; used by the laws' rows. It proves no given statement by itself. -/
import Derived.Test.YtfhpoagnfmgfkaaSLPlLs
import Derived.Test.YtfhpoagnfmgfkaaSLStFl
set_option autoImplicit false
set_option linter.unusedSectionVars false
set_option linter.unusedSimpArgs false
set_option linter.unusedVariables false
set_option maxRecDepth 4000
set_option maxHeartbeats 100000000
namespace Go.Proofs.Ytfhpoagnfmgfkaa
open Go Go.SL Go.Proofs
variable [Base]
theorem sp_bno (F : Heap) (b : Nat) (B : Bk) (h : BkIn F b B) : Sp Try.prog F 23 [.pointer (some ⟨b, 0, none⟩)] [] (Ret (.int .i64 B.no)) := by
  obtain ⟨v0, v1, _, _, hm⟩ := h
  have l1 : LoadsF F b (0 + 3) (.int .i64 B.no) := ⟨_, _, _, hm, rfl⟩
  refine sp_of_code Try.func23 rfl rfl ?_
  (refine run_seq ?_; refine run_region ?_; refine xep rfl rfl ?_; refine runL_nil ?_; refine then_normal ?_; refine run_seq ?_; refine run_region ?_; (iterate 2 refine xep rfl rfl ?_); refine xel rfl (ev_fieldAddr rfl rfl (fo rfl)) ?_; refine xel rfl (ev_loadF rfl rfl (sc rfl) l1) ?_; refine xep rfl rfl ?_; refine runL_nil ?_; refine then_normal ?_; refine run_ret ?_)
  exact ⟨_, rfl, rfl⟩
theorem changeLess_sp (F : Heap) (a : Option Addr) (len cap : Nat) (rs : List (List Int)) (at_ qty : Int) (hR : RowsF F a len 7 rs) (hC : len ≤ cap) (hM : cap ≤ 9223372036854775807) (hat : InI at_) (hqt : InI qty) :
    Sp Try.prog F 7 [.slice a len cap, .int .i64 at_, .int .i64 qty] [] (Ret (.bool true)) := by
  have q3 := changeRuns_sp
  refine sp_of_code Try.func7 rfl rfl ?_
  (refine run_seq ?_; refine run_region ?_; refine xep rfl rfl ?_; refine runL_nil ?_; refine then_normal ?_; refine run_seq ?_; refine run_region ?_; refine xep rfl rfl ?_)
  refine runL_call0 rfl rfl rfl rfl rfl rfl rfl (pf rfl) (sp_filled12 _ a len cap rs (RowsF.mono hR fun x m => by simp [m]) (by omega)) ?_
  rintro v H ⟨m, rfl, hH⟩
  have hok := mfill_ok rs 40
  generalize mfill rs 40 = M at *
  have hno := hok.no
  have hw := hok.w
  have hn0 := hw.no
  have hml := mall_len M
  have hl64 := hw.len
  have hwl : M.W.length ≤ 64 := by have := hw.len; unfold mlen at this; omega
  obtain ⟨b, aw, cw, HB, AW, hB, ownW, hHe⟩ := hH
  have hmem : ∀ G : Heap, blk m [.pointer (some ⟨b, 0, none⟩), .slice aw M.W.length cw] 67 ∈ H ++ G := fun G => by rw [hHe]; simp
  have hmem2 : ∀ K G : Heap, blk m [.pointer (some ⟨b, 0, none⟩), .slice aw M.W.length cw] 67 ∈ (H ++ K) ++ G := fun K G => by rw [hHe]; simp
  have hBi : ∀ K G : Heap, BkIn ((H ++ K) ++ G) b M.B := fun K G => hB.in fun y my => by rw [hHe]; simp [my]
  have hH : MkH m M H := ⟨b, aw, cw, HB, AW, hB, ownW, hHe⟩
  have hge : (Option.isNone (some (⟨m, 0, none⟩ : Addr))) = false := rfl
  (refine xep rfl rfl ?_; refine runL_nil ?_; refine then_normal ?_; (iterate 2 refine run_seq ?_); refine run_region ?_; refine xep rfl rfl ?_; refine xel rfl (ev_eqNil rfl rfl rfl (pt rfl)) ?_; refine xep rfl rfl ?_; refine runL_yes rfl rfl hge ?_; refine xep rfl rfl ?_; refine runL_yes rfl rfl hge ?_)
  refine runL_ev rfl rfl rfl rfl (ev_callQ rfl rfl rfl (pf rfl) (sp_sbook _ m b aw _ cw (hmem2 _ _))) ?_
  (refine runL_yes rfl rfl hge ?_; refine xel rfl (ev_eqNil rfl rfl rfl (pt rfl)) ?_; refine xep rfl rfl ?_; refine runL_nil ?_; refine then_normal ?_)
  refine run_condF rfl rfl ?_
  clear hge
  (refine run_skip ?_; refine then_normal ?_; refine run_seq ?_; refine run_region ?_; refine xep rfl rfl ?_)
  refine runL_callZ H [] rfl rfl rfl rfl rfl rfl rfl (pf rfl) (fun y => by (first | rfl | (simp only [List.append_eq, cnt_append, cnt_cons, cnt_nil, blk]; omega) | (simp only [List.append_eq, cnt_append, cnt_cons, cnt_nil, blk]; done))) (sp_sall _ m M (hH.in fun x mx => by simp [mx]) hw.b hw.len) ?_
  rintro v A7 own7
  obtain ⟨a7, c7, rfl, own7⟩ := own7.at
  (refine xep rfl rfl ?_)
  refine runL_ev rfl rfl rfl rfl (ev_callQ rfl rfl rfl (pf rfl) (sp_sbook _ m b aw _ cw (hmem2 _ _))) ?_
  skip
  refine runL_ev rfl rfl rfl rfl (ev_callQ rfl rfl rfl (pf rfl) (sp_bno _ b M.B (hBi _ _))) ?_
  (refine xep rfl rfl ?_)
  (refine xep rfl rfl ?_)
  refine runL_nil ?_
  (refine then_normal ?_)
  refine RunC.freezeR ?_
  have srcA := own7.src (H := A7 ++ F) fun x mx => List.mem_append_left _ mx
  clear own7 hR
  generalize A7 ++ F = Y at *
  have hfa : ∀ {k : Nat} {x : Ord}, (mall M)[k]? = some x → mfind x.trader x.id M = (x, true) := fun h => mfind_at hok.u h
  have hoa : ∀ x ∈ mall M, okP x := fun x mx => all_ok hw hok.r mx
  have hsq := (sumM_pos hw).2
  have hra : ∀ {k : Nat} {x : Ord}, (mall M)[k]? = some x → k + M.W.length < (mall M).length → _ := fun h h2 => rest_at h h2
  have hbi : ∀ {k : Nat} {x : Ord} {n : Int}, (mall M)[k]? = some x → _ → 1 ≤ n → n ≤ x.qty → _ := fun h1 h2 h3 h4 => bless_is hw hok.u h1 h2 h3 h4
  generalize hall : mall M = all at *
  (refine run_seq ?_; refine run_region ?_; refine xep rfl rfl ?_; refine xel rfl (ev_len rfl rfl (se rfl)) ?_; refine xep rfl rfl ?_)
  refine runL_callZ H [] rfl rfl rfl rfl rfl rfl rfl (pf rfl) (fun y => by (first | rfl | (simp only [List.append_eq, cnt_append, cnt_cons, cnt_nil, blk]; omega) | (simp only [List.append_eq, cnt_append, cnt_cons, cnt_nil, blk]; done))) (sp_swaiting _ m M (hH.in fun x mx => by simp [mx]) (by omega)) ?_
  rintro v A8 own8
  obtain ⟨a8, c8, rfl, own8⟩ := own8.at
  (refine xel rfl (ev_len rfl rfl (se rfl)) ?_; refine xel rfl (ev_sub rfl rfl rfl (by omega)) ?_; refine xep rfl rfl ?_; refine runL_nil ?_; refine then_normal ?_; (iterate 2 refine run_seq ?_); refine run_region ?_; (iterate 2 refine xep rfl rfl ?_); refine runL_nil ?_; refine then_normal ?_)
  by_cases hr0 : all.length ≤ M.W.length
  · refine run_condT rfl (decide_eq_true (by omega)) ?_
    (refine run_seq ?_; refine run_region ?_; refine xel rfl (ev_callQ rfl rfl rfl (pf rfl) (q3 ..)) ?_; refine xep rfl rfl ?_; refine runL_nil ?_; refine then_normal ?_; refine run_ret ?_; refine then_ret ?_)
    exact ⟨_, rfl, rfl⟩
  · refine run_condF rfl (decide_eq_false (by omega)) ?_
    have q8 := fun F => sp_Win F at_ 0 ((all.length : Int) - (M.W.length : Int) - 1) (by omega) (by omega) (by omega)
    have wk := win_in at_ (show (0 : Int) ≤ (all.length : Int) - (M.W.length : Int) - 1 by omega)
    obtain ⟨k, hk⟩ : ∃ k : Nat, win at_ 0 ((all.length : Int) - (M.W.length : Int) - 1) = k := ⟨(win at_ 0 ((all.length : Int) - (M.W.length : Int) - 1)).toNat, by omega⟩
    rw [hk] at q8 wk
    obtain ⟨x, hx⟩ : ∃ x, all[k]? = some x := ⟨all[k]'(by omega), List.getElem?_eq_getElem _⟩
    have hxf := hfa hx
    have hxo := hoa x (List.mem_of_getElem? hx)
    have hxq := hsq x (List.mem_of_getElem? hx)
    have hxb : (bfind x.trader x.id M.B).2 = true := hra hx (by omega)
    have q9 := fun F => sp_Win F qty 1 x.qty (by omega) (by omega) (by omega)
    have wn := win_in qty (show (1 : Int) ≤ x.qty by omega)
    generalize win qty 1 x.qty = n at *
    obtain ⟨c1, c2, c3⟩ := hbi hx hxb wn.1 wn.2
    have hxk : InI x.kind := by
      obtain ⟨-, -, -, -, -, -, -, -, h9, h10, -⟩ := hxo
      unfold InI; omega
    have hxp : (x.kind = 2 → x.price = 0) ∧ (x.kind ≠ 2 → 1 ≤ x.price ∧ x.price ≤ 1048576) := by
      obtain ⟨-, -, -, -, -, -, -, -, -, -, -, -, -, h17, h18, -⟩ := hxo
      exact ⟨h17, h18⟩
    have hxpi : InI x.price := by
      unfold InI
      by_cases h2 : x.kind = 2
      · have := hxp.1 h2; omega
      · have := hxp.2 h2; omega
    have hrt := am_right (p := x.price) (q := n) hxo wn.1 (by omega) hxp
    have ham := amend_less hxf hxb hrt wn.2
    obtain ⟨b7, off7, _, _, _, rfl, _⟩ := srcA.pos (by omega)
    have l1 := SrcIs.row oc_len srcA rfl hx
    have l2 : LoadsF Y b7 (off7 + (k : Int).toNat * 9 + 6) (.int .i64 x.qty) := l1.at 6 _ rfl
    have l3 : LoadsF Y b7 (off7 + (k : Int).toNat * 9 + 0) (.int .i64 x.trader) := l1.at 0 _ rfl
    have l4 : LoadsF Y b7 (off7 + (k : Int).toNat * 9 + 1) (.int .i64 x.id) := l1.at 1 _ rfl
    have l5 : LoadsF Y b7 (off7 + (k : Int).toNat * 9 + 5) (.int .i64 x.price) := l1.at 5 _ rfl
    (refine run_skip ?_; refine then_normal ?_; refine run_seq ?_; refine run_region ?_; (iterate 2 refine xep rfl rfl ?_); refine xel rfl (ev_sub rfl rfl rfl (by omega)) ?_; refine xel rfl (ev_callQ rfl rfl rfl (pf rfl) (q8 ..)) ?_; refine xep rfl rfl ?_; refine runL_nil ?_; refine then_normal ?_; refine run_seq ?_; refine run_region ?_; (iterate 3 refine xep rfl rfl ?_); refine xel rfl (ev_indexAddr rfl rfl rfl (se rfl) (by omega) (by omega)) ?_; refine xel rfl (ev_fieldAddr rfl rfl (fo rfl)) ?_; refine xel rfl (ev_loadF rfl rfl (sc rfl) l2) ?_; refine xel rfl (ev_callQ rfl rfl rfl (pf rfl) (q9 ..)) ?_; refine xep rfl rfl ?_; refine runL_nil ?_; refine then_normal ?_; refine run_seq ?_)
    refine run_region_D mo ?_
    (refine runD_q 0 rfl rfl (by kernel_rfl) ?_; refine ⟨_, fun _ => ev_pure rfl, ?_⟩; refine runD_q 1 rfl rfl (by kernel_rfl) ?_; refine ⟨_, fun _ => ev_pure rfl, ?_⟩; refine runD_q 2 rfl rfl (by kernel_rfl) ?_; refine ⟨_, fun _ => ev_pure rfl, ?_⟩; refine runD_q 3 rfl rfl (by kernel_rfl) ?_; refine ⟨_, fun _ => ev_indexAddr rfl rfl rfl (se rfl) (by omega) (by omega), ?_⟩; refine runD_q 4 rfl rfl (by kernel_rfl) ?_; refine ⟨_, fun _ => ev_fieldAddr rfl rfl (fo rfl), ?_⟩; refine runD_q 5 rfl rfl (by kernel_rfl) ?_; refine ⟨_, fun _ => ev_loadF rfl rfl (sc rfl) l3, ?_⟩; refine runD_q 6 rfl rfl (by kernel_rfl) ?_; refine ⟨_, fun _ => ev_pure rfl, ?_⟩; refine runD_q 7 rfl rfl (by kernel_rfl) ?_; refine ⟨_, fun _ => ev_pure rfl, ?_⟩; refine runD_q 8 rfl rfl (by kernel_rfl) ?_; refine ⟨_, fun _ => ev_indexAddr rfl rfl rfl (se rfl) (by omega) (by omega), ?_⟩; refine runD_q 9 rfl rfl (by kernel_rfl) ?_; refine ⟨_, fun _ => ev_fieldAddr rfl rfl (fo rfl), ?_⟩; refine runD_q 10 rfl rfl (by kernel_rfl) ?_; refine ⟨_, fun _ => ev_loadF rfl rfl (sc rfl) l4, ?_⟩; refine runD_q 11 rfl rfl (by kernel_rfl) ?_; refine ⟨_, fun _ => ev_pure rfl, ?_⟩; refine runD_q 12 rfl rfl (by kernel_rfl) ?_; refine ⟨_, fun _ => ev_pure rfl, ?_⟩; refine runD_q 13 rfl rfl (by kernel_rfl) ?_; refine ⟨_, fun _ => ev_indexAddr rfl rfl rfl (se rfl) (by omega) (by omega), ?_⟩; refine runD_q 14 rfl rfl (by kernel_rfl) ?_; refine ⟨_, fun _ => ev_fieldAddr rfl rfl (fo rfl), ?_⟩; refine runD_q 15 rfl rfl (by kernel_rfl) ?_; refine ⟨_, fun _ => ev_loadF rfl rfl (sc rfl) l5, ?_⟩; refine runD_q 16 rfl rfl (by kernel_rfl) ?_; refine ⟨_, fun _ => ev_pure rfl, ?_⟩; refine runD_1 17 (by kernel_rfl) rfl rfl rfl ?_)
    refine runL_callZ A8 H rfl rfl rfl rfl rfl rfl rfl (pf rfl) (fun y => by (first | rfl | (simp only [List.append_eq, cnt_append, cnt_cons, cnt_nil, blk]; omega) | (simp only [List.append_eq, cnt_append, cnt_cons, cnt_nil, blk]; done))) (sp_amend _ H m M hH hw (by omega) x.trader x.id x.price n hxpi (by unfold InI; omega) (by rw [hxf]; exact hxk)) ?_
    rw [ham]
    rintro v _ ⟨a1, c1', ts, A1, G1, H1, rfl, hts, -, own1, hF1, hH1, rfl⟩
    have htn : ts = [] := List.map_eq_nil_iff.1 hts
    subst htn
    dsimp only at hH1 ⊢
    (refine runL_nil ?_; refine endS_d rfl ?_; refine runD_q 18 rfl rfl (by kernel_rfl) ?_; refine ⟨_, fun _ => ev_pure rfl, ?_⟩; refine runD_q 19 rfl rfl (by kernel_rfl) ?_; refine ⟨_, fun _ => ev_pure rfl, ?_⟩; refine runD_q 20 rfl rfl (by kernel_rfl) ?_; refine ⟨_, fun _ => ev_pure rfl, ?_⟩; refine runD_q 21 rfl rfl (by kernel_rfl) ?_; refine ⟨_, fun _ => ev_pure rfl, ?_⟩; refine runD_q 22 rfl rfl (by kernel_rfl) ?_; refine ⟨_, fun _ => ev_pure rfl, ?_⟩; refine runD_done (by kernel_rfl) ?_; refine then_normal ?_; refine run_seq ?_; refine run_region ?_; refine xep rfl rfl ?_)
    have c1l := congrArg List.length c1
    rw [List.length_set] at c1l
    obtain ⟨b', aw', cw', HB', AW', hB', ownW', hHe'⟩ := hH1
    have hmem' : ∀ K K2 G : Heap, blk m [.pointer (some ⟨b', 0, none⟩), .slice aw' M.W.length cw'] 67 ∈ ((K ++ H1) ++ K2) ++ G := fun K K2 G => by rw [hHe']; simp
    have hBi' : ∀ K K2 G : Heap, BkIn (((K ++ H1) ++ K2) ++ G) b' (bless x.trader x.id n M.B).2 := fun K K2 G => hB'.in fun y my => by rw [hHe']; simp [my]
    have hH1 : MkH m ⟨(bless x.trader x.id n M.B).2, M.W⟩ H1 := ⟨b', aw', cw', HB', AW', hB', ownW', hHe'⟩
    refine RunL.perm (h' := (A8 ++ (A1 ++ G1)) ++ H1) (fun y => by (first | rfl | (simp only [List.append_eq, cnt_append, cnt_cons, cnt_nil, blk]; omega) | (simp only [List.append_eq, cnt_append, cnt_cons, cnt_nil, blk]; done))) ?_
    refine runL_callZ ((A8 ++ (A1 ++ G1)) ++ H1) [] rfl rfl rfl rfl rfl rfl rfl (pf rfl) (fun y => by (first | rfl | (simp only [List.append_eq, cnt_append, cnt_cons, cnt_nil, blk]; omega) | (simp only [List.append_eq, cnt_append, cnt_cons, cnt_nil, blk]; done))) (sp_sall _ m _ (hH1.in fun z mz => by simp only [List.mem_append, mz, true_or, or_true]) c2.b c2.len) ?_
    rw [c1, List.length_set]
    rintro v A15 own15
    obtain ⟨a15, c15, rfl, own15⟩ := own15.at
    have y1 : (!decide ((0 : Int) = 0)) = false := rfl
    have y2 : (!decide ((0 : Int) = 0) || !decide ((([] : List ((Option Addr × Nat) × Out)).length : Int) = 0)) = false := rfl
    have y3 : (!decide ((0 : Int) = 0) || !decide ((([] : List ((Option Addr × Nat) × Out)).length : Int) = 0) || !decide ((all.length : Int) = (all.length : Int))) = false := by simp
    (refine xep rfl rfl ?_; refine runL_nil ?_; refine then_normal ?_; (iterate 2 refine run_seq ?_); refine run_region ?_; (iterate 3 refine xep rfl rfl ?_); refine runL_yes rfl rfl y1 ?_; refine xep rfl rfl ?_; refine runL_yes rfl rfl y1 ?_; refine xel rfl (ev_len rfl rfl (se rfl)) ?_; refine runL_yes rfl rfl y1 ?_; (iterate 3 refine xep rfl rfl ?_); refine runL_yes rfl rfl y1 ?_; refine xep rfl rfl ?_; refine runL_yes rfl rfl y1 ?_; refine xel rfl (ev_len rfl rfl (se rfl)) ?_; refine runL_yes rfl rfl y1 ?_; refine xep rfl rfl ?_; refine runL_yes rfl rfl y1 ?_; refine xel rfl (ev_len rfl rfl (se rfl)) ?_; refine runL_yes rfl rfl y1 ?_; (iterate 3 refine xep rfl rfl ?_); refine runL_yes rfl rfl y3 ?_; refine xep rfl rfl ?_; refine runL_yes rfl rfl y3 ?_)
    refine runL_ev rfl rfl rfl rfl (ev_callQ rfl rfl rfl (pf rfl) (sp_sbook _ m b' aw' _ cw' (hmem' _ _ _))) ?_
    (refine runL_yes rfl rfl y3 ?_)
    refine runL_ev rfl rfl rfl rfl (ev_callQ rfl rfl rfl (pf rfl) (sp_bno _ b' _ (hBi' _ _ _))) ?_
    rw [c3]
    (refine runL_yes rfl rfl y3 ?_; refine xep rfl rfl ?_; refine runL_yes rfl rfl y3 ?_; (iterate 2 refine xep rfl rfl ?_); refine runL_nil ?_; refine then_normal ?_)
    refine run_condF rfl (by simp) ?_
    (refine run_skip ?_; refine then_normal ?_)
    refine RunC.freezeR ?_
    have srcB := own15.src (H := A15 ++ Y) fun z mz => List.mem_append_left _ mz
    have srcA2 := srcA.up (A := A15)
    clear own15
    generalize A15 ++ Y = Y2 at *
    generalize (A8 ++ (A1 ++ G1)) ++ H1 = R at *
    have hset : ∀ {j : Nat} {y : Ord}, all[j]? = some y → (all.set k (wq x n))[j]? = some (if k = j then wq x n else y) := by
      intro j y hy
      have hj := (List.getElem?_eq_some_iff.1 hy).1
      rw [List.getElem?_set]
      by_cases hkj : k = j
      · rw [if_pos hkj, if_pos hkj, if_pos (by omega)]
      · rw [if_neg hkj, if_neg hkj]; exact hy
    have hsl : (all.set k (wq x n)).length = all.length := List.length_set ..
    generalize all.set k (wq x n) = now at *
    ((iterate 2 refine run_seq ?_); refine run_region ?_; refine xep rfl rfl ?_; refine xel rfl (ev_len rfl rfl (se rfl)) ?_; refine xep rfl rfl ?_; refine runL_nil ?_; refine then_normal ?_; refine run_block ?_)
    refine run_loopK (σ := Nat) [8, 11, 12, 15, 96, 97, 98] (fun j => [(8, .slice (some ⟨b7, off7, none⟩) all.length c7), (11, .int .i64 k), (12, .int .i64 n), (15, .slice a15 all.length c15), (96, .slice (some ⟨b7, off7, none⟩) all.length c7), (97, .int .i64 all.length), (98, .int .i64 j)])
      (fun _ => R) (fun j => j ≤ all.length) (fun j => all.length - j) 0 (Nat.zero_le _) rfl (fun y => by (first | rfl | (simp only [List.append_eq, cnt_append, cnt_cons, cnt_nil, blk]; omega) | (simp only [List.append_eq, cnt_append, cnt_cons, cnt_nil, blk]; done))) ?_
    intro j gj
    (refine run_seq ?_; refine run_region ?_; refine xep rfl rfl ?_; refine runL_nil ?_; refine then_normal ?_; refine run_seq ?_)
    (refine run_cond rfl (fun hc => ?_) (fun hc => ?_) <;> (try simp only [z0, z1, z2, z3, z4, z5, z6, z7, z8, z9, Bool.not_true, Bool.not_false, Bool.false_or, Bool.true_and, true_and, and_true, false_or, or_false, reduceCtorEq, Bool.false_eq_true] at hc))
    · obtain ⟨b9, off9, _, _, _, rfl, _⟩ := srcB.pos (by omega)
      obtain ⟨y, hy⟩ : ∃ y, all[j]? = some y := ⟨all[j]'(by omega), List.getElem?_eq_getElem _⟩
      have hyn := hset hy
      have l6 := SrcIs.row oc_len srcA2 rfl hy
      have l7 := SrcIs.row oc_len srcB hsl hyn
      (refine run_skip ?_; refine then_normal ?_; refine run_seq ?_; refine run_block ?_; refine run_seq ?_; refine run_region ?_; (iterate 2 refine xep rfl rfl ?_); refine runL_nil ?_; refine then_normal ?_; refine run_seq ?_; refine run_region ?_; (iterate 2 refine xep rfl rfl ?_); refine xel rfl (ev_indexAddr rfl rfl rfl (se rfl) (by omega) (by omega)) ?_; refine xel rfl (ev_loadAF rfl rfl (ag rfl) (sz rfl) l6 rfl) ?_; refine runL_alloc rfl rfl rfl rfl rfl ze24 (fun _ => ?_); refine runL_store0 rfl rfl rfl rfl rfl (sz rfl) rfl rfl rfl rfl rfl ?_; refine runL_nil ?_; refine then_normal ?_; (iterate 2 refine run_seq ?_); refine run_region ?_; (iterate 3 refine xep rfl rfl ?_); refine runL_nil ?_; refine then_normal ?_)
      rename_i b17
      refine RunC.perm (h' := blk b17 y.cells 24 :: R) (fun y => rfl) ?_
      generalize hz : (if k = j then wq x n else y) = z at *
      refine run_midO (σ := Unit) [8, 11, 12, 15, 16, 17, 96, 97, 98] (fun _ => []) (fun _ => blk b17 z.cells 24 :: R) (fun _ => True) rfl ?_ ?_
      · by_cases hkj : k = j
        · subst hkj
          rw [if_pos rfl] at hz
          have hyx : y = x := by rw [hx] at hy; cases hy; rfl
          subst hyx
          subst hz
          refine run_condT rfl (decide_eq_true rfl) ?_
          (refine run_region ?_; refine xep rfl rfl ?_; refine xel rfl (ev_fieldAddr rfl rfl (fo rfl)) ?_; refine runL_store0 rfl rfl rfl rfl rfl (sz rfl) rfl rfl rfl rfl rfl ?_; refine runL_nil ?_)
          exact midN () [] trivial rfl (fun w => by show cnt w (blk b17 (wq y n).cells 24 :: R) = _; (first | rfl | (simp only [List.append_eq, cnt_append, cnt_cons, cnt_nil, blk]; omega) | (simp only [List.append_eq, cnt_append, cnt_cons, cnt_nil, blk]; done)))
        · rw [if_neg hkj] at hz
          subst hz
          refine run_condF rfl (decide_eq_false (by omega)) ?_
          (refine run_skip ?_)
          exact midN () [] trivial rfl (fun w => by (first | rfl | (simp only [List.append_eq, cnt_append, cnt_cons, cnt_nil, blk]; omega) | (simp only [List.append_eq, cnt_append, cnt_cons, cnt_nil, blk]; done)))
      · intro fr' h' hm
        (refine then_normal ?_)
        refine midN_out hm ?_
        clear hm
        rintro ⟨⟩ -
        refine RunC.perm (h' := R ++ [blk b17 z.cells 24]) (fun w => by (first | rfl | (simp only [List.append_eq, cnt_append, cnt_cons, cnt_nil, blk]; omega) | (simp only [List.append_eq, cnt_append, cnt_cons, cnt_nil, blk]; done))) ?_
        refine run_seq ?_
        refine run_midO (σ := Unit) [8, 11, 12, 15, 96, 97, 98] (fun _ => [(115, .bool (!true))]) (fun _ => R) (fun _ => True) rfl ?_ ?_
        · refine RunC.freezeR ?_
          have l8 : AggF ([blk b17 z.cells 24] ++ Y2) b17 0 z.cells := ⟨_, _, _, memF (.head _), Nat.le_refl _, rfl⟩
          have l1 := l7.up (A := [blk b17 z.cells 24])
          have k1 := ctOrd
          have k2 := tyOrd z
          have k3 := eqOrd z
          refine run_region_D mo ?_
          (refine runD_q 0 rfl rfl (by kernel_rfl) ?_; refine ⟨_, fun _ => ev_pure rfl, ?_⟩; refine runD_q 1 rfl rfl (by kernel_rfl) ?_; refine ⟨_, fun _ => ev_pure rfl, ?_⟩; refine runD_q 2 rfl rfl (by kernel_rfl) ?_; refine ⟨_, fun _ => ev_indexAddr rfl rfl rfl (se rfl) (by omega) (by omega), ?_⟩; refine runD_q 3 rfl rfl (by kernel_rfl) ?_; refine ⟨_, fun _ => ev_loadAF rfl rfl (ag rfl) (sz rfl) l1 rfl, ?_⟩; refine runD_q 4 rfl rfl (by kernel_rfl) ?_; refine ⟨_, fun _ => ev_loadAK rfl rfl (ag rfl) (sz rfl) (memR (memF (.head _))) rfl, ?_⟩; refine runD_q 5 rfl rfl (by kernel_rfl) ?_; refine ⟨_, fun _ => ev_neqQ rfl rfl rfl k1 rfl k2 k3, ?_⟩; refine runD_done (by kernel_rfl) ?_)
          exact midN () [blk b17 z.cells 24] trivial rfl (fun w => by (first | rfl | (simp only [List.append_eq, cnt_append, cnt_cons, cnt_nil, blk]; omega) | (simp only [List.append_eq, cnt_append, cnt_cons, cnt_nil, blk]; done)))
        · intro fr' h' hm
          (refine then_normal ?_)
          refine midN_out hm ?_
          clear hm
          rintro ⟨⟩ -
          refine run_condF rfl rfl ?_
          (refine run_skip ?_; refine in_normal ?_; refine then_normal ?_; refine run_region ?_; refine xel rfl (ev_add rfl rfl rfl (by omega)) ?_; refine xep rfl rfl ?_; refine runL_nil ?_; refine then_normal ?_)
          exact ⟨j + 1, by show j + 1 ≤ _; omega, by show all.length - (j + 1) < all.length - j; omega, rfl, [], fun y => by (first | rfl | (simp only [List.append_eq, cnt_append, cnt_cons, cnt_nil, blk]; omega) | (simp only [List.append_eq, cnt_append, cnt_cons, cnt_nil, blk]; done))⟩
    · (refine run_exit ?_; (iterate 2 refine then_exit ?_); refine in_exit ?_; refine then_normal ?_)
      (refine run_seq ?_; refine run_region ?_; refine xel rfl (ev_callQ rfl rfl rfl (pf rfl) (q3 ..)) ?_; refine xep rfl rfl ?_; refine runL_nil ?_; refine then_normal ?_; refine run_ret ?_)
      exact ⟨_, rfl, rfl⟩
end Go.Proofs.Ytfhpoagnfmgfkaa
