/- Contracts of functions of the given program over its translation, each proved by walking its text; used by the laws' rows. It proves no given statement by itself. -/
import Derived.Test.YtfhpoagnfmgfkaaSLStO
set_option autoImplicit false
set_option linter.unusedSectionVars false
set_option linter.unusedSimpArgs false
set_option linter.unusedVariables false
set_option maxRecDepth 4000
set_option maxHeartbeats 100000000
namespace Go.Proofs.Ytfhpoagnfmgfkaa
open Go Go.SL Go.Proofs
def twO (x : Ord) (p : Int) : Ord := ⟨x.trader, x.id, x.firm, x.side, x.kind, p, x.qty, min x.show_ x.qty, x.stop⟩
theorem twO_is {x : Ord} {p : Int} (h : 1 ≤ x.qty) : amO x p x.qty = twO x p := by
  unfold amO twO
  rw [show max x.qty 0 = x.qty by omega]
variable [Base]
theorem amend_price {t i p q : Int} {M : Mk} {x : Ord} (h : mfind t i M = (x, true)) (hr : rightP (amO x p q)) (hp : p ≠ x.price ∨ x.qty < q) : mamend t i p q M = ((madd (amO x p q) (mremove t i M).2.2).1, 0, (madd (amO x p q) (mremove t i M).2.2).2) := by
  unfold mamend
  rw [h, if_neg (by simp), if_neg (by unfold right; rw [if_pos hr]; decide), if_neg (fun hc => by dsimp only at hc; rcases hp with hp | hp <;> omega)]
theorem changeTwin_sp (F : Heap) (a : Option Addr) (len cap : Nat) (rs : List (List Int)) (at_ price : Int) (hR : RowsF F a len 7 rs) (hC : len ≤ cap) (hM : cap ≤ 9223372036854775807) (hat : InI at_) (hpr : InI price) :
    Sp Try.prog F 5 [.slice a len cap, .int .i64 at_, .int .i64 price] [] (Ret (.bool true)) := by
  have q3 := changeRuns_sp
  have q4 := fun F => sp_Win F price 95 105 (by omega) (by omega) (by omega)
  have wp := win_in price (show (95 : Int) ≤ 105 by omega)
  generalize win price 95 105 = p at *
  refine sp_of_code Try.func5 rfl rfl ?_
  (refine run_seq ?_; refine run_region ?_; refine xep rfl rfl ?_; refine runL_nil ?_; refine then_normal ?_; refine run_seq ?_; refine run_region ?_; refine xep rfl rfl ?_)
  refine runL_call0 rfl rfl rfl rfl rfl rfl rfl (pf rfl) (sp_filled12 _ a len cap rs (RowsF.mono hR fun x m => by simp [m]) (by omega)) ?_
  rintro v H ⟨m, rfl, hH⟩
  (refine xep rfl rfl ?_)
  refine runL_callZ H [] rfl rfl rfl rfl rfl rfl rfl (pf rfl) (fun y => by (first | rfl | (simp only [List.append_eq, cnt_append, cnt_cons, cnt_nil, blk]; omega) | (simp only [List.append_eq, cnt_append, cnt_cons, cnt_nil, blk]; done))) (sp_filled12 _ a len cap rs (RowsF.mono hR fun x m => by simp [m]) (by omega)) ?_
  rintro v G ⟨w, rfl, hG⟩
  have hok := mfill_ok rs 40
  generalize mfill rs 40 = M at *
  have hno := hok.no
  have hw := hok.w
  have hml := mall_len M
  have hl64 := hw.len
  have hwl : M.W.length ≤ 65536 := by have := hw.len; unfold mlen at this; omega
  have hge : (Option.isNone (some (⟨m, 0, none⟩ : Addr))) = false := rfl
  ((iterate 2 refine xep rfl rfl ?_); refine runL_nil ?_; refine then_normal ?_; (iterate 2 refine run_seq ?_); refine run_region ?_; refine xep rfl rfl ?_; refine xel rfl (ev_eqNil rfl rfl rfl (pt rfl)) ?_; refine xep rfl rfl ?_; refine runL_yes rfl rfl hge ?_; refine xep rfl rfl ?_; refine runL_yes rfl rfl hge ?_; refine xel rfl (ev_eqNil rfl rfl rfl (pt rfl)) ?_; refine xep rfl rfl ?_; refine runL_nil ?_; refine then_normal ?_)
  refine run_condF rfl rfl ?_
  clear hge
  (refine run_skip ?_; refine then_normal ?_; refine run_seq ?_; refine run_region ?_; refine xep rfl rfl ?_)
  refine runL_callZ (H ++ G) [] rfl rfl rfl rfl rfl rfl rfl (pf rfl) (fun y => by (first | rfl | (simp only [List.append_eq, cnt_append, cnt_cons, cnt_nil, blk]; omega) | (simp only [List.append_eq, cnt_append, cnt_cons, cnt_nil, blk]; done))) (sp_sall _ m M (hH.in fun x mx => by simp [mx]) hw.b hw.len) ?_
  rintro v A7 own7
  obtain ⟨a7, c7, rfl, own7⟩ := own7.at
  (refine xep rfl rfl ?_)
  refine runL_nil ?_
  (refine then_normal ?_)
  refine RunC.freezeR ?_
  have srcA := own7.src (H := A7 ++ F) fun x mx => List.mem_append_left _ mx
  clear own7 hR
  generalize A7 ++ F = Y at *
  have hfa : ∀ {k : Nat} {x : Ord}, (mall M)[k]? = some x → mfind x.trader x.id M = (x, true) := fun h => mfind_at hok.u h
  have hoa : ∀ x ∈ mall M, okP x := fun x mx => all_ok hw hok.r mx
  have hsq := (sumM_pos hw).2
  generalize hall : mall M = all at *
  ((iterate 2 refine run_seq ?_); refine run_region ?_; refine xep rfl rfl ?_; refine xel rfl (ev_len rfl rfl (se rfl)) ?_; refine xep rfl rfl ?_; refine runL_nil ?_; refine then_normal ?_)
  by_cases hn0 : all.length = 0
  · refine run_condT rfl (decide_eq_true (by omega)) ?_
    (refine run_seq ?_; refine run_region ?_; refine xel rfl (ev_callQ rfl rfl rfl (pf rfl) (q3 ..)) ?_; refine xep rfl rfl ?_; refine runL_nil ?_; refine then_normal ?_; refine run_ret ?_; refine then_ret ?_)
    exact ⟨_, rfl, rfl⟩
  · refine run_condF rfl (decide_eq_false (by omega)) ?_
    have q8 := fun F => sp_Win F at_ 0 ((all.length : Int) - 1) (by omega) (by omega) (by omega)
    have wk := win_in at_ (show (0 : Int) ≤ (all.length : Int) - 1 by omega)
    obtain ⟨k, hk⟩ : ∃ k : Nat, win at_ 0 ((all.length : Int) - 1) = k := ⟨(win at_ 0 ((all.length : Int) - 1)).toNat, by omega⟩
    rw [hk] at q8 wk
    obtain ⟨x, hx⟩ : ∃ x, all[k]? = some x := ⟨all[k]'(by omega), List.getElem?_eq_getElem _⟩
    have hxf := hfa hx
    have hxo := hoa x (List.mem_of_getElem? hx)
    have hxq := hsq x (List.mem_of_getElem? hx)
    have hxk : InI x.kind := by
      obtain ⟨-, -, -, -, -, -, -, -, h9, h10, -⟩ := hxo
      unfold InI; omega
    obtain ⟨b7, off7, _, _, _, rfl, _⟩ := srcA.pos (by omega)
    have l1 := SrcIs.row oc_len srcA rfl hx
    (refine run_skip ?_; refine then_normal ?_; refine run_seq ?_; refine run_region ?_; (iterate 3 refine xep rfl rfl ?_); refine xel rfl (ev_len rfl rfl (se rfl)) ?_; refine xel rfl (ev_sub rfl rfl rfl (by omega)) ?_; refine xel rfl (ev_callQ rfl rfl rfl (pf rfl) (q8 ..)) ?_; refine xel rfl (ev_indexAddr rfl rfl rfl (se rfl) (by omega) (by omega)) ?_; refine xel rfl (ev_loadAF rfl rfl (ag rfl) (sz rfl) l1 rfl) ?_; refine runL_alloc rfl rfl rfl rfl rfl ze24 (fun _ => ?_); refine runL_store0 rfl rfl rfl rfl rfl (sz rfl) rfl rfl rfl rfl rfl ?_; refine runL_nil ?_; refine then_normal ?_; refine run_seq ?_; refine run_region ?_; refine xep rfl rfl ?_; refine xel rfl (ev_callQ rfl rfl rfl (pf rfl) (q4 ..)) ?_; refine xep rfl rfl ?_; refine runL_nil ?_; refine then_normal ?_; (iterate 2 refine run_seq ?_); refine run_region ?_; refine xep rfl rfl ?_; refine xel rfl (ev_fieldAddr rfl rfl (fo rfl)) ?_; refine xel rfl (ev_loadK rfl rfl (sc rfl) (memF (.head _)) rfl) ?_; (iterate 2 refine xep rfl rfl ?_); refine xgl rfl rfl (fun hq => ev_fieldAddr rfl rfl (fo rfl)) ?_; refine xgl rfl rfl (fun hq => ev_loadK rfl rfl (sc rfl) (memF (.head _)) rfl) ?_; refine xgp rfl rfl rfl ?_; refine xep rfl rfl ?_; refine runL_nil ?_; refine then_normal ?_)
    rename_i b10
    refine RunC.perm (h' := blk b10 x.cells 24 :: (H ++ G)) (fun y => rfl) ?_
    by_cases hs : p = x.price ∨ x.kind = 2
    · refine run_condT rfl (by rcases hs with h | h <;> simp [h]) ?_
      (refine run_seq ?_; refine run_region ?_; refine xel rfl (ev_callQ rfl rfl rfl (pf rfl) (q3 ..)) ?_; refine xep rfl rfl ?_; refine runL_nil ?_; refine then_normal ?_; refine run_ret ?_; refine then_ret ?_)
      exact ⟨_, rfl, rfl⟩
    · have hs1 : ¬ p = x.price := fun h => hs (.inl h)
      have hs2 : ¬ x.kind = 2 := fun h => hs (.inr h)
      refine run_condF rfl (by rw [decide_eq_false hs1, decide_eq_false hs2]; rfl) ?_
      have hrt := am_right (p := p) (q := x.qty) hxo hxq.1 hxq.2 ⟨fun h => absurd h hs2, fun _ => by omega⟩
      have ham := amend_price hxf hrt (.inl hs1)
      have hmw := mremove_MW (t := x.trader) (i := x.id) hw
      have hmn := mremove_no x.trader x.id M
      (refine run_skip ?_; refine then_normal ?_; refine run_seq ?_; refine run_region ?_; refine xep rfl rfl ?_; refine xel rfl (ev_fieldAddr rfl rfl (fo rfl)) ?_; refine xel rfl (ev_loadK rfl rfl (sc rfl) (memF (.head _)) rfl) ?_; refine xel rfl (ev_fieldAddr rfl rfl (fo rfl)) ?_; refine xel rfl (ev_loadK rfl rfl (sc rfl) (memF (.head _)) rfl) ?_; refine xep rfl rfl ?_; refine xel rfl (ev_fieldAddr rfl rfl (fo rfl)) ?_; refine xel rfl (ev_loadK rfl rfl (sc rfl) (memF (.head _)) rfl) ?_)
      refine runL_callZ (blk b10 x.cells 24 :: G) H rfl rfl rfl rfl rfl rfl rfl (pf rfl) (fun y => by (first | rfl | (simp only [List.append_eq, cnt_append, cnt_cons, cnt_nil, blk]; omega) | (simp only [List.append_eq, cnt_append, cnt_cons, cnt_nil, blk]; done))) (sp_amend _ H m M hH hw (by omega) x.trader x.id p x.qty (by unfold InI; omega) (by unfold InI; omega) (by rw [hxf]; exact hxk)) ?_
      rw [ham, twO_is hxq.1]
      rintro v _ ⟨a1, c1, ts1, A1, F1, H1, rfl, hts1, htl1, own1, hF1, hH1, rfl⟩
      dsimp only at hts1 hH1 ⊢
      ((iterate 5 refine xep rfl rfl ?_); refine runL_nil ?_; refine then_normal ?_; refine run_seq ?_; refine run_region ?_; refine xep rfl rfl ?_; refine xel rfl (ev_fieldAddr rfl rfl (fo rfl)) ?_; refine xel rfl (ev_loadK rfl rfl (sc rfl) (memF (.head _)) rfl) ?_; refine xel rfl (ev_fieldAddr rfl rfl (fo rfl)) ?_; refine xel rfl (ev_loadK rfl rfl (sc rfl) (memF (.head _)) rfl) ?_)
      refine runL_callZ (blk b10 x.cells 24 :: (H1 ++ A1 ++ F1)) G rfl rfl rfl rfl rfl rfl rfl (pf rfl) (fun y => by (first | rfl | (simp only [List.append_eq, cnt_append, cnt_cons, cnt_nil, blk]; omega) | (simp only [List.append_eq, cnt_append, cnt_cons, cnt_nil, blk]; done))) (sp_sremove _ G w M hG hw.b hwl x.trader x.id) ?_
      rintro v G2 ⟨rfl, hG2⟩
      have K := madd_ok (o := twO x p) hmw
      have hfs := madd_fs (o := twO x p) hmw
      have cA := fun Y => sp_sadd Y G2 w (mremove x.trader x.id M).2.2 hG2 hmw (by omega) (twO x p) hxk
      generalize (mremove x.trader x.id M).2.2 = M2 at *
      generalize madd (twO x p) M2 = X at *
      (refine runL_nil ?_; refine then_normal ?_; refine run_seq ?_; refine run_region ?_; refine xep rfl rfl ?_; refine xel rfl (ev_fieldAddr rfl rfl (fo rfl)) ?_; refine runL_store0 rfl rfl rfl rfl rfl (sz rfl) rfl rfl rfl rfl rfl ?_; refine runL_nil ?_; refine then_normal ?_; refine run_seq ?_; refine run_region ?_; refine xel rfl (ev_fieldAddr rfl rfl (fo rfl)) ?_; refine xel rfl (ev_loadK rfl rfl (sc rfl) (memF (.head _)) rfl) ?_; refine xel rfl (ev_fieldAddr rfl rfl (fo rfl)) ?_; refine xel rfl (ev_loadK rfl rfl (sc rfl) (memF (.head _)) rfl) ?_; refine xel rfl (ev_min rfl rfl rfl) ?_; refine xel rfl (ev_fieldAddr rfl rfl (fo rfl)) ?_; refine runL_store0 rfl rfl rfl rfl rfl (sz rfl) rfl rfl rfl rfl rfl ?_; refine runL_nil ?_; refine then_normal ?_; refine run_seq ?_; refine run_region ?_; refine xep rfl rfl ?_; refine xel rfl (ev_loadAK rfl rfl (ag rfl) (sz rfl) (memF (.head _)) rfl) ?_)
      refine RunL.perm (h' := blk b10 (twO x p).cells 24 :: (H1 ++ A1 ++ F1 ++ G2)) (fun y => by show cnt y (blk b10 (twO x p).cells 24 :: (H1 ++ A1 ++ F1 ++ G2)) = _; (first | rfl | (simp only [List.append_eq, cnt_append, cnt_cons, cnt_nil, blk]; omega) | (simp only [List.append_eq, cnt_append, cnt_cons, cnt_nil, blk]; done))) ?_
      refine runL_callZ (blk b10 (twO x p).cells 24 :: (H1 ++ A1 ++ F1)) G2 rfl rfl rfl rfl rfl rfl rfl (pf rfl) (fun y => by (first | rfl | (simp only [List.append_eq, cnt_append, cnt_cons, cnt_nil, blk]; omega) | (simp only [List.append_eq, cnt_append, cnt_cons, cnt_nil, blk]; done))) (cA _) ?_
      rintro v _ ⟨a2, c2, ts2, A2, F2, G3, rfl, hts2, htl2, own2, hF2, hG3, rfl⟩
      have hlen : ts2.length = ts1.length := by
        have h1 := congrArg List.length hts1
        have h2 := congrArg List.length hts2
        rw [List.length_map] at h1 h2
        omega
      rw [hlen] at own2 ⊢
      have hgd : true = true := rfl
      (refine xep rfl rfl ?_)
      refine runL_nil ?_
      (refine then_normal ?_)
      refine RunC.freeze ?_
      generalize hZ : blk b10 (twO x p).cells 24 :: (H1 ++ A1 ++ F1) ++ (G3 ++ A2 ++ F2) = Z
      have s1 := own1.src (H := Z ++ Y) fun x mx => List.mem_append_left _ (by rw [← hZ]; simp only [List.mem_append, List.mem_cons, mx, true_or, or_true])
      have s2 := own2.src (H := Z ++ Y) fun x mx => List.mem_append_left _ (by rw [← hZ]; simp only [List.mem_append, List.mem_cons, mx, true_or, or_true])
      have f1 := hF1.src (X := Z ++ Y) fun x mx => List.mem_append_left _ (by rw [← hZ]; simp only [List.mem_append, List.mem_cons, mx, true_or, or_true])
      have f2 := hF2.src (X := Z ++ Y) fun x mx => List.mem_append_left _ (by rw [← hZ]; simp only [List.mem_append, List.mem_cons, mx, true_or, or_true])
      have hM1 : MkIn (Z ++ Y) m X.2 := hH1.in fun x mx => List.mem_append_left _ (by rw [← hZ]; simp only [List.mem_append, List.mem_cons, mx, true_or, or_true])
      have hM2 : MkIn (Z ++ Y) w X.2 := hG3.in fun x mx => List.mem_append_left _ (by rw [← hZ]; simp only [List.mem_append, List.mem_cons, mx, true_or, or_true])
      have hl1 : ∀ t ∈ ts1, t.2.fs.length ≤ 2097152 := fun t mt => hfs t.2 (by rw [← hts1]; exact List.mem_map_of_mem mt)
      clear hZ own1 own2 hF1 hF2 hH1 hG3 hH hG
      have hX2 := mall_len X.2
      have hXl := K.1.len
      have q5 := fun Q : Heap => sp_kOutcomes (Q ++ (Z ++ Y)) a1 a2 ts1.length c1 c2 ts1 ts2 rfl (by rw [hts1, hts2]) (by omega) s1.up s2.up (fun t mt => (f1 t mt).up) (fun t mt => (f2 t mt).up) hl1
      have y1 : decide ((0 : Int) = 0) = true := rfl
      have y2 : (decide ((0 : Int) = 0) && true) = true := rfl
      have y3 : (decide ((0 : Int) = 0) && true && true) = true := rfl
      (refine run_seq ?_; refine run_region ?_; (iterate 3 refine xep rfl rfl ?_); refine runL_yes rfl rfl hgd ?_; refine xep rfl rfl ?_; refine runL_yes rfl rfl hgd ?_; refine xep rfl rfl ?_; refine runL_yes rfl rfl hgd ?_; refine xel rfl (ev_callQ rfl rfl rfl (pf rfl) (q5 ..)) ?_; (iterate 2 refine xep rfl rfl ?_); refine runL_yes rfl rfl hgd ?_; refine xep rfl rfl ?_; refine runL_yes rfl rfl hgd ?_)
      refine runL_callZ [] [] rfl rfl rfl rfl rfl rfl rfl (pf rfl) (fun y => by (first | rfl | (simp only [List.append_eq, cnt_append, cnt_cons, cnt_nil, blk]; omega) | (simp only [List.append_eq, cnt_append, cnt_cons, cnt_nil, blk]; done))) (sp_sall _ m X.2 hM1.up K.1.b K.1.len) ?_
      rintro v A8 own8
      obtain ⟨a8, c8, rfl, own8⟩ := own8.at
      (refine runL_yes rfl rfl hgd ?_; refine xep rfl rfl ?_; refine runL_yes rfl rfl hgd ?_)
      refine runL_callZ A8 [] rfl rfl rfl rfl rfl rfl rfl (pf rfl) (fun y => by (first | rfl | (simp only [List.append_eq, cnt_append, cnt_cons, cnt_nil, blk]; omega) | (simp only [List.append_eq, cnt_append, cnt_cons, cnt_nil, blk]; done))) (sp_sall _ w X.2 hM2.up K.1.b K.1.len) ?_
      rintro v A9 own9
      obtain ⟨a9, c9, rfl, own9⟩ := own9.at
      (refine runL_yes rfl rfl hgd ?_)
      refine runL_ev rfl rfl rfl rfl (ev_callQ rfl rfl rfl (pf rfl) (sp_sameOrd _ a8 a9 (mall X.2).length c8 c9 (mall X.2) rfl (by omega) (own8.src fun z mz => by simp only [List.mem_append, mz, true_or, or_true]) (own9.src fun z mz => by simp only [List.mem_append, mz, true_or, or_true]))) ?_
      ((iterate 2 refine xep rfl rfl ?_); refine runL_yes rfl rfl hgd ?_; refine xel rfl (ev_callQ rfl rfl rfl (pf rfl) (q3 ..)) ?_; (iterate 2 refine xep rfl rfl ?_); refine runL_nil ?_; refine then_normal ?_; refine run_ret ?_)
      exact ⟨_, rfl, rfl⟩
end Go.Proofs.Ytfhpoagnfmgfkaa
