/- Contracts of functions of the given program over its translation, each proved by walking its text; used by the laws' rows. It proves no given statement by itself. -/
import Derived.Test.YtlokkniepoeepaaSLPlST
import Derived.Test.YtlokkniepoeepaaSLLaw11a
set_option autoImplicit false
set_option linter.unusedSectionVars false
set_option linter.unusedSimpArgs false
set_option linter.unusedVariables false
set_option maxRecDepth 4000
set_option maxHeartbeats 100000000
namespace Go.Proofs.Ytlokkniepoeepaa
open Go Go.SL Go.Proofs
def ic (z : Int) : List Value := [.int .i64 z]
theorem ic_len (z : Int) : (ic z).length = 1 := rfl
variable [Base]
theorem stopsTurn_sp (F : Heap) (a : Option Addr) (len cap : Nat) (rs : List (List Int)) (price : Int) (hR : RowsF F a len 1 rs) (hC : len ≤ cap) (hM : cap ≤ 9223372036854775807) (hpI : InI price) :
    Sp Try.prog F 4 [.slice a len cap, .int .i64 price] [] (Ret (.bool true)) := by
  have q3 := stopsRuns_sp
  have q2 := fun F => sp_Win F price 50 60 (by omega) (by omega) (by omega)
  have wp := win_in price (show (50 : Int) ≤ 60 by omega)
  generalize win price 50 60 = p at *
  have hrl := hR.1
  refine sp_of_code Try.func4 rfl rfl ?_
  (refine run_seq ?_; refine run_region ?_; refine xep rfl rfl ?_; refine runL_nil ?_; refine then_normal ?_; refine run_seq ?_; refine run_region ?_)
  refine runL_call0 rfl rfl rfl rfl rfl rfl rfl (pf rfl) (sp_snew _) ?_
  rintro v H0 ⟨m, rfl, hH0⟩
  (refine xep rfl rfl ?_; refine runL_nil ?_; refine then_normal ?_; (iterate 2 refine run_seq ?_); refine run_region ?_; refine xep rfl rfl ?_; refine xel rfl (ev_eqNil rfl rfl rfl (pt rfl)) ?_; refine runL_nil ?_; refine then_normal ?_)
  refine run_condF rfl rfl ?_
  (refine run_skip ?_; refine then_normal ?_; refine run_seq ?_; refine run_region ?_; refine xep rfl rfl ?_; refine xel rfl (ev_callQ rfl rfl rfl (pf rfl) (q2 ..)) ?_; refine xep rfl rfl ?_; refine runL_nil ?_; refine then_normal ?_; refine run_seq ?_; refine run_region ?_; refine xep rfl rfl ?_; refine runL_nil ?_; refine then_normal ?_; (iterate 2 refine run_seq ?_); refine run_region ?_; refine xep rfl rfl ?_; refine runL_nil ?_; refine then_normal ?_; refine run_block ?_)
  refine run_loopK (σ := (Nat × List Ord) × (Option Addr × Nat × Heap) × Heap) [0, 5, 6, 7, 8] (fun s => [(0, .slice a len cap), (5, .pointer (some ⟨m, 0, none⟩)), (6, .int .i64 p), (7, .slice s.2.1.1 (wants p s.1.2).length s.2.1.2.1), (8, .int .i64 s.1.1)]) (fun s => s.2.1.2.2 ++ s.2.2)
    (fun s => s.1.1 ≤ len ∧ s.1.1 ≤ 20 ∧ Wt s.1.1 s.1.2 ∧ OwnS 3 1 (.slice s.2.1.1 (wants p s.1.2).length s.2.1.2.1) (wants p s.1.2).length (rows ic (wants p s.1.2)) s.2.1.2.2 ∧ MkH m ⟨empty, s.1.2⟩ s.2.2 ∧ MW ⟨empty, s.1.2⟩) (fun s => 20 - s.1.1) ((0, []), (none, 0, []), H0) ⟨Nat.zero_le _, Nat.zero_le _, .nil, .nil _ _, hH0, emptyM_ok⟩ rfl (fun x => by (first | rfl | (simp only [List.append_eq, cnt_append, cnt_cons, cnt_nil, blk]; omega) | (simp only [List.append_eq, cnt_append, cnt_cons, cnt_nil, blk]; done))) ?_
  rintro ⟨⟨i, W⟩, ⟨ao, co, A⟩, H⟩ ⟨g1, g2, hW, own, hH, hw⟩
  dsimp only at g1 g2 hW own hH hw ⊢
  have hwl : (wants p W).length ≤ 20 := by have := wants_rest p W; rw [hW.len] at this; omega
  ((iterate 2 refine run_seq ?_); refine run_region ?_; (iterate 2 refine xep rfl rfl ?_); refine xel rfl (ev_len rfl rfl (se rfl)) ?_; (iterate 2 refine xep rfl rfl ?_); (iterate 2 refine xgp rfl rfl rfl ?_); refine xep rfl rfl ?_; refine runL_nil ?_; refine then_normal ?_)
  (refine run_cond rfl (fun hc => ?_) (fun hc => ?_) <;> (try simp only [z0, z1, z2, z3, z4, z5, z6, z7, z8, z9, Bool.not_true, Bool.not_false, Bool.false_or, Bool.true_and, true_and, and_true, false_or, or_false, reduceCtorEq, Bool.false_eq_true] at hc))
  · obtain ⟨zb, off, rfl⟩ := hR.pos (by omega)
    obtain ⟨r, hr, hrl1, hrI, l1⟩ := RowsF.cell hR (i := i) (by omega)
    match r, hrl1 with
    | [z], _ =>
    have l2 : LoadsF F zb (off + (i : Int).toNat * 1) (.int .i64 z) := l1.at 0 _ rfl
    have q4 := fun F => sp_Win F z 45 65 (by omega) (by omega) (by omega)
    have hn := win_in z (show (45 : Int) ≤ 65 by omega)
    generalize win z 45 65 = n at *
    have hadd := turn_wait (s := n) hW (by omega) (by omega) (by omega)
    have hw2 := (madd_ok (o := tq i n) hw).1
    rw [hadd] at hw2
    have hsn := wants_snoc (p := p) (W := W) (i := i) hn.1 (by omega)
    (refine run_skip ?_; refine then_normal ?_; refine run_seq ?_; refine run_block ?_; refine run_seq ?_; refine run_region ?_; (iterate 3 refine xep rfl rfl ?_); refine xel rfl (ev_indexAddr rfl rfl rfl (se rfl) (by omega) (by omega)) ?_; refine xel rfl (ev_loadF rfl rfl (sc rfl) l2) ?_; refine xel rfl (ev_callQ rfl rfl rfl (pf rfl) (q4 ..)) ?_; refine xel rfl (ev_build rfl pl27 rfl) ?_; refine runL_alloc rfl rfl rfl rfl rfl ze27 (fun _ => ?_); refine runL_store0 rfl rfl rfl rfl rfl (sz rfl) rfl rfl rfl rfl rfl ?_; refine runL_nil ?_; refine then_normal ?_; (iterate 2 refine run_seq ?_); refine run_region ?_; refine xep rfl rfl ?_; refine xel rfl (ev_loadAK rfl rfl (ag rfl) (sz rfl) (memF (.head _)) rfl) ?_)
    rename_i x9
    refine runL_callZ (blk x9 (tq i n).cells 27 :: A) H rfl rfl rfl rfl rfl rfl rfl (pf rfl) (fun y => by show cnt y (blk x9 (tq i n).cells 27 :: (A ++ H)) = _; (first | rfl | (simp only [List.append_eq, cnt_append, cnt_cons, cnt_nil, blk]; omega) | (simp only [List.append_eq, cnt_append, cnt_cons, cnt_nil, blk]; done))) (sp_sadd _ H m _ hH hw (by show (0 : Int) ≤ 1099442421760; decide) (tq i n) (inI rfl)) ?_
    rw [hadd]
    rintro v _ ⟨a3, c3, ts3, A3, G3, H2, rfl, ht3, -, own3, -, hH2, rfl⟩
    dsimp only at ht3 hH2 ⊢
    have hl3 : ts3.length = 1 := by simpa using congrArg List.length ht3
    rw [hl3] at own3 ⊢
    obtain ⟨⟨a5, c5⟩, rfl⟩ := map_one ht3
    obtain ⟨b3, rest3, cap3, hv3, rfl, -, -, -⟩ := own3.pos (by decide)
    cases hv3
    refine RunL.perm (h' := blk b3 (rows orow [((a5, c5), ⟨tq i n, [], 1, false, true, false, 0⟩)] ++ rest3) 32 :: blk x9 (tq i n).cells 27 :: (A ++ (H2 ++ G3))) (fun y => by (first | rfl | (simp only [List.append_eq, cnt_append, cnt_cons, cnt_nil, blk]; omega) | (simp only [List.append_eq, cnt_append, cnt_cons, cnt_nil, blk]; done))) ?_
    have y1 : (!decide ((1 : Int) = 1)) = false := rfl
    (refine xep rfl rfl ?_; refine runL_nil ?_; refine then_normal ?_; refine run_seq ?_; refine run_region ?_; refine xep rfl rfl ?_; refine xel rfl (ev_len rfl rfl (se rfl)) ?_; (iterate 2 refine xep rfl rfl ?_); refine runL_yes rfl rfl y1 ?_; refine xep rfl rfl ?_; refine runL_yes rfl rfl y1 ?_; refine xel rfl (ev_indexAddr rfl rfl rfl (se rfl) (by omega) (by omega)) ?_; refine runL_yes rfl rfl y1 ?_; refine xel rfl (ev_fieldAddr rfl rfl (fo rfl)) ?_; refine runL_yes rfl rfl y1 ?_; refine xel rfl (ev_loadK rfl rfl (sc rfl) (memF (.head _)) rfl) ?_; refine runL_yes rfl rfl y1 ?_; (iterate 2 refine xep rfl rfl ?_); refine runL_nil ?_; refine then_normal ?_)
    refine run_condF rfl rfl ?_
    (refine run_skip ?_; refine then_normal ?_; refine run_seq ?_; refine run_region ?_; refine xel rfl (ev_fieldAddr rfl rfl (fo rfl)) ?_; refine xel rfl (ev_loadK rfl rfl (sc rfl) (memF (.tail _ (.head _))) rfl) ?_; (iterate 2 refine xep rfl rfl ?_); refine runL_nil ?_; refine then_normal ?_)
    by_cases hnp : n ≤ p
    · rw [if_pos hnp] at hsn
      refine run_condT rfl (decide_eq_true hnp) ?_
      (refine run_region ?_; (iterate 2 refine xep rfl rfl ?_))
      refine runL_buildSlice (l := ic i) rfl rfl rfl rfl rfl (se rfl) ze3 rfl rfl rfl rfl rfl (fun b55 => ?_)
      skip
      refine runL_append (sl := ic i) (blk b55 (ic i) 3 :: blk b3 (rows orow [((a5, c5), ⟨tq i n, [], 1, false, true, false, 0⟩)] ++ rest3) 32 :: blk x9 (tq i n).cells 27 :: (H2 ++ G3)) rfl rfl rfl rfl rfl rfl rfl (se rfl) (se rfl) ze3 rfl (byt rfl) own (fun y => by (first | rfl | (simp only [List.append_eq, cnt_append, cnt_cons, cnt_nil, blk]; omega) | (simp only [List.append_eq, cnt_append, cnt_cons, cnt_nil, blk]; done))) ⟨rfl, .inr ⟨b55, 0, _, _, _, rfl, memF (.head _), by simp [ic], rfl⟩⟩ rfl (by decide) (by decide) (by omega) ?_
      rintro v' A' own'
      have own2 := own'.snoc (f := ic) (x := (i : Int)) rfl
      rw [← hsn] at own2
      obtain ⟨a6, c6, rfl, own6⟩ := own2.at
      (refine xep rfl rfl ?_; refine runL_nil ?_; refine in_normal ?_; refine then_normal ?_; refine run_region ?_; refine xep rfl rfl ?_; refine xel rfl (ev_add rfl rfl rfl (by omega)) ?_; refine xep rfl rfl ?_; refine runL_nil ?_; refine then_normal ?_)
      exact ⟨((i + 1, W ++ [tq i n]), (a6, c6, A'), H2), ⟨by show i + 1 ≤ _; omega, by show i + 1 ≤ _; omega, hW.snoc (by omega) (by omega), own6, hH2, hw2⟩, by show 20 - (i + 1) < 20 - i; omega, rfl, blk b55 (ic i) 3 :: blk b3 (rows orow [((a5, c5), ⟨tq i n, [], 1, false, true, false, 0⟩)] ++ rest3) 32 :: blk x9 (tq i n).cells 27 :: G3, fun y => by (first | rfl | (simp only [List.append_eq, cnt_append, cnt_cons, cnt_nil, blk]; omega) | (simp only [List.append_eq, cnt_append, cnt_cons, cnt_nil, blk]; done))⟩
    · rw [if_neg hnp] at hsn
      refine run_condF rfl (decide_eq_false hnp) ?_
      (refine run_skip ?_; refine in_normal ?_; refine then_normal ?_; refine run_region ?_; refine xep rfl rfl ?_; refine xel rfl (ev_add rfl rfl rfl (by omega)) ?_; refine xep rfl rfl ?_; refine runL_nil ?_; refine then_normal ?_)
      exact ⟨((i + 1, W ++ [tq i n]), (ao, co, A), H2), ⟨by show i + 1 ≤ _; omega, by show i + 1 ≤ _; omega, hW.snoc (by omega) (by omega), by rw [hsn]; exact own, hH2, hw2⟩, by show 20 - (i + 1) < 20 - i; omega, by rw [hsn]; rfl, blk b3 (rows orow [((a5, c5), ⟨tq i n, [], 1, false, true, false, 0⟩)] ++ rest3) 32 :: blk x9 (tq i n).cells 27 :: G3, fun y => by (first | rfl | (simp only [List.append_eq, cnt_append, cnt_cons, cnt_nil, blk]; omega) | (simp only [List.append_eq, cnt_append, cnt_cons, cnt_nil, blk]; done))⟩
  · (refine run_exit ?_; (iterate 2 refine then_exit ?_); refine in_exit ?_; refine then_normal ?_)
    rename_i hend
    have hi20 : (i : Int) = min (len : Int) 20 := by omega
    have hs := turn_sell hW (by omega) wp.1 wp.2
    have hb := turn_buy hW (by omega) wp.1 wp.2
    have hw2 := (madd_ok (o := tS p) hw).1
    rw [hs] at hw2
    have hw3 := (madd_ok (o := tU p) hw2).1
    rw [hb] at hw3
    dsimp only at hw2 hw3
    (refine run_seq ?_; refine run_region ?_; (iterate 2 refine xep rfl rfl ?_); refine xel rfl (ev_build rfl pl27 rfl) ?_)
    refine runL_callZ A H rfl rfl rfl rfl rfl rfl rfl (pf rfl) (fun y => by (first | rfl | (simp only [List.append_eq, cnt_append, cnt_cons, cnt_nil, blk]; omega) | (simp only [List.append_eq, cnt_append, cnt_cons, cnt_nil, blk]; done))) (sp_sadd _ H m _ hH hw (by show (0 : Int) ≤ 1099442421760; decide) (tS p) (inI rfl)) ?_
    rw [hs]
    rintro v _ ⟨a3, c3, ts3, A3, G3, H2, rfl, -, -, -, -, hH2, rfl⟩
    dsimp only at hH2 ⊢
    (refine runL_nil ?_; refine then_normal ?_; refine run_seq ?_; refine run_region ?_; (iterate 2 refine xep rfl rfl ?_); refine xel rfl (ev_build rfl pl27 rfl) ?_)
    refine runL_callZ (A ++ (A3 ++ G3)) H2 rfl rfl rfl rfl rfl rfl rfl (pf rfl) (fun y => by (first | rfl | (simp only [List.append_eq, cnt_append, cnt_cons, cnt_nil, blk]; omega) | (simp only [List.append_eq, cnt_append, cnt_cons, cnt_nil, blk]; done))) (sp_sadd _ H2 m _ hH2 hw2 (by show (0 : Int) ≤ 1099442421760; decide) (tU p) (inI rfl)) ?_
    rw [hb]
    rintro v _ ⟨a4, c4, ts, A4, G4, H4, rfl, hts, -, own4, -, hH4, rfl⟩
    dsimp only at hts hH4 ⊢
    have hlt : ts.length = 1 + (wants p W).length := by
      have := congrArg List.length hts
      rw [wants_len]
      simp only [List.length_map, List.length_cons] at this
      omega
    have hrest := wants_rest p W
    have hwg : ∀ (j : Nat) (x : Int), (wants p W)[j]? = some x → ∃ t, ts[j + 1]? = some t ∧ t.2 = gone ⟨t.2.order.trader, x, t.2.order.firm, t.2.order.side, t.2.order.kind, t.2.order.price, t.2.order.qty, t.2.order.show_, t.2.order.stop⟩ := by
      intro j x hx
      unfold wants at hx
      rw [List.getElem?_map] at hx
      obtain ⟨o, ho, rfl⟩ := Option.map_eq_some_iff.1 hx
      have h1 : (ts.map (·.2))[j + 1]? = some (gone o) := by rw [hts, List.getElem?_cons_succ, List.getElem?_map, ho]; rfl
      rw [List.getElem?_map] at h1
      obtain ⟨t, ht, e⟩ := Option.map_eq_some_iff.1 h1
      exact ⟨t, ht, by rw [e]; rfl⟩
    (refine xep rfl rfl ?_)
    refine runL_nil ?_
    (refine then_normal ?_)
    refine RunC.freeze ?_
    have srcW := own.src (H := A ++ (A3 ++ G3) ++ (H4 ++ A4 ++ G4) ++ F) fun x mx => by simp only [List.mem_append, mx, true_or, or_true]
    have srcO := own4.src (H := A ++ (A3 ++ G3) ++ (H4 ++ A4 ++ G4) ++ F) fun x mx => by simp only [List.mem_append, mx, true_or, or_true]
    have hMi : MkIn (A ++ (A3 ++ G3) ++ (H4 ++ A4 ++ G4) ++ F) m _ := hH4.in fun x mx => by simp only [List.mem_append, mx, true_or, or_true]
    clear own own4 hH hH2 hH4 hH0
    generalize A ++ (A3 ++ G3) ++ (H4 ++ A4 ++ G4) ++ F = X at *
    generalize A ++ (A3 ++ G3) ++ (H4 ++ A4 ++ G4) = X2 at *
    clear hts hs hb
    generalize hws : wants p W = ws at *
    ((iterate 2 refine run_seq ?_); refine run_region ?_; refine xep rfl rfl ?_; refine xel rfl (ev_len rfl rfl (se rfl)) ?_; refine xep rfl rfl ?_; refine xel rfl (ev_len rfl rfl (se rfl)) ?_; refine xel rfl (ev_add rfl rfl rfl (by omega)) ?_; refine xep rfl rfl ?_; refine runL_nil ?_; refine then_normal ?_)
    refine run_condF rfl (by rw [hlt]; simp) ?_
    (refine run_skip ?_; refine then_normal ?_; (iterate 2 refine run_seq ?_); refine run_region ?_; refine xep rfl rfl ?_; refine xel rfl (ev_len rfl rfl (se rfl)) ?_; refine xep rfl rfl ?_; refine runL_nil ?_; refine then_normal ?_; refine run_block ?_)
    refine run_loopK (σ := Nat) [0, 5, 7, 11, 71, 72, 73] (fun j => [(0, .slice a len cap), (5, .pointer (some ⟨m, 0, none⟩)), (7, .slice ao ws.length co), (11, .slice a4 ts.length c4), (71, .slice ao ws.length co), (72, .int .i64 ws.length), (73, .int .i64 j)])
      (fun _ => []) (fun j => j ≤ ws.length) (fun j => ws.length - j) 0 (Nat.zero_le _) rfl (fun _ => rfl) ?_
    intro j gj
    (refine run_seq ?_; refine run_region ?_; refine xep rfl rfl ?_; refine runL_nil ?_; refine then_normal ?_; refine run_seq ?_)
    (refine run_cond rfl (fun hc => ?_) (fun hc => ?_) <;> (try simp only [z0, z1, z2, z3, z4, z5, z6, z7, z8, z9, Bool.not_true, Bool.not_false, Bool.false_or, Bool.true_and, true_and, and_true, false_or, or_false, reduceCtorEq, Bool.false_eq_true] at hc))
    · obtain ⟨b1, off1, _, _, _, rfl, _⟩ := srcW.pos (by omega)
      obtain ⟨b2, off2, _, _, _, rfl, _⟩ := srcO.pos (by omega)
      obtain ⟨x, hx⟩ : ∃ x, ws[j]? = some x := ⟨ws[j]'(by omega), List.getElem?_eq_getElem _⟩
      obtain ⟨t, ht, ht2⟩ := hwg j x hx
      have l1 : LoadsF X b1 (off1 + (j : Int).toNat * 1) (.int .i64 x) := (SrcIs.row ic_len srcW rfl hx).at 0 _ rfl
      have l2 := SrcIs.row orow_len srcO rfl ht
      have ej : ((j : Int) + 1).toNat = j + 1 := by omega
      rw [← ej] at l2
      have e1 : t.2.order.id = x := congrArg (·.order.id) ht2
      have e2 : t.2.left = 1 := congrArg (·.left) ht2
      have e3 : t.2.rests = false := congrArg (·.rests) ht2
      have l3 : LoadsF X b2 (off2 + ((j : Int) + 1).toNat * 15 + 0 + 1) (.int .i64 x) := by rw [← e1]; exact l2.at 1 _ rfl
      have l4 : LoadsF X b2 (off2 + ((j : Int) + 1).toNat * 15 + 10) (.int .i64 1) := by have h := l2.at 10 _ rfl; rw [e2] at h; exact h
      have l5 : LoadsF X b2 (off2 + ((j : Int) + 1).toNat * 15 + 11) (.bool false) := by rw [← e3]; exact l2.at 11 _ rfl
      clear l2
      have y1 : (!decide (x = x)) = false := by simp
      have y2 : (!decide (x = x) || !decide ((1 : Int) = 1)) = false := by simp
      (refine run_skip ?_; refine then_normal ?_; refine run_seq ?_; refine run_block ?_; refine run_seq ?_; refine run_region ?_; refine xep rfl rfl ?_; refine xel rfl (ev_indexAddr rfl rfl rfl (se rfl) (by omega) (by omega)) ?_; refine xel rfl (ev_loadF rfl rfl (sc rfl) l1) ?_; (iterate 2 refine xep rfl rfl ?_); refine runL_nil ?_; refine then_normal ?_; refine run_seq ?_; refine run_region ?_; (iterate 2 refine xep rfl rfl ?_); refine xel rfl (ev_add rfl rfl rfl (by omega)) ?_; refine xel rfl (ev_indexAddr rfl rfl rfl (se rfl) (by omega) (by omega)) ?_; (iterate 2 refine xel rfl (ev_fieldAddr rfl rfl (fo rfl)) ?_); refine xel rfl (ev_loadF rfl rfl (sc rfl) l3) ?_; (iterate 3 refine xep rfl rfl ?_); refine runL_yes rfl rfl y1 ?_; refine xep rfl rfl ?_; refine runL_yes rfl rfl y1 ?_; refine xep rfl rfl ?_; refine runL_yes rfl rfl y1 ?_; refine xel rfl (ev_add rfl rfl rfl (by omega)) ?_; refine runL_yes rfl rfl y1 ?_; refine xel rfl (ev_indexAddr rfl rfl rfl (se rfl) (by omega) (by omega)) ?_; refine runL_yes rfl rfl y1 ?_; refine xel rfl (ev_fieldAddr rfl rfl (fo rfl)) ?_; refine runL_yes rfl rfl y1 ?_; refine xel rfl (ev_loadF rfl rfl (sc rfl) l4) ?_; refine runL_yes rfl rfl y1 ?_; (iterate 3 refine xep rfl rfl ?_); refine runL_yes rfl rfl y2 ?_; refine xep rfl rfl ?_; refine runL_yes rfl rfl y2 ?_; refine xep rfl rfl ?_; refine runL_yes rfl rfl y2 ?_; refine xel rfl (ev_add rfl rfl rfl (by omega)) ?_; refine runL_yes rfl rfl y2 ?_; refine xel rfl (ev_indexAddr rfl rfl rfl (se rfl) (by omega) (by omega)) ?_; refine runL_yes rfl rfl y2 ?_; refine xel rfl (ev_fieldAddr rfl rfl (fo rfl)) ?_; refine runL_yes rfl rfl y2 ?_; refine xel rfl (ev_loadF rfl rfl (sc rfl) l5) ?_; refine xep rfl rfl ?_; refine runL_nil ?_; refine then_normal ?_)
      refine run_condF rfl (by simp) ?_
      (refine run_skip ?_; refine in_normal ?_; refine then_normal ?_; refine run_region ?_; refine xel rfl (ev_add rfl rfl rfl (by omega)) ?_; refine xep rfl rfl ?_; refine runL_nil ?_; refine then_normal ?_)
      exact ⟨j + 1, by show j + 1 ≤ _; omega, by show ws.length - (j + 1) < ws.length - j; omega, rfl, [], fun _ => rfl⟩
    · (refine run_exit ?_; (iterate 2 refine then_exit ?_); refine in_exit ?_; refine then_normal ?_)
      have hwf : (W.filter fun o => !hit o p).length ≤ 20 := by rw [hW.len] at hrest; omega
      (refine run_seq ?_; refine run_region ?_; refine xep rfl rfl ?_)
      refine runL_call0 rfl rfl rfl rfl rfl rfl rfl (pf rfl) (sp_swaiting _ m _ hMi.up (by show (W.filter fun o => !hit o p).length ≤ 65536; omega)) ?_
      rintro v A9 own9
      obtain ⟨a9, c9, rfl, own9⟩ := own9.at
      (refine xel rfl (ev_len rfl rfl (se rfl)) ?_; refine xep rfl rfl ?_; refine xel rfl (ev_len rfl rfl (se rfl)) ?_; refine xel rfl (ev_min rfl rfl rfl) ?_; refine xep rfl rfl ?_; refine xel rfl (ev_len rfl rfl (se rfl)) ?_; refine xel rfl (ev_sub rfl rfl rfl (by omega)) ?_; (iterate 2 refine xep rfl rfl ?_); refine xgl rfl rfl (fun hq => ev_callQ rfl rfl rfl (pf rfl) (q3 ..)) ?_; (iterate 2 refine xep rfl rfl ?_); refine runL_nil ?_; refine then_normal ?_; refine run_ret ?_)
      refine ⟨_, rfl, ?_⟩
      show Value.bool (decide (((W.filter fun o => !hit o p).length : Int) = min (len : Int) 20 - (ws.length : Int)) && true) = _
      rw [decide_eq_true (by rw [hW.len] at hrest; omega)]; rfl
end Go.Proofs.Ytlokkniepoeepaa
