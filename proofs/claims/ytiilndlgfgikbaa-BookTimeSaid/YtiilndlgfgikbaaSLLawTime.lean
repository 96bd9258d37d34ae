/- Contracts of functions of the given program over its translation, each proved by walking its text; used by the laws' rows. It proves no given statement by itself. -/
import Derived.Test.YtiilndlgfgikbaaSLPlT
set_option autoImplicit false
set_option linter.unusedSectionVars false
set_option linter.unusedSimpArgs false
set_option linter.unusedVariables false
set_option maxRecDepth 4000
set_option maxHeartbeats 100000000
namespace Go.Proofs.Ytiilndlgfgikbaa
open Go Go.SL Go.Proofs
def nz (rs : List (List Int)) (k : Nat) : List Int := (rs.take k).map fun r => win (r.getD 0 0) 1 9
def ic (z : Int) : List Value := [.int .i64 z]
theorem ic_len (z : Int) : (ic z).length = 1 := rfl
theorem nz_len {rs : List (List Int)} {k : Nat} (h : k ≤ rs.length) : (nz rs k).length = k := by unfold nz; rw [List.length_map, List.length_take]; omega
theorem nz_succ {rs : List (List Int)} {k : Nat} {r : List Int} (h : rs[k]? = some r) : nz rs (k + 1) = nz rs k ++ [win (r.getD 0 0) 1 9] := by
  have hi := (List.getElem?_eq_some_iff.1 h).1
  unfold nz
  rw [List.take_succ_eq_append_getElem hi, List.map_append, (List.getElem?_eq_some_iff.1 h).2]; rfl
theorem nz_in {rs : List (List Int)} {k : Nat} {n : Int} (h : n ∈ nz rs k) : 1 ≤ n ∧ n ≤ 9 := by
  unfold nz at h
  obtain ⟨r, -, rfl⟩ := List.mem_map.1 h
  exact win_in _ (by omega)
variable [Base]
theorem bookTime_sp (F : Heap) (a : Option Addr) (len cap : Nat) (rs : List (List Int)) (qty : Int) (hR : RowsF F a len 1 rs) (hC : len ≤ cap) (hM : cap ≤ 9223372036854775807) (hqI : InI qty) :
    Sp Try.prog F 5 [.slice a len cap, .int .i64 qty] [] (Ret (.bool true)) := by
  have q3 := bookRuns_sp
  have q1 := fun F f i s k p q => sp_lo F f i s k p q
  have q2 := fun F => sp_Win F qty 1 100 (by omega) (by omega) (by omega)
  have wq1 := win_in qty (show (1 : Int) ≤ 100 by omega)
  generalize win qty 1 100 = Q at *
  have hrl := hR.1
  refine sp_of_code Try.func5 rfl rfl ?_
  (refine run_seq ?_; refine run_region ?_; refine xep rfl rfl ?_; refine runL_nil ?_; refine then_normal ?_; refine run_seq ?_; refine run_region ?_)
  refine runL_call0 rfl rfl rfl rfl rfl rfl rfl (pf rfl) (sp_bnew _) ?_
  rintro v H0 ⟨b, rfl, hH0⟩
  (refine xep rfl rfl ?_; refine runL_nil ?_; refine then_normal ?_; (iterate 2 refine run_seq ?_); refine run_region ?_; refine xep rfl rfl ?_; refine xel rfl (ev_eqNil rfl rfl rfl (pt rfl)) ?_; refine runL_nil ?_; refine then_normal ?_)
  refine run_condF rfl rfl ?_
  (refine run_skip ?_; refine then_normal ?_; refine run_seq ?_; refine run_region ?_; refine xep rfl rfl ?_; refine runL_nil ?_; refine then_normal ?_; (iterate 2 refine run_seq ?_); refine run_region ?_; refine xep rfl rfl ?_; refine runL_nil ?_; refine then_normal ?_; refine run_block ?_)
  refine run_loopK (σ := Nat × (Option Addr × Nat × Heap) × Heap) [0, 1, 5, 6, 7] (fun s => [(0, .slice a len cap), (1, .int .i64 qty), (5, .pointer (some ⟨b, 0, none⟩)), (6, .slice s.2.1.1 s.1 s.2.1.2.1), (7, .int .i64 s.1)]) (fun s => s.2.1.2.2 ++ s.2.2)
    (fun s => s.1 ≤ len ∧ s.1 ≤ 20 ∧ OwnS 3 1 (.slice s.2.1.1 s.1 s.2.1.2.1) s.1 (rows ic (nz rs s.1)) s.2.1.2.2 ∧ BkH b (tB (nz rs s.1)) s.2.2 ∧ BW (tB (nz rs s.1))) (fun s => 20 - s.1) (0, (none, 0, []), H0) ⟨Nat.zero_le _, Nat.zero_le _, .nil _ _, hH0, empty_BW⟩ rfl (fun x => by (first | rfl | (simp only [List.append_eq, cnt_append, cnt_cons, cnt_nil, blk]; omega) | (simp only [List.append_eq, cnt_append, cnt_cons, cnt_nil, blk]; done))) ?_
  rintro ⟨i, ⟨ao, co, A⟩, H⟩ ⟨g1, g2, own, hH, hw⟩
  dsimp only at g1 g2 own hH hw ⊢
  ((iterate 2 refine run_seq ?_); refine run_region ?_; (iterate 2 refine xep rfl rfl ?_); refine xel rfl (ev_len rfl rfl (se rfl)) ?_; (iterate 2 refine xep rfl rfl ?_); (iterate 2 refine xgp rfl rfl rfl ?_); refine xep rfl rfl ?_; refine runL_nil ?_; refine then_normal ?_)
  (refine run_cond rfl (fun hc => ?_) (fun hc => ?_) <;> (try simp only [z0, z1, z2, z3, z4, z5, z6, z7, z8, z9, Bool.not_true, Bool.not_false, Bool.false_or, Bool.true_and, true_and, and_true, false_or, or_false, reduceCtorEq, Bool.false_eq_true] at hc))
  · obtain ⟨zb, off, rfl⟩ := hR.pos (by omega)
    obtain ⟨r, hr, hrl1, hrI, l1⟩ := RowsF.cell hR (i := i) (by omega)
    have hnl := nz_len (rs := rs) (k := i) (by omega)
    have hsu := nz_succ hr
    match r, hrl1 with
    | [z], _ =>
    have l2 : LoadsF F zb (off + (i : Int).toNat * 1) (.int .i64 z) := l1.at 0 _ rfl
    have q4 := fun F => sp_Win F z 1 9 (by omega) (by omega) (by omega)
    have hn := win_in z (show (1 : Int) ≤ 9 by omega)
    change nz rs (i + 1) = nz rs i ++ [win z 1 9] at hsu
    generalize win z 1 9 = n at *
    have hadd := tB_add (ns := nz rs i) (n := n) (by omega) hn
    rw [hnl, ← hsu] at hadd
    have hw2 := (badd_BW (o := tO i n) hw (Int.le_refl _)).1
    rw [hadd] at hw2
    (refine run_skip ?_; refine then_normal ?_; refine run_seq ?_; refine run_block ?_; refine run_seq ?_; refine run_region ?_; (iterate 2 refine xep rfl rfl ?_); refine xel rfl (ev_indexAddr rfl rfl rfl (se rfl) (by omega) (by omega)) ?_; refine xel rfl (ev_loadF rfl rfl (sc rfl) l2) ?_; refine xel rfl (ev_callQ rfl rfl rfl (pf rfl) (q4 ..)) ?_; refine xep rfl rfl ?_; refine runL_nil ?_; refine then_normal ?_; (iterate 2 refine run_seq ?_); refine run_region ?_; (iterate 2 refine xep rfl rfl ?_); refine xel rfl (ev_rem rfl rfl rfl (by omega)) ?_; (iterate 2 refine xep rfl rfl ?_); refine xel rfl (ev_callQ rfl rfl rfl (pf rfl) (q1 ..)) ?_)
    refine runL_callZ A H rfl rfl rfl rfl rfl rfl rfl (pf rfl) (fun y => by (first | rfl | (simp only [List.append_eq, cnt_append, cnt_cons, cnt_nil, blk]; omega) | (simp only [List.append_eq, cnt_append, cnt_cons, cnt_nil, blk]; done))) (sp_badd _ H b _ hH hw (tO i n) (by show InI 1; exact inI rfl) (Int.le_refl _) (by show (0 : Int) ≤ 1099511627776; decide)) ?_
    rw [hadd]
    rintro v _ ⟨a3, c3, A3, H2, rfl, -, hH2, rfl⟩
    dsimp only at hH2 ⊢
    (refine runL_alloc rfl rfl rfl rfl rfl ze29 (fun _ => ?_); refine runL_store0 rfl rfl rfl rfl rfl (sz rfl) rfl rfl rfl rfl rfl ?_; refine runL_nil ?_; refine then_normal ?_; refine run_seq ?_; refine run_region ?_; refine xel rfl (ev_fieldAddr rfl rfl (fo rfl)) ?_; refine xel rfl (ev_loadK rfl rfl (sc rfl) (memF (.head _)) rfl) ?_; refine xep rfl rfl ?_; refine runL_nil ?_; refine then_normal ?_)
    refine run_condF rfl rfl ?_
    (refine run_skip ?_; refine then_normal ?_; refine run_region ?_; (iterate 2 refine xep rfl rfl ?_))
    rename_i xt
    refine runL_buildSlice (l := ic n) rfl rfl rfl rfl rfl (se rfl) ze3 rfl rfl rfl rfl rfl (fun b10 => ?_)
    skip
    refine runL_append (sl := ic n) (blk b10 (ic n) 3 :: blk xt (outV a3 c3 ⟨tO i n, [], n, true, false, false, 0⟩) 29 :: (H2 ++ A3)) rfl rfl rfl rfl rfl rfl rfl (se rfl) (se rfl) ze3 rfl (byt rfl) own (fun y => by
      show cnt y (blk b10 (ic n) 3 :: blk xt (outV a3 c3 ⟨tO i n, [], n, true, false, false, 0⟩) 29 :: (A ++ (H2 ++ A3))) = _
      (first | rfl | (simp only [List.append_eq, cnt_append, cnt_cons, cnt_nil, blk]; omega) | (simp only [List.append_eq, cnt_append, cnt_cons, cnt_nil, blk]; done))) ⟨rfl, .inr ⟨b10, 0, _, _, _, rfl, memF (.head _), by simp [ic], rfl⟩⟩ rfl (by decide) (by decide) (by omega) ?_
    rintro v' A' own'
    have own2 := own'.snoc (x := n) hnl
    rw [← hsu, nz_len (rs := rs) (k := i + 1) (by omega)] at own2
    obtain ⟨a5, c5, rfl, own3⟩ := own2.at
    (refine xep rfl rfl ?_; refine runL_nil ?_; refine in_normal ?_; refine then_normal ?_; refine run_region ?_; refine xep rfl rfl ?_; refine xel rfl (ev_add rfl rfl rfl (by omega)) ?_; refine xep rfl rfl ?_; refine runL_nil ?_; refine then_normal ?_)
    exact ⟨(i + 1, (a5, c5, A'), H2), ⟨by show i + 1 ≤ _; omega, by show i + 1 ≤ _; omega, own3, hH2, hw2⟩, by show 20 - (i + 1) < 20 - i; omega, rfl, blk b10 (ic n) 3 :: blk xt (outV a3 c3 ⟨tO i n, [], n, true, false, false, 0⟩) 29 :: A3, fun y => by (first | rfl | (simp only [List.append_eq, cnt_append, cnt_cons, cnt_nil, blk]; omega) | (simp only [List.append_eq, cnt_append, cnt_cons, cnt_nil, blk]; done))⟩
  · (refine run_exit ?_; (iterate 2 refine then_exit ?_); refine in_exit ?_; refine then_normal ?_)
    have hnl := nz_len (rs := rs) (k := i) (by omega)
    have hni : ∀ n ∈ nz rs i, 1 ≤ n ∧ n ≤ 9 := fun n m => nz_in m
    generalize nz rs i = ns at *
    obtain ⟨hs, X2, t1, t2⟩ := tB_take (ns := ns) (by omega) (fun n m => (hni n m).1) wq1
    obtain ⟨te, tle⟩ := time_end t1
    have tl := time_left t1 (by omega) fun n m => (hni n m).1
    have hfl := flls_len (tQ Q) 100 0 hs
    have hat : ∀ {j : Nat} {f : Fl}, (flls (tQ Q) 100 0 hs)[j]? = some f → ∃ h, hs[j]? = some h ∧ f.maker = h.1 ∧ f.qty = h.2 := fun h => flls_at h
    (refine run_seq ?_; refine run_region ?_; refine xep rfl rfl ?_; refine xel rfl (ev_callQ rfl rfl rfl (pf rfl) (q2 ..)) ?_; refine xep rfl rfl ?_; refine runL_nil ?_; refine then_normal ?_; refine run_seq ?_; refine run_region ?_; (iterate 2 refine xep rfl rfl ?_); refine xel rfl (ev_callQ rfl rfl rfl (pf rfl) (q1 ..)) ?_)
    refine runL_callZ A H rfl rfl rfl rfl rfl rfl rfl (pf rfl) (fun y => by (first | rfl | (simp only [List.append_eq, cnt_append, cnt_cons, cnt_nil, blk]; omega) | (simp only [List.append_eq, cnt_append, cnt_cons, cnt_nil, blk]; done))) (sp_badd _ H b _ hH hw (tQ Q) (by show InI 3; exact inI rfl) (Int.le_refl _) (by show (0 : Int) ≤ 1099511627776; decide)) ?_
    rw [t2]
    rintro v _ ⟨a3, c3, A3, H2, rfl, own3, hH2, rfl⟩
    generalize flls (tQ Q) 100 0 hs = fs at *
    unfold outV
    dsimp only at own3 hH2 ⊢
    (refine runL_alloc rfl rfl rfl rfl rfl ze29 (fun _ => ?_); refine runL_store0 rfl rfl rfl rfl rfl (sz rfl) rfl rfl rfl rfl rfl ?_; refine runL_nil ?_; refine then_normal ?_; (iterate 2 refine run_seq ?_); refine run_region ?_; refine xel rfl (ev_fieldAddr rfl rfl (fo rfl)) ?_; refine xel rfl (ev_loadK rfl rfl (sc rfl) (memF (.head _)) rfl) ?_; refine xel rfl (ev_len rfl rfl (se rfl)) ?_; refine xep rfl rfl ?_; refine runL_nil ?_; refine then_normal ?_; refine run_block ?_)
    rename_i xt
    refine RunC.perm (h' := [] ++ ([blk xt [Value.int .i64 (tQ Q).trader, .int .i64 (tQ Q).id, .int .i64 (tQ Q).firm, .int .i64 (tQ Q).side, .int .i64 (tQ Q).kind, .int .i64 (tQ Q).price, .int .i64 (tQ Q).qty, .int .i64 (tQ Q).show_, .int .i64 (tQ Q).stop, .slice a3 fs.length c3, .int .i64 (Q - sumH hs), .bool false, .bool false, .bool false, .int .i64 0] 29] ++ (A ++ (H2 ++ A3)))) (fun y => by (first | rfl | (simp only [List.append_eq, cnt_append, cnt_cons, cnt_nil, blk]; omega) | (simp only [List.append_eq, cnt_append, cnt_cons, cnt_nil, blk]; done))) ?_
    have lt : AggF (([blk xt [Value.int .i64 (tQ Q).trader, .int .i64 (tQ Q).id, .int .i64 (tQ Q).firm, .int .i64 (tQ Q).side, .int .i64 (tQ Q).kind, .int .i64 (tQ Q).price, .int .i64 (tQ Q).qty, .int .i64 (tQ Q).show_, .int .i64 (tQ Q).stop, .slice a3 fs.length c3, .int .i64 (Q - sumH hs), .bool false, .bool false, .bool false, .int .i64 0] 29] ++ (A ++ (H2 ++ A3))) ++ F) xt 0 [Value.int .i64 (tQ Q).trader, .int .i64 (tQ Q).id, .int .i64 (tQ Q).firm, .int .i64 (tQ Q).side, .int .i64 (tQ Q).kind, .int .i64 (tQ Q).price, .int .i64 (tQ Q).qty, .int .i64 (tQ Q).show_, .int .i64 (tQ Q).stop, .slice a3 fs.length c3, .int .i64 (Q - sumH hs), .bool false, .bool false, .bool false, .int .i64 0] := ⟨_, _, _, memF (.head _), Nat.le_refl _, rfl⟩
    have srcW := own.src (H := ([blk xt [Value.int .i64 (tQ Q).trader, .int .i64 (tQ Q).id, .int .i64 (tQ Q).firm, .int .i64 (tQ Q).side, .int .i64 (tQ Q).kind, .int .i64 (tQ Q).price, .int .i64 (tQ Q).qty, .int .i64 (tQ Q).show_, .int .i64 (tQ Q).stop, .slice a3 fs.length c3, .int .i64 (Q - sumH hs), .bool false, .bool false, .bool false, .int .i64 0] 29] ++ (A ++ (H2 ++ A3))) ++ F) fun y m => by simp [m]
    have srcF := own3.src (H := ([blk xt [Value.int .i64 (tQ Q).trader, .int .i64 (tQ Q).id, .int .i64 (tQ Q).firm, .int .i64 (tQ Q).side, .int .i64 (tQ Q).kind, .int .i64 (tQ Q).price, .int .i64 (tQ Q).qty, .int .i64 (tQ Q).show_, .int .i64 (tQ Q).stop, .slice a3 fs.length c3, .int .i64 (Q - sumH hs), .bool false, .bool false, .bool false, .int .i64 0] 29] ++ (A ++ (H2 ++ A3))) ++ F) fun y m => by simp [m]
    clear own own3 hH hH2 hH0
    generalize ([blk xt [Value.int .i64 (tQ Q).trader, .int .i64 (tQ Q).id, .int .i64 (tQ Q).firm, .int .i64 (tQ Q).side, .int .i64 (tQ Q).kind, .int .i64 (tQ Q).price, .int .i64 (tQ Q).qty, .int .i64 (tQ Q).show_, .int .i64 (tQ Q).stop, .slice a3 fs.length c3, .int .i64 (Q - sumH hs), .bool false, .bool false, .bool false, .int .i64 0] 29] ++ (A ++ (H2 ++ A3))) = M4 at *
    refine RunC.freezeR ?_
    have l1 := lt.at 10 _ rfl
    have l2 := lt.at 14 _ rfl
    have l3 := lt.at 9 _ rfl
    refine run_loopK (σ := Nat) [6, 10, 11, 53, 54, 55] (fun j => [(6, .slice ao i co), (10, .int .i64 (Q - sumH (hs.take j))), (11, .pointer (some ⟨xt, 0, none⟩)), (53, .slice a3 fs.length c3), (54, .int .i64 fs.length), (55, .int .i64 j)])
      (fun _ => []) (fun j => j ≤ fs.length) (fun j => fs.length - j) 0 (Nat.zero_le _) (by simp only [List.take_zero, sumH, Int.sub_zero]; rfl) (fun _ => rfl) ?_
    intro j gj
    have tlj := tl j
    (refine run_seq ?_; refine run_region ?_; refine xep rfl rfl ?_; refine runL_nil ?_; refine then_normal ?_; refine run_seq ?_)
    (refine run_cond rfl (fun hc => ?_) (fun hc => ?_) <;> (try simp only [z0, z1, z2, z3, z4, z5, z6, z7, z8, z9, Bool.not_true, Bool.not_false, Bool.false_or, Bool.true_and, true_and, and_true, false_or, or_false, reduceCtorEq, Bool.false_eq_true] at hc))
    · obtain ⟨b2, off, _, _, _, rfl, _⟩ := srcF.pos (by omega)
      obtain ⟨b3, off3, _, _, _, rfl, _⟩ := srcW.pos (by omega)
      obtain ⟨f, hf⟩ : ∃ f, fs[j]? = some f := ⟨fs[j]'(by omega), List.getElem?_eq_getElem _⟩
      obtain ⟨h, hh, hm1, hm2⟩ := hat hf
      obtain ⟨n, hn1, hn2, hn3⟩ := time_at t1 hh
      have l4 := SrcIs.row fcell_len srcF rfl hf
      have l5 : LoadsF (M4 ++ F) b3 (off3 + (j : Int).toNat * 1) (.int .i64 n) := (SrcIs.row ic_len srcW hnl hn1).at 0 _ rfl
      have hsum := sumH_take hh
      have tlj2 := tl (j + 1)
      have e1 : f.maker.id = j := by rw [hm1, hn2]; push_cast; omega
      have hnin := hni n (List.mem_of_getElem? hn1)
      (refine run_skip ?_; refine then_normal ?_; refine run_seq ?_; refine run_block ?_; refine run_seq ?_; refine run_region ?_; refine xep rfl rfl ?_; refine xel rfl (ev_indexAddr rfl rfl rfl (se rfl) (by omega) (by omega)) ?_; refine xel rfl (ev_loadAF rfl rfl (ag rfl) (sz rfl) l4 rfl) ?_; refine runL_alloc rfl rfl rfl rfl rfl ze36 (fun _ => ?_); refine xep rfl rfl ?_; refine runL_store0 rfl rfl rfl rfl rfl (sz rfl) rfl rfl rfl rfl rfl ?_; refine runL_nil ?_; refine then_normal ?_; (iterate 2 refine run_seq ?_))
      rename_i xg
      refine RunC.perm (h' := [] ++ [blk xg (fcell f) 36]) (fun y => rfl) ?_
      have y1 : decide ((i : Int) ≤ (j : Int)) = false := decide_eq_false (by omega)
      have y2 : (decide ((i : Int) ≤ (j : Int)) || !decide (f.maker.id = (j : Int))) = false := by rw [y1, decide_eq_true e1]; rfl
      have g1 : AggF ([blk xg (fcell f) 36] ++ (M4 ++ F)) xg 0 (fcell f) := ⟨_, _, _, memF (.head _), Nat.le_refl _, rfl⟩
      have l6 := g1.at 1 _ rfl
      have l7 := g1.at 19 _ rfl
      have l8 := l5.up (A := [blk xg (fcell f) 36])
      refine run_midO (σ := Unit) [6, 10, 11, 12, 13, 53, 54, 55] (fun _ => [(81, .bool false)]) (fun _ => [blk xg (fcell f) 36]) (fun _ => True) rfl ?_ ?_
      · refine RunC.freezeR ?_
        refine run_region_D mo ?_
        (refine runD_q 0 rfl rfl (by kernel_rfl) ?_; refine ⟨_, fun _ => ev_pure rfl, ?_⟩; refine runD_q 1 rfl rfl (by kernel_rfl) ?_; refine ⟨_, fun _ => ev_pure rfl, ?_⟩; refine runD_q 2 rfl rfl (by kernel_rfl) ?_; refine ⟨_, fun _ => ev_len rfl rfl (se rfl), ?_⟩; refine runD_q 3 rfl rfl (by kernel_rfl) ?_; refine ⟨_, fun _ => ev_pure rfl, ?_⟩; refine runD_q 4 rfl rfl (by kernel_rfl) ?_; refine ⟨_, fun _ => ev_pure rfl, ?_⟩; refine runD_gq 5 rfl rfl rfl rfl rfl rfl y1 (by kernel_rfl) ?_; refine ⟨_, fun _ => ev_fieldAddr rfl rfl (fo rfl), ?_⟩; refine runD_gq 6 rfl rfl rfl rfl rfl rfl y1 (by kernel_rfl) ?_; refine ⟨_, fun _ => ev_fieldAddr rfl rfl (fo rfl), ?_⟩; refine runD_gq 7 rfl rfl rfl rfl rfl rfl y1 (by kernel_rfl) ?_; refine ⟨_, fun _ => ev_loadK rfl rfl (sc rfl) (memR (memF (.head _))) rfl, ?_⟩; refine runD_gq 8 rfl rfl rfl rfl rfl rfl y1 (by kernel_rfl) ?_; refine ⟨_, fun _ => ev_pure rfl, ?_⟩; refine runD_gq 9 rfl rfl rfl rfl rfl rfl y1 (by kernel_rfl) ?_; refine ⟨_, fun _ => ev_pure rfl, ?_⟩; refine runD_q 10 rfl rfl (by kernel_rfl) ?_; refine ⟨_, fun _ => ev_pure rfl, ?_⟩; refine runD_q 11 rfl rfl (by kernel_rfl) ?_; refine ⟨_, fun _ => ev_pure rfl, ?_⟩; refine runD_gq 12 rfl rfl rfl rfl rfl rfl y2 (by kernel_rfl) ?_; refine ⟨_, fun _ => ev_fieldAddr rfl rfl (fo rfl), ?_⟩; refine runD_gq 13 rfl rfl rfl rfl rfl rfl y2 (by kernel_rfl) ?_; refine ⟨_, fun _ => ev_loadK rfl rfl (sc rfl) (memR (memF (.head _))) rfl, ?_⟩; refine runD_gq 14 rfl rfl rfl rfl rfl rfl y2 (by kernel_rfl) ?_; refine ⟨_, fun _ => ev_pure rfl, ?_⟩; refine runD_gq 15 rfl rfl rfl rfl rfl rfl y2 (by kernel_rfl) ?_; refine ⟨_, fun _ => ev_pure rfl, ?_⟩; refine runD_gq 16 rfl rfl rfl rfl rfl rfl y2 (by kernel_rfl) ?_; refine ⟨_, fun _ => ev_pure rfl, ?_⟩; refine runD_gq 17 rfl rfl rfl rfl rfl rfl y2 (by kernel_rfl) ?_; refine ⟨_, fun _ => ev_indexAddr rfl rfl rfl (se rfl) (by omega) (by omega), ?_⟩; refine runD_gq 18 rfl rfl rfl rfl rfl rfl y2 (by kernel_rfl) ?_; refine ⟨_, fun _ => ev_loadF rfl rfl (sc rfl) l5.up, ?_⟩; refine runD_gq 19 rfl rfl rfl rfl rfl rfl y2 (by kernel_rfl) ?_; refine ⟨_, fun _ => ev_min rfl rfl rfl, ?_⟩; refine runD_gq 20 rfl rfl rfl rfl rfl rfl y2 (by kernel_rfl) ?_; refine ⟨_, fun _ => ev_pure rfl, ?_⟩; refine runD_q 21 rfl rfl (by kernel_rfl) ?_; refine ⟨_, fun _ => ev_pure rfl, ?_⟩; refine runD_done (by kernel_rfl) ?_)
        refine midN () [] trivial ?_ (fun x => by (first | rfl | (simp only [List.append_eq, cnt_append, cnt_cons, cnt_nil, blk]; omega) | (simp only [List.append_eq, cnt_append, cnt_cons, cnt_nil, blk]; done)))
        rw [y2, decide_eq_true (show f.qty = min (Q - sumH (hs.take j)) n by omega)]; rfl
      · intro fr' h' hm
        (refine then_normal ?_)
        refine midN_out hm ?_
        rintro ⟨⟩ -
        refine run_condF rfl rfl ?_
        (refine run_skip ?_; refine then_normal ?_; refine run_region ?_; refine xep rfl rfl ?_; refine xel rfl (ev_fieldAddr rfl rfl (fo rfl)) ?_; refine xel rfl (ev_loadK rfl rfl (sc rfl) (memF (.head _)) rfl) ?_; refine xel rfl (ev_sub rfl rfl rfl (by omega)) ?_; refine xep rfl rfl ?_; refine runL_nil ?_; refine in_normal ?_; refine then_normal ?_; refine run_region ?_; refine xel rfl (ev_add rfl rfl rfl (by omega)) ?_; refine xep rfl rfl ?_; refine runL_nil ?_; refine then_normal ?_)
        refine ⟨j + 1, by omega, by omega, ?_, [blk xg (fcell f) 36], fun y => by (first | rfl | (simp only [List.append_eq, cnt_append, cnt_cons, cnt_nil, blk]; omega) | (simp only [List.append_eq, cnt_append, cnt_cons, cnt_nil, blk]; done))⟩
        rw [hsum, show Q - (sumH (hs.take j) + h.2) = Q - sumH (hs.take j) - f.qty by omega]; rfl
    · (refine run_exit ?_; (iterate 2 refine then_exit ?_); refine in_exit ?_; refine then_normal ?_)
      refine RunC.freezeR (h := []) (A := M4) ?_
      have hj : j = fs.length := by omega
      subst hj
      rw [hfl, List.take_length] at tlj
      have ee : hs.take fs.length = hs := by rw [hfl, List.take_length]
      rw [ee]
      have y1 : (decide ((0 : Int) = 0) && decide (Q - sumH hs = Q - sumH hs) && (decide (Q - sumH hs = 0) || decide ((fs.length : Int) = (i : Int)))) = true := by
        rcases te with h | h
        · simp [h]
        · rw [show fs.length = i by omega]; simp
      (refine run_seq ?_; refine run_region ?_; refine xel rfl (ev_fieldAddr rfl rfl (fo rfl)) ?_; refine xel rfl (ev_loadF rfl rfl (sc rfl) l2) ?_; (iterate 2 refine xep rfl rfl ?_); refine xgl rfl rfl (fun hq => ev_fieldAddr rfl rfl (fo rfl)) ?_; refine xgl rfl rfl (fun hq => ev_loadF rfl rfl (sc rfl) l1) ?_; (iterate 2 refine xgp rfl rfl rfl ?_); (iterate 2 refine xep rfl rfl ?_); (iterate 3 refine xgp rfl rfl rfl ?_); refine xgl rfl rfl (fun hq => ev_fieldAddr rfl rfl (fo rfl)) ?_; refine xgl rfl rfl (fun hq => ev_loadF rfl rfl (sc rfl) l3) ?_; refine xgl rfl rfl (fun hq => ev_len rfl rfl (se rfl)) ?_; refine xgp rfl rfl rfl ?_; refine xgl rfl rfl (fun hq => ev_len rfl rfl (se rfl)) ?_; (iterate 2 refine xgp rfl rfl rfl ?_); (iterate 2 refine xep rfl rfl ?_); refine runL_yes rfl rfl y1 ?_; refine xel rfl (ev_callQ rfl rfl rfl (pf rfl) (q3 ..)) ?_; (iterate 2 refine xep rfl rfl ?_); refine runL_nil ?_; refine then_normal ?_; refine run_ret ?_)
      exact ⟨_, rfl, congrArg Value.bool (by rw [y1]; rfl)⟩
end Go.Proofs.Ytiilndlgfgikbaa
