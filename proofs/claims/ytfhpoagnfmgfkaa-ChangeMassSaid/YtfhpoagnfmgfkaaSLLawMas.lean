/- Contracts of functions of the given program over its translation, each proved by walking its text; used by the laws' rows. It proves no given statement by itself. -/
import Derived.Test.YtfhpoagnfmgfkaaSLStMs
set_option autoImplicit false
set_option linter.unusedSectionVars false
set_option linter.unusedSimpArgs false
set_option linter.unusedVariables false
set_option maxRecDepth 4000
set_option maxHeartbeats 100000000
namespace Go.Proofs.Ytfhpoagnfmgfkaa
open Go Go.SL Go.Proofs
variable [Base]
theorem changeMass_sp (F : Heap) (a : Option Addr) (len cap : Nat) (rs : List (List Int)) (T : Int) (hR : RowsF F a len 7 rs) (hC : len ≤ cap) (hM : cap ≤ 9223372036854775807) :
    Sp Try.prog F 8 [.slice a len cap, .int .u64 T] [] (Ret (.bool true)) := by
  have q3 := changeRuns_sp
  refine sp_of_code Try.func8 rfl rfl ?_
  (refine run_seq ?_; refine run_region ?_; refine xep rfl rfl ?_; refine runL_nil ?_; refine then_normal ?_; refine run_seq ?_; refine run_region ?_; refine xep rfl rfl ?_)
  refine runL_call0 rfl rfl rfl rfl rfl rfl rfl (pf rfl) (sp_filled12 _ a len cap rs (RowsF.mono hR fun x m => by simp [m]) (by omega)) ?_
  rintro v H ⟨m, rfl, hH⟩
  have hok := mfill_ok rs 40
  generalize mfill rs 40 = M at *
  have hw := hok.w
  have hml := mall_len M
  have hl64 := hw.len
  have hsq := (sumM_pos hw).2
  have hoa : ∀ x ∈ mall M, okP x := fun x mx => all_ok hw hok.r mx
  obtain ⟨e1, e2, e3, e4⟩ := mass_is (f := tbit T) hw hok.u (mall M).length (Nat.le_refl _)
  rw [List.take_length, List.drop_length, List.append_nil] at e1
  rw [List.take_length] at e2 e3
  have cM := fun Y => sp_mass Y H m M hH hw hok.u hok.r T
  (refine xep rfl rfl ?_; refine runL_nil ?_; refine then_normal ?_; (iterate 2 refine run_seq ?_); refine run_region ?_; refine xep rfl rfl ?_; refine xel rfl (ev_eqNil rfl rfl rfl (pt rfl)) ?_; refine runL_nil ?_; refine then_normal ?_)
  refine run_condF rfl rfl ?_
  (refine run_skip ?_; refine then_normal ?_; refine run_seq ?_; refine run_region ?_; (iterate 2 refine xep rfl rfl ?_); refine runL_nil ?_; refine then_normal ?_; (iterate 2 refine run_seq ?_); refine run_region ?_; refine xep rfl rfl ?_)
  refine runL_callZ H [] rfl rfl rfl rfl rfl rfl rfl (pf rfl) (fun y => by (first | rfl | (simp only [List.append_eq, cnt_append, cnt_cons, cnt_nil, blk]; omega) | (simp only [List.append_eq, cnt_append, cnt_cons, cnt_nil, blk]; done))) (sp_sall _ m M (hH.in fun x mx => by simp [mx]) hw.b hw.len) ?_
  rintro v A9 own9
  obtain ⟨a9, c9, rfl, own9⟩ := own9.at
  generalize massM (tbit T) M (mall M) = N at *
  generalize hall : mall M = all at *
  (refine xel rfl (ev_len rfl rfl (se rfl)) ?_; refine xep rfl rfl ?_; refine runL_nil ?_; refine then_normal ?_; refine run_block ?_)
  refine run_loopK (σ := Nat × (Option Addr × Nat × Heap) × (Option Addr × Nat × Heap)) [1, 5, 6, 7, 20, 21, 22] (fun s => [(1, .int .u64 T), (5, .pointer (some ⟨m, 0, none⟩)), (6, .slice s.2.1.1 (stayL (tbit T) (all.take s.1)).length s.2.1.2.1), (7, .slice s.2.2.1 (wentL (tbit T) (all.take s.1)).length s.2.2.2.1), (20, .slice a9 all.length c9), (21, .int .i64 all.length), (22, .int .i64 s.1)])
    (fun s => A9 ++ (s.2.1.2.2 ++ s.2.2.2.2 ++ H)) (fun s => s.1 ≤ all.length ∧ OwnS 24 9 (.slice s.2.1.1 (stayL (tbit T) (all.take s.1)).length s.2.1.2.1) (stayL (tbit T) (all.take s.1)).length (rows Ord.cells (stayL (tbit T) (all.take s.1))) s.2.1.2.2 ∧ OwnS 24 9 (.slice s.2.2.1 (wentL (tbit T) (all.take s.1)).length s.2.2.2.1) (wentL (tbit T) (all.take s.1)).length (rows Ord.cells (wentL (tbit T) (all.take s.1))) s.2.2.2.2) (fun s => all.length - s.1) (0, (none, 0, []), (none, 0, [])) ⟨Nat.zero_le _, .nil _ _, .nil _ _⟩ rfl (fun x => by (first | rfl | (simp only [List.append_eq, cnt_append, cnt_cons, cnt_nil, blk]; omega) | (simp only [List.append_eq, cnt_append, cnt_cons, cnt_nil, blk]; done))) ?_
  rintro ⟨j, ⟨a6, c6, A6⟩, ⟨a7, c7, A7⟩⟩ ⟨gj, own6, own7⟩
  dsimp only at gj own6 own7 ⊢
  have hgl : (wentL (tbit T) (all.take j)).length ≤ 64 ∧ (stayL (tbit T) (all.take j)).length ≤ 64 := by
    have h1 := List.length_filter_le (fun x : Ord => tbit T x.trader) (all.take j)
    have h2 := List.length_filter_le (fun x : Ord => !tbit T x.trader) (all.take j)
    rw [List.length_take] at h1 h2
    unfold wentL stayL
    omega
  (refine run_seq ?_; refine run_region ?_; refine xep rfl rfl ?_; refine runL_nil ?_; refine then_normal ?_; refine run_seq ?_)
  (refine run_cond rfl (fun hc => ?_) (fun hc => ?_) <;> (try simp only [z0, z1, z2, z3, z4, z5, z6, z7, z8, z9, Bool.not_true, Bool.not_false, Bool.false_or, Bool.true_and, true_and, and_true, false_or, or_false, reduceCtorEq, Bool.false_eq_true] at hc))
  · obtain ⟨b9, rest9, cap9, hv9, rfl, -, -, -⟩ := own9.pos (by omega)
    cases hv9
    obtain ⟨x, hx⟩ : ∃ x, all[j]? = some x := ⟨all[j]'(by omega), List.getElem?_eq_getElem _⟩
    have r1 : RowAt (rows Ord.cells all ++ rest9) (0 + (j : Int).toNat * 9) x.cells := by
      rw [Nat.zero_add]; exact rows_at oc_len hx rest9
    have hx0 := (hoa x (List.mem_of_getElem? hx)).1
    have hwt : wentL (tbit T) (all.take (j + 1)) = wentL (tbit T) (all.take j) ++ (if tbit T x.trader = true then [x] else []) := filter_take hx
    have hst : stayL (tbit T) (all.take (j + 1)) = stayL (tbit T) (all.take j) ++ (if (!tbit T x.trader) = true then [x] else []) := filter_take (p := fun x => !tbit T x.trader) hx
    (refine run_skip ?_; refine then_normal ?_; refine run_seq ?_; refine run_block ?_; refine run_seq ?_; refine run_region ?_; refine xel rfl (ev_indexAddr rfl rfl rfl (se rfl) (by omega) (by omega)) ?_; refine xel rfl (ev_loadAR rfl rfl (ag rfl) (sz rfl) (memF (.head _)) r1 rfl) ?_; refine runL_alloc rfl rfl rfl rfl rfl ze24 (fun _ => ?_); refine runL_store0 rfl rfl rfl rfl rfl (sz rfl) rfl rfl rfl rfl rfl ?_; refine runL_nil ?_; refine then_normal ?_; refine run_seq ?_; refine run_region ?_; refine xep rfl rfl ?_; refine xel rfl (ev_fieldAddr rfl rfl (fo rfl)) ?_; refine xel rfl (ev_loadK rfl rfl (sc rfl) (memF (.head _)) rfl) ?_)
    rename_i x9
    refine RunL.perm (h' := blk x9 x.cells 24 :: ([blk b9 (rows Ord.cells all ++ rest9) 24] ++ (A6 ++ A7 ++ H))) (fun y => rfl) ?_
    refine runL_ev rfl rfl rfl rfl (ev_shr rfl rfl rfl hx0) ?_
    (refine xel rfl (ev_bits rfl rfl rfl rfl) ?_; refine xep rfl rfl ?_; refine runL_nil ?_; refine then_normal ?_)
    by_cases hb : tbit T x.trader = true
    · rw [if_pos hb] at hwt
      rw [if_neg (by rw [hb]; simp), List.append_nil] at hst
      refine run_condT rfl hb ?_
      (refine run_region ?_; refine xep rfl rfl ?_; refine xel rfl (ev_loadAK rfl rfl (ag rfl) (sz rfl) (memF (.head _)) rfl) ?_)
      refine runL_buildSlice (l := x.cells) rfl rfl rfl rfl rfl (se rfl) ze24 rfl rfl rfl rfl rfl (fun b30 => ?_)
      skip
      refine runL_append (sl := x.cells) (blk b30 x.cells 24 :: blk x9 x.cells 24 :: ([blk b9 (rows Ord.cells all ++ rest9) 24] ++ (A6 ++ H))) rfl rfl rfl rfl rfl rfl rfl (se rfl) (se rfl) ze24 rfl (byt rfl) own7 (fun y => by (first | rfl | (simp only [List.append_eq, cnt_append, cnt_cons, cnt_nil, blk]; omega) | (simp only [List.append_eq, cnt_append, cnt_cons, cnt_nil, blk]; done))) ⟨rfl, .inr ⟨b30, 0, _, _, _, rfl, memF (.head _), by simp [Ord.cells], rfl⟩⟩ rfl (by decide) (by decide) (by omega) ?_
      rintro v' A8 own'
      obtain ⟨a8, c8, rfl, own8⟩ := (own'.snoc (f := Ord.cells) (x := x) rfl).at
      rw [← hwt] at own8
      (refine xep rfl rfl ?_; refine runL_nil ?_; refine in_normal ?_; refine then_normal ?_; refine run_region ?_; refine xel rfl (ev_add rfl rfl rfl (by omega)) ?_; refine xep rfl rfl ?_; refine runL_nil ?_; refine then_normal ?_)
      refine ⟨(j + 1, (a6, c6, A6), (a8, c8, A8)), ⟨by show j + 1 ≤ _; omega, by rw [hst]; exact own6, own8⟩, by show all.length - (j + 1) < all.length - j; omega, ?_, blk b30 x.cells 24 :: [blk x9 x.cells 24], fun y => by (first | rfl | (simp only [List.append_eq, cnt_append, cnt_cons, cnt_nil, blk]; omega) | (simp only [List.append_eq, cnt_append, cnt_cons, cnt_nil, blk]; done))⟩
      dsimp only
      rw [hwt, hst]; rfl
    · have hb : tbit T x.trader = false := by simpa using hb
      rw [if_neg (by rw [hb]; simp), List.append_nil] at hwt
      rw [if_pos (by rw [hb]; rfl)] at hst
      refine run_condF rfl hb ?_
      (refine run_region ?_; refine xep rfl rfl ?_; refine xel rfl (ev_loadAK rfl rfl (ag rfl) (sz rfl) (memF (.head _)) rfl) ?_)
      refine runL_buildSlice (l := x.cells) rfl rfl rfl rfl rfl (se rfl) ze24 rfl rfl rfl rfl rfl (fun b30 => ?_)
      skip
      refine runL_append (sl := x.cells) (blk b30 x.cells 24 :: blk x9 x.cells 24 :: ([blk b9 (rows Ord.cells all ++ rest9) 24] ++ (A7 ++ H))) rfl rfl rfl rfl rfl rfl rfl (se rfl) (se rfl) ze24 rfl (byt rfl) own6 (fun y => by (first | rfl | (simp only [List.append_eq, cnt_append, cnt_cons, cnt_nil, blk]; omega) | (simp only [List.append_eq, cnt_append, cnt_cons, cnt_nil, blk]; done))) ⟨rfl, .inr ⟨b30, 0, _, _, _, rfl, memF (.head _), by simp [Ord.cells], rfl⟩⟩ rfl (by decide) (by decide) (by omega) ?_
      rintro v' A8 own'
      obtain ⟨a8, c8, rfl, own8⟩ := (own'.snoc (f := Ord.cells) (x := x) rfl).at
      rw [← hst] at own8
      (refine xep rfl rfl ?_; refine runL_nil ?_; refine in_normal ?_; refine then_normal ?_; refine run_region ?_; refine xel rfl (ev_add rfl rfl rfl (by omega)) ?_; refine xep rfl rfl ?_; refine runL_nil ?_; refine then_normal ?_)
      refine ⟨(j + 1, (a8, c8, A8), (a7, c7, A7)), ⟨by show j + 1 ≤ _; omega, own8, by rw [hwt]; exact own7⟩, by show all.length - (j + 1) < all.length - j; omega, ?_, blk b30 x.cells 24 :: [blk x9 x.cells 24], fun y => by (first | rfl | (simp only [List.append_eq, cnt_append, cnt_cons, cnt_nil, blk]; omega) | (simp only [List.append_eq, cnt_append, cnt_cons, cnt_nil, blk]; done))⟩
      dsimp only
      rw [hwt, hst]; rfl
  · (refine run_exit ?_; (iterate 2 refine then_exit ?_); refine in_exit ?_; refine then_normal ?_)
    have ej : all.take j = all := List.take_of_length_le (by omega)
    rw [ej] at own6 own7 hgl ⊢
    (refine run_seq ?_; refine run_region ?_; (iterate 2 refine xep rfl rfl ?_))
    have hsq2 : ∀ x ∈ stayL (tbit T) all, 1 ≤ x.qty ∧ x.qty ≤ 1048576 := fun x mx => hsq x (List.mem_filter.1 mx).1
    generalize wentL (tbit T) all = went at *
    generalize stayL (tbit T) all = stay at *
    refine runL_callZ (A9 ++ (A6 ++ A7)) H rfl rfl rfl rfl rfl rfl rfl (pf rfl) (fun y => by (first | rfl | (simp only [List.append_eq, cnt_append, cnt_cons, cnt_nil, blk]; omega) | (simp only [List.append_eq, cnt_append, cnt_cons, cnt_nil, blk]; done))) (cM _) ?_
    rintro v _ ⟨a10, c10, A10, H2, rfl, own10, hH2, rfl⟩
    (refine xep rfl rfl ?_; refine runL_nil ?_; refine then_normal ?_; (iterate 2 refine run_seq ?_); refine run_region ?_; (iterate 2 refine xep rfl rfl ?_))
    refine runL_ev rfl rfl rfl rfl (ev_callQ rfl rfl rfl (pf rfl) (sp_sameOrd _ a10 a7 went.length c10 c7 went rfl (by omega) (own10.src fun z mz => by simp only [List.mem_append, mz, true_or, or_true]) (own7.src fun z mz => by simp only [List.mem_append, mz, true_or, or_true]))) ?_
    have hge : (!true) = false := rfl
    ((iterate 2 refine xep rfl rfl ?_); refine runL_yes rfl rfl hge ?_; refine xep rfl rfl ?_; refine runL_yes rfl rfl hge ?_)
    refine runL_callZ (A9 ++ (A6 ++ A7) ++ (H2 ++ A10)) [] rfl rfl rfl rfl rfl rfl rfl (pf rfl) (fun y => by (first | rfl | (simp only [List.append_eq, cnt_append, cnt_cons, cnt_nil, blk]; omega) | (simp only [List.append_eq, cnt_append, cnt_cons, cnt_nil, blk]; done))) (sp_sall _ m N (hH2.in fun z mz => by simp only [List.mem_append, mz, true_or, or_true]) e2.b e2.len) ?_
    rw [e1]
    rintro v A11 own11
    obtain ⟨a11, c11, rfl, own11⟩ := own11.at
    (refine runL_yes rfl rfl hge ?_; refine xep rfl rfl ?_; refine runL_yes rfl rfl hge ?_)
    refine runL_ev rfl rfl rfl rfl (ev_callQ rfl rfl rfl (pf rfl) (sp_sameOrd _ a11 a6 stay.length c11 c6 stay rfl (by omega) (own11.src fun z mz => by simp only [List.mem_append, mz, true_or, or_true]) (own6.src fun z mz => by simp only [List.mem_append, mz, true_or, or_true]))) ?_
    (refine runL_yes rfl rfl hge ?_; (iterate 2 refine xep rfl rfl ?_); refine runL_nil ?_; refine then_normal ?_)
    refine run_condF rfl rfl ?_
    clear hge
    (refine run_skip ?_; refine then_normal ?_)
    refine RunC.freeze ?_
    generalize hZ : A9 ++ (A6 ++ A7) ++ (H2 ++ A10) ++ A11 = Z
    have srcS := own6.src (H := Z ++ F) fun z mz => List.mem_append_left _ (by rw [← hZ]; simp only [List.mem_append, mz, true_or, or_true])
    have hMi : MkIn (Z ++ F) m N := hH2.in fun z mz => List.mem_append_left _ (by rw [← hZ]; simp only [List.mem_append, mz, true_or, or_true])
    clear hZ own6 own7 own9 own10 own11 hH2 hH hR cM
    generalize Z ++ F = Y at *
    have hop := fun t j hj => openS_in hsq2 (t := t) j hj
    have q1 := fun (Q : Heap) (t : Int) => sp_open (Q ++ Y) m N hMi.up e2 t
    rw [e1] at q1
    ((iterate 2 refine run_seq ?_); refine run_region ?_; refine xep rfl rfl ?_; refine runL_nil ?_; refine then_normal ?_; refine run_block ?_)
    refine run_loopK (σ := Nat) [5, 6, 11] (fun t => [(5, .pointer (some ⟨m, 0, none⟩)), (6, .slice a6 stay.length c6), (11, .int .i64 t)])
      (fun _ => []) (fun t => t ≤ 6) (fun t => 6 - t) 0 (Nat.zero_le _) rfl (fun _ => rfl) ?_
    intro t gt
    ((iterate 2 refine run_seq ?_); refine run_region ?_; (iterate 2 refine xep rfl rfl ?_); refine runL_nil ?_; refine then_normal ?_)
    (refine run_cond rfl (fun hc => ?_) (fun hc => ?_) <;> (try simp only [z0, z1, z2, z3, z4, z5, z6, z7, z8, z9, Bool.not_true, Bool.not_false, Bool.false_or, Bool.true_and, true_and, and_true, false_or, or_false, reduceCtorEq, Bool.false_eq_true] at hc))
    · have q2 := fun Q : Heap => q1 Q (t : Int)
      (refine run_skip ?_; refine then_normal ?_; refine run_seq ?_; refine run_block ?_; refine run_seq ?_; refine run_region ?_; refine xep rfl rfl ?_; refine runL_nil ?_; refine then_normal ?_; (iterate 2 refine run_seq ?_); refine run_region ?_; refine xep rfl rfl ?_; refine xel rfl (ev_len rfl rfl (se rfl)) ?_; refine xep rfl rfl ?_; refine runL_nil ?_; refine then_normal ?_; refine run_block ?_)
      refine run_loopK (σ := Nat) [5, 6, 11, 12, 59, 60, 61] (fun j => [(5, .pointer (some ⟨m, 0, none⟩)), (6, .slice a6 stay.length c6), (11, .int .i64 t), (12, .int .i64 (openS t (stay.take j))), (59, .slice a6 stay.length c6), (60, .int .i64 stay.length), (61, .int .i64 j)])
        (fun _ => []) (fun j => j ≤ stay.length) (fun j => stay.length - j) 0 (Nat.zero_le _) rfl (fun _ => rfl) ?_
      intro i gi
      have hp1 := hop (t : Int) i gi
      (refine run_seq ?_; refine run_region ?_; refine xep rfl rfl ?_; refine runL_nil ?_; refine then_normal ?_; refine run_seq ?_)
      (refine run_cond rfl (fun hc => ?_) (fun hc => ?_) <;> (try simp only [z0, z1, z2, z3, z4, z5, z6, z7, z8, z9, Bool.not_true, Bool.not_false, Bool.false_or, Bool.true_and, true_and, and_true, false_or, or_false, reduceCtorEq, Bool.false_eq_true] at hc))
      · obtain ⟨b9, off9, _, _, _, rfl, _⟩ := srcS.pos (by omega)
        obtain ⟨o, ho⟩ : ∃ o, stay[i]? = some o := ⟨stay[i]'(by omega), List.getElem?_eq_getElem _⟩
        have l1 := SrcIs.row oc_len srcS rfl ho
        have hst := openS_take (t := (t : Int)) ho
        have hoq := hsq2 o (List.mem_of_getElem? ho)
        (refine run_skip ?_; refine then_normal ?_; refine run_seq ?_; refine run_block ?_; refine run_seq ?_; refine run_region ?_; refine xel rfl (ev_indexAddr rfl rfl rfl (se rfl) (by omega) (by omega)) ?_; refine xel rfl (ev_loadAF rfl rfl (ag rfl) (sz rfl) l1 rfl) ?_; refine runL_alloc rfl rfl rfl rfl rfl ze24 (fun _ => ?_); refine runL_store0 rfl rfl rfl rfl rfl (sz rfl) rfl rfl rfl rfl rfl ?_; refine runL_nil ?_; refine then_normal ?_; refine run_seq ?_; refine run_region ?_; refine xel rfl (ev_fieldAddr rfl rfl (fo rfl)) ?_; refine xel rfl (ev_loadK rfl rfl (sc rfl) (memF (.head _)) rfl) ?_; (iterate 2 refine xep rfl rfl ?_); refine runL_nil ?_; refine then_normal ?_)
        rename_i x14
        by_cases hot : o.trader = (t : Int)
        · rw [if_pos hot] at hst
          refine run_condT rfl (decide_eq_true hot) ?_
          (refine run_region ?_; refine xep rfl rfl ?_; refine xel rfl (ev_fieldAddr rfl rfl (fo rfl)) ?_; refine xel rfl (ev_loadK rfl rfl (sc rfl) (memF (.head _)) rfl) ?_; refine xel rfl (ev_add rfl rfl rfl (by omega)) ?_; refine xep rfl rfl ?_; refine runL_nil ?_; refine in_normal ?_; refine then_normal ?_; refine run_region ?_; refine xel rfl (ev_add rfl rfl rfl (by omega)) ?_; refine xep rfl rfl ?_; refine runL_nil ?_; refine then_normal ?_)
          exact ⟨i + 1, by show i + 1 ≤ _; omega, by show stay.length - (i + 1) < stay.length - i; omega, by rw [hst]; rfl, [blk x14 o.cells 24], fun y => rfl⟩
        · rw [if_neg hot, Int.add_zero] at hst
          refine run_condF rfl (decide_eq_false hot) ?_
          (refine run_skip ?_; refine in_normal ?_; refine then_normal ?_; refine run_region ?_; refine xel rfl (ev_add rfl rfl rfl (by omega)) ?_; refine xep rfl rfl ?_; refine runL_nil ?_; refine then_normal ?_)
          exact ⟨i + 1, by show i + 1 ≤ _; omega, by show stay.length - (i + 1) < stay.length - i; omega, by rw [hst]; rfl, [blk x14 o.cells 24], fun y => rfl⟩
      · (refine run_exit ?_; (iterate 2 refine then_exit ?_); refine in_exit ?_; refine then_normal ?_)
        have ei : stay.take i = stay := List.take_of_length_le (by omega)
        rw [ei]
        (refine run_seq ?_; refine run_region ?_; (iterate 2 refine xep rfl rfl ?_); refine xel rfl (ev_callQ rfl rfl rfl (pf rfl) (q1 ..)) ?_; (iterate 2 refine xep rfl rfl ?_); refine runL_nil ?_; refine then_normal ?_)
        refine run_condF rfl (by simp) ?_
        (refine run_skip ?_; refine in_normal ?_; refine then_normal ?_; refine run_region ?_; refine xep rfl rfl ?_; refine xel rfl (ev_add rfl rfl rfl (by omega)) ?_; refine xep rfl rfl ?_; refine runL_nil ?_; refine then_normal ?_)
        exact ⟨t + 1, by show t + 1 ≤ _; omega, by show 6 - (t + 1) < 6 - t; omega, rfl, [], fun y => rfl⟩
    · (refine run_exit ?_; (iterate 2 refine then_exit ?_); refine in_exit ?_; refine then_normal ?_)
      (refine run_seq ?_; refine run_region ?_; refine xel rfl (ev_callQ rfl rfl rfl (pf rfl) (q3 ..)) ?_; refine xep rfl rfl ?_; refine runL_nil ?_; refine then_normal ?_; refine run_ret ?_)
      exact ⟨_, rfl, rfl⟩
end Go.Proofs.Ytfhpoagnfmgfkaa
