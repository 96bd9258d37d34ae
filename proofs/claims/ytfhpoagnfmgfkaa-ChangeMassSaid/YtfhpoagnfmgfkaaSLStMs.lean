/- Contracts of functions of the given program over its translation, each proved by walking its text; used by the laws' rows. It proves no given statement by itself. -/
import Derived.Test.YtfhpoagnfmgfkaaSLPlRPX
import Derived.Test.YtfhpoagnfmgfkaaSLStFlX
import Derived.Test.YtfhpoagnfmgfkaaSLShift
set_option autoImplicit false
set_option linter.unusedSectionVars false
set_option linter.unusedSimpArgs false
set_option linter.unusedVariables false
set_option maxRecDepth 4000
set_option maxHeartbeats 100000000
namespace Go.Proofs.Ytfhpoagnfmgfkaa
open Go Go.SL Go.Proofs
variable [Base]
theorem sp_open (F : Heap) (m : Nat) (M : Mk) (h : MkIn F m M) (hw : MW M) (t : Int) : Sp Try.prog F 25 [.pointer (some ⟨m, 0, none⟩), .int .i64 t] [] (Ret (.int .i64 (openS t (mall M)))) := by
  have hml := mall_len M
  have hl64 := hw.len
  have hsq := (sumM_pos hw).2
  have hop := fun j hj => openS_in hsq (t := t) j hj
  refine sp_of_code Try.func25 rfl rfl ?_
  (refine run_seq ?_; refine run_region ?_; refine xep rfl rfl ?_; refine runL_nil ?_; refine then_normal ?_; refine run_seq ?_; refine run_region ?_; refine xep rfl rfl ?_; refine runL_nil ?_; refine then_normal ?_; (iterate 2 refine run_seq ?_); refine run_region ?_; refine xep rfl rfl ?_)
  refine runL_callZ [] [] rfl rfl rfl rfl rfl rfl rfl (pf rfl) (fun y => by (first | rfl | (simp only [List.append_eq, cnt_append, cnt_cons, cnt_nil, blk]; omega) | (simp only [List.append_eq, cnt_append, cnt_cons, cnt_nil, blk]; done))) (sp_sall _ m M h.up hw.b hw.len) ?_
  rintro v A9 own9
  obtain ⟨a9, c9, rfl, own9⟩ := own9.at
  generalize mall M = all at *
  (refine xel rfl (ev_len rfl rfl (se rfl)) ?_; refine xep rfl rfl ?_; refine runL_nil ?_; refine then_normal ?_; refine run_block ?_; refine RunC.whole rfl ?_)
  refine run_loopK (σ := Nat) [1, 5, 9, 10, 11] (fun j => [(1, .int .i64 t), (5, .int .i64 (openS t (all.take j))), (9, .slice a9 all.length c9), (10, .int .i64 all.length), (11, .int .i64 j)])
    (fun _ => A9) (fun j => j ≤ all.length) (fun j => all.length - j) 0 (Nat.zero_le _) rfl (fun x => by (first | rfl | (simp only [List.append_eq, cnt_append, cnt_cons, cnt_nil, blk]; omega) | (simp only [List.append_eq, cnt_append, cnt_cons, cnt_nil, blk]; done))) ?_
  intro j gj
  have hp1 := hop j gj
  (refine run_seq ?_; refine run_region ?_; refine xep rfl rfl ?_; refine runL_nil ?_; refine then_normal ?_; refine run_seq ?_)
  (refine run_cond rfl (fun hc => ?_) (fun hc => ?_) <;> (try simp only [z0, z1, z2, z3, z4, z5, z6, z7, z8, z9, Bool.not_true, Bool.not_false, Bool.false_or, Bool.true_and, true_and, and_true, false_or, or_false, reduceCtorEq, Bool.false_eq_true] at hc))
  · obtain ⟨b9, rest9, cap9, hv9, rfl, -, -, -⟩ := own9.pos (by omega)
    cases hv9
    obtain ⟨o, ho⟩ : ∃ o, all[j]? = some o := ⟨all[j]'(by omega), List.getElem?_eq_getElem _⟩
    have r1 : RowAt (rows Ord.cells all ++ rest9) (0 + (j : Int).toNat * 9) o.cells := by
      rw [Nat.zero_add]; exact rows_at oc_len ho rest9
    have hst := openS_take (t := t) ho
    have hoq := hsq o (List.mem_of_getElem? ho)
    (refine run_skip ?_; refine then_normal ?_; refine run_seq ?_; refine run_block ?_; refine run_seq ?_; refine run_region ?_; refine xel rfl (ev_indexAddr rfl rfl rfl (se rfl) (by omega) (by omega)) ?_; refine xel rfl (ev_loadAR rfl rfl (ag rfl) (sz rfl) (memF (.head _)) r1 rfl) ?_; refine runL_alloc rfl rfl rfl rfl rfl ze24 (fun _ => ?_); refine runL_store0 rfl rfl rfl rfl rfl (sz rfl) rfl rfl rfl rfl rfl ?_; refine runL_nil ?_; refine then_normal ?_; refine run_seq ?_; refine run_region ?_; refine xel rfl (ev_fieldAddr rfl rfl (fo rfl)) ?_; refine xel rfl (ev_loadK rfl rfl (sc rfl) (memF (.head _)) rfl) ?_; (iterate 2 refine xep rfl rfl ?_); refine runL_nil ?_; refine then_normal ?_)
    rename_i x7
    by_cases hot : o.trader = t
    · rw [if_pos hot] at hst
      refine run_condT rfl (decide_eq_true hot) ?_
      (refine run_region ?_; refine xep rfl rfl ?_; refine xel rfl (ev_fieldAddr rfl rfl (fo rfl)) ?_; refine xel rfl (ev_loadK rfl rfl (sc rfl) (memF (.head _)) rfl) ?_; refine xel rfl (ev_add rfl rfl rfl (by omega)) ?_; refine xep rfl rfl ?_; refine runL_nil ?_; refine in_normal ?_; refine then_normal ?_; refine run_region ?_; refine xel rfl (ev_add rfl rfl rfl (by omega)) ?_; refine xep rfl rfl ?_; refine runL_nil ?_; refine then_normal ?_)
      exact ⟨j + 1, by show j + 1 ≤ _; omega, by show all.length - (j + 1) < all.length - j; omega, by rw [hst]; rfl, [blk x7 o.cells 24], fun y => by show cnt y (blk x7 o.cells 24 :: [blk b9 (rows Ord.cells all ++ rest9) 24]) = _; (first | rfl | (simp only [List.append_eq, cnt_append, cnt_cons, cnt_nil, blk]; omega) | (simp only [List.append_eq, cnt_append, cnt_cons, cnt_nil, blk]; done))⟩
    · rw [if_neg hot, Int.add_zero] at hst
      refine run_condF rfl (decide_eq_false hot) ?_
      (refine run_skip ?_; refine in_normal ?_; refine then_normal ?_; refine run_region ?_; refine xel rfl (ev_add rfl rfl rfl (by omega)) ?_; refine xep rfl rfl ?_; refine runL_nil ?_; refine then_normal ?_)
      exact ⟨j + 1, by show j + 1 ≤ _; omega, by show all.length - (j + 1) < all.length - j; omega, by rw [hst]; rfl, [blk x7 o.cells 24], fun y => by show cnt y (blk x7 o.cells 24 :: [blk b9 (rows Ord.cells all ++ rest9) 24]) = _; (first | rfl | (simp only [List.append_eq, cnt_append, cnt_cons, cnt_nil, blk]; omega) | (simp only [List.append_eq, cnt_append, cnt_cons, cnt_nil, blk]; done))⟩
  · (refine run_exit ?_; (iterate 2 refine then_exit ?_); refine in_exit ?_; refine then_normal ?_)
    have ej : all.take j = all := List.take_of_length_le (by omega)
    rw [ej]
    (refine run_seq ?_; refine run_region ?_; (iterate 2 refine xep rfl rfl ?_); refine runL_nil ?_; refine then_normal ?_; refine run_ret ?_)
    exact ⟨_, rfl, rfl⟩
theorem sp_mass (F H : Heap) (m : Nat) (M : Mk) (hH : MkH m M H) (hw : MW M) (hu : Uq M) (hr : RB M.B) (T : Int) : Sp Try.prog F 24 [.pointer (some ⟨m, 0, none⟩), .int .u64 T] H (fun v h' => ∃ a c A H', v = .slice a (wentL (tbit T) (mall M)).length c ∧ OwnS 24 9 (.slice a (wentL (tbit T) (mall M)).length c) (wentL (tbit T) (mall M)).length (rows Ord.cells (wentL (tbit T) (mall M))) A ∧ MkH m (massM (tbit T) M (mall M)) H' ∧ h' = H' ++ A) := by
  have hml := mall_len M
  have hl64 := hw.len
  have hms := fun j hj => mass_is (f := tbit T) hw hu j hj
  have hoa : ∀ x ∈ mall M, okP x := fun x mx => all_ok hw hr mx
  refine Sp.up ?_
  refine sp_of_code Try.func24 rfl rfl ?_
  (refine run_seq ?_; refine run_region ?_; refine xep rfl rfl ?_; refine runL_nil ?_; refine then_normal ?_; refine run_seq ?_; refine run_region ?_; refine xep rfl rfl ?_; refine runL_nil ?_; refine then_normal ?_; (iterate 2 refine run_seq ?_); refine run_region ?_; refine xep rfl rfl ?_)
  refine runL_callZ H [] rfl rfl rfl rfl rfl rfl rfl (pf rfl) (fun y => by (first | rfl | (simp only [List.append_eq, cnt_append, cnt_cons, cnt_nil, blk]; omega) | (simp only [List.append_eq, cnt_append, cnt_cons, cnt_nil, blk]; done))) (sp_sall _ m M (hH.in fun x mx => by simp [mx]) hw.b hw.len) ?_
  rintro v A9 own9
  obtain ⟨a9, c9, rfl, own9⟩ := own9.at
  generalize hall : mall M = all at *
  (refine xel rfl (ev_len rfl rfl (se rfl)) ?_; refine xep rfl rfl ?_; refine runL_nil ?_; refine then_normal ?_; refine run_block ?_)
  refine run_loopK (σ := Nat × (Option Addr × Nat × Heap) × Heap) [0, 1, 4, 5, 9, 10, 11] (fun s => [(0, .pointer (some ⟨m, 0, none⟩)), (1, .int .u64 T), (4, .slice none 0 0), (5, .slice s.2.1.1 (wentL (tbit T) (all.take s.1)).length s.2.1.2.1), (9, .slice a9 all.length c9), (10, .int .i64 all.length), (11, .int .i64 s.1)])
    (fun s => A9 ++ (s.2.1.2.2 ++ s.2.2)) (fun s => s.1 ≤ all.length ∧ OwnS 24 9 (.slice s.2.1.1 (wentL (tbit T) (all.take s.1)).length s.2.1.2.1) (wentL (tbit T) (all.take s.1)).length (rows Ord.cells (wentL (tbit T) (all.take s.1))) s.2.1.2.2 ∧ MkH m (massM (tbit T) M (all.take s.1)) s.2.2) (fun s => all.length - s.1) (0, (none, 0, []), H) ⟨Nat.zero_le _, .nil _ _, hH⟩ rfl (fun x => by (first | rfl | (simp only [List.append_eq, cnt_append, cnt_cons, cnt_nil, blk]; omega) | (simp only [List.append_eq, cnt_append, cnt_cons, cnt_nil, blk]; done))) ?_
  rintro ⟨j, ⟨a5, c5, A5⟩, G⟩ ⟨gj, own5, hG⟩
  dsimp only at gj own5 hG ⊢
  obtain ⟨i1, i2, i3, i4⟩ := hms j gj
  have hgl : (wentL (tbit T) (all.take j)).length ≤ 64 := by
    unfold wentL
    have := List.length_filter_le (fun x : Ord => tbit T x.trader) (all.take j)
    rw [List.length_take] at this
    omega
  (refine run_seq ?_; refine run_region ?_; refine xep rfl rfl ?_; refine runL_nil ?_; refine then_normal ?_; refine run_seq ?_)
  (refine run_cond rfl (fun hc => ?_) (fun hc => ?_) <;> (try simp only [z0, z1, z2, z3, z4, z5, z6, z7, z8, z9, Bool.not_true, Bool.not_false, Bool.false_or, Bool.true_and, true_and, and_true, false_or, or_false, reduceCtorEq, Bool.false_eq_true] at hc))
  · obtain ⟨b9, rest9, cap9, hv9, rfl, -, -, -⟩ := own9.pos (by omega)
    cases hv9
    obtain ⟨x, hx⟩ : ∃ x, all[j]? = some x := ⟨all[j]'(by omega), List.getElem?_eq_getElem _⟩
    have r1 : RowAt (rows Ord.cells all ++ rest9) (0 + (j : Int).toNat * 9) x.cells := by
      rw [Nat.zero_add]; exact rows_at oc_len hx rest9
    have hxo := hoa x (List.mem_of_getElem? hx)
    have hx0 : 0 ≤ x.trader ∧ x.trader ≤ 31 := ⟨hxo.1, hxo.2.1⟩
    have hmt := massM_take (f := tbit T) (M := M) hx
    have hwt : wentL (tbit T) (all.take (j + 1)) = wentL (tbit T) (all.take j) ++ (if tbit T x.trader = true then [x] else []) := filter_take hx
    have hNl : (massM (tbit T) M (all.take j)).W.length ≤ 65536 := by have := i2.len; unfold mlen at this; omega
    (refine run_skip ?_; refine then_normal ?_; refine run_seq ?_; refine run_block ?_; refine run_seq ?_; refine run_region ?_; refine xel rfl (ev_indexAddr rfl rfl rfl (se rfl) (by omega) (by omega)) ?_; refine xel rfl (ev_loadAR rfl rfl (ag rfl) (sz rfl) (memF (.head _)) r1 rfl) ?_; refine runL_alloc rfl rfl rfl rfl rfl ze24 (fun _ => ?_); refine runL_store0 rfl rfl rfl rfl rfl (sz rfl) rfl rfl rfl rfl rfl ?_; refine runL_nil ?_; refine then_normal ?_; refine run_seq ?_; refine run_region ?_; refine xep rfl rfl ?_; refine xel rfl (ev_fieldAddr rfl rfl (fo rfl)) ?_; refine xel rfl (ev_loadK rfl rfl (sc rfl) (memF (.head _)) rfl) ?_)
    rename_i x7
    have hwr : IntKind.u64.wrap x.trader = x.trader := by rw [IntKind.wrap_u64]; omega
    refine RunL.perm (h' := blk x7 x.cells 24 :: ([blk b9 (rows Ord.cells all ++ rest9) 24] ++ (A5 ++ G))) (fun y => rfl) ?_
    refine runL_ev rfl rfl rfl rfl (ev_conv (k' := .u64) (u := .int .i64) rfl rfl (by kernel_rfl) (by kernel_rfl) hwr) ?_
    skip
    refine runL_ev rfl rfl rfl rfl (ev_shr rfl rfl rfl hx0.1) ?_
    (refine xel rfl (ev_bits rfl rfl rfl rfl) ?_; refine xep rfl rfl ?_; refine runL_nil ?_; refine then_normal ?_)
    by_cases hb : tbit T x.trader = true
    · rw [if_pos hb] at hmt hwt
      refine run_condT rfl hb ?_
      (refine run_seq ?_; refine run_region ?_; refine xep rfl rfl ?_; refine xel rfl (ev_fieldAddr rfl rfl (fo rfl)) ?_; refine xel rfl (ev_loadK rfl rfl (sc rfl) (memF (.head _)) rfl) ?_; refine xel rfl (ev_fieldAddr rfl rfl (fo rfl)) ?_; refine xel rfl (ev_loadK rfl rfl (sc rfl) (memF (.head _)) rfl) ?_)
      refine runL_callZ (blk x7 x.cells 24 :: ([blk b9 (rows Ord.cells all ++ rest9) 24] ++ A5)) G rfl rfl rfl rfl rfl rfl rfl (pf rfl) (fun y => by (first | rfl | (simp only [List.append_eq, cnt_append, cnt_cons, cnt_nil, blk]; omega) | (simp only [List.append_eq, cnt_append, cnt_cons, cnt_nil, blk]; done))) (sp_sremove _ G m _ hG i2.b hNl x.trader x.id) ?_
      rintro v G2 ⟨rfl, hG2⟩
      rw [← hmt] at hG2
      (refine runL_nil ?_; refine then_normal ?_; refine run_region ?_; refine xep rfl rfl ?_; refine xel rfl (ev_loadAK rfl rfl (ag rfl) (sz rfl) (memF (.head _)) rfl) ?_)
      refine runL_buildSlice (l := x.cells) rfl rfl rfl rfl rfl (se rfl) ze24 rfl rfl rfl rfl rfl (fun b30 => ?_)
      skip
      refine runL_append (sl := x.cells) (blk b30 x.cells 24 :: blk x7 x.cells 24 :: ([blk b9 (rows Ord.cells all ++ rest9) 24] ++ G2)) rfl rfl rfl rfl rfl rfl rfl (se rfl) (se rfl) ze24 rfl (byt rfl) own5 (fun y => by (first | rfl | (simp only [List.append_eq, cnt_append, cnt_cons, cnt_nil, blk]; omega) | (simp only [List.append_eq, cnt_append, cnt_cons, cnt_nil, blk]; done))) ⟨rfl, .inr ⟨b30, 0, _, _, _, rfl, memF (.head _), by simp [Ord.cells], rfl⟩⟩ rfl (by decide) (by decide) (by omega) ?_
      rintro v' A8 own'
      obtain ⟨a8, c8, rfl, own8⟩ := (own'.snoc (f := Ord.cells) (x := x) rfl).at
      rw [← hwt] at own8
      (refine xep rfl rfl ?_; refine runL_nil ?_; refine in_normal ?_; refine then_normal ?_; refine run_region ?_; refine xel rfl (ev_add rfl rfl rfl (by omega)) ?_; refine xep rfl rfl ?_; refine runL_nil ?_; refine then_normal ?_)
      refine ⟨(j + 1, (a8, c8, A8), G2), ⟨by show j + 1 ≤ _; omega, own8, hG2⟩, by show all.length - (j + 1) < all.length - j; omega, ?_, blk b30 x.cells 24 :: [blk x7 x.cells 24], fun y => by (first | rfl | (simp only [List.append_eq, cnt_append, cnt_cons, cnt_nil, blk]; omega) | (simp only [List.append_eq, cnt_append, cnt_cons, cnt_nil, blk]; done))⟩
      dsimp only
      rw [hwt]; rfl
    · rw [if_neg hb] at hmt hwt
      rw [List.append_nil] at hwt
      refine run_condF rfl (by have h : tbit T x.trader = false := by simpa using hb
                               exact h) ?_
      (refine run_skip ?_; refine in_normal ?_; refine then_normal ?_; refine run_region ?_; refine xel rfl (ev_add rfl rfl rfl (by omega)) ?_; refine xep rfl rfl ?_; refine runL_nil ?_; refine then_normal ?_)
      exact ⟨(j + 1, (a5, c5, A5), G), ⟨by show j + 1 ≤ _; omega, by rw [hwt]; exact own5, by rw [hmt]; exact hG⟩, by show all.length - (j + 1) < all.length - j; omega, by dsimp only; rw [hwt]; rfl, [blk x7 x.cells 24], fun y => by (first | rfl | (simp only [List.append_eq, cnt_append, cnt_cons, cnt_nil, blk]; omega) | (simp only [List.append_eq, cnt_append, cnt_cons, cnt_nil, blk]; done))⟩
  · (refine run_exit ?_; (iterate 2 refine then_exit ?_); refine in_exit ?_; refine then_normal ?_)
    have ej : all.take j = all := List.take_of_length_le (by omega)
    rw [ej] at own5 hG ⊢
    (refine run_seq ?_; refine run_region ?_; (iterate 2 refine xep rfl rfl ?_); refine runL_nil ?_; refine then_normal ?_; refine run_ret ?_)
    exact ⟨_, rfl, G ++ A5, A9, ⟨a5, c5, A5, G, rfl, own5, hG, rfl⟩, fun y => by (first | rfl | (simp only [List.append_eq, cnt_append, cnt_cons, cnt_nil, blk]; omega) | (simp only [List.append_eq, cnt_append, cnt_cons, cnt_nil, blk]; done))⟩
end Go.Proofs.Ytfhpoagnfmgfkaa
