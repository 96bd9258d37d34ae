/- Contracts of functions of the given program over its translation, each proved by walking its text; used by the laws' rows. It proves no given statement by itself. -/
import Derived.Test.YtfhpoagnfmgfkaaSLBkF
set_option autoImplicit false
set_option linter.unusedSectionVars false
set_option linter.unusedSimpArgs false
set_option linter.unusedVariables false
set_option maxRecDepth 4000
set_option maxHeartbeats 16000000
namespace Go.Proofs.Ytfhpoagnfmgfkaa
open Go Go.SL Go.Proofs
/-- The order of numbers. -/
def kO (r : List Int) : Ord :=
  ⟨win (r.getD 0 0) 0 5, win (r.getD 1 0) 0 15, (win (r.getD 0 0) 0 5).tdiv 2, 1 + win (r.getD 2 0) 0 1, 1 + (win (r.getD 2 0) 0 9).tdiv 2,
    if 1 + (win (r.getD 2 0) 0 9).tdiv 2 = 2 then 0 else win (r.getD 3 0) 95 105, win (r.getD 4 0) 1 12,
    if 1 + (win (r.getD 2 0) 0 9).tdiv 2 = 1 ∨ 1 + (win (r.getD 2 0) 0 9).tdiv 2 = 5 then win (r.getD 5 0) 0 (win (r.getD 4 0) 1 12) else 0, 0⟩
theorem kO_right (r : List Int) : rightP (kO r) ∧ (kO r).stop = 0 ∧ (kO r).trader ≤ 5 ∧ (kO r).id ≤ 15 ∧ (kO r).qty ≤ 12 ∧ (kO r).firm = (kO r).trader / 2 ∧ (kO r).price ≤ 105 ∧ ((kO r).kind ≠ 2 → 95 ≤ (kO r).price) := by
  have w0 := win_in (r.getD 0 0) (show (0 : Int) ≤ 5 by omega)
  have w1 := win_in (r.getD 1 0) (show (0 : Int) ≤ 15 by omega)
  have w2 := win_in (r.getD 2 0) (show (0 : Int) ≤ 1 by omega)
  have w3 := win_in (r.getD 2 0) (show (0 : Int) ≤ 9 by omega)
  have w4 := win_in (r.getD 3 0) (show (95 : Int) ≤ 105 by omega)
  have w5 := win_in (r.getD 4 0) (show (1 : Int) ≤ 12 by omega)
  have w6 := win_in (r.getD 5 0) (show (0 : Int) ≤ win (r.getD 4 0) 1 12 by omega)
  have e1 := Int.tdiv_eq_ediv_of_nonneg (b := 2) (show (0 : Int) ≤ win (r.getD 2 0) 0 9 by omega)
  have e2 := Int.tdiv_eq_ediv_of_nonneg (b := 2) (show (0 : Int) ≤ win (r.getD 0 0) 0 5 by omega)
  unfold kO rightP
  rw [e1, e2]
  dsimp only
  refine ⟨⟨by omega, by omega, by omega, by omega, by omega, by omega, by omega, by omega, by omega, by omega, by omega, by omega, ?_, ?_, by omega, by omega, ?_, ?_, ?_⟩, rfl, by omega, by omega, by omega, rfl, ?_, ?_⟩
  · split <;> omega
  · split <;> omega
  · intro h; rw [if_pos h]
  · intro h; rw [if_neg h]; omega
  · split
    · rename_i h; exact .inr h
    · exact .inl rfl
  · split <;> omega
  · intro h; rw [if_neg h]; omega
variable [Base]
theorem sp_kOrder (F : Heap) (r : List Int) (hr : r.length = 7) : Sp Try.prog F 47 [.agg ⟨ints r⟩] [] (Ret (ov (kO r))) := by
  match r, hr with
  | [r0, r1, r2, r3, r4, r5, r6], _ =>
  have q1 := fun F => sp_Win F r0 0 5 (by omega) (by omega) (by omega)
  have q2 := fun F => sp_Win F r1 0 15 (by omega) (by omega) (by omega)
  have q3 := fun F => sp_Win F r2 0 1 (by omega) (by omega) (by omega)
  have q4 := fun F => sp_Win F r2 0 9 (by omega) (by omega) (by omega)
  have q5 := fun F => sp_Win F r3 95 105 (by omega) (by omega) (by omega)
  have q6 := fun F => sp_Win F r4 1 12 (by omega) (by omega) (by omega)
  have w0 := win_in r0 (show (0 : Int) ≤ 5 by omega)
  have w2 := win_in r2 (show (0 : Int) ≤ 1 by omega)
  have w3 := win_in r2 (show (0 : Int) ≤ 9 by omega)
  have w5 := win_in r4 (show (1 : Int) ≤ 12 by omega)
  have q7 := fun F => sp_Win F r5 0 (win r4 1 12) (by omega) (by omega) (by omega)
  show Sp _ _ _ _ _ (Ret (ov ⟨win r0 0 5, win r1 0 15, (win r0 0 5).tdiv 2, 1 + win r2 0 1, 1 + (win r2 0 9).tdiv 2, if 1 + (win r2 0 9).tdiv 2 = 2 then 0 else win r3 95 105, win r4 1 12, if 1 + (win r2 0 9).tdiv 2 = 1 ∨ 1 + (win r2 0 9).tdiv 2 = 5 then win r5 0 (win r4 1 12) else 0, 0⟩))
  have e1 := Int.tdiv_eq_ediv_of_nonneg (b := 2) (show (0 : Int) ≤ win r2 0 9 by omega)
  generalize win r0 0 5 = t at *
  generalize win r1 0 15 = i at *
  generalize win r2 0 1 = s at *
  generalize win r2 0 9 = k9 at *
  generalize win r3 95 105 = p at *
  generalize win r4 1 12 = q at *
  generalize win r5 0 q = sh at *
  have hkk : 0 ≤ k9.tdiv 2 ∧ k9.tdiv 2 ≤ 4 := by rw [e1]; omega
  refine sp_of_codeR Try.func47 rfl rfl ?_
  (refine run_seq ?_; refine run_region ?_; refine runL_box rfl rfl rfl rfl rfl rfl (fun _ => ?_); refine runL_alloc rfl rfl rfl rfl rfl ze24 (fun _ => ?_); refine runL_nil ?_; refine then_normal ?_; refine run_seq ?_)
  rename_i b1 b2
  refine RunC.perm (h' := [] ++ [blk b2 o0.cells 24, blk b1 (ints [r0, r1, r2, r3, r4, r5, r6]) 64]) (fun x => rfl) ?_
  refine RunC.freezeR ?_
  refine run_region_D mo ?_
  (refine runD_q 0 rfl rfl (by kernel_rfl) ?_; refine ⟨_, fun _ => ev_fieldAddr rfl rfl (fo rfl), ?_⟩; refine runD_q 1 rfl rfl (by kernel_rfl) ?_; refine ⟨_, fun _ => ev_loadK rfl rfl (sc rfl) (memR (memF (.tail _ (.head _)))) rfl, ?_⟩; refine runD_q 2 rfl rfl (by kernel_rfl) ?_; refine ⟨_, fun _ => ev_callQ rfl rfl rfl (pf rfl) (q1 ..), ?_⟩; refine runD_q 3 rfl rfl (by kernel_rfl) ?_; refine ⟨_, fun _ => ev_fieldAddr rfl rfl (fo rfl), ?_⟩; refine runD_q 4 rfl rfl (by kernel_rfl) ?_; refine ⟨_, fun _ => ev_loadK rfl rfl (sc rfl) (memR (memF (.tail _ (.head _)))) rfl, ?_⟩; refine runD_q 5 rfl rfl (by kernel_rfl) ?_; refine ⟨_, fun _ => ev_callQ rfl rfl rfl (pf rfl) (q2 ..), ?_⟩; refine runD_q 6 rfl rfl (by kernel_rfl) ?_; refine ⟨_, fun _ => ev_fieldAddr rfl rfl (fo rfl), ?_⟩; refine runD_q 7 rfl rfl (by kernel_rfl) ?_; refine ⟨_, fun _ => ev_loadK rfl rfl (sc rfl) (memR (memF (.tail _ (.head _)))) rfl, ?_⟩; refine runD_q 8 rfl rfl (by kernel_rfl) ?_; refine ⟨_, fun _ => ev_callQ rfl rfl rfl (pf rfl) (q3 ..), ?_⟩; refine runD_q 9 rfl rfl (by kernel_rfl) ?_; refine ⟨_, fun _ => ev_add rfl rfl rfl (by omega), ?_⟩; refine runD_q 10 rfl rfl (by kernel_rfl) ?_; refine ⟨_, fun _ => ev_fieldAddr rfl rfl (fo rfl), ?_⟩; refine runD_q 11 rfl rfl (by kernel_rfl) ?_; refine ⟨_, fun _ => ev_loadK rfl rfl (sc rfl) (memR (memF (.tail _ (.head _)))) rfl, ?_⟩; refine runD_q 12 rfl rfl (by kernel_rfl) ?_; refine ⟨_, fun _ => ev_callQ rfl rfl rfl (pf rfl) (q4 ..), ?_⟩; refine runD_q 13 rfl rfl (by kernel_rfl) ?_; refine ⟨_, fun _ => ev_quo rfl rfl rfl (by omega) (tdiv_range (by omega) (by omega) (by omega)), ?_⟩; refine runD_q 14 rfl rfl (by kernel_rfl) ?_; refine ⟨_, fun _ => ev_add rfl rfl rfl (by omega), ?_⟩; refine runD_q 15 rfl rfl (by kernel_rfl) ?_; refine ⟨_, fun _ => ev_fieldAddr rfl rfl (fo rfl), ?_⟩; refine runD_q 16 rfl rfl (by kernel_rfl) ?_; refine ⟨_, fun _ => ev_loadK rfl rfl (sc rfl) (memR (memF (.tail _ (.head _)))) rfl, ?_⟩; refine runD_q 17 rfl rfl (by kernel_rfl) ?_; refine ⟨_, fun _ => ev_callQ rfl rfl rfl (pf rfl) (q5 ..), ?_⟩; refine runD_q 18 rfl rfl (by kernel_rfl) ?_; refine ⟨_, fun _ => ev_fieldAddr rfl rfl (fo rfl), ?_⟩; refine runD_q 19 rfl rfl (by kernel_rfl) ?_; refine ⟨_, fun _ => ev_loadK rfl rfl (sc rfl) (memR (memF (.tail _ (.head _)))) rfl, ?_⟩; refine runD_q 20 rfl rfl (by kernel_rfl) ?_; refine ⟨_, fun _ => ev_callQ rfl rfl rfl (pf rfl) (q6 ..), ?_⟩; refine runD_q 21 rfl rfl (by kernel_rfl) ?_; refine ⟨_, fun _ => ev_build rfl pl24 rfl, ?_⟩; refine runD_1 22 (by kernel_rfl) rfl rfl rfl ?_; refine runL_alloc rfl rfl rfl rfl rfl ze24 (fun _ => ?_); refine runL_nil ?_; refine endS_d rfl ?_; refine runD_1 23 (by kernel_rfl) rfl rfl rfl ?_; refine runL_store0 rfl rfl rfl rfl rfl (sz rfl) rfl rfl rfl rfl rfl ?_; refine runL_nil ?_; refine endS_n rfl ?_; refine runD_done (by kernel_rfl) ?_; refine then_normal ?_; refine run_seq ?_; refine run_region ?_; refine xel rfl (ev_fieldAddr rfl rfl (fo rfl)) ?_; refine xel rfl (ev_loadK rfl rfl (sc rfl) (memF (.head _)) rfl) ?_; refine xel rfl (ev_quo rfl rfl rfl (by omega) (tdiv_range (by omega) (by omega) (by omega))) ?_; refine xel rfl (ev_fieldAddr rfl rfl (fo rfl)) ?_; refine runL_store0 rfl rfl rfl rfl rfl (sz rfl) rfl rfl rfl rfl rfl ?_; refine runL_nil ?_; refine then_normal ?_; (iterate 2 refine run_seq ?_); refine run_region ?_; refine xel rfl (ev_fieldAddr rfl rfl (fo rfl)) ?_; refine xel rfl (ev_loadK rfl rfl (sc rfl) (memF (.head _)) rfl) ?_; refine runL_nil ?_; refine then_normal ?_; refine run_block ?_; (iterate 2 refine run_seq ?_); refine run_region ?_; (iterate 2 refine xep rfl rfl ?_); refine runL_nil ?_; refine then_normal ?_)
  rename_i b3
  generalize 1 + k9.tdiv 2 = kd at *
  refine RunC.perm (h' := blk b3 (Ord.cells ⟨t, i, t.tdiv 2, 1 + s, kd, p, q, 0, 0⟩) 24 :: [blk b2 o0.cells 24, blk b1 (ints [r0, r1, r2, r3, r4, r5, r6]) 64]) (fun x => rfl) ?_
  by_cases h1 : kd = 1
  · refine run_condT rfl (decide_eq_true h1) ?_
    (refine run_skip ?_; refine then_normal ?_)
    refine run_condT rfl (decide_eq_true h1) ?_
    (refine run_region ?_; refine xel rfl (ev_fieldAddr rfl rfl (fo rfl)) ?_; refine xel rfl (ev_loadK rfl rfl (sc rfl) (memF (.tail _ (.tail _ (.head _)))) rfl) ?_; refine xel rfl (ev_fieldAddr rfl rfl (fo rfl)) ?_; refine xel rfl (ev_loadK rfl rfl (sc rfl) (memF (.head _)) rfl) ?_; refine xel rfl (ev_callQ rfl rfl rfl (pf rfl) (q7 ..)) ?_; refine xel rfl (ev_fieldAddr rfl rfl (fo rfl)) ?_; refine runL_store0 rfl rfl rfl rfl rfl (sz rfl) rfl rfl rfl rfl rfl ?_; refine runL_nil ?_; refine in_normal ?_; refine then_normal ?_; refine run_seq ?_; refine run_region ?_; refine xel rfl (ev_loadAK rfl rfl (ag rfl) (sz rfl) (memF (.head _)) rfl) ?_; refine runL_store1 rfl rfl rfl rfl rfl (sz rfl) rfl rfl rfl rfl rfl ?_; refine runL_nil ?_; refine then_normal ?_; refine run_ret ?_)
    exact ⟨_, .agg rfl (memF (.tail _ (.head _))) (ag rfl) (sz rfl) rfl .nil, by rw [if_neg (by omega), if_pos (by omega)]; rfl⟩
  · refine run_condF rfl (decide_eq_false h1) ?_
    (refine run_region ?_; (iterate 2 refine xep rfl rfl ?_); refine runL_nil ?_; refine then_normal ?_)
    by_cases h5 : kd = 5
    · refine run_condT rfl (decide_eq_true h5) ?_
      (refine run_region ?_; refine xel rfl (ev_fieldAddr rfl rfl (fo rfl)) ?_; refine xel rfl (ev_loadK rfl rfl (sc rfl) (memF (.tail _ (.tail _ (.head _)))) rfl) ?_; refine xel rfl (ev_fieldAddr rfl rfl (fo rfl)) ?_; refine xel rfl (ev_loadK rfl rfl (sc rfl) (memF (.head _)) rfl) ?_; refine xel rfl (ev_callQ rfl rfl rfl (pf rfl) (q7 ..)) ?_; refine xel rfl (ev_fieldAddr rfl rfl (fo rfl)) ?_; refine runL_store0 rfl rfl rfl rfl rfl (sz rfl) rfl rfl rfl rfl rfl ?_; refine runL_nil ?_; refine in_normal ?_; refine then_normal ?_; refine run_seq ?_; refine run_region ?_; refine xel rfl (ev_loadAK rfl rfl (ag rfl) (sz rfl) (memF (.head _)) rfl) ?_; refine runL_store1 rfl rfl rfl rfl rfl (sz rfl) rfl rfl rfl rfl rfl ?_; refine runL_nil ?_; refine then_normal ?_; refine run_ret ?_)
      exact ⟨_, .agg rfl (memF (.tail _ (.head _))) (ag rfl) (sz rfl) rfl .nil, by rw [if_neg (by omega), if_pos (by omega)]; rfl⟩
    · refine run_condF rfl (decide_eq_false h5) ?_
      (refine run_seq ?_; refine run_region ?_; (iterate 2 refine xep rfl rfl ?_); refine runL_nil ?_; refine then_normal ?_)
      by_cases h2 : kd = 2
      · refine run_condT rfl (decide_eq_true h2) ?_
        (refine run_region ?_; refine xel rfl (ev_fieldAddr rfl rfl (fo rfl)) ?_; refine runL_store0 rfl rfl rfl rfl rfl (sz rfl) rfl rfl rfl rfl rfl ?_; refine runL_nil ?_; refine in_normal ?_; refine then_normal ?_; refine run_seq ?_; refine run_region ?_; refine xel rfl (ev_loadAK rfl rfl (ag rfl) (sz rfl) (memF (.head _)) rfl) ?_; refine runL_store1 rfl rfl rfl rfl rfl (sz rfl) rfl rfl rfl rfl rfl ?_; refine runL_nil ?_; refine then_normal ?_; refine run_ret ?_)
        exact ⟨_, .agg rfl (memF (.tail _ (.head _))) (ag rfl) (sz rfl) rfl .nil, by rw [if_pos h2, if_neg (by omega)]; rfl⟩
      · refine run_condF rfl (decide_eq_false h2) ?_
        (refine run_skip ?_; refine in_normal ?_; refine then_normal ?_; refine run_seq ?_; refine run_region ?_; refine xel rfl (ev_loadAK rfl rfl (ag rfl) (sz rfl) (memF (.head _)) rfl) ?_; refine runL_store1 rfl rfl rfl rfl rfl (sz rfl) rfl rfl rfl rfl rfl ?_; refine runL_nil ?_; refine then_normal ?_; refine run_ret ?_)
        exact ⟨_, .agg rfl (memF (.tail _ (.head _))) (ag rfl) (sz rfl) rfl .nil, by rw [if_neg h2, if_neg (by omega)]; rfl⟩
/-- A book of numbers' orders. -/
def bfill (rs : List (List Int)) (k : Nat) : Bk := (rs.take k).foldl (fun B r => (badd (kO r) B).2) empty
theorem bfill_succ {rs : List (List Int)} {k : Nat} {r : List Int} (h : rs[k]? = some r) : bfill rs (k + 1) = (badd (kO r) (bfill rs k)).2 := by
  have hi := (List.getElem?_eq_some_iff.1 h).1
  unfold bfill
  rw [List.take_succ_eq_append_getElem hi, List.foldl_append, (List.getElem?_eq_some_iff.1 h).2]; rfl
theorem bfill_more {rs : List (List Int)} {k n : Nat} (h : rs.length ≤ k) (hn : k ≤ n) : bfill rs n = bfill rs k := by
  unfold bfill; rw [List.take_of_length_le (by omega), List.take_of_length_le (by omega)]
/-- What is kept by every order holds of a filled book. -/
theorem bfill_ind {I : Bk → Prop} (h0 : I empty) (hs : ∀ r B, I B → I (badd (kO r) B).2) (rs : List (List Int)) : ∀ k, I (bfill rs k)
  | 0 => h0
  | k + 1 => by
    cases hr : rs[k]? with
    | none =>
      have := List.getElem?_eq_none_iff.1 hr
      rw [bfill_more (k := k) this (by omega)]; exact bfill_ind h0 hs rs k
    | some r => rw [bfill_succ hr]; exact hs r _ (bfill_ind h0 hs rs k)
theorem bfill_ok (rs : List (List Int)) : ∀ k : Nat, BW (bfill rs k) ∧ 0 ≤ (bfill rs k).no ∧ (bfill rs k).no ≤ k * 1048576
  | 0 => ⟨empty_BW, by show (0 : Int) ≤ 0; decide, by show (0 : Int) ≤ ((0 : Nat) : Int) * 1048576; decide⟩
  | k + 1 => by
    have ih := bfill_ok rs k
    cases hr : rs[k]? with
    | none =>
      have := List.getElem?_eq_none_iff.1 hr
      rw [bfill_more (k := k) this (by omega)]
      exact ⟨ih.1, ih.2.1, by have := ih.2.2; push_cast; omega⟩
    | some r =>
      rw [bfill_succ hr]
      have := badd_BW (o := kO r) ih.1 ih.2.1
      exact ⟨this.1, by omega, by have := ih.2.2; push_cast; omega⟩
end Go.Proofs.Ytfhpoagnfmgfkaa
