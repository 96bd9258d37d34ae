/- Contracts of functions of the given program over its translation, each proved by walking its text; used by the laws' rows. It proves no given statement by itself. -/
import Derived.Test.YtmelpobcpcmdoaaGreatSLSlcOX
set_option autoImplicit false
set_option linter.unusedSectionVars false
set_option linter.unusedSimpArgs false
set_option linter.unusedVariables false
set_option maxRecDepth 4000
set_option maxHeartbeats 16000000
namespace Go.Proofs.YtmelpobcpcmdoaaGreat
open Go Go.SL Go.Proofs
/-- The order of numbers. -/
def kO (r : List Int) : Ord :=
  ⟨win (r.getD 0 0) 0 5, win (r.getD 1 0) 0 15, (win (r.getD 0 0) 0 5).tdiv 2, 1 + win (r.getD 2 0) 0 1, 1 + (win (r.getD 2 0) 0 9).tdiv 2,
    if 1 + (win (r.getD 2 0) 0 9).tdiv 2 = 2 then 0 else win (r.getD 3 0) 95 105, win (r.getD 4 0) 1 12,
    if 1 + (win (r.getD 2 0) 0 9).tdiv 2 = 1 ∨ 1 + (win (r.getD 2 0) 0 9).tdiv 2 = 5 then win (r.getD 5 0) 0 (win (r.getD 4 0) 1 12) else 0, 0⟩
theorem kO_right (r : List Int) : rightP (kO r) ∧ (kO r).stop = 0 ∧ (kO r).trader ≤ 5 ∧ (kO r).id ≤ 15 ∧ (kO r).qty ≤ 12 ∧ (kO r).firm = (kO r).trader / 2 ∧ (kO r).price ≤ 105 ∧ ((kO r).kind ≠ 2 → 95 ≤ (kO r).price) := by
  have w0 := win_in (r.getD 0 0) (show (0 : Int) ≤ 5 by omega)
  have w1 := win_in (r.getD 1 0) (show (0 : Int) ≤ 15 by omega)
  have w2 := win_in (r.getD 2 0) (show (0 : Int) ≤ 1 by omega)
  have w3 := win_in (r.getD 2 0) (show (0 : Int) ≤ 9 by omega)
  have w4 := win_in (r.getD 3 0) (show (95 : Int) ≤ 105 by omega)
  have w5 := win_in (r.getD 4 0) (show (1 : Int) ≤ 12 by omega)
  have w6 := win_in (r.getD 5 0) (show (0 : Int) ≤ win (r.getD 4 0) 1 12 by omega)
  have e1 := Int.tdiv_eq_ediv_of_nonneg (b := 2) (show (0 : Int) ≤ win (r.getD 2 0) 0 9 by omega)
  have e2 := Int.tdiv_eq_ediv_of_nonneg (b := 2) (show (0 : Int) ≤ win (r.getD 0 0) 0 5 by omega)
  unfold kO rightP
  rw [e1, e2]
  dsimp only
  refine ⟨⟨by omega, by omega, by omega, by omega, by omega, by omega, by omega, by omega, by omega, by omega, by omega, by omega, ?_, ?_, by omega, by omega, ?_, ?_, ?_⟩, rfl, by omega, by omega, by omega, rfl, ?_, ?_⟩
  · split <;> omega
  · split <;> omega
  · intro h; rw [if_pos h]
  · intro h; rw [if_neg h]; omega
  · split
    · rename_i h; exact .inr h
    · exact .inl rfl
  · split <;> omega
  · intro h; rw [if_neg h]; omega
variable [Base]
theorem sp_kOrder (F : Heap) (r : List Int) (hr : r.length = 7) : Sp Tryz.prog F 27 [.agg ⟨ints r⟩] [] (Ret (ov (kO r))) := by
  match r, hr with
  | [r0, r1, r2, r3, r4, r5, r6], _ =>
  have q1 := fun F => sp_Win F r0 0 5 (by omega) (by omega) (by omega)
  have q2 := fun F => sp_Win F r1 0 15 (by omega) (by omega) (by omega)
  have q3 := fun F => sp_Win F r2 0 1 (by omega) (by omega) (by omega)
  have q4 := fun F => sp_Win F r2 0 9 (by omega) (by omega) (by omega)
  have q5 := fun F => sp_Win F r3 95 105 (by omega) (by omega) (by omega)
  have q6 := fun F => sp_Win F r4 1 12 (by omega) (by omega) (by omega)
  have w0 := win_in r0 (show (0 : Int) ≤ 5 by omega)
  have w2 := win_in r2 (show (0 : Int) ≤ 1 by omega)
  have w3 := win_in r2 (show (0 : Int) ≤ 9 by omega)
  have w5 := win_in r4 (show (1 : Int) ≤ 12 by omega)
  have q7 := fun F => sp_Win F r5 0 (win r4 1 12) (by omega) (by omega) (by omega)
  show Sp _ _ _ _ _ (Ret (ov ⟨win r0 0 5, win r1 0 15, (win r0 0 5).tdiv 2, 1 + win r2 0 1, 1 + (win r2 0 9).tdiv 2, if 1 + (win r2 0 9).tdiv 2 = 2 then 0 else win r3 95 105, win r4 1 12, if 1 + (win r2 0 9).tdiv 2 = 1 ∨ 1 + (win r2 0 9).tdiv 2 = 5 then win r5 0 (win r4 1 12) else 0, 0⟩))
  have e1 := Int.tdiv_eq_ediv_of_nonneg (b := 2) (show (0 : Int) ≤ win r2 0 9 by omega)
  generalize win r0 0 5 = t at *
  generalize win r1 0 15 = i at *
  generalize win r2 0 1 = s at *
  generalize win r2 0 9 = k9 at *
  generalize win r3 95 105 = p at *
  generalize win r4 1 12 = q at *
  generalize win r5 0 q = sh at *
  have hkk : 0 ≤ k9.tdiv 2 ∧ k9.tdiv 2 ≤ 4 := by rw [e1]; omega
  refine sp_of_codeR Tryz.func27 rfl rfl ?_
  (refine run_seq ?_; refine run_region ?_; refine runL_box rfl rfl rfl rfl rfl rfl (fun _ => ?_); refine runL_alloc rfl rfl rfl rfl rfl ze35 (fun _ => ?_); refine runL_nil ?_; refine then_normal ?_; refine run_seq ?_)
  rename_i b1 b2
  refine RunC.perm (h' := [] ++ [blk b2 o0.cells 35, blk b1 (ints [r0, r1, r2, r3, r4, r5, r6]) 28]) (fun x => rfl) ?_
  refine RunC.freezeR ?_
  refine run_region_D mo ?_
  (refine runD_q 0 rfl rfl (by kernel_rfl) ?_; refine ⟨_, fun _ => ev_fieldAddr rfl rfl (fo rfl), ?_⟩; refine runD_q 1 rfl rfl (by kernel_rfl) ?_; refine ⟨_, fun _ => ev_loadK rfl rfl (sc rfl) (memR (memF (.tail _ (.head _)))) rfl, ?_⟩; refine runD_q 2 rfl rfl (by kernel_rfl) ?_; refine ⟨_, fun _ => ev_callQ rfl rfl rfl (pf rfl) (q1 ..), ?_⟩; refine runD_q 3 rfl rfl (by kernel_rfl) ?_; refine ⟨_, fun _ => ev_fieldAddr rfl rfl (fo rfl), ?_⟩; refine runD_q 4 rfl rfl (by kernel_rfl) ?_; refine ⟨_, fun _ => ev_loadK rfl rfl (sc rfl) (memR (memF (.tail _ (.head _)))) rfl, ?_⟩; refine runD_q 5 rfl rfl (by kernel_rfl) ?_; refine ⟨_, fun _ => ev_callQ rfl rfl rfl (pf rfl) (q2 ..), ?_⟩; refine runD_q 6 rfl rfl (by kernel_rfl) ?_; refine ⟨_, fun _ => ev_fieldAddr rfl rfl (fo rfl), ?_⟩; refine runD_q 7 rfl rfl (by kernel_rfl) ?_; refine ⟨_, fun _ => ev_loadK rfl rfl (sc rfl) (memR (memF (.tail _ (.head _)))) rfl, ?_⟩; refine runD_q 8 rfl rfl (by kernel_rfl) ?_; refine ⟨_, fun _ => ev_callQ rfl rfl rfl (pf rfl) (q3 ..), ?_⟩; refine runD_q 9 rfl rfl (by kernel_rfl) ?_; refine ⟨_, fun _ => ev_add rfl rfl rfl (by omega), ?_⟩; refine runD_q 10 rfl rfl (by kernel_rfl) ?_; refine ⟨_, fun _ => ev_fieldAddr rfl rfl (fo rfl), ?_⟩; refine runD_q 11 rfl rfl (by kernel_rfl) ?_; refine ⟨_, fun _ => ev_loadK rfl rfl (sc rfl) (memR (memF (.tail _ (.head _)))) rfl, ?_⟩; refine runD_q 12 rfl rfl (by kernel_rfl) ?_; refine ⟨_, fun _ => ev_callQ rfl rfl rfl (pf rfl) (q4 ..), ?_⟩; refine runD_q 13 rfl rfl (by kernel_rfl) ?_; refine ⟨_, fun _ => ev_quo rfl rfl rfl (by omega) (tdiv_range (by omega) (by omega) (by omega)), ?_⟩; refine runD_q 14 rfl rfl (by kernel_rfl) ?_; refine ⟨_, fun _ => ev_add rfl rfl rfl (by omega), ?_⟩; refine runD_q 15 rfl rfl (by kernel_rfl) ?_; refine ⟨_, fun _ => ev_fieldAddr rfl rfl (fo rfl), ?_⟩; refine runD_q 16 rfl rfl (by kernel_rfl) ?_; refine ⟨_, fun _ => ev_loadK rfl rfl (sc rfl) (memR (memF (.tail _ (.head _)))) rfl, ?_⟩; refine runD_q 17 rfl rfl (by kernel_rfl) ?_; refine ⟨_, fun _ => ev_callQ rfl rfl rfl (pf rfl) (q5 ..), ?_⟩; refine runD_q 18 rfl rfl (by kernel_rfl) ?_; refine ⟨_, fun _ => ev_fieldAddr rfl rfl (fo rfl), ?_⟩; refine runD_q 19 rfl rfl (by kernel_rfl) ?_; refine ⟨_, fun _ => ev_loadK rfl rfl (sc rfl) (memR (memF (.tail _ (.head _)))) rfl, ?_⟩; refine runD_q 20 rfl rfl (by kernel_rfl) ?_; refine ⟨_, fun _ => ev_callQ rfl rfl rfl (pf rfl) (q6 ..), ?_⟩; refine runD_q 21 rfl rfl (by kernel_rfl) ?_; refine ⟨_, fun _ => ev_build rfl pl35 rfl, ?_⟩; refine runD_1 22 (by kernel_rfl) rfl rfl rfl ?_; refine runL_alloc rfl rfl rfl rfl rfl ze35 (fun _ => ?_); refine runL_nil ?_; refine endS_d rfl ?_; refine runD_1 23 (by kernel_rfl) rfl rfl rfl ?_; refine runL_store0 rfl rfl rfl rfl rfl (sz rfl) rfl rfl rfl rfl rfl ?_; refine runL_nil ?_; refine endS_n rfl ?_; refine runD_done (by kernel_rfl) ?_; refine then_normal ?_; refine run_seq ?_; refine run_region ?_; refine xel rfl (ev_fieldAddr rfl rfl (fo rfl)) ?_; refine xel rfl (ev_loadK rfl rfl (sc rfl) (memF (.head _)) rfl) ?_; refine xel rfl (ev_quo rfl rfl rfl (by omega) (tdiv_range (by omega) (by omega) (by omega))) ?_; refine xel rfl (ev_fieldAddr rfl rfl (fo rfl)) ?_; refine runL_store0 rfl rfl rfl rfl rfl (sz rfl) rfl rfl rfl rfl rfl ?_; refine runL_nil ?_; refine then_normal ?_; (iterate 2 refine run_seq ?_); refine run_region ?_; refine xel rfl (ev_fieldAddr rfl rfl (fo rfl)) ?_; refine xel rfl (ev_loadK rfl rfl (sc rfl) (memF (.head _)) rfl) ?_; refine runL_nil ?_; refine then_normal ?_; refine run_block ?_; (iterate 2 refine run_seq ?_); refine run_region ?_; (iterate 2 refine xep rfl rfl ?_); refine runL_nil ?_; refine then_normal ?_)
  rename_i b3
  generalize 1 + k9.tdiv 2 = kd at *
  refine RunC.perm (h' := blk b3 (Ord.cells ⟨t, i, t.tdiv 2, 1 + s, kd, p, q, 0, 0⟩) 35 :: [blk b2 o0.cells 35, blk b1 (ints [r0, r1, r2, r3, r4, r5, r6]) 28]) (fun x => rfl) ?_
  by_cases h1 : kd = 1
  · refine run_condT rfl (decide_eq_true h1) ?_
    (refine run_skip ?_; refine then_normal ?_)
    refine run_condT rfl (decide_eq_true h1) ?_
    (refine run_region ?_; refine xel rfl (ev_fieldAddr rfl rfl (fo rfl)) ?_; refine xel rfl (ev_loadK rfl rfl (sc rfl) (memF (.tail _ (.tail _ (.head _)))) rfl) ?_; refine xel rfl (ev_fieldAddr rfl rfl (fo rfl)) ?_; refine xel rfl (ev_loadK rfl rfl (sc rfl) (memF (.head _)) rfl) ?_; refine xel rfl (ev_callQ rfl rfl rfl (pf rfl) (q7 ..)) ?_; refine xel rfl (ev_fieldAddr rfl rfl (fo rfl)) ?_; refine runL_store0 rfl rfl rfl rfl rfl (sz rfl) rfl rfl rfl rfl rfl ?_; refine runL_nil ?_; refine in_normal ?_; refine then_normal ?_; refine run_seq ?_; refine run_region ?_; refine xel rfl (ev_loadAK rfl rfl (ag rfl) (sz rfl) (memF (.head _)) rfl) ?_; refine runL_store1 rfl rfl rfl rfl rfl (sz rfl) rfl rfl rfl rfl rfl ?_; refine runL_nil ?_; refine then_normal ?_; refine run_ret ?_)
    exact ⟨_, .agg rfl (memF (.tail _ (.head _))) (ag rfl) (sz rfl) rfl .nil, by rw [if_neg (by omega), if_pos (by omega)]; rfl⟩
  · refine run_condF rfl (decide_eq_false h1) ?_
    (refine run_region ?_; (iterate 2 refine xep rfl rfl ?_); refine runL_nil ?_; refine then_normal ?_)
    by_cases h5 : kd = 5
    · refine run_condT rfl (decide_eq_true h5) ?_
      (refine run_region ?_; refine xel rfl (ev_fieldAddr rfl rfl (fo rfl)) ?_; refine xel rfl (ev_loadK rfl rfl (sc rfl) (memF (.tail _ (.tail _ (.head _)))) rfl) ?_; refine xel rfl (ev_fieldAddr rfl rfl (fo rfl)) ?_; refine xel rfl (ev_loadK rfl rfl (sc rfl) (memF (.head _)) rfl) ?_; refine xel rfl (ev_callQ rfl rfl rfl (pf rfl) (q7 ..)) ?_; refine xel rfl (ev_fieldAddr rfl rfl (fo rfl)) ?_; refine runL_store0 rfl rfl rfl rfl rfl (sz rfl) rfl rfl rfl rfl rfl ?_; refine runL_nil ?_; refine in_normal ?_; refine then_normal ?_; refine run_seq ?_; refine run_region ?_; refine xel rfl (ev_loadAK rfl rfl (ag rfl) (sz rfl) (memF (.head _)) rfl) ?_; refine runL_store1 rfl rfl rfl rfl rfl (sz rfl) rfl rfl rfl rfl rfl ?_; refine runL_nil ?_; refine then_normal ?_; refine run_ret ?_)
      exact ⟨_, .agg rfl (memF (.tail _ (.head _))) (ag rfl) (sz rfl) rfl .nil, by rw [if_neg (by omega), if_pos (by omega)]; rfl⟩
    · refine run_condF rfl (decide_eq_false h5) ?_
      (refine run_seq ?_; refine run_region ?_; (iterate 2 refine xep rfl rfl ?_); refine runL_nil ?_; refine then_normal ?_)
      by_cases h2 : kd = 2
      · refine run_condT rfl (decide_eq_true h2) ?_
        (refine run_region ?_; refine xel rfl (ev_fieldAddr rfl rfl (fo rfl)) ?_; refine runL_store0 rfl rfl rfl rfl rfl (sz rfl) rfl rfl rfl rfl rfl ?_; refine runL_nil ?_; refine in_normal ?_; refine then_normal ?_; refine run_seq ?_; refine run_region ?_; refine xel rfl (ev_loadAK rfl rfl (ag rfl) (sz rfl) (memF (.head _)) rfl) ?_; refine runL_store1 rfl rfl rfl rfl rfl (sz rfl) rfl rfl rfl rfl rfl ?_; refine runL_nil ?_; refine then_normal ?_; refine run_ret ?_)
        exact ⟨_, .agg rfl (memF (.tail _ (.head _))) (ag rfl) (sz rfl) rfl .nil, by rw [if_pos h2, if_neg (by omega)]; rfl⟩
      · refine run_condF rfl (decide_eq_false h2) ?_
        (refine run_skip ?_; refine in_normal ?_; refine then_normal ?_; refine run_seq ?_; refine run_region ?_; refine xel rfl (ev_loadAK rfl rfl (ag rfl) (sz rfl) (memF (.head _)) rfl) ?_; refine runL_store1 rfl rfl rfl rfl rfl (sz rfl) rfl rfl rfl rfl rfl ?_; refine runL_nil ?_; refine then_normal ?_; refine run_ret ?_)
        exact ⟨_, .agg rfl (memF (.tail _ (.head _))) (ag rfl) (sz rfl) rfl .nil, by rw [if_neg h2, if_neg (by omega)]; rfl⟩
/-- A book of numbers' orders. -/
def bfill (rs : List (List Int)) (k : Nat) : Bk := (rs.take k).foldl (fun B r => (badd (kO r) B).2) empty
end Go.Proofs.YtmelpobcpcmdoaaGreat

set_option autoImplicit false
set_option linter.unusedSectionVars false
set_option linter.unusedSimpArgs false
set_option linter.unusedVariables false
set_option maxRecDepth 4000
namespace Go.Proofs.YtmelpobcpcmdoaaGreat
open Go Go.SL Go.Proofs
variable [Base]
theorem reach_snoc_own {firm : Int} {x : Ent} : ∀ {l : List Ent}, (reach firm l).2 = true → reach firm (l ++ [x]) = reach firm l
  | [], h => by cases h
  | y :: l, h => by
    simp only [List.cons_append, reach] at h ⊢
    split
    · rfl
    · rename_i hf
      rw [if_neg hf] at h
      rw [reach_snoc_own (l := l) h]
theorem reach_snoc_not {firm : Int} {x : Ent} (hx : x.o.firm ≠ firm) : ∀ {l : List Ent}, (reach firm l).2 = false → (reach firm (l ++ [x])).2 = false
  | [], _ => by simp [reach, hx]
  | y :: l, h => by
    simp only [List.cons_append, reach] at h ⊢
    split
    · rename_i hf; rw [if_pos hf] at h; cases h
    · rename_i hf
      rw [if_neg hf] at h
      exact reach_snoc_not hx (l := l) h
/-- What the first order sees given, the rest gives no more. -/
theorem reachR_give {firm : Int} {e : Ent} {l : List Ent} (hf : e.o.firm ≠ firm) (hs : 1 ≤ e.seen ∧ e.seen ≤ e.o.qty) : reachR firm (giveE e l e.seen) = ((reachR firm (e :: l)).1 - e.seen, (reachR firm (e :: l)).2) := by
  have hr : reach firm (e :: l) = ((reach firm l).1 + e.seen, (reach firm l).2) := by simp only [reach]; rw [if_neg hf]
  have hsum := giveE_sum (e := e) (l := l) (n := e.seen) hs.2 (Int.le_refl _)
  unfold giveE at hsum ⊢
  rw [if_neg (by omega)] at hsum ⊢
  unfold reachR
  rw [hr]
  cases ho : (reach firm l).2 with
  | true =>
    split
    · simp [reach_snoc_own ho, ho]
    · simp [ho]
  | false =>
    split at hsum
    · rename_i hq
      rw [if_pos hq, reach_snoc_not (by exact hf) ho]
      simp only [Bool.false_eq_true, if_false, hsum, sumE]
      congr 1; omega
    · rename_i hq
      rw [if_neg hq, ho]
      simp only [Bool.false_eq_true, if_false, sumE]
      congr 1; omega
/-- A level gives what can be reached, and no more. -/
theorem take_reach {firm : Int} (k : Nat) : ∀ (q : Int) (es : List Ent), q.toNat ≤ k → 0 ≤ q → LB es → sumH (take firm q es).1 = min q (reachR firm es).1 ∧ ((take firm q es).2.1 = true ↔ (reachR firm es).2 = true ∧ (reachR firm es).1 < q) := by
  induction k with
  | zero =>
    intro q es hk hq hb
    have : q = 0 := by omega
    subst this
    have := reachR_nonneg (firm := firm) hb
    rw [take_le (by omega)]
    refine ⟨by simp only [sumH]; omega, ⟨(fun h => by cases h), (fun h => by omega)⟩⟩
  | succ k ih =>
    intro q es hk hq hb
    have hn := reachR_nonneg (firm := firm) hb
    by_cases h0 : 0 < q
    · cases es with
      | nil =>
        rw [take_nil]
        refine ⟨by simp [sumH, reachR, reach, sumE]; try omega, ⟨(fun h => by cases h), (fun h => by simp [reachR, reach] at h)⟩⟩
      | cons e l =>
        have he := hb.2 e (by simp)
        by_cases hf : e.o.firm = firm
        · rw [take_own h0 hf]
          have e1 : reachR firm (e :: l) = (0, true) := by simp [reachR, reach, hf]
          rw [e1]
          exact ⟨by simp only [sumH]; omega, ⟨(fun _ => ⟨rfl, h0⟩), (fun _ => rfl)⟩⟩
        · rw [take_cons h0 hf he.2.2.1]
          by_cases hle : e.seen ≤ q
          · rw [show min q e.seen = e.seen by omega]
            have hg := giveE_LB (n := e.seen) hb (by omega) (Int.le_refl _)
            obtain ⟨i1, i2⟩ := ih (q - e.seen) (giveE e l e.seen) (by omega) (by omega) hg.1
            rw [reachR_give hf ⟨he.2.2.1, he.2.2.2⟩] at i1 i2
            dsimp only at i1 i2 ⊢
            refine ⟨by simp only [sumH]; omega, ?_⟩
            rw [i2]
            constructor
            · rintro ⟨a, b⟩; exact ⟨a, by omega⟩
            · rintro ⟨a, b⟩; exact ⟨a, by omega⟩
          · rw [show min q e.seen = q by omega, Int.sub_self, take_le (by omega)]
            have hge : e.seen ≤ (reachR firm (e :: l)).1 := by
              have := reachR_nonneg (firm := firm) (giveE_LB (n := e.seen) hb (by omega) (Int.le_refl _)).1
              rw [reachR_give hf ⟨he.2.2.1, he.2.2.2⟩] at this
              dsimp only at this; omega
            dsimp only
            exact ⟨by simp only [sumH]; omega, ⟨(fun h => by cases h), (fun h => by omega)⟩⟩
    · have : q = 0 := by omega
      subst this
      rw [take_le (by omega)]
      refine ⟨by simp only [sumH]; omega, ⟨(fun h => by cases h), (fun h => by omega)⟩⟩
/-- An order would be filled whole just if it is. -/
theorem fills_iff : ∀ (l : List Lv) (o : Ord) (last no : Int), (∀ lv ∈ l, lv.Ok) → 0 < o.qty → (fillsL o l = true ↔ (matchL o l last no).qty = 0)
  | [], o, last, no, _, hq => by
    show (false = true ↔ o.qty = 0)
    exact ⟨(fun h => by cases h), (fun h => by omega)⟩
  | lv :: r, o, last, no, hok, hq => by
    have hl := hok lv (by simp)
    have t := take_is (firm := o.firm) o.qty.toNat o.qty lv.es (Nat.le_refl _) (by omega) hl.1
    have tr := take_reach (firm := o.firm) o.qty.toNat o.qty lv.es (Nat.le_refl _) (by omega) hl.1
    have hn := reachR_nonneg (firm := o.firm) hl.1
    have ih := fun q last no => fills_iff r (wq o q) last no (fun x m => hok x (List.mem_cons_of_mem _ m))
    unfold fillsL matchL
    cases hc : crosses o lv.p with
    | false =>
      rw [if_pos rfl, if_neg (by simp)]
      exact ⟨(fun h => by cases h), (fun h => by have : o.qty = 0 := h; omega)⟩
    | true =>
      rw [if_neg (by simp), if_pos (show 0 < o.qty ∧ true = true from ⟨hq, rfl⟩)]
      generalize take o.firm o.qty lv.es = T at *
      generalize reachR o.firm lv.es = R at *
      obtain ⟨t1, t2⟩ := tr
      by_cases h1 : o.qty ≤ R.1
      · rw [if_pos h1]
        have hs : T.2.1 = false := by
          cases hx : T.2.1 with
          | false => rfl
          | true => have := t2.1 hx; omega
        rw [if_neg (by rw [hs]; simp)]
        refine ⟨fun _ => ?_, fun _ => rfl⟩
        split
        · rw [matchL_zero _ _ _ _ (by show ¬ 0 < o.qty - sumH T.1; omega)]
          show o.qty - sumH T.1 = 0; omega
        · show o.qty - sumH T.1 = 0; omega
      · rw [if_neg h1]
        by_cases h2 : R.2 = true
        · rw [if_pos h2, if_pos (t2.2 ⟨h2, by omega⟩)]
          exact ⟨(fun h => by cases h), (fun h => by have : o.qty - sumH T.1 = 0 := h; omega)⟩
        · have hs : T.2.1 = false := by
            cases hx : T.2.1 with
            | false => rfl
            | true => exact absurd (t2.1 hx).1 h2
          have he : T.2.2 = [] := (t.all hs).resolve_left (by omega)
          rw [if_neg h2, if_neg (by rw [hs]; simp), if_pos he]
          rw [show sumH T.1 = R.1 by omega]
          exact ih (o.qty - R.1) _ _ (by show 0 < o.qty - R.1; omega)
end Go.Proofs.YtmelpobcpcmdoaaGreat

set_option autoImplicit false
set_option linter.unusedSectionVars false
set_option linter.unusedSimpArgs false
set_option linter.unusedVariables false
set_option maxRecDepth 4000
namespace Go.Proofs.YtmelpobcpcmdoaaGreat
open Go Go.SL Go.Proofs
variable [Base]
end Go.Proofs.YtmelpobcpcmdoaaGreat

set_option autoImplicit false
set_option linter.unusedSectionVars false
set_option linter.unusedSimpArgs false
set_option linter.unusedVariables false
set_option maxRecDepth 4000
namespace Go.Proofs.YtmelpobcpcmdoaaGreat
open Go Go.SL Go.Proofs
variable [Base]
end Go.Proofs.YtmelpobcpcmdoaaGreat

set_option autoImplicit false
set_option linter.unusedSectionVars false
set_option linter.unusedSimpArgs false
set_option linter.unusedVariables false
set_option maxRecDepth 4000
namespace Go.Proofs.YtmelpobcpcmdoaaGreat
open Go Go.SL Go.Proofs
/-- One price a level, the best first. -/
def SrtP (s : Int) (ps : List Int) : Prop := ps.Pairwise (fun a b => better s a b = true)
def Srt (s : Int) (l : List Lv) : Prop := SrtP s (l.map (·.p))
/-- All that stands there is of this side, and at its level's price. -/
def AtS (s : Int) (l : List Lv) : Prop := ∀ lv ∈ l, ∀ e ∈ lv.es, e.o.side = s ∧ e.o.price = lv.p
def SubL (l' l : List Lv) : Prop := ∀ lv' ∈ l', ∃ lv ∈ l, lv'.p = lv.p ∧ ∀ e' ∈ lv'.es, ∃ e ∈ lv.es, ∃ n, e'.o = wq e.o n
def sumL : List Lv → Int
  | [] => 0
  | lv :: r => sumE (fun x => x.o.qty) lv.es + sumL r
def sumF : List Fl → Int
  | [] => 0
  | f :: r => f.qty + sumF r
def lastP : List Fl → Int → Int
  | [], d => d
  | f :: r, _ => lastP r f.price
def FlsOk (firm oth : Int) : Int → Int → List Fl → Prop
  | _, _, [] => True
  | no, q, f :: r => 1 ≤ f.qty ∧ f.maker.firm ≠ firm ∧ f.maker.side = oth ∧ f.no = no + 1 ∧ f.price = f.maker.price ∧ f.taker.qty = q ∧ FlsOk firm oth (no + 1) (q - f.qty) r
theorem better_self (s p : Int) : better s p p = false := by unfold better; split <;> simp
theorem better_not {s a b : Int} (h : better s a b = true) : better s b a = false := by
  unfold better at h ⊢; split at h <;> simp_all <;> omega
theorem better_tot {s a b : Int} (h : better s a b = false) (hn : a ≠ b) : better s b a = true := by
  unfold better at h ⊢; split at h <;> simp_all <;> omega
theorem sumF_append (l m : List Fl) : sumF (l ++ m) = sumF l + sumF m := by
  induction l with
  | nil => simp [sumF]
  | cons x l ih => simp only [List.cons_append, sumF, ih]; omega
theorem lastP_append (l m : List Fl) (d : Int) : lastP (l ++ m) d = lastP m (lastP l d) := by
  induction l generalizing d with
  | nil => rfl
  | cons x l ih => simp only [List.cons_append, lastP, ih]
theorem flls_mem {o : Ord} {p no : Int} {l : List (Ord × Int)} {f : Fl} (h : f ∈ flls o p no l) : f.price = p ∧ ∃ x ∈ l, f.maker = x.1 ∧ f.qty = x.2 := by
  induction l generalizing o no with
  | nil => cases h
  | cons a r ih =>
    rcases List.mem_cons.1 h with rfl | h
    · exact ⟨rfl, a, List.mem_cons_self .., rfl, rfl⟩
    · obtain ⟨h1, x, hx, h2⟩ := ih h
      exact ⟨h1, x, List.mem_cons_of_mem _ hx, h2⟩
theorem flls_sum (o : Ord) (p no : Int) (l : List (Ord × Int)) : sumF (flls o p no l) = sumH l := by
  induction l generalizing o no with
  | nil => rfl
  | cons a r ih => simp only [flls, sumF, sumH, ih]
theorem flls_last (o : Ord) (p no d : Int) (l : List (Ord × Int)) : lastP (flls o p no l) d = if l = [] then d else p := by
  induction l generalizing o no d with
  | nil => rfl
  | cons a r ih =>
    simp only [flls, lastP, ih]
    split <;> simp
variable [Base]
theorem giveE_sub {e : Ent} {l : List Ent} {n : Int} {x : Ent} (h : x ∈ giveE e l n) : ∃ y ∈ e :: l, ∃ m, x.o = wq y.o m := by
  unfold giveE at h
  split at h
  · rcases List.mem_cons.1 h with rfl | h
    · exact ⟨e, List.mem_cons_self .., _, rfl⟩
    · exact ⟨x, List.mem_cons_of_mem _ h, x.o.qty, rfl⟩
  · split at h
    · rcases List.mem_append.1 h with h | h
      · exact ⟨x, List.mem_cons_of_mem _ h, x.o.qty, rfl⟩
      · simp only [List.mem_singleton] at h
        subst h
        exact ⟨e, List.mem_cons_self .., _, rfl⟩
    · exact ⟨x, List.mem_cons_of_mem _ h, x.o.qty, rfl⟩
theorem take_sub {firm : Int} (k : Nat) : ∀ (q : Int) (es : List Ent), q.toNat ≤ k → LB es → (∀ h ∈ (take firm q es).1, ∃ e ∈ es, ∃ n, h.1 = wq e.o n) ∧ (∀ e' ∈ (take firm q es).2.2, ∃ e ∈ es, ∃ n, e'.o = wq e.o n) := by
  induction k with
  | zero =>
    intro q es hq hb
    rw [take_le (by omega)]
    exact ⟨(fun _ m => nomatch m), fun x m => ⟨x, m, x.o.qty, rfl⟩⟩
  | succ k ih =>
    intro q es hq hb
    by_cases h : 0 < q
    · cases es with
      | nil => rw [take_nil]; exact ⟨(fun _ m => nomatch m), fun _ m => nomatch m⟩
      | cons e l =>
        by_cases hf : e.o.firm = firm
        · rw [take_own h hf]; exact ⟨(fun _ m => nomatch m), fun x m => ⟨x, m, x.o.qty, rfl⟩⟩
        · have he := hb.2 e (by simp)
          rw [take_cons h hf he.2.2.1]
          have hg := giveE_LB (n := min q e.seen) hb (by omega) (by omega)
          obtain ⟨i1, i2⟩ := ih (q - min q e.seen) (giveE e l (min q e.seen)) (by omega) hg.1
          refine ⟨fun x m => ?_, fun x m => ?_⟩
          · rcases List.mem_cons.1 m with rfl | m
            · exact ⟨e, List.mem_cons_self .., e.o.qty, rfl⟩
            · obtain ⟨y, hy, n, e1⟩ := i1 x m
              obtain ⟨z, hz, n2, e2⟩ := giveE_sub hy
              exact ⟨z, hz, n, by rw [e1, e2]; rfl⟩
          · obtain ⟨y, hy, n, e1⟩ := i2 x m
            obtain ⟨z, hz, n2, e2⟩ := giveE_sub hy
            exact ⟨z, hz, n, by rw [e1, e2]; rfl⟩
    · rw [take_le (by omega)]
      exact ⟨(fun _ m => nomatch m), fun x m => ⟨x, m, x.o.qty, rfl⟩⟩
/-- What a match leaves, and tells. -/
structure MSub (o : Ord) (l : List Lv) (last : Int) (m : MR) : Prop where
  ps : ∃ k, m.lvs.map (·.p) = (l.map (·.p)).drop k
  sub : SubL m.lvs l
  fs : ∀ f ∈ m.fs, ∃ lv ∈ l, f.price = lv.p ∧ crosses o lv.p = true ∧ ∃ e ∈ lv.es, ∃ n, f.maker = wq e.o n
  stop : 0 < m.qty → m.self = false → meets o m.lvs = false
  sum : sumL l = sumF m.fs + sumL m.lvs
  qty : m.qty = o.qty - sumF m.fs
  last : m.last = lastP m.fs last
  best : ∀ s, Srt s l → m.fs.Pairwise (fun a b => better s b.price a.price = false) ∧ ∀ f ∈ m.fs, ∀ lv ∈ m.lvs, better s lv.p f.price = false
theorem match_sub : ∀ (l : List Lv) (o : Ord) (last no : Int), (∀ lv ∈ l, lv.Ok) → 0 ≤ o.qty → MSub o l last (matchL o l last no)
  | [], o, last, no, _, hq => ⟨⟨0, rfl⟩, (fun _ m => nomatch m), (fun _ m => nomatch m), (fun _ _ => rfl), rfl, by simp [matchL, sumF], rfl, fun s _ => ⟨.nil, fun _ m => nomatch m⟩⟩
  | lv :: r, o, last, no, hok, hq => by
    have hl := hok lv (by simp)
    have hr : ∀ lv ∈ r, lv.Ok := fun x m => hok x (List.mem_cons_of_mem _ m)
    unfold matchL
    split
    · rename_i hc
      have t := take_is (firm := o.firm) o.qty.toNat o.qty lv.es (Nat.le_refl _) hq hl.1
      have ts := take_sub (firm := o.firm) o.qty.toNat o.qty lv.es (Nat.le_refl _) hl.1
      generalize take o.firm o.qty lv.es = T at *
      have hsum := flls_sum o lv.p no T.1
      have hlast := flls_last o lv.p no last T.1
      have hmem : ∀ f ∈ flls o lv.p no T.1, f.price = lv.p ∧ ∃ e ∈ lv.es, ∃ n, f.maker = wq e.o n := by
        intro f m
        obtain ⟨h1, x, hx, h2, -⟩ := flls_mem m
        obtain ⟨e, he, n, h3⟩ := ts.1 x hx
        exact ⟨h1, e, he, n, by rw [h2, h3]⟩
      have hpw : ∀ s, (flls o lv.p no T.1).Pairwise (fun a b => better s b.price a.price = false) := fun s => List.Pairwise.imp_of_mem (R := fun _ _ => True) (fun {a b} ha hb _ => by rw [(hmem a ha).1, (hmem b hb).1]; exact better_self _ _) (List.pairwise_of_forall fun _ _ => trivial)
      have hhd : ∀ s, Srt s (lv :: r) → ∀ x ∈ r, better s x.p lv.p = false := fun s hs x m => better_not ((List.pairwise_cons.1 hs).1 x.p (List.mem_map_of_mem m))
      have hfs : ∀ f ∈ flls o lv.p no T.1, ∃ lv1 ∈ lv :: r, f.price = lv1.p ∧ crosses o lv1.p = true ∧ ∃ e ∈ lv1.es, ∃ n, f.maker = wq e.o n := by
        intro f m
        obtain ⟨h1, h2⟩ := hmem f m
        exact ⟨lv, List.mem_cons_self .., h1, hc.2, h2⟩
      have hsub : SubL (⟨lv.p, T.2.2⟩ :: r) (lv :: r) := by
        intro x m
        rcases List.mem_cons.1 m with rfl | m
        · exact ⟨lv, List.mem_cons_self .., rfl, ts.2⟩
        · exact ⟨x, List.mem_cons_of_mem _ m, rfl, fun e me => ⟨e, me, e.o.qty, rfl⟩⟩
      have hsub2 : SubL r (lv :: r) := fun x m => hsub x (List.mem_cons_of_mem _ m)
      have hbst : ∀ s, Srt s (lv :: r) → ∀ f ∈ flls o lv.p no T.1, ∀ x ∈ (⟨lv.p, T.2.2⟩ :: r : List Lv), better s x.p f.price = false := by
        intro s hs f mf x mx
        rw [(hmem f mf).1]
        rcases List.mem_cons.1 mx with rfl | mx
        · exact better_self _ _
        · exact hhd s hs x mx
      split
      · split
        · rename_i he
          refine ⟨⟨1, rfl⟩, hsub2, hfs, (fun _ h => by cases h), ?_, by rw [hsum], hlast.symm, fun s hs => ⟨hpw s, fun f mf x mx => hbst s hs f mf x (List.mem_cons_of_mem _ mx)⟩⟩
          have := t.sum
          rw [he] at this
          simp only [sumL, sumE, hsum] at this ⊢; omega
        · refine ⟨⟨0, rfl⟩, hsub, hfs, (fun _ h => by cases h), ?_, by rw [hsum], hlast.symm, fun s hs => ⟨hpw s, hbst s hs⟩⟩
          have := t.sum
          simp only [sumL, hsum] at this ⊢; omega
      · rename_i hself
        split
        · rename_i he
          have ih := match_sub r (wq o (o.qty - sumH T.1)) (if T.1 = [] then last else lv.p) (no + T.1.length) hr (by have := t.le; show 0 ≤ o.qty - _; omega)
          have hwq : (wq o (o.qty - sumH T.1)).qty = o.qty - sumH T.1 := rfl
          generalize matchL (wq o (o.qty - sumH T.1)) r (if T.1 = [] then last else lv.p) (no + T.1.length) = M at *
          obtain ⟨⟨k, i1⟩, i2, i3, i4, i5, i6, i7, i8⟩ := ih
          refine ⟨⟨k + 1, by simpa [MR.pre] using i1⟩, ?_, ?_, i4, ?_, ?_, ?_, ?_⟩
          · intro x m
            obtain ⟨y, hy, h⟩ := i2 x m
            exact ⟨y, List.mem_cons_of_mem _ hy, h⟩
          · intro f m
            rcases List.mem_append.1 m with m | m
            · exact hfs f m
            · obtain ⟨y, hy, h⟩ := i3 f m
              exact ⟨y, List.mem_cons_of_mem _ hy, h⟩
          · have := t.sum
            rw [he] at this
            show _ = sumF (_ ++ _) + sumL M.lvs
            rw [sumF_append, hsum]
            simp only [sumL, sumE] at this ⊢; omega
          · show M.qty = o.qty - sumF (_ ++ _)
            rw [sumF_append, hsum]; omega
          · show M.last = lastP (_ ++ _) last
            rw [lastP_append, hlast]; exact i7
          · intro s hs
            obtain ⟨j1, j2⟩ := i8 s (List.pairwise_cons.1 hs).2
            refine ⟨List.pairwise_append.2 ⟨hpw s, j1, ?_⟩, ?_⟩
            · intro a ha b hb
              obtain ⟨y, hy, h1, -⟩ := i3 b hb
              rw [(hmem a ha).1, h1]; exact hhd s hs y hy
            · intro f mf x mx
              rcases List.mem_append.1 mf with mf | mf
              · obtain ⟨y, hy, h1, -⟩ := i2 x mx
                rw [(hmem f mf).1, h1]; exact hhd s hs y hy
              · exact j2 f mf x mx
        · rename_i he
          refine ⟨⟨0, rfl⟩, hsub, hfs, ?_, ?_, by rw [hsum], hlast.symm, fun s hs => ⟨hpw s, hbst s hs⟩⟩
          · intro h1 _
            have h1 : 0 < o.qty - sumH T.1 := h1
            have := (t.all (by simpa using hself)).resolve_right he
            omega
          · have := t.sum
            simp only [sumL, hsum] at this ⊢; omega
    · rename_i hc
      refine ⟨⟨0, rfl⟩, (fun x m => ⟨x, m, rfl, fun e me => ⟨e, me, e.o.qty, rfl⟩⟩), (fun _ m => nomatch m), ?_, by simp [sumF], by simp [sumF], rfl, fun s _ => ⟨.nil, fun _ m => nomatch m⟩⟩
      intro h _
      have h : 0 < o.qty := h
      show crosses o lv.p = false
      cases hx : crosses o lv.p with
      | false => rfl
      | true => exact absurd ⟨h, hx⟩ hc
end Go.Proofs.YtmelpobcpcmdoaaGreat
