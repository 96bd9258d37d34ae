/- Contracts of functions of the given program over its translation, each proved by walking its text; used by the laws' rows. It proves no given statement by itself. -/
import Derived.Test.YtfclaleiciodmaaSLLaw9
set_option autoImplicit false
set_option linter.unusedSectionVars false
set_option linter.unusedSimpArgs false
set_option linter.unusedVariables false
set_option maxRecDepth 4000
namespace Go.Proofs.Ytfclaleiciodmaa
open Go Go.SL Go.Proofs
theorem giveE_two {e : Ent} {l : List Ent} {m n : Int} (hm : 0 < m) (hn : 0 < n) (h : m + n ≤ e.seen) :
    giveE ⟨wq e.o (e.o.qty - m), e.seen - m⟩ l n = giveE e l (m + n) := by
  unfold giveE
  dsimp only
  have h1 : (wq e.o (e.o.qty - m)).qty - n = e.o.qty - (m + n) := by show e.o.qty - m - n = _; omega
  have h2 : wq (wq e.o (e.o.qty - m)) ((wq e.o (e.o.qty - m)).qty - n) = wq e.o (e.o.qty - (m + n)) := by rw [h1]; rfl
  have h3 : e.seen - m - n = e.seen - (m + n) := by omega
  rw [h2, h3, h1]
variable [Base]
/-- Taken in two parts is taken in one. -/
theorem take_two {firm : Int} (k : Nat) : ∀ (m n : Int) (es : List Ent), m.toNat ≤ k → LB es → (∀ x ∈ es, x.o.firm ≠ firm) → 0 ≤ m → 0 ≤ n →
    (take firm n (take firm m es).2.2).2.2 = (take firm (m + n) es).2.2 := by
  induction k with
  | zero =>
    intro m n es hk hb hf hm hn
    have : m = 0 := by omega
    subst this
    rw [take_le (q := 0) (by omega), Int.zero_add]
  | succ k ih =>
    intro m n es hk hb hf hm hn
    by_cases h0 : 0 < m
    · cases es with
      | nil => rw [take_nil]; rw [take_nil, take_nil]
      | cons e l =>
        have he := hb.2 e (by simp)
        have hfe := hf e (by simp)
        rw [take_cons h0 hfe he.2.2.1, take_cons (q := m + n) (by omega) hfe he.2.2.1]
        dsimp only
        by_cases hle : m < e.seen
        · -- the first part ends within what is seen of the first order
          have e1 : min m e.seen = m := by omega
          rw [e1, Int.sub_self, take_le (q := 0) (by omega)]
          dsimp only
          have e2 : giveE e l m = ⟨wq e.o (e.o.qty - m), e.seen - m⟩ :: l := by unfold giveE; rw [if_pos (by omega)]
          by_cases hn0 : 0 < n
          · rw [e2, take_cons (e := ⟨wq e.o (e.o.qty - m), e.seen - m⟩) hn0 hfe (by show 1 ≤ e.seen - m; omega)]
            dsimp only
            have e3 : min (m + n) e.seen = m + min n (e.seen - m) := by omega
            rw [giveE_two h0 (by omega) (by omega), e3]
            congr 3
            omega
          · have : n = 0 := by omega
            subst this
            rw [take_le (q := 0) (by omega)]
            have e3 : min (m + 0) e.seen = m := by omega
            rw [e3, show m + 0 - m = 0 by omega, take_le (q := 0) (by omega)]
        · have e1 : min m e.seen = e.seen := by omega
          have e2 : min (m + n) e.seen = e.seen := by omega
          rw [e1, e2]
          have hg := giveE_LB (n := e.seen) hb (by omega) (by omega)
          have hfg : ∀ x ∈ giveE e l e.seen, x.o.firm ≠ firm := by
            intro x hx
            unfold giveE at hx
            rw [if_neg (by omega)] at hx
            split at hx
            · rcases List.mem_append.1 hx with hx | hx
              · exact hf x (List.mem_cons_of_mem _ hx)
              · simp only [List.mem_singleton] at hx
                subst hx; exact hfe
            · exact hf x (List.mem_cons_of_mem _ hx)
          have := ih (m - e.seen) n (giveE e l e.seen) (by omega) hg.1 hfg (by omega) hn
          rw [this]
          congr 3
          omega
    · have : m = 0 := by omega
      subst this
      rw [take_le (q := 0) (by omega), Int.zero_add]
theorem fills_firm (rs : List (List Int)) : ∀ k, ∀ x ∈ (fills rs k).2, 0 ≤ x.o.firm ∧ x.o.firm ≤ 1
  | 0 => fun x h => by simp [fills] at h
  | k + 1 => by
    cases hr : rs[k]? with
    | none =>
      have : fills rs (k + 1) = fills rs k := by
        have := List.getElem?_eq_none_iff.1 hr
        unfold fills; rw [List.take_of_length_le (by omega), List.take_of_length_le (by omega)]
      rw [this]; exact fills_firm rs k
    | some r =>
      rw [fills_succ hr]
      unfold fstep
      split
      · exact fills_firm rs k
      · intro x m
        rcases List.mem_append.1 m with m | m
        · exact fills_firm rs k x m
        · simp only [List.mem_singleton] at m
          subst m
          have := mkO_ok r
          show 0 ≤ (mkO r).trader.tdiv 2 ∧ (mkO r).trader.tdiv 2 ≤ 1
          rw [Int.tdiv_eq_ediv_of_nonneg (by omega)]; omega
set_option maxHeartbeats 1000000 in
theorem levelParts_sp (F : Heap) (a : Option Addr) (len cap : Nat) (rs : List (List Int)) (m0 n0 : Int) (hR : RowsF F a len 5 rs) (hC : len ≤ cap) (hM : cap ≤ 9223372036854775807) (h1 : InI m0) (h2 : InI n0) :
    Sp Try.prog F 4 [.slice a len cap, .int .i64 m0, .int .i64 n0] [] (Ret (.bool true)) := by
  have q1 := fun F => sp_Win F m0 0 40 (by omega) (by omega) (by omega)
  have q2 := fun F => sp_Win F n0 0 40 (by omega) (by omega) (by omega)
  have q3 := @levelRuns_sp
  have w1 := win_in m0 (show (0 : Int) ≤ 40 by omega)
  have w2 := win_in n0 (show (0 : Int) ≤ 40 by omega)
  generalize win m0 0 40 = m at *
  generalize win n0 0 40 = n at *
  have hok := fills_ok rs 20
  have hlb := hok.lb (by omega)
  have hfi := fills_firm rs 20
  refine sp_of_code Try.func4 rfl rfl ?_
  (refine run_seq ?_; refine run_region ?_; refine xep rfl rfl ?_; refine runL_nil ?_; refine then_normal ?_; refine run_seq ?_; refine run_region ?_; refine xep rfl rfl ?_)
  refine runL_call0 rfl rfl rfl rfl rfl rfl rfl (pf rfl) (sp_filled _ a len cap rs (hR.mono fun x m => List.mem_append_right _ m) hC hM) ?_
  rintro v H1 ⟨b1, rfl, hH1⟩
  (refine xep rfl rfl ?_)
  refine runL_callZ (H1 ++ []) [] rfl rfl rfl rfl rfl rfl rfl (pf rfl) (fun x => by (first | rfl | (simp only [List.append_eq, cnt_append, cnt_cons, cnt_nil, blk]; omega) | (simp only [List.append_eq, cnt_append, cnt_cons, cnt_nil, blk]; done))) (sp_filled _ a len cap rs (hR.mono fun x m => List.mem_append_right _ m) hC hM) ?_
  rintro v H2 ⟨b2, rfl, hH2⟩
  generalize (fills rs 20).2 = es at *
  have t1 := take_len (firm := 9) 40 m es (by omega) hlb
  have t2 := take_len (firm := 9) 40 n _ (by omega) t1.2.1
  have t3 := take_len (firm := 9) 80 (m + n) es (by omega) hlb
  have t4 := take_two (firm := 9) 40 m n es (by omega) hlb (fun x hx => by have := hfi x hx; omega) (by omega) (by omega)
  have hge : false = false := rfl
  ((iterate 2 refine xep rfl rfl ?_); refine runL_nil ?_; refine then_normal ?_; (iterate 2 refine run_seq ?_); refine run_region ?_; refine xep rfl rfl ?_; refine xel rfl (ev_eqNil rfl rfl rfl (pt rfl)) ?_; refine xep rfl rfl ?_; refine runL_yes rfl rfl hge ?_; refine xep rfl rfl ?_; refine runL_yes rfl rfl hge ?_; refine xel rfl (ev_eqNil rfl rfl rfl (pt rfl)) ?_; refine xep rfl rfl ?_; refine runL_nil ?_; refine then_normal ?_)
  refine run_condF rfl rfl ?_
  clear hge
  (refine run_skip ?_; refine then_normal ?_; refine run_seq ?_; refine run_region ?_; refine xep rfl rfl ?_; refine xel rfl (ev_callQ rfl rfl rfl (pf rfl) (q1 ..)) ?_; refine xep rfl rfl ?_; refine xel rfl (ev_callQ rfl rfl rfl (pf rfl) (q2 ..)) ?_; (iterate 2 refine xep rfl rfl ?_); refine runL_nil ?_; refine then_normal ?_; refine run_seq ?_; refine run_region ?_; (iterate 2 refine xep rfl rfl ?_))
  refine runL_callZ H2 H1 rfl rfl rfl rfl rfl rfl rfl (pf rfl) (fun x => by (first | rfl | (simp only [List.append_eq, cnt_append, cnt_cons, cnt_nil, blk]; omega) | (simp only [List.append_eq, cnt_append, cnt_cons, cnt_nil, blk]; done))) (sp_ltake _ H1 b1 7 es hH1 hlb 9 m (by unfold InI; omega) (by omega)) ?_
  rintro v _ ⟨a3, c3, A3, L3, rfl, -, hL3, rfl⟩
  (refine runL_nil ?_; refine then_normal ?_; refine run_seq ?_; refine run_region ?_; (iterate 2 refine xep rfl rfl ?_))
  refine runL_callZ (H2 ++ A3) L3 rfl rfl rfl rfl rfl rfl rfl (pf rfl) (fun x => by (first | rfl | (simp only [List.append_eq, cnt_append, cnt_cons, cnt_nil, blk]; omega) | (simp only [List.append_eq, cnt_append, cnt_cons, cnt_nil, blk]; done))) (sp_ltake _ L3 b1 7 _ hL3 t1.2.1 9 n (by unfold InI; omega) (by omega)) ?_
  rintro v _ ⟨a4, c4, A4, L4, rfl, -, hL4, rfl⟩
  (refine runL_nil ?_; refine then_normal ?_; refine run_seq ?_; refine run_region ?_; (iterate 3 refine xep rfl rfl ?_); refine xel rfl (ev_add rfl rfl rfl (by omega)) ?_)
  refine runL_callZ (A3 ++ (L4 ++ A4)) H2 rfl rfl rfl rfl rfl rfl rfl (pf rfl) (fun x => by (first | rfl | (simp only [List.append_eq, cnt_append, cnt_cons, cnt_nil, blk]; omega) | (simp only [List.append_eq, cnt_append, cnt_cons, cnt_nil, blk]; done))) (sp_ltake _ H2 b2 7 es hH2 hlb 9 (m + n) (by unfold InI; omega) (by omega)) ?_
  rintro v _ ⟨a5, c5, A5, L5, rfl, -, hL5, rfl⟩
  rw [t4] at hL4
  have hle := t3.2.2
  have hlb3 := t3.2.1
  generalize (take 9 (m + n) es).2.2 = es3 at *
  refine RunL.perm (h' := L4 ++ L5 ++ (A3 ++ A4 ++ A5)) (fun x => by (first | rfl | (simp only [List.append_eq, cnt_append, cnt_cons, cnt_nil, blk]; omega) | (simp only [List.append_eq, cnt_append, cnt_cons, cnt_nil, blk]; done))) ?_
  (refine runL_nil ?_; refine then_normal ?_; refine run_seq ?_; refine run_region ?_; refine xep rfl rfl ?_)
  refine runL_callZ (L4 ++ L5 ++ (A3 ++ A4 ++ A5)) [] rfl rfl rfl rfl rfl rfl rfl (pf rfl) (fun x => by (first | rfl | (simp only [List.append_eq, cnt_append, cnt_cons, cnt_nil, blk]; omega) | (simp only [List.append_eq, cnt_append, cnt_cons, cnt_nil, blk]; done))) (sp_lorders _ b1 7 es3 (hL4.in fun x m => by simp [m]) hlb3.1) ?_
  rintro v A6 own6
  obtain ⟨a6, c6, rfl, own6⟩ := own6.at
  (refine xep rfl rfl ?_)
  refine runL_callZ (L4 ++ L5 ++ (A3 ++ A4 ++ A5) ++ A6) [] rfl rfl rfl rfl rfl rfl rfl (pf rfl) (fun x => by (first | rfl | (simp only [List.append_eq, cnt_append, cnt_cons, cnt_nil, blk]; omega) | (simp only [List.append_eq, cnt_append, cnt_cons, cnt_nil, blk]; done))) (sp_lorders _ b2 7 es3 (hL5.in fun x m => by simp [m]) hlb3.1) ?_
  rintro v A7 own7
  obtain ⟨a7, c7, rfl, own7⟩ := own7.at
  skip
  refine runL_ev rfl rfl rfl rfl (ev_callQ rfl rfl rfl (pf rfl) (sp_sameOrd _ a6 a7 es3.length c6 c7 (es3.map (·.o)) (List.length_map ..) (by have := hlb3.1; omega) (own6.src fun x m => by simp [m]) (own7.src fun x m => by simp [m]))) ?_
  have hgd : true = true := rfl
  (refine xep rfl rfl ?_; refine runL_yes rfl rfl hgd ?_; refine xep rfl rfl ?_; refine runL_yes rfl rfl hgd ?_)
  refine runL_ev rfl rfl rfl rfl (ev_callQ rfl rfl rfl (pf rfl) (sp_lseen _ b1 7 es3 (hL4.in fun x m => by simp [m]) hlb3)) ?_
  (refine runL_yes rfl rfl hgd ?_; refine xep rfl rfl ?_; refine runL_yes rfl rfl hgd ?_)
  refine runL_ev rfl rfl rfl rfl (ev_callQ rfl rfl rfl (pf rfl) (sp_lseen _ b2 7 es3 (hL5.in fun x m => by simp [m]) hlb3)) ?_
  have y1 : (true && decide (sumE (fun x => x.seen) es3 = sumE (fun x => x.seen) es3)) = true := by simp
  (refine runL_yes rfl rfl hgd ?_; (iterate 3 refine xep rfl rfl ?_); refine runL_yes rfl rfl y1 ?_; refine xep rfl rfl ?_; refine runL_yes rfl rfl y1 ?_)
  refine runL_ev rfl rfl rfl rfl (ev_callQ rfl rfl rfl (pf rfl) (sp_lwhole _ b1 7 es3 (hL4.in fun x m => by simp [m]) hlb3)) ?_
  (refine runL_yes rfl rfl y1 ?_; refine xep rfl rfl ?_; refine runL_yes rfl rfl y1 ?_)
  refine runL_ev rfl rfl rfl rfl (ev_callQ rfl rfl rfl (pf rfl) (sp_lwhole _ b2 7 es3 (hL5.in fun x m => by simp [m]) hlb3)) ?_
  have y2 : (true && decide (sumE (fun x => x.seen) es3 = sumE (fun x => x.seen) es3) && decide (sumE (fun x => x.o.qty) es3 = sumE (fun x => x.o.qty) es3)) = true := by simp
  (refine runL_yes rfl rfl y1 ?_; (iterate 3 refine xep rfl rfl ?_); refine runL_yes rfl rfl y2 ?_; refine xel rfl (ev_callQ rfl rfl rfl (pf rfl) (q3 ..)) ?_; (iterate 2 refine xep rfl rfl ?_); refine runL_nil ?_; refine then_normal ?_; refine run_ret ?_)
  exact ⟨_, rfl, congrArg Value.bool (by simp)⟩
end Go.Proofs.Ytfclaleiciodmaa
