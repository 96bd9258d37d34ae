/- Contracts of functions of the given program over its translation, each proved by walking its text; used by the laws' rows. It proves no given statement by itself. -/
import Derived.Test.YtnpcmcijlgklfaaSLRef13
import Derived.Test.YtnpcmcijlgklfaaSLLaw15c
set_option autoImplicit false
set_option linter.unusedSectionVars false
set_option linter.unusedSimpArgs false
set_option linter.unusedVariables false
namespace Go.Proofs.Ytnpcmcijlgklfaa
open Go Go.SL Go.Proofs
variable [Base]
/-- The document's accounts say what the program's do. -/
structure Agree (A W : List Int) : Prop where
  ao : AOk A
  wo : WOk W
  op : ∀ n i, there n i = true → at_ W (wslot n i) = at_ A (slot n i)
  ps : ∀ n i, there n i = true → at_ W (wpslot n i) = at_ A (pslot n i)
theorem at_set (A : List Int) {k j : Nat} (v : Int) (h : k < A.length) : at_ (A.set k v) j = if k = j then v else at_ A j := by
  by_cases e : k = j
  · subst e; rw [if_pos rfl, at_set_self _ h]
  · rw [if_neg e, at_set_ne _ _ e]
theorem wmv_ok {W : List Int} (hW : WOk W) (k : Nat) (by_ lo hi : Int) (h1 : -1099511627776 ≤ lo) (h2 : hi ≤ 1099511627776) : WOk (mv W k by_ lo hi).2 := by
  unfold mv
  split
  · rename_i h
    refine ⟨by simp [hW.1], fun j x h128 hx => ?_⟩
    by_cases e : k = j
    · subst e
      have hlt : k < W.length := by
        have := (List.getElem?_eq_some_iff.1 hx).1
        simpa using this
      rw [List.getElem?_set_self hlt] at hx
      have := Option.some.inj hx
      omega
    · rw [List.getElem?_set_ne e] at hx
      exact hW.2 j x h128 hx
  · exact hW
theorem Agree.move1 {A W : List Int} (h : Agree A W) {n i : Int} (ht : there n i = true) (q lo hi : Int) (h1 : -1099511627776 ≤ lo) (h2 : hi ≤ 1099511627776) :
    (mv A (slot n i) q lo hi).1 = (mv W (wslot n i) q lo hi).1 ∧ Agree (mv A (slot n i) q lo hi).2 (mv W (wslot n i) q lo hi).2 := by
  have e := h.op n i ht
  have ao := mv_ok h.ao (slot n i) q lo hi h1 h2
  have wo := wmv_ok h.wo (wslot n i) q lo hi h1 h2
  unfold mv at ao wo ⊢
  rw [e] at wo ⊢
  have hb := there_iff.1 ht
  by_cases hc : lo ≤ at_ A (slot n i) + q ∧ at_ A (slot n i) + q ≤ hi
  · rw [if_pos hc, if_pos hc]
    rw [if_pos hc] at ao wo
    refine ⟨rfl, ao, wo, fun n' i' ht' => ?_, fun n' i' ht' => ?_⟩
    · have hb' := there_iff.1 ht'
      have := h.op n' i' ht'
      dsimp only
      rw [at_set _ _ (by rw [h.wo.1]; unfold wslot; omega), at_set _ _ (by rw [h.ao.1]; unfold slot; omega), this]
      by_cases e2 : n = n' ∧ i = i'
      · rw [if_pos (by rw [e2.1, e2.2]), if_pos (by rw [e2.1, e2.2])]
      · rw [if_neg (by unfold wslot; omega), if_neg (by unfold slot; omega)]
    · have hb' := there_iff.1 ht'
      have := h.ps n' i' ht'
      dsimp only
      rw [at_set_ne _ _ (by unfold wslot wpslot; omega), at_set_ne _ _ (by unfold slot pslot; omega), this]
  · rw [if_neg hc, if_neg hc]
    exact ⟨rfl, h⟩
theorem Agree.move2 {A W : List Int} (h : Agree A W) {n i : Int} (ht : there n i = true) (q lo hi : Int) (h1 : -1099511627776 ≤ lo) (h2 : hi ≤ 1099511627776) :
    (mv A (pslot n i) q lo hi).1 = (mv W (wpslot n i) q lo hi).1 ∧ Agree (mv A (pslot n i) q lo hi).2 (mv W (wpslot n i) q lo hi).2 := by
  have e := h.ps n i ht
  have ao := mv_ok h.ao (pslot n i) q lo hi h1 h2
  have wo := wmv_ok h.wo (wpslot n i) q lo hi h1 h2
  unfold mv at ao wo ⊢
  rw [e] at wo ⊢
  have hb := there_iff.1 ht
  by_cases hc : lo ≤ at_ A (pslot n i) + q ∧ at_ A (pslot n i) + q ≤ hi
  · rw [if_pos hc, if_pos hc]
    rw [if_pos hc] at ao wo
    refine ⟨rfl, ao, wo, fun n' i' ht' => ?_, fun n' i' ht' => ?_⟩
    · have hb' := there_iff.1 ht'
      have := h.op n' i' ht'
      dsimp only
      rw [at_set_ne _ _ (by unfold wslot wpslot; omega), at_set_ne _ _ (by unfold slot pslot; omega), this]
    · have hb' := there_iff.1 ht'
      have := h.ps n' i' ht'
      dsimp only
      rw [at_set _ _ (by rw [h.wo.1]; unfold wpslot; omega), at_set _ _ (by rw [h.ao.1]; unfold pslot; omega), this]
      by_cases e2 : n = n' ∧ i = i'
      · rw [if_pos (by rw [e2.1, e2.2]), if_pos (by rw [e2.1, e2.2])]
      · rw [if_neg (by unfold wpslot; omega), if_neg (by unfold pslot; omega)]
  · rw [if_neg hc, if_neg hc]
    exact ⟨rfl, h⟩
theorem Agree.doOpens {A W : List Int} (h : Agree A W) (n i q : Int) : (opens A n i q).1 = (wopens W n i q).1 ∧ Agree (opens A n i q).2 (wopens W n i q).2 := by
  unfold opens wopens
  split
  · rename_i hc; exact h.move1 hc.1 _ _ _ (by omega) (by omega)
  · exact ⟨rfl, h⟩
theorem Agree.doTrades {A W : List Int} (h : Agree A W) (n i s q : Int) : (trades A n i s q).1 = (wtrades W n i s q).1 ∧ Agree (trades A n i s q).2 (wtrades W n i s q).2 := by
  unfold trades wtrades
  split
  · rename_i hc; exact h.move2 hc.1 _ _ _ (by omega) (by omega)
  · exact ⟨rfl, h⟩
theorem Agree.pos {A W : List Int} (h : Agree A W) (n i : Int) : wpa W n i = pa A n i := by
  unfold wpa pa
  split
  · rename_i ht; exact h.ps n i ht
  · rfl
theorem Agree.sum {A W : List Int} (h : Agree A W) (n : Int) (hn : 0 ≤ n ∧ n < 32) : ∀ k ≤ 8, wsum W n k = sumN A n k
  | 0, _ => rfl
  | k + 1, hk => by
    have ht : there n (k : Int) = true := there_iff.2 (by omega)
    rw [wsum, sumN, h.sum n hn k (by omega), h.op n k ht]
    unfold oa; rw [if_pos ht]
theorem sumN_out (A : List Int) (n : Int) (hn : ¬ (0 ≤ n ∧ n < 32)) : ∀ k, sumN A n k = 0
  | 0 => rfl
  | k + 1 => by
    rw [sumN, sumN_out A n hn k]
    unfold oa; rw [if_neg (by rw [there_iff]; omega)]; rfl
theorem Agree.open_ {A W : List Int} (h : Agree A W) (n : Int) : wopen W n = sumN A n 8 := by
  unfold wopen
  split
  · rename_i hn; exact h.sum n hn 8 (by omega)
  · rename_i hn; rw [sumN_out A n hn]
def W0 : List Int := List.replicate 640 0
theorem at_W0 (k : Nat) : at_ W0 k = 0 := by
  unfold at_ W0
  rw [List.getD_eq_getElem?_getD, List.getElem?_replicate]
  split <;> rfl
theorem agree0 : Agree A0 W0 := ⟨A0_ok, ⟨List.length_replicate, fun k x _ h => by
  have := List.eq_of_mem_replicate (List.mem_of_getElem? h)
  omega⟩, fun n i _ => by rw [at_W0, at_A0], fun n i _ => by rw [at_W0, at_A0]⟩
theorem zeW : zeroT Try.prog 56 = some (ac W0) := by kernel_rfl
theorem plW : PlacesOk Try.prog 56 [(0, 128), (128, 512)] (ac W0) := ⟨by kernel_rfl, by kernel_rfl, zeW⟩
set_option maxHeartbeats 4000000 in
theorem acctPlays_sp (F : Heap) (a : Option Addr) (len cap : Nat) (rows : List (List Int)) (hR : RowsF F a len 5 rows) (hC : len ≤ cap) (hM : cap ≤ 9223372036854775807) :
    Sp Try.prog F 11 [.slice a len cap] [] (Ret (.bool true)) := by
  have q4 := @acctRuns_sp
  have c0 := fun F => sp_new F
  have hg0 := agree0
  have hp := plW
  generalize A0 = B0 at *
  generalize W0 = V0 at *
  refine sp_of_code Try.func11 rfl rfl ?_
  (refine run_seq ?_; refine run_region ?_; refine xep rfl rfl ?_; refine runL_nil ?_; refine then_normal ?_; refine run_seq ?_; refine run_region ?_)
  refine runL_call0 rfl rfl rfl rfl rfl rfl rfl (pf rfl) (c0 _) ?_
  rintro v h1 ⟨b, rfl, rfl⟩
  skip
  refine runL_ev rfl rfl rfl rfl (ev_build rfl hp rfl) ?_
  (refine runL_box rfl rfl rfl rfl rfl rfl (fun _ => ?_); (iterate 2 refine xep rfl rfl ?_); refine runL_nil ?_; refine then_normal ?_; (iterate 2 refine run_seq ?_); refine run_region ?_; refine xep rfl rfl ?_; refine xel rfl (ev_eqNil rfl rfl rfl (pt rfl)) ?_; refine runL_nil ?_; refine then_normal ?_)
  rename_i w
  refine run_condF rfl rfl ?_
  (refine run_skip ?_; refine then_normal ?_; (iterate 2 refine run_seq ?_); refine run_region ?_; refine xep rfl rfl ?_; refine runL_nil ?_; refine then_normal ?_; refine run_block ?_)
  refine run_loopK (σ := Nat × List Int × List Int) [0, 3, 4, 5] (fun s => [(0, .slice a len cap), (3, .pointer (some ⟨b, 0, none⟩)), (4, .pointer (some ⟨w, 0, none⟩)), (5, .int .i64 s.1)]) (fun s => [blk w (ac s.2.2) 56, blk b (ac s.2.1) 76])
    (fun s => s.1 ≤ len ∧ s.1 ≤ 60 ∧ Agree s.2.1 s.2.2) (fun s => 60 - s.1) (0, B0, V0) ⟨Nat.zero_le _, Nat.zero_le _, hg0⟩ rfl (fun _ => rfl) ?_
  rintro ⟨k, A, W⟩ ⟨g1, g2, hA⟩
  dsimp only at g1 g2 hA ⊢
  ((iterate 2 refine run_seq ?_); refine run_region ?_; (iterate 2 refine xep rfl rfl ?_); refine xel rfl (ev_len rfl rfl (se rfl)) ?_; (iterate 2 refine xep rfl rfl ?_); (iterate 2 refine xgp rfl rfl rfl ?_); refine xep rfl rfl ?_; refine runL_nil ?_; refine then_normal ?_)
  (refine run_cond rfl (fun hc => ?_) (fun hc => ?_) <;> (try simp only [z0, z1, z2, z3, z4, z5, z6, z7, z8, z9, Bool.not_true, Bool.not_false, Bool.false_or, Bool.true_and, true_and, and_true, false_or, or_false, reduceCtorEq, Bool.false_eq_true] at hc))
  · obtain ⟨zb, off, rfl⟩ := hR.pos (by omega)
    obtain ⟨r, hr, hrl, hrI, l1⟩ := RowsF.cell hR (i := k) (by omega)
    match r, hrl with
    | [kd, n, i, sd, q], _ =>
    have hq : InI q := hrI q (by simp)
    (refine run_skip ?_; refine then_normal ?_; refine run_seq ?_; refine run_block ?_; refine run_seq ?_; refine run_region ?_; (iterate 2 refine xep rfl rfl ?_); refine xel rfl (ev_indexAddr rfl rfl rfl (se rfl) (by omega) (by omega)) ?_; refine xel rfl (ev_loadAF rfl rfl (ag rfl) (sz rfl) l1 rfl) ?_; refine runL_alloc rfl rfl rfl rfl rfl ze58 (fun _ => ?_); refine runL_store0 rfl rfl rfl rfl rfl (sz rfl) rfl rfl rfl rfl rfl ?_; refine runL_nil ?_; refine then_normal ?_; refine run_seq ?_; refine run_region ?_; refine xep rfl rfl ?_; refine runL_nil ?_; refine then_normal ?_; (iterate 2 refine run_seq ?_); refine run_region ?_; refine xel rfl (ev_fieldAddr rfl rfl (fo rfl)) ?_; refine xel rfl (ev_loadK rfl rfl (sc rfl) (memF (.head _)) rfl) ?_; refine runL_nil ?_; refine then_normal ?_; refine run_block ?_; refine run_seq ?_; refine run_region ?_; (iterate 2 refine xep rfl rfl ?_); refine runL_nil ?_; refine then_normal ?_)
    rename_i c
    have hgd : true = true := rfl
    refine RunC.mono (Q := MidK (σ := Bool × List Int × List Int) [0, 3, 4, 5, 6, 7] (fun s => [(0, .slice (some ⟨zb, off, none⟩) len cap), (3, .pointer (some ⟨b, 0, none⟩)), (4, .pointer (some ⟨w, 0, none⟩)), (5, .int .i64 k), (6, .pointer (some ⟨c, 0, none⟩)), (7, .bool s.1)])
      (fun s => [blk b (ac s.2.1) 76, blk w (ac s.2.2) 56, blk c (ints [kd, n, i, sd, q]) 58]) (fun s => s.1 = true ∧ Agree s.2.1 s.2.2)) ?_ ?_
    · (refine run_cond rfl (fun hc => ?_) (fun hc => ?_) <;> (try simp only [z0, z1, z2, z3, z4, z5, z6, z7, z8, z9, Bool.not_true, Bool.not_false, Bool.false_or, Bool.true_and, true_and, and_true, false_or, or_false, reduceCtorEq, Bool.false_eq_true] at hc))
      · refine RunC.perm (h' := [blk b (ac A) 76, blk w (ac W) 56] ++ [blk c (ints [kd, n, i, sd, q]) 58]) (fun x => by simp only [ints, List.map]; (simp only [cnt_append, cnt_cons, cnt_nil, blk]; omega)) ?_
        refine RunC.freezeR ?_
        have x1 := hA.doOpens n i q
        have c1 := fun F => sp_opens F A hA.ao b 76 n i q
        have c2 := fun F => sp_wopens F W hA.wo w 56 n i q hq
        generalize opens A n i q = ra at *
        generalize wopens W n i q = rw_ at *
        obtain ⟨a1, A2⟩ := ra
        obtain ⟨w1, W2⟩ := rw_
        dsimp only at x1 c1 c2
        refine run_region_D mo ?_
        (refine runD_q 0 rfl rfl (by kernel_rfl) ?_; refine ⟨_, fun _ => ev_pure rfl, ?_⟩; refine runD_q 1 rfl rfl (by kernel_rfl) ?_; refine ⟨_, fun _ => ev_fieldAddr rfl rfl (fo rfl), ?_⟩; refine runD_q 2 rfl rfl (by kernel_rfl) ?_; refine ⟨_, fun _ => ev_loadK rfl rfl (sc rfl) (memR (memF (.head _))) rfl, ?_⟩; refine runD_q 3 rfl rfl (by kernel_rfl) ?_; refine ⟨_, fun _ => ev_fieldAddr rfl rfl (fo rfl), ?_⟩; refine runD_q 4 rfl rfl (by kernel_rfl) ?_; refine ⟨_, fun _ => ev_loadK rfl rfl (sc rfl) (memR (memF (.head _))) rfl, ?_⟩; refine runD_q 5 rfl rfl (by kernel_rfl) ?_; refine ⟨_, fun _ => ev_fieldAddr rfl rfl (fo rfl), ?_⟩; refine runD_q 6 rfl rfl (by kernel_rfl) ?_; refine ⟨_, fun _ => ev_loadK rfl rfl (sc rfl) (memR (memF (.head _))) rfl, ?_⟩; refine runD_q 8 rfl rfl (by kernel_rfl) ?_; refine ⟨_, fun _ => ev_pure rfl, ?_⟩; refine runD_q 9 rfl rfl (by kernel_rfl) ?_; refine ⟨_, fun _ => ev_fieldAddr rfl rfl (fo rfl), ?_⟩; refine runD_q 10 rfl rfl (by kernel_rfl) ?_; refine ⟨_, fun _ => ev_loadK rfl rfl (sc rfl) (memR (memF (.head _))) rfl, ?_⟩; refine runD_q 11 rfl rfl (by kernel_rfl) ?_; refine ⟨_, fun _ => ev_fieldAddr rfl rfl (fo rfl), ?_⟩; refine runD_q 12 rfl rfl (by kernel_rfl) ?_; refine ⟨_, fun _ => ev_loadK rfl rfl (sc rfl) (memR (memF (.head _))) rfl, ?_⟩; refine runD_q 13 rfl rfl (by kernel_rfl) ?_; refine ⟨_, fun _ => ev_fieldAddr rfl rfl (fo rfl), ?_⟩; refine runD_q 14 rfl rfl (by kernel_rfl) ?_; refine ⟨_, fun _ => ev_loadK rfl rfl (sc rfl) (memR (memF (.head _))) rfl, ?_⟩; refine runD_1 7 (by kernel_rfl) rfl rfl rfl ?_)
        refine runL_call1 rfl rfl rfl rfl rfl rfl rfl (pf rfl) (c1 _) ?_
        rintro v h1 ⟨rfl, rfl⟩
        (refine runL_nil ?_; refine endS_d rfl ?_; refine runD_1 15 (by kernel_rfl) rfl rfl rfl ?_)
        refine runL_call (caps := []) [blk b (ac A2) 76] [blk w (ac W) 56] rfl rfl rfl rfl rfl rfl rfl (pf rfl) (fun x => by (simp only [cnt_append, cnt_cons, cnt_nil, blk]; omega)) (by rw [List.append_nil]; exact c2 _) ?_
        rintro v h1 ⟨rfl, rfl⟩
        (refine runL_nil ?_; refine endS_d rfl ?_; refine runD_q 16 rfl rfl (by kernel_rfl) ?_; refine ⟨_, fun _ => ev_eqB rfl rfl rfl (bt rfl), ?_⟩; refine runD_q 17 rfl rfl (by kernel_rfl) ?_; refine ⟨_, fun _ => ev_pure rfl, ?_⟩; refine runD_done (by kernel_rfl) ?_)
        exact ⟨rfl, (a1 == w1, A2, W2), ⟨by rw [x1.1]; simp, x1.2⟩, rfl, fun x => by (simp only [cnt_append, cnt_cons, cnt_nil, blk]; omega)⟩
      · (refine run_seq ?_; refine run_region ?_; (iterate 2 refine xep rfl rfl ?_); refine runL_nil ?_; refine then_normal ?_)
        (refine run_cond rfl (fun hc => ?_) (fun hc => ?_) <;> (try simp only [z0, z1, z2, z3, z4, z5, z6, z7, z8, z9, Bool.not_true, Bool.not_false, Bool.false_or, Bool.true_and, true_and, and_true, false_or, or_false, reduceCtorEq, Bool.false_eq_true] at hc))
        · refine RunC.perm (h' := [blk b (ac A) 76, blk w (ac W) 56] ++ [blk c (ints [kd, n, i, sd, q]) 58]) (fun x => by simp only [ints, List.map]; (simp only [cnt_append, cnt_cons, cnt_nil, blk]; omega)) ?_
          refine RunC.freezeR ?_
          have x1 := hA.doTrades n i sd q
          have c1 := fun F => sp_trades F A hA.ao b 76 n i sd q
          have c2 := fun F => sp_wtrades F W hA.wo w 56 n i sd q
          generalize trades A n i sd q = ra at *
          generalize wtrades W n i sd q = rw_ at *
          obtain ⟨a1, A2⟩ := ra
          obtain ⟨w1, W2⟩ := rw_
          dsimp only at x1 c1 c2
          refine run_region_D mo ?_
          (refine runD_q 0 rfl rfl (by kernel_rfl) ?_; refine ⟨_, fun _ => ev_pure rfl, ?_⟩; refine runD_q 1 rfl rfl (by kernel_rfl) ?_; refine ⟨_, fun _ => ev_fieldAddr rfl rfl (fo rfl), ?_⟩; refine runD_q 2 rfl rfl (by kernel_rfl) ?_; refine ⟨_, fun _ => ev_loadK rfl rfl (sc rfl) (memR (memF (.head _))) rfl, ?_⟩; refine runD_q 3 rfl rfl (by kernel_rfl) ?_; refine ⟨_, fun _ => ev_fieldAddr rfl rfl (fo rfl), ?_⟩; refine runD_q 4 rfl rfl (by kernel_rfl) ?_; refine ⟨_, fun _ => ev_loadK rfl rfl (sc rfl) (memR (memF (.head _))) rfl, ?_⟩; refine runD_q 5 rfl rfl (by kernel_rfl) ?_; refine ⟨_, fun _ => ev_fieldAddr rfl rfl (fo rfl), ?_⟩; refine runD_q 6 rfl rfl (by kernel_rfl) ?_; refine ⟨_, fun _ => ev_loadK rfl rfl (sc rfl) (memR (memF (.head _))) rfl, ?_⟩; refine runD_q 7 rfl rfl (by kernel_rfl) ?_; refine ⟨_, fun _ => ev_fieldAddr rfl rfl (fo rfl), ?_⟩; refine runD_q 8 rfl rfl (by kernel_rfl) ?_; refine ⟨_, fun _ => ev_loadK rfl rfl (sc rfl) (memR (memF (.head _))) rfl, ?_⟩; refine runD_q 10 rfl rfl (by kernel_rfl) ?_; refine ⟨_, fun _ => ev_pure rfl, ?_⟩; refine runD_q 11 rfl rfl (by kernel_rfl) ?_; refine ⟨_, fun _ => ev_fieldAddr rfl rfl (fo rfl), ?_⟩; refine runD_q 12 rfl rfl (by kernel_rfl) ?_; refine ⟨_, fun _ => ev_loadK rfl rfl (sc rfl) (memR (memF (.head _))) rfl, ?_⟩; refine runD_q 13 rfl rfl (by kernel_rfl) ?_; refine ⟨_, fun _ => ev_fieldAddr rfl rfl (fo rfl), ?_⟩; refine runD_q 14 rfl rfl (by kernel_rfl) ?_; refine ⟨_, fun _ => ev_loadK rfl rfl (sc rfl) (memR (memF (.head _))) rfl, ?_⟩; refine runD_q 15 rfl rfl (by kernel_rfl) ?_; refine ⟨_, fun _ => ev_fieldAddr rfl rfl (fo rfl), ?_⟩; refine runD_q 16 rfl rfl (by kernel_rfl) ?_; refine ⟨_, fun _ => ev_loadK rfl rfl (sc rfl) (memR (memF (.head _))) rfl, ?_⟩; refine runD_q 17 rfl rfl (by kernel_rfl) ?_; refine ⟨_, fun _ => ev_fieldAddr rfl rfl (fo rfl), ?_⟩; refine runD_q 18 rfl rfl (by kernel_rfl) ?_; refine ⟨_, fun _ => ev_loadK rfl rfl (sc rfl) (memR (memF (.head _))) rfl, ?_⟩; refine runD_1 9 (by kernel_rfl) rfl rfl rfl ?_)
          refine runL_call1 rfl rfl rfl rfl rfl rfl rfl (pf rfl) (c1 _) ?_
          rintro v h1 ⟨rfl, rfl⟩
          (refine runL_nil ?_; refine endS_d rfl ?_; refine runD_1 19 (by kernel_rfl) rfl rfl rfl ?_)
          refine runL_call (caps := []) [blk b (ac A2) 76] [blk w (ac W) 56] rfl rfl rfl rfl rfl rfl rfl (pf rfl) (fun x => by (simp only [cnt_append, cnt_cons, cnt_nil, blk]; omega)) (by rw [List.append_nil]; exact c2 _) ?_
          rintro v h1 ⟨rfl, rfl⟩
          (refine runL_nil ?_; refine endS_d rfl ?_; refine runD_q 20 rfl rfl (by kernel_rfl) ?_; refine ⟨_, fun _ => ev_eqB rfl rfl rfl (bt rfl), ?_⟩; refine runD_q 21 rfl rfl (by kernel_rfl) ?_; refine ⟨_, fun _ => ev_pure rfl, ?_⟩; refine runD_done (by kernel_rfl) ?_)
          exact ⟨rfl, (a1 == w1, A2, W2), ⟨by rw [x1.1]; simp, x1.2⟩, rfl, fun x => by (simp only [cnt_append, cnt_cons, cnt_nil, blk]; omega)⟩
        · (refine run_skip ?_)
          exact ⟨rfl, (true, A, W), ⟨rfl, hA⟩, rfl, fun x => by simp only [ints, List.map]; (simp only [cnt_append, cnt_cons, cnt_nil, blk]; omega)⟩
    · rintro e fr' h' ⟨rfl, ⟨_, A', W'⟩, ⟨rfl, hA'⟩, hk, hh⟩
      (refine in_normal ?_; refine then_normal ?_)
      refine RunC.keepB _ hk (RunC.perm hh ?_)
      (refine run_seq ?_; refine run_region ?_; refine xep rfl rfl ?_; refine runL_nil ?_; refine then_normal ?_; (iterate 2 refine run_seq ?_); refine run_region ?_; refine xel rfl (ev_fieldAddr rfl rfl (fo rfl)) ?_; refine xel rfl (ev_loadK rfl rfl (sc rfl) (memF (.tail _ (.tail _ (.head _)))) rfl) ?_; (iterate 2 refine xep rfl rfl ?_); refine xgl rfl rfl (fun hq => ev_fieldAddr rfl rfl (fo rfl)) ?_; refine xgl rfl rfl (fun hq => ev_loadK rfl rfl (sc rfl) (memF (.tail _ (.tail _ (.head _)))) rfl) ?_; refine xgp rfl rfl rfl ?_; (iterate 2 refine xep rfl rfl ?_); refine xgl rfl rfl (fun hq => ev_fieldAddr rfl rfl (fo rfl)) ?_; refine xgl rfl rfl (fun hq => ev_loadK rfl rfl (sc rfl) (memF (.tail _ (.tail _ (.head _)))) rfl) ?_; refine xgp rfl rfl rfl ?_; (iterate 2 refine xep rfl rfl ?_); refine xgl rfl rfl (fun hq => ev_fieldAddr rfl rfl (fo rfl)) ?_; refine xgl rfl rfl (fun hq => ev_loadK rfl rfl (sc rfl) (memF (.tail _ (.tail _ (.head _)))) rfl) ?_; refine xgp rfl rfl rfl ?_; refine xep rfl rfl ?_; refine runL_nil ?_; refine then_normal ?_)
      refine RunC.mono (Q := MidK (σ := Int) [0, 3, 4, 5, 6, 7, 8] (fun x => [(0, .slice (some ⟨zb, off, none⟩) len cap), (3, .pointer (some ⟨b, 0, none⟩)), (4, .pointer (some ⟨w, 0, none⟩)), (5, .int .i64 k), (6, .pointer (some ⟨c, 0, none⟩)), (7, .bool true), (8, .int .i64 x)])
        (fun _ => [blk b (ac A') 76, blk w (ac W') 56, blk c (ints [kd, n, i, sd, q]) 58]) (fun x => x = oa A' n i)) ?_ ?_
      · (refine run_cond rfl (fun hc => ?_) (fun hc => ?_) <;> (try simp only [z0, z1, z2, z3, z4, z5, z6, z7, z8, z9, Bool.not_true, Bool.not_false, Bool.false_or, Bool.true_and, true_and, and_true, false_or, or_false, reduceCtorEq, Bool.false_eq_true] at hc))
        · have ht : there n i = true := there_iff.2 (by omega)
          have g1 : (ac W')[0 + 128 + n.toNat * 16 + 0 + i.toNat * 1]? = some (.int .i64 (at_ W' (wslot n i))) := by
            rw [show 0 + 128 + n.toNat * 16 + 0 + i.toNat * 1 = wslot n i by unfold wslot; omega]
            exact ac_get (hA'.wo.at (by unfold wslot; omega) (by unfold wslot; omega)).1
          (refine run_region_draw mo (by kernel_rfl) ?_; refine xqp rfl rfl ?_; refine xql rfl (ev_fieldAddr rfl rfl (fo rfl)) ?_; refine xql rfl (ev_loadK rfl rfl (sc rfl) (memF (.tail _ (.tail _ (.head _)))) rfl) ?_; refine xql rfl (ev_fieldAddr rfl rfl (fo rfl)) ?_; refine xql rfl (ev_loadK rfl rfl (sc rfl) (memF (.tail _ (.tail _ (.head _)))) rfl) ?_; refine xqp rfl rfl ?_; refine xql rfl (ev_fieldAddr rfl rfl (fo rfl)) ?_; refine xql rfl (ev_indexAddrA rfl rfl rfl (ar rfl) (by omega) (by omega)) ?_; refine xql rfl (ev_fieldAddr rfl rfl (fo rfl)) ?_; refine xql rfl (ev_indexAddrA rfl rfl rfl (ar rfl) (by omega) (by omega)) ?_; refine xql rfl (ev_load rfl rfl (sc rfl) (memF (.tail _ (.head _))) g1) ?_; refine xqp rfl rfl ?_; refine runQ_nil ?_)
          exact ⟨rfl, _, by unfold oa; rw [if_pos ht]; exact hA'.op n i ht, rfl, fun _ => rfl⟩
        · (refine run_skip ?_)
          exact ⟨rfl, _, by unfold oa; rw [if_neg (by rw [there_iff]; omega)], rfl, fun _ => rfl⟩
      · rintro e fr2 h2 ⟨rfl, _, rfl, hk2, hh2⟩
        (refine then_normal ?_)
        refine RunC.keepB _ hk2 (RunC.perm hh2 ?_)
        have m1 := sp_open _ hA'.ao b 76
        have m2 := sp_wopen _ hA'.wo w 56
        have m3 := sp_pos _ hA'.ao b 76
        have m4 := sp_wpos _ hA'.wo w 56
        have m5 := sp_openAt _ hA'.ao b 76
        (refine run_seq ?_; refine run_region_draw mo (by kernel_rfl) ?_; (iterate 3 refine xqp rfl rfl ?_); refine xhp rfl rfl rfl ?_; refine xhl rfl rfl (fun hq => ev_fieldAddr rfl rfl (fo rfl)) ?_; refine xhl rfl rfl (fun hq => ev_loadK rfl rfl (sc rfl) (memF (.tail _ (.tail _ (.head _)))) rfl) ?_; refine xhl rfl rfl (fun hq => ev_callQ rfl rfl rfl (pf rfl) (m1 _ (memF (.head _)) ..)) ?_; refine xhp rfl rfl rfl ?_; refine xhl rfl rfl (fun hq => ev_fieldAddr rfl rfl (fo rfl)) ?_; refine xhl rfl rfl (fun hq => ev_loadK rfl rfl (sc rfl) (memF (.tail _ (.tail _ (.head _)))) rfl) ?_; refine xhl rfl rfl (fun hq => ev_callQ rfl rfl rfl (pf rfl) (m2 _ (memF (.tail _ (.head _))) ..)) ?_; refine xhp rfl rfl rfl ?_; (iterate 2 refine xqp rfl rfl ?_); refine xhp rfl rfl rfl ?_; refine xhl rfl rfl (fun hq => ev_fieldAddr rfl rfl (fo rfl)) ?_; refine xhl rfl rfl (fun hq => ev_loadK rfl rfl (sc rfl) (memF (.tail _ (.tail _ (.head _)))) rfl) ?_; refine xhl rfl rfl (fun hq => ev_fieldAddr rfl rfl (fo rfl)) ?_; refine xhl rfl rfl (fun hq => ev_loadK rfl rfl (sc rfl) (memF (.tail _ (.tail _ (.head _)))) rfl) ?_; refine xhl rfl rfl (fun hq => ev_callQ rfl rfl rfl (pf rfl) (m3 _ (memF (.head _)) ..)) ?_; refine xhp rfl rfl rfl ?_; refine xhl rfl rfl (fun hq => ev_fieldAddr rfl rfl (fo rfl)) ?_; refine xhl rfl rfl (fun hq => ev_loadK rfl rfl (sc rfl) (memF (.tail _ (.tail _ (.head _)))) rfl) ?_; refine xhl rfl rfl (fun hq => ev_fieldAddr rfl rfl (fo rfl)) ?_; refine xhl rfl rfl (fun hq => ev_loadK rfl rfl (sc rfl) (memF (.tail _ (.tail _ (.head _)))) rfl) ?_; refine xhl rfl rfl (fun hq => ev_callQ rfl rfl rfl (pf rfl) (m4 _ (memF (.tail _ (.head _))) ..)) ?_; refine xhp rfl rfl rfl ?_; (iterate 2 refine xqp rfl rfl ?_); refine xhp rfl rfl rfl ?_; refine xhl rfl rfl (fun hq => ev_fieldAddr rfl rfl (fo rfl)) ?_; refine xhl rfl rfl (fun hq => ev_loadK rfl rfl (sc rfl) (memF (.tail _ (.tail _ (.head _)))) rfl) ?_; refine xhl rfl rfl (fun hq => ev_fieldAddr rfl rfl (fo rfl)) ?_; refine xhl rfl rfl (fun hq => ev_loadK rfl rfl (sc rfl) (memF (.tail _ (.tail _ (.head _)))) rfl) ?_; refine xhl rfl rfl (fun hq => ev_callQ rfl rfl rfl (pf rfl) (m5 _ (memF (.head _)) ..)) ?_; (iterate 2 refine xhp rfl rfl rfl ?_); refine xqp rfl rfl ?_; refine runQ_nil ?_; refine then_normal ?_)
        refine run_condF rfl (by rw [hA'.open_, hA'.pos]; simp) ?_
        (refine run_skip ?_; refine in_normal ?_; refine then_normal ?_; refine run_region ?_; refine xep rfl rfl ?_; refine xel rfl (ev_add rfl rfl rfl (by omega)) ?_; refine xep rfl rfl ?_; refine runL_nil ?_; refine then_normal ?_)
        exact ⟨(k + 1, A', W'), ⟨by show k + 1 ≤ len; omega, by show k + 1 ≤ 60; omega, hA'⟩, by show 60 - (k + 1) < 60 - k; omega, rfl, [blk c (ints [kd, n, i, sd, q]) 58], fun x => by (simp only [cnt_append, cnt_cons, cnt_nil, blk]; omega)⟩
  · (refine run_exit ?_; (iterate 2 refine then_exit ?_); refine in_exit ?_; refine then_normal ?_)
    (refine run_seq ?_; refine run_region ?_; refine xel rfl (ev_callQ rfl rfl rfl (pf rfl) (q4 ..)) ?_; refine xep rfl rfl ?_; refine runL_nil ?_; refine then_normal ?_; refine run_ret ?_)
    exact ⟨_, rfl, rfl⟩
end Go.Proofs.Ytnpcmcijlgklfaa
