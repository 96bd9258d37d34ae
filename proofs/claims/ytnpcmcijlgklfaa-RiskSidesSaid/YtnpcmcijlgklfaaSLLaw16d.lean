/- Contracts of functions of the given program over its translation, each proved by walking its text; used by the laws' rows. It proves no given statement by itself. -/
import Derived.Test.YtnpcmcijlgklfaaSLLaw16
set_option autoImplicit false
set_option linter.unusedSectionVars false
set_option linter.unusedSimpArgs false
set_option linter.unusedVariables false
namespace Go.Proofs.Ytnpcmcijlgklfaa
open Go Go.SL Go.Proofs
def adj (m : Lim) (i : Nat) : Lim := match i with
  | 1 => { m with qty := m.qty - 1 } | 2 => { m with value := m.value - 1 } | 3 => { m with open_ := m.open_ - 1 } | 4 => { m with pos := m.pos - 1 } | _ => m
variable [Base]
/-- Trader 1 has so much open at instrument 1, and such a position at instrument 0. -/
def Op1 (h : Int) : List Int := A0.set (slot 1 1) h
def Op2 (h p : Int) : List Int := (Op1 h).set (pslot 1 0) p
theorem Op1_ok {h : Int} (hh : 0 ≤ h ∧ h ≤ 1048576) : AOk (Op1 h) := by
  refine ⟨by unfold Op1; rw [List.length_set]; exact A0_ok.1, fun k x hx => ?_⟩
  unfold Op1 at hx
  rcases List.mem_or_eq_of_mem_set (List.mem_of_getElem? hx) with h | h
  · have := List.eq_of_mem_replicate h; omega
  · omega
theorem Op2_ok {h p : Int} (hh : 0 ≤ h ∧ h ≤ 1048576) (hp : 0 ≤ p ∧ p ≤ 1048576) : AOk (Op2 h p) := by
  refine ⟨by unfold Op2; rw [List.length_set]; exact (Op1_ok hh).1, fun k x hx => ?_⟩
  unfold Op2 at hx
  rcases List.mem_or_eq_of_mem_set (List.mem_of_getElem? hx) with h | h
  · obtain ⟨k, hk⟩ := List.mem_iff_getElem?.1 h
    exact (Op1_ok hh).2 k x hk
  · omega
theorem Op1_opens {h q : Int} (hh : 0 ≤ h ∧ h ≤ 100) (hq : -100 ≤ q ∧ q ≤ 100) (hs : 0 ≤ h + q) : opens (Op1 h) 1 1 q = (true, Op1 (h + q)) := by
  unfold opens mv
  have : at_ (Op1 h) (slot 1 1) = h := by unfold Op1; rw [at_set_self _ (by rw [A0_ok.1]; decide)]
  rw [if_pos ⟨there_iff.2 (by omega), by omega, by omega⟩, this, if_pos (by omega)]
  unfold Op1; rw [List.set_set]
theorem Op1_zero : Op1 0 = A0 := by
  unfold Op1 A0; rw [List.set_replicate_self]
theorem Op2_trades {h p : Int} (hh : 0 ≤ h ∧ h ≤ 100) (hp : 1 ≤ p ∧ p ≤ 100) : trades (Op1 h) 1 0 1 p = (true, Op2 h p) := by
  unfold trades mv
  have : at_ (Op1 h) (pslot 1 0) = 0 := by unfold Op1; rw [at_set_ne _ _ (by decide), at_A0]
  rw [if_pos ⟨there_iff.2 (by omega), by omega, by omega, .inl rfl⟩]
  simp only [show ¬ ((1 : Int) = 2) by decide, if_false]
  rw [this, if_pos (by omega)]
  unfold Op2; rw [Int.zero_add]
theorem Op2_facts (h p : Int) : sumN (Op2 h p) 1 8 = h ∧ pa (Op2 h p) 1 0 = p ∧ oa (Op2 h p) 1 0 = 0 := by
  have e : ∀ k, at_ (Op2 h p) k = if pslot 1 0 = k then p else if slot 1 1 = k then h else 0 := by
    intro k
    unfold Op2 Op1
    rw [at_set _ _ (by rw [List.length_set, A0_ok.1]; decide), at_set _ _ (by rw [A0_ok.1]; decide), at_A0]
  refine ⟨?_, ?_, ?_⟩
  · simp only [sumN, oa, e]; simp [there, slot, pslot]
  · unfold pa; rw [e]; simp [there]
  · unfold oa; rw [e]; simp [there, slot, pslot]
set_option maxHeartbeats 4000000 in
theorem riskEnds_sp (F : Heap) (q p open_ pos : Int) (h1 : InI q) (h2 : InI p) (h3 : InI open_) (h4 : InI pos) :
    Sp Try.prog F 22 [.int .i64 q, .int .i64 p, .int .i64 open_, .int .i64 pos] [] (Ret (.bool true)) := by
  have c0 := fun F => sp_new F
  have q1 := @sp_bo
  have q2 := fun F => sp_Win F q 1 100 (by omega) (by omega) (by omega)
  have q3 := fun F => sp_Win F p 1 100 (by omega) (by omega) (by omega)
  have q4 := fun F => sp_Win F open_ 0 50 (by omega) (by omega) (by omega)
  have q5 := fun F => sp_Win F pos 1 50 (by omega) (by omega) (by omega)
  have q6 := @riskRuns_sp
  have w1 := win_in q (show (1 : Int) ≤ 100 by omega)
  have w2 := win_in p (show (1 : Int) ≤ 100 by omega)
  have w3 := win_in open_ (show (0 : Int) ≤ 50 by omega)
  have w4 := win_in pos (show (1 : Int) ≤ 50 by omega)
  generalize win q 1 100 = n at *
  generalize win p 1 100 = price at *
  generalize win open_ 0 50 = had at *
  generalize win pos 1 50 = at1 at *
  have hmul : 0 ≤ n * price := Int.mul_nonneg (by omega) (by omega)
  have hmul2 : n * price ≤ 100 * 100 := Int.mul_le_mul w1.2 w2.2 (by omega) (by omega)
  have hbr := bo_right (p := price) (q := n) (by omega) (by omega)
  have hbi := bo_in (p := price) (q := n) (by unfold InI; omega) (by unfold InI; omega)
  obtain ⟨f1, f2, f3⟩ := Op2_facts had at1
  have k2 := Op2_ok (h := had) (p := at1) (by omega) (by omega)
  have hin : ∀ i, (adj ⟨n, n * price, had + n, at1 + n⟩ i).In := by
    intro i
    unfold adj
    split <;> constructor <;> (unfold InI; dsimp only; omega)
  have hck : ∀ i : Nat, i < 5 → chk (Op2 had at1) (adj ⟨n, n * price, had + n, at1 + n⟩ i) (bo price n) 0 = if i = 0 then 0 else 8 := by
    intro i hi
    have hc : price * n = n * price := Int.mul_comm _ _
    refine (chk_ok8 (p := i = 0) hbr (by omega) ?_).trans rfl
    rw [chk_iff hbr (by omega)]
    show n ≤ _ ∧ price * n ≤ _ ∧ sumN (Op2 had at1) 1 8 + n ≤ _ ∧ ((1 : Int) = 1 → pa (Op2 had at1) 1 0 + (oa (Op2 had at1) 1 0 + n) ≤ _) ∧ ((1 : Int) = 2 → _) ↔ _
    rw [f1, f2, f3, hc]
    rcases (by omega : i = 0 ∨ i = 1 ∨ i = 2 ∨ i = 3 ∨ i = 4) with rfl | rfl | rfl | rfl | rfl <;> first | (simp [adj]; omega) | (simp [adj]; done)
  have x1 := fun b i F hm => sp_check _ k2 b 76 F hm _ (hin i) _ hbi 0
  have c1 := fun b F => sp_opens F (Op1 0) (Op1_ok (by omega)) b 76 1 1 (had + 1)
  have c2 := fun b F => sp_opens F (Op1 (0 + (had + 1))) (Op1_ok (by omega)) b 76 1 1 (-1)
  have c3 := fun b F => sp_trades F (Op1 (0 + (had + 1) + -1)) (Op1_ok (by omega)) b 76 1 0 1 at1
  simp only [Op1_opens (h := 0) (q := had + 1) (by omega) (by omega) (by omega)] at c1
  simp only [Op1_opens (h := 0 + (had + 1)) (q := -1) (by omega) (by omega) (by omega)] at c2
  simp only [Op2_trades (h := 0 + (had + 1) + -1) (p := at1) (by omega) (by omega)] at c3
  rw [show 0 + (had + 1) + -1 = had by omega] at c2 c3
  rw [Op1_zero] at c1
  clear f1 f2 f3 k2
  generalize Op2 had at1 = B3 at *
  generalize Op1 had = B2 at *
  generalize Op1 (0 + (had + 1)) = B1 at *
  generalize A0 = B0 at *
  refine sp_of_code Try.func22 rfl rfl ?_
  (refine run_seq ?_; refine run_region ?_; refine xep rfl rfl ?_; refine runL_nil ?_; refine then_normal ?_; refine run_seq ?_; refine run_region ?_)
  refine runL_call0 rfl rfl rfl rfl rfl rfl rfl (pf rfl) (c0 _) ?_
  rintro v h1 ⟨b, rfl, rfl⟩
  have hgd : true = true := rfl
  have hge : false = false := rfl
  (refine xep rfl rfl ?_; refine runL_nil ?_; refine then_normal ?_; (iterate 2 refine run_seq ?_); refine run_region ?_; refine xep rfl rfl ?_; refine xel rfl (ev_eqNil rfl rfl rfl (pt rfl)) ?_; refine runL_nil ?_; refine then_normal ?_; refine RunC.whole rfl ?_)
  refine run_condF rfl rfl ?_
  (refine run_skip ?_; refine then_normal ?_; refine run_seq ?_; refine run_region ?_; refine xep rfl rfl ?_; refine xel rfl (ev_callQ rfl rfl rfl (pf rfl) (q2 ..)) ?_; refine xep rfl rfl ?_; refine xel rfl (ev_callQ rfl rfl rfl (pf rfl) (q3 ..)) ?_; (iterate 2 refine xep rfl rfl ?_); refine runL_nil ?_; refine then_normal ?_; refine run_seq ?_; refine run_region ?_; refine xep rfl rfl ?_; refine xel rfl (ev_callQ rfl rfl rfl (pf rfl) (q4 ..)) ?_; refine xep rfl rfl ?_; refine xel rfl (ev_callQ rfl rfl rfl (pf rfl) (q5 ..)) ?_; (iterate 2 refine xep rfl rfl ?_); refine runL_nil ?_; refine then_normal ?_; (iterate 2 refine run_seq ?_); refine run_region ?_; (iterate 2 refine xep rfl rfl ?_); refine xel rfl (ev_add rfl rfl rfl (by omega)) ?_)
  refine runL_call1 rfl rfl rfl rfl rfl rfl rfl (pf rfl) (c1 b _) ?_
  rintro v h1 ⟨rfl, rfl⟩
  ((iterate 2 refine xep rfl rfl ?_); refine runL_yes rfl rfl hge ?_; refine xep rfl rfl ?_; refine runL_yes rfl rfl hge ?_)
  refine runL_call1 rfl rfl rfl rfl rfl rfl rfl (pf rfl) (c2 b _) ?_
  rintro v h1 ⟨rfl, rfl⟩
  (refine runL_yes rfl rfl hge ?_; (iterate 3 refine xep rfl rfl ?_); refine runL_yes rfl rfl hge ?_; refine xep rfl rfl ?_; refine runL_yes rfl rfl hge ?_; refine xep rfl rfl ?_; refine runL_yes rfl rfl hge ?_)
  refine runL_call1 rfl rfl rfl rfl rfl rfl rfl (pf rfl) (c3 b _) ?_
  rintro v h1 ⟨rfl, rfl⟩
  (refine runL_yes rfl rfl hge ?_; (iterate 2 refine xep rfl rfl ?_); refine runL_nil ?_; refine then_normal ?_; refine RunC.whole rfl ?_)
  refine run_condF rfl rfl ?_
  clear hgd hge
  (refine run_skip ?_; refine then_normal ?_; refine run_seq ?_; refine run_region ?_; (iterate 3 refine xep rfl rfl ?_); refine xel rfl (ev_mul rfl rfl rfl (by (first | assumption | omega))) ?_; (iterate 2 refine xep rfl rfl ?_); refine xel rfl (ev_add rfl rfl rfl (by omega)) ?_; (iterate 2 refine xep rfl rfl ?_); refine xel rfl (ev_add rfl rfl rfl (by omega)) ?_; refine xel rfl (ev_build rfl pl49 rfl) ?_; refine runL_alloc rfl rfl rfl rfl rfl ze49 (fun _ => ?_); refine runL_store0 rfl rfl rfl rfl rfl (sz rfl) rfl rfl rfl rfl rfl ?_; refine runL_nil ?_; refine then_normal ?_; refine run_seq ?_; refine run_region ?_; (iterate 2 refine xep rfl rfl ?_); refine xel rfl (ev_callQ rfl rfl rfl (pf rfl) (q1 ..)) ?_; refine runL_alloc rfl rfl rfl rfl rfl ze36 (fun _ => ?_); refine runL_store0 rfl rfl rfl rfl rfl (sz rfl) rfl rfl rfl rfl rfl ?_; refine runL_nil ?_; refine then_normal ?_; (iterate 2 refine run_seq ?_); refine run_region ?_; refine xep rfl rfl ?_; refine runL_nil ?_; refine then_normal ?_; refine run_block ?_)
  rename_i b14 b15
  generalize hl : Lim.mk n (n * price) (had + n) (at1 + n) = l at *
  have hl1 : 0 ≤ l.qty ∧ l.qty ≤ 10000 ∧ 0 ≤ l.value ∧ l.value ≤ 10000 ∧ 0 ≤ l.open_ ∧ l.open_ ≤ 10000 ∧ 0 ≤ l.pos ∧ l.pos ≤ 10000 := by rw [← hl]; dsimp only; omega
  refine run_loopK (σ := Nat) [9, 14, 15, 16] (fun i => [(9, .pointer (some ⟨b, 0, none⟩)), (14, .pointer (some ⟨b14, 0, none⟩)), (15, .pointer (some ⟨b15, 0, none⟩)), (16, .int .i64 i)]) (fun _ => [blk b15 (bo price n).cells 36, blk b14 l.cells 49, blk b (ac B3) 76]) (fun i => i ≤ 5) (fun i => 5 - i) 0 (Nat.zero_le _) rfl (fun _ => by rw [← hl]; rfl) ?_
  intro i gi
  ((iterate 2 refine run_seq ?_); refine run_region ?_; (iterate 2 refine xep rfl rfl ?_); refine runL_nil ?_; refine then_normal ?_)
  (refine run_cond rfl (fun hc => ?_) (fun hc => ?_) <;> (try simp only [z0, z1, z2, z3, z4, z5, z6, z7, z8, z9, Bool.not_true, Bool.not_false, Bool.false_or, Bool.true_and, true_and, and_true, false_or, or_false, reduceCtorEq, Bool.false_eq_true] at hc))
  · (refine run_skip ?_; refine then_normal ?_; refine run_seq ?_; refine run_block ?_; refine run_seq ?_; refine run_region ?_; refine xel rfl (ev_loadAK rfl rfl (ag rfl) (sz rfl) (memF (.tail _ (.head _))) rfl) ?_; refine runL_alloc rfl rfl rfl rfl rfl ze49 (fun _ => ?_); refine runL_store0 rfl rfl rfl rfl rfl (sz rfl) rfl rfl rfl rfl rfl ?_; refine runL_nil ?_; refine then_normal ?_; (iterate 2 refine run_seq ?_); refine run_region ?_; refine xep rfl rfl ?_; refine runL_nil ?_; refine then_normal ?_; refine run_block ?_; refine run_seq ?_; refine run_region ?_; (iterate 2 refine xep rfl rfl ?_); refine runL_nil ?_; refine then_normal ?_)
    rename_i b17
    refine RunC.mono (Q := MidK (σ := Unit) [9, 14, 15, 16, 17] (fun _ => [(9, .pointer (some ⟨b, 0, none⟩)), (14, .pointer (some ⟨b14, 0, none⟩)), (15, .pointer (some ⟨b15, 0, none⟩)), (16, .int .i64 i), (17, .pointer (some ⟨b17, 0, none⟩))])
      (fun _ => [blk b17 (adj l i).cells 49, blk b15 (bo price n).cells 36, blk b14 l.cells 49, blk b (ac B3) 76]) (fun _ => True)) ?_ ?_
    · (refine run_cond rfl (fun hc => ?_) (fun hc => ?_) <;> (try simp only [z0, z1, z2, z3, z4, z5, z6, z7, z8, z9, Bool.not_true, Bool.not_false, Bool.false_or, Bool.true_and, true_and, and_true, false_or, or_false, reduceCtorEq, Bool.false_eq_true] at hc))
      · have : i = 1 := by omega
        subst this
        (refine run_region ?_; refine xel rfl (ev_fieldAddr rfl rfl (fo rfl)) ?_; refine xel rfl (ev_loadK rfl rfl (sc rfl) (memF (.head _)) rfl) ?_; refine xel rfl (ev_sub rfl rfl rfl (by omega)) ?_; refine xel rfl (ev_fieldAddr rfl rfl (fo rfl)) ?_; refine runL_store0 rfl rfl rfl rfl rfl (sz rfl) rfl rfl rfl rfl rfl ?_; refine runL_nil ?_)
        exact ⟨rfl, (), trivial, rfl, fun _ => rfl⟩
      · (refine run_seq ?_; refine run_region ?_; (iterate 2 refine xep rfl rfl ?_); refine runL_nil ?_; refine then_normal ?_)
        (refine run_cond rfl (fun hc => ?_) (fun hc => ?_) <;> (try simp only [z0, z1, z2, z3, z4, z5, z6, z7, z8, z9, Bool.not_true, Bool.not_false, Bool.false_or, Bool.true_and, true_and, and_true, false_or, or_false, reduceCtorEq, Bool.false_eq_true] at hc))
        · have : i = 2 := by omega
          subst this
          (refine run_region ?_; refine xel rfl (ev_fieldAddr rfl rfl (fo rfl)) ?_; refine xel rfl (ev_loadK rfl rfl (sc rfl) (memF (.head _)) rfl) ?_; refine xel rfl (ev_sub rfl rfl rfl (by omega)) ?_; refine xel rfl (ev_fieldAddr rfl rfl (fo rfl)) ?_; refine runL_store0 rfl rfl rfl rfl rfl (sz rfl) rfl rfl rfl rfl rfl ?_; refine runL_nil ?_)
          exact ⟨rfl, (), trivial, rfl, fun _ => rfl⟩
        · (refine run_seq ?_; refine run_region ?_; (iterate 2 refine xep rfl rfl ?_); refine runL_nil ?_; refine then_normal ?_)
          (refine run_cond rfl (fun hc => ?_) (fun hc => ?_) <;> (try simp only [z0, z1, z2, z3, z4, z5, z6, z7, z8, z9, Bool.not_true, Bool.not_false, Bool.false_or, Bool.true_and, true_and, and_true, false_or, or_false, reduceCtorEq, Bool.false_eq_true] at hc))
          · have : i = 3 := by omega
            subst this
            (refine run_region ?_; refine xel rfl (ev_fieldAddr rfl rfl (fo rfl)) ?_; refine xel rfl (ev_loadK rfl rfl (sc rfl) (memF (.head _)) rfl) ?_; refine xel rfl (ev_sub rfl rfl rfl (by omega)) ?_; refine xel rfl (ev_fieldAddr rfl rfl (fo rfl)) ?_; refine runL_store0 rfl rfl rfl rfl rfl (sz rfl) rfl rfl rfl rfl rfl ?_; refine runL_nil ?_)
            exact ⟨rfl, (), trivial, rfl, fun _ => rfl⟩
          · (refine run_seq ?_; refine run_region ?_; (iterate 2 refine xep rfl rfl ?_); refine runL_nil ?_; refine then_normal ?_)
            (refine run_cond rfl (fun hc => ?_) (fun hc => ?_) <;> (try simp only [z0, z1, z2, z3, z4, z5, z6, z7, z8, z9, Bool.not_true, Bool.not_false, Bool.false_or, Bool.true_and, true_and, and_true, false_or, or_false, reduceCtorEq, Bool.false_eq_true] at hc))
            · have : i = 4 := by omega
              subst this
              (refine run_region ?_; refine xel rfl (ev_fieldAddr rfl rfl (fo rfl)) ?_; refine xel rfl (ev_loadK rfl rfl (sc rfl) (memF (.head _)) rfl) ?_; refine xel rfl (ev_sub rfl rfl rfl (by omega)) ?_; refine xel rfl (ev_fieldAddr rfl rfl (fo rfl)) ?_; refine runL_store0 rfl rfl rfl rfl rfl (sz rfl) rfl rfl rfl rfl rfl ?_; refine runL_nil ?_)
              exact ⟨rfl, (), trivial, rfl, fun _ => rfl⟩
            · have : i = 0 := by omega
              subst this
              (refine run_skip ?_)
              exact ⟨rfl, (), trivial, rfl, fun _ => rfl⟩
    · rintro e fr' h' ⟨rfl, ⟨⟩, -, hk, hh⟩
      (refine in_normal ?_; refine then_normal ?_)
      refine RunC.keepB _ hk (RunC.perm hh ?_)
      have m1 := x1 b i
      rw [hck i (by omega)] at m1
      generalize adj l i = l' at *
      (refine run_seq ?_; refine run_region ?_; refine xep rfl rfl ?_; refine xel rfl (ev_loadAK rfl rfl (ag rfl) (sz rfl) (memF (.head _)) rfl) ?_; refine xel rfl (ev_loadAK rfl rfl (ag rfl) (sz rfl) (memF (.tail _ (.head _))) rfl) ?_; refine xel rfl (ev_callQ rfl rfl rfl (pf rfl) (m1 _ (memF (.tail _ (.tail _ (.tail _ (.head _))))) ..)) ?_; (iterate 3 refine xep rfl rfl ?_); refine xel rfl (ev_neqB rfl rfl rfl (bt rfl)) ?_; refine runL_nil ?_; refine then_normal ?_)
      refine run_condF rfl (by by_cases h0 : i = 0 <;> simp [h0]) ?_
      (refine run_skip ?_; refine in_normal ?_; refine then_normal ?_; refine run_region ?_; refine xep rfl rfl ?_; refine xel rfl (ev_add rfl rfl rfl (by omega)) ?_; refine xep rfl rfl ?_; refine runL_nil ?_; refine then_normal ?_)
      exact ⟨i + 1, by omega, by omega, rfl, [blk b17 l'.cells 49], fun x => by (first | rfl | (simp only [cnt_append, cnt_cons, cnt_nil, blk]; omega))⟩
  · (refine run_exit ?_; (iterate 2 refine then_exit ?_); refine in_exit ?_; refine then_normal ?_)
    (refine run_seq ?_; refine run_region ?_; refine xel rfl (ev_callQ rfl rfl rfl (pf rfl) (q6 ..)) ?_; refine xep rfl rfl ?_; refine runL_nil ?_; refine then_normal ?_; refine run_ret ?_)
    exact ⟨_, rfl, rfl⟩
end Go.Proofs.Ytnpcmcijlgklfaa
