/- Contracts of functions of the given program over its translation, each proved by walking its text; used by the laws' rows. It proves no given statement by itself. -/
import Derived.Test.YtnpcmcijlgklfaaSLLaw15b
import Derived.Test.YtnpcmcijlgklfaaSLMore
set_option autoImplicit false
set_option linter.unusedSectionVars false
set_option linter.unusedSimpArgs false
set_option linter.unusedVariables false
namespace Go.Proofs.Ytnpcmcijlgklfaa
open Go Go.SL Go.Proofs
/-- The accounts: of trader 5 these are open, and nothing else. -/
def Opn (O : List Int) : List Int := List.replicate 40 0 ++ O ++ List.replicate 464 0
def sumL (O : List Int) : Nat → Int
  | 0 => 0
  | k + 1 => sumL O k + at_ O k
/-- A number brought into bounds. -/
def win (n lo hi : Int) : Int := lo + n.emod (hi - lo + 1)
theorem win_in (n : Int) {lo hi : Int} (h : lo ≤ hi) : lo ≤ win n lo hi ∧ win n lo hi ≤ hi := by
  have hb := Int.emod_nonneg n (show hi - lo + 1 ≠ 0 by omega)
  have hb2 := Int.emod_lt_of_pos n (show 0 < hi - lo + 1 by omega)
  change 0 ≤ n.emod (hi - lo + 1) at hb
  change n.emod (hi - lo + 1) < _ at hb2
  unfold win; omega
theorem at_get {A : List Int} {k : Nat} (h : k < A.length) : A[k]? = some (at_ A k) := by
  unfold at_; rw [List.getD_eq_getElem?_getD, List.getElem?_eq_getElem h]; rfl
theorem Opn_at (O : List Int) (h : O.length = 8) {k : Nat} (hk : k < 8) : at_ (Opn O) (40 + k) = at_ O k := by
  unfold at_ Opn
  rw [List.getD_eq_getElem?_getD, List.getD_eq_getElem?_getD, List.append_assoc, List.getElem?_append_right (by simp), List.length_replicate, Nat.add_sub_cancel_left, List.getElem?_append_left (by omega)]
theorem Opn_else (O : List Int) (h : O.length = 8) {k : Nat} (hk : k < 40 ∨ 48 ≤ k) : at_ (Opn O) k = 0 := by
  unfold at_ Opn
  rw [List.getD_eq_getElem?_getD]
  rcases hk with hk | hk
  · rw [List.append_assoc, List.getElem?_append_left (by simp; omega), List.getElem?_replicate, if_pos hk]; rfl
  · rw [List.getElem?_append_right (by simp; omega), List.getElem?_replicate]
    split <;> rfl
variable [Base]
theorem sp_Win (F : Heap) (n lo hi : Int) (h1 : lo ≤ hi) (h2 : 0 ≤ lo) (h3 : hi ≤ 1099511627776) :
   Sp Try.prog F 31 [.int .i64 n, .int .i64 lo, .int .i64 hi] [] (Ret (.int .i64 (win n lo hi))) := sp_within F n lo hi h1 h2 h3
theorem Opn_set (O : List Int) (h : O.length = 8) {k : Nat} (hk : k < 8) (v : Int) : (Opn O).set (40 + k) v = Opn (O.set k v) := by
  unfold Opn
  rw [List.append_assoc, List.set_append_right _ _ (by simp), List.length_replicate, Nat.add_sub_cancel_left, List.set_append_left _ _ (by omega), ← List.append_assoc]
theorem Opn_ok (O : List Int) (h : O.length = 8) (hO : ∀ x ∈ O, 0 ≤ x ∧ x ≤ 6000) : AOk (Opn O) := by
  refine ⟨by unfold Opn; rw [List.length_append, List.length_append, List.length_replicate, List.length_replicate, h], fun k x hx => ?_⟩
  have : x ∈ Opn O := List.mem_of_getElem? hx
  unfold Opn at this
  simp only [List.mem_append, List.mem_replicate] at this
  rcases this with (h1 | h1) | h1
  · omega
  · have := hO x h1; omega
  · omega
theorem Opn_zero : Opn (List.replicate 8 0) = A0 := by
  unfold Opn A0
  rw [List.replicate_append_replicate, List.replicate_append_replicate]
theorem Opn_oa (O : List Int) (h : O.length = 8) {i : Int} (hi : 0 ≤ i ∧ i < 8) : oa (Opn O) 5 i = at_ O i.toNat := by
  unfold oa
  rw [if_pos (there_iff.2 (by omega)), show slot 5 i = 40 + i.toNat by unfold slot; omega, Opn_at O h (by omega)]
theorem Opn_oa6 (O : List Int) (h : O.length = 8) {n i : Int} (hn : n ≠ 5) : oa (Opn O) n i = 0 := by
  unfold oa
  split
  · rename_i hh; rw [there_iff] at hh
    exact Opn_else O h (by unfold slot; omega)
  · rfl
theorem Opn_pa (O : List Int) (h : O.length = 8) {n i : Int} : pa (Opn O) n i = 0 := by
  unfold pa
  split
  · rename_i hh; rw [there_iff] at hh
    exact Opn_else O h (by unfold pslot; omega)
  · rfl
theorem Opn_sum (O : List Int) (h : O.length = 8) : ∀ k ≤ 8, sumN (Opn O) 5 k = sumL O k
  | 0, _ => rfl
  | k + 1, hk => by
    rw [sumN, sumL, Opn_sum O h k (by omega), Opn_oa O h (by omega)]; rfl
theorem Opn_sum6 (O : List Int) (h : O.length = 8) (n : Int) (hn : n ≠ 5) : ∀ k, sumN (Opn O) n k = 0
  | 0 => rfl
  | k + 1 => by rw [sumN, Opn_sum6 O h n hn k, Opn_oa6 O h hn]; rfl
theorem sumL_in (O : List Int) (hO : ∀ x ∈ O, 0 ≤ x ∧ x ≤ 6000) : ∀ k : Nat, 0 ≤ sumL O k ∧ sumL O k ≤ k * 6000
  | 0 => by simp [sumL]
  | k + 1 => by
    have ih := sumL_in O hO k
    have : 0 ≤ at_ O k ∧ at_ O k ≤ 6000 := by
      unfold at_
      rw [List.getD_eq_getElem?_getD]
      cases h : O[k]? with
      | none => exact ⟨Int.le_refl _, by decide⟩
      | some x => exact hO x (List.mem_of_getElem? h)
    rw [sumL]; omega
theorem Opn_opens (O : List Int) (h : O.length = 8) (hO : ∀ x ∈ O, 0 ≤ x ∧ x ≤ 6000) {i q : Int} (hi : 0 ≤ i ∧ i < 8) (hq : -100 ≤ q ∧ q ≤ 100) :
    opens (Opn O) 5 i q = if 0 ≤ at_ O i.toNat + q then (true, Opn (O.set i.toNat (at_ O i.toNat + q))) else (false, Opn O) := by
  have hv : 0 ≤ at_ O i.toNat ∧ at_ O i.toNat ≤ 6000 := by
    unfold at_
    rw [List.getD_eq_getElem?_getD, List.getElem?_eq_getElem (by omega)]
    exact hO _ (List.getElem_mem _)
  unfold opens
  rw [if_pos ⟨there_iff.2 (by omega), by omega, by omega⟩]
  unfold mv
  rw [show slot 5 i = 40 + i.toNat by unfold slot; omega, Opn_at O h (by omega)]
  by_cases hc : 0 ≤ at_ O i.toNat + q
  · rw [if_pos ⟨hc, by omega⟩, if_pos hc, Opn_set O h (by omega)]
  · rw [if_neg (fun h => hc h.1), if_neg hc]
set_option maxHeartbeats 4000000 in
theorem acctOpens_sp (F : Heap) (a : Option Addr) (len cap : Nat) (rows : List (List Int)) (hR : RowsF F a len 5 rows) (hC : len ≤ cap) (hM : cap ≤ 9223372036854775807) :
    Sp Try.prog F 13 [.slice a len cap] [] (Ret (.bool true)) := by
  have q4 := @acctRuns_sp
  have c0 := fun F => sp_new F
  refine sp_of_code Try.func13 rfl rfl ?_
  (refine run_seq ?_; refine run_region ?_; refine xep rfl rfl ?_; refine runL_nil ?_; refine then_normal ?_; refine run_seq ?_; refine run_region ?_)
  refine runL_call0 rfl rfl rfl rfl rfl rfl rfl (pf rfl) (c0 _) ?_
  rintro v h1 ⟨b, rfl, rfl⟩
  (refine xep rfl rfl ?_; refine runL_nil ?_; refine then_normal ?_; (iterate 2 refine run_seq ?_); refine run_region ?_; refine xep rfl rfl ?_; refine xel rfl (ev_eqNil rfl rfl rfl (pt rfl)) ?_; refine runL_nil ?_; refine then_normal ?_; refine RunC.whole rfl ?_)
  refine run_condF rfl rfl ?_
  (refine run_skip ?_; refine then_normal ?_; refine run_seq ?_; refine run_region ?_; refine runL_alloc rfl rfl rfl rfl rfl ze51 (fun _ => ?_); refine runL_nil ?_; refine then_normal ?_; (iterate 2 refine run_seq ?_); refine run_region ?_; refine xep rfl rfl ?_; refine runL_nil ?_; refine then_normal ?_; refine run_block ?_)
  rename_i c
  refine run_loopK (σ := Nat × List Int) [0, 3, 4, 5] (fun s => [(0, .slice a len cap), (3, .pointer (some ⟨b, 0, none⟩)), (4, .pointer (some ⟨c, 0, none⟩)), (5, .int .i64 s.1)]) (fun s => [blk c (ac s.2) 51, blk b (ac (Opn s.2)) 76])
    (fun s => s.1 ≤ len ∧ s.1 ≤ 60 ∧ s.2.length = 8 ∧ ∀ x ∈ s.2, 0 ≤ x ∧ x ≤ s.1 * 100) (fun s => 60 - s.1) (0, List.replicate 8 0)
    ⟨by show 0 ≤ len; omega, by show 0 ≤ 60; omega, rfl, fun x hx => by have := List.eq_of_mem_replicate hx; subst this; omega⟩ rfl (fun _ => by show cnt _ _ = cnt _ [_, blk b (ac (Opn (List.replicate 8 0))) _]; rw [Opn_zero]; rfl) ?_
  rintro ⟨k, O⟩ ⟨g1, g2, hO, hO2⟩
  dsimp only at g1 g2 hO hO2 ⊢
  have hO3 : ∀ x ∈ O, 0 ≤ x ∧ x ≤ 6000 := fun x hx => by have := hO2 x hx; omega
  ((iterate 2 refine run_seq ?_); refine run_region ?_; (iterate 2 refine xep rfl rfl ?_); refine xel rfl (ev_len rfl rfl (se rfl)) ?_; (iterate 2 refine xep rfl rfl ?_); (iterate 2 refine xgp rfl rfl rfl ?_); refine xep rfl rfl ?_; refine runL_nil ?_; refine then_normal ?_)
  (refine run_cond rfl (fun hc => ?_) (fun hc => ?_) <;> (try simp only [z0, z1, z2, z3, z4, z5, z6, z7, z8, z9] at hc))
  · obtain ⟨zb, off, rfl⟩ := hR.pos (by omega)
    obtain ⟨r, hr, hrl, hrI, l1⟩ := RowsF.cell hR (i := k) (by omega)
    match r, hrl with
    | [z0', z1', i0, z3', q0], _ =>
    have q1 := fun F => sp_Win F i0 0 7 (by omega) (by omega) (by omega)
    have q2 := fun F => sp_Win F q0 0 200 (by omega) (by omega) (by omega)
    have w1 := win_in i0 (show (0 : Int) ≤ 7 by omega)
    have w2 := win_in q0 (show (0 : Int) ≤ 200 by omega)
    generalize win i0 0 7 = i at *
    generalize win q0 0 200 = q1' at *
    have l2 := l1.at 2 _ rfl
    have l3 := l1.at 4 _ rfl
    clear l1
    (refine run_skip ?_; refine then_normal ?_; refine run_seq ?_; refine run_block ?_; refine run_seq ?_; refine run_region_draw mo (by kernel_rfl) ?_; (iterate 2 refine xqp rfl rfl ?_); refine xql rfl (ev_indexAddr rfl rfl rfl (se rfl) (by omega) (by omega)) ?_; refine xql rfl (ev_fieldAddr rfl rfl (fo rfl)) ?_; refine xql rfl (ev_loadF rfl rfl (sc rfl) l2) ?_; refine xql rfl (ev_callQ rfl rfl rfl (pf rfl) (q1 ..)) ?_; (iterate 2 refine xqp rfl rfl ?_); refine xql rfl (ev_indexAddr rfl rfl rfl (se rfl) (by omega) (by omega)) ?_; refine xql rfl (ev_fieldAddr rfl rfl (fo rfl)) ?_; refine xql rfl (ev_loadF rfl rfl (sc rfl) l3) ?_; refine xql rfl (ev_callQ rfl rfl rfl (pf rfl) (q2 ..)) ?_; refine xql rfl (ev_sub rfl rfl rfl (by omega)) ?_; (iterate 2 refine xqp rfl rfl ?_); refine runQ_nil ?_; refine then_normal ?_; refine run_seq ?_; refine run_region ?_; refine xep rfl rfl ?_; refine xel rfl (ev_indexAddrA rfl rfl rfl (ar rfl) (by omega) (by omega)) ?_)
    have hi : 0 ≤ i ∧ i < 8 := by omega
    have hq : -100 ≤ q1' - 100 ∧ q1' - 100 ≤ 100 := by omega
    generalize q1' - 100 = q at *
    have hat : O[i.toNat]? = some (at_ O i.toNat) := by
      unfold at_; rw [List.getD_eq_getElem?_getD, List.getElem?_eq_getElem (by omega)]; rfl
    have hat2 := hO2 _ (List.mem_of_getElem? hat)
    have g1 : (ac O)[0 + i.toNat * 1]? = some (.int .i64 (at_ O i.toNat)) := ac_get (by rw [Nat.zero_add, Nat.mul_one]; exact hat)
    have hop := Opn_opens O hO hO3 hi hq
    have c1 := fun F => sp_opens F _ (Opn_ok O hO hO3) b 76 5 i q
    rw [hop] at c1
    clear hop
    generalize hv : at_ O i.toNat = v at *
    (refine xel rfl (ev_load rfl rfl (sc rfl) (memF (.head _)) g1) ?_; refine xep rfl rfl ?_; refine xel rfl (ev_add rfl rfl rfl (by omega)) ?_; (iterate 2 refine xep rfl rfl ?_); refine runL_nil ?_; refine then_normal ?_; (iterate 2 refine run_seq ?_); refine run_region ?_; (iterate 3 refine xep rfl rfl ?_))
    refine runL_call (caps := []) [blk c (ac O) 51] [blk b (ac (Opn O)) 76] rfl rfl rfl rfl rfl rfl rfl (pf rfl) (by intro x; (simp only [cnt_append, cnt_cons, cnt_nil, blk]; omega)) (by rw [List.append_nil]; exact c1 _) ?_
    by_cases hfit : 0 ≤ v + q
    · rw [if_pos hfit]
      rintro v1 h1 ⟨rfl, rfl⟩
      generalize hO' : O.set i.toNat (v + q) = O' at *
      have hO'l : O'.length = 8 := by rw [← hO', List.length_set]; exact hO
      have hO'2 : ∀ x ∈ O', 0 ≤ x ∧ x ≤ ((k + 1 : Nat) : Int) * 100 := by
        intro x hx
        rw [← hO'] at hx
        rcases List.mem_or_eq_of_mem_set hx with hx | rfl
        · have := hO2 x hx; omega
        · omega
      have hO'3 : ∀ x ∈ O', 0 ≤ x ∧ x ≤ 6000 := fun x hx => by have := hO'2 x hx; omega
      have hat' : O'[i.toNat]? = some (v + q) := by rw [← hO', List.getElem?_set_self (by omega)]
      have hd : decide (0 ≤ v + q) = true := decide_eq_true hfit
      (refine xep rfl rfl ?_; refine xel rfl (ev_neqB rfl rfl rfl (bt rfl)) ?_; refine runL_nil ?_; refine then_normal ?_; refine RunC.whole rfl ?_)
      refine run_condF rfl (by rw [hd]; rfl) ?_
      (refine run_skip ?_; refine then_normal ?_; (iterate 2 refine run_seq ?_); refine run_region ?_; refine xep rfl rfl ?_; refine runL_nil ?_; refine then_normal ?_)
      refine run_condT rfl (by rw [hd]) ?_
      (refine run_region ?_; (iterate 2 refine xep rfl rfl ?_); refine xel rfl (ev_indexAddrA rfl rfl rfl (ar rfl) (by omega) (by omega)) ?_; refine xel rfl (ev_load rfl rfl (sc rfl) (memF (.tail _ (.head _))) g1) ?_; refine xep rfl rfl ?_; refine xel rfl (ev_add rfl rfl rfl (by omega)) ?_; refine xel rfl (ev_indexAddrA rfl rfl rfl (ar rfl) (by omega) (by omega)) ?_)
      refine runL_set [blk b (ac (Opn O')) 76] [] rfl rfl rfl rfl rfl (sz rfl) rfl (by rw [ac_len]; omega) rfl ?_
      rw [ac_set, Nat.zero_add, Nat.mul_one, hO']
      clear g1 hat c1
      have hOo := Opn_ok O' hO'l hO'3
      (refine runL_nil ?_; refine then_normal ?_; refine run_seq ?_; refine run_region ?_; refine xep rfl rfl ?_; refine runL_nil ?_; refine then_normal ?_; (iterate 2 refine run_seq ?_); refine run_region ?_)
      refine runL_ev rfl rfl rfl rfl (ev_loadA (l := ac O') rfl rfl (ag rfl) (sz rfl) (memF (.tail _ (.head _))) (by rw [ac_len]; omega) (by rw [List.drop_zero, ← hO'l, ← ac_len, List.take_length])) ?_
      (refine xep rfl rfl ?_; refine runL_nil ?_; refine then_normal ?_; refine run_block ?_; refine RunC.whole rfl ?_)
      refine run_loopK (σ := Nat) [0, 3, 4, 5, 6, 58, 59, 9] (fun j => [(0, .slice (some ⟨zb, off, none⟩) len cap), (3, .pointer (some ⟨b, 0, none⟩)), (4, .pointer (some ⟨c, 0, none⟩)), (5, .int .i64 k), (6, .int .i64 i), (58, .agg ⟨ac O'⟩), (59, .int .i64 j), (9, .int .i64 (sumL O' j))]) (fun _ => [blk c (ac O') 51, blk b (ac (Opn O')) 76])
        (fun j => j ≤ 8) (fun j => 8 - j) 0 (Nat.zero_le _) rfl (fun x => by (simp only [cnt_append, cnt_cons, cnt_nil, blk]; omega)) ?_
      intro j gj
      have hsum := sumL_in O' hO'3 j
      (refine run_seq ?_; refine run_region ?_; refine xep rfl rfl ?_; refine runL_nil ?_; refine then_normal ?_; refine run_seq ?_)
      (refine run_cond rfl (fun hc => ?_) (fun hc => ?_) <;> (try simp only [z0, z1, z2, z3, z4, z5, z6, z7, z8, z9] at hc))
      · have hat2 : (ac O')[(j : Int).toNat * 1]? = some (.int .i64 (at_ O' j)) := ac_get (by rw [Nat.mul_one]; exact at_get (by omega))
        have hin2 : 0 ≤ at_ O' j ∧ at_ O' j ≤ 6000 := by
          unfold at_; rw [List.getD_eq_getElem?_getD, List.getElem?_eq_getElem (by omega)]; exact hO'3 _ (List.getElem_mem _)
        (refine run_skip ?_; refine then_normal ?_; refine run_seq ?_; refine run_block ?_; refine run_seq ?_; refine run_region ?_)
        refine runL_ev rfl rfl rfl rfl (ev_indexV rfl rfl rfl (ar rfl) (sc rfl) (by omega) (by omega) hat2) ?_
        (refine xep rfl rfl ?_; refine runL_nil ?_; refine then_normal ?_; refine run_region ?_; (iterate 2 refine xep rfl rfl ?_); refine xel rfl (ev_add rfl rfl rfl (by omega)) ?_; refine xep rfl rfl ?_; refine runL_nil ?_; refine in_normal ?_; refine then_normal ?_; refine run_region ?_; refine xel rfl (ev_add rfl rfl rfl (by omega)) ?_; refine xep rfl rfl ?_; refine runL_nil ?_; refine then_normal ?_)
        refine ⟨j + 1, by omega, by omega, rfl, [], fun _ => by rw [List.append_nil]⟩
      · have : j = 8 := by omega
        subst this
        have m1 := fun F hm => sp_open _ hOo b 76 F hm 5
        have m2 := fun F hm => sp_open _ hOo b 76 F hm 6
        have m3 := fun F hm => sp_openAt _ hOo b 76 F hm 5 i
        have m4 := fun F hm => sp_pos _ hOo b 76 F hm 5 i
        rw [Opn_sum O' hO'l 8 (by omega)] at m1
        rw [Opn_sum6 O' hO'l 6 (by omega) 8] at m2
        rw [Opn_oa O' hO'l hi] at m3
        rw [Opn_pa O' hO'l] at m4
        have g1 : (ac O')[0 + i.toNat * 1]? = some (.int .i64 (at_ O' i.toNat)) := ac_get (by rw [Nat.zero_add, Nat.mul_one]; exact at_get (by omega))
        (refine run_exit ?_; (iterate 2 refine then_exit ?_); refine in_exit ?_; refine then_normal ?_)
        (refine run_seq ?_; refine run_region_draw mo (by kernel_rfl) ?_; refine xqp rfl rfl ?_; refine xql rfl (ev_callQ rfl rfl rfl (pf rfl) (m1 _ (memF (.tail _ (.head _))) ..)) ?_; (iterate 3 refine xqp rfl rfl ?_); (iterate 2 refine xhp rfl rfl rfl ?_); refine xhl rfl rfl (fun hq => ev_callQ rfl rfl rfl (pf rfl) (m3 _ (memF (.tail _ (.head _))) ..)) ?_; refine xhp rfl rfl rfl ?_; refine xhl rfl rfl (fun hq => ev_indexAddrA rfl rfl rfl (ar rfl) (by (try simp only [z0, z1, z2, z3, z4, z5, z6, z7, z8, z9] at hq); omega) (by (try simp only [z0, z1, z2, z3, z4, z5, z6, z7, z8, z9] at hq); omega)) ?_; refine xhl rfl rfl (fun hq => ev_load rfl rfl (sc rfl) (memF (.head _)) g1) ?_; refine xhp rfl rfl rfl ?_; (iterate 2 refine xqp rfl rfl ?_); refine xhp rfl rfl rfl ?_; refine xhl rfl rfl (fun hq => ev_callQ rfl rfl rfl (pf rfl) (m2 _ (memF (.tail _ (.head _))) ..)) ?_; refine xhp rfl rfl rfl ?_; (iterate 2 refine xqp rfl rfl ?_); (iterate 2 refine xhp rfl rfl rfl ?_); refine xhl rfl rfl (fun hq => ev_callQ rfl rfl rfl (pf rfl) (m4 _ (memF (.tail _ (.head _))) ..)) ?_; refine xhp rfl rfl rfl ?_; refine xqp rfl rfl ?_; refine runQ_nil ?_; refine then_normal ?_)
        refine run_condF rfl (by simp) ?_
        (refine run_skip ?_; refine in_normal ?_; refine then_normal ?_; refine run_region ?_; refine xep rfl rfl ?_; refine xel rfl (ev_add rfl rfl rfl (by omega)) ?_; refine xep rfl rfl ?_; refine runL_nil ?_; refine then_normal ?_)
        exact ⟨(k + 1, O'), ⟨by show k + 1 ≤ len; omega, by show k + 1 ≤ 60; omega, hO'l, hO'2⟩, by show 60 - (k + 1) < 60 - k; omega, rfl, [], fun _ => by rw [List.append_nil]⟩
    · rw [if_neg hfit]
      rintro v1 h1 ⟨rfl, rfl⟩
      have hd : decide (0 ≤ v + q) = false := decide_eq_false hfit
      (refine xep rfl rfl ?_; refine xel rfl (ev_neqB rfl rfl rfl (bt rfl)) ?_; refine runL_nil ?_; refine then_normal ?_; refine RunC.whole rfl ?_)
      refine run_condF rfl (by rw [hd]; rfl) ?_
      (refine run_skip ?_; refine then_normal ?_; (iterate 2 refine run_seq ?_); refine run_region ?_; refine xep rfl rfl ?_; refine runL_nil ?_; refine then_normal ?_)
      refine run_condF rfl (by rw [hd]) ?_
      have hO'l : O.length = 8 := hO
      have hO'3 := hO3
      have hO'2 : ∀ x ∈ O, 0 ≤ x ∧ x ≤ ((k + 1 : Nat) : Int) * 100 := by
        intro x hx; have := hO2 x hx; omega
      clear hO hO3 hO2
      clear g1 hat
      have hat' : at_ O i.toNat = v := hv
      clear hv
      generalize O = O' at *
      have hOo := Opn_ok O' hO'l hO'3
      (refine run_skip ?_; refine then_normal ?_; refine run_seq ?_; refine run_region ?_; refine xep rfl rfl ?_; refine runL_nil ?_; refine then_normal ?_; (iterate 2 refine run_seq ?_); refine run_region ?_)
      refine runL_ev rfl rfl rfl rfl (ev_loadA (l := ac O') rfl rfl (ag rfl) (sz rfl) (memF (.tail _ (.head _))) (by rw [ac_len]; omega) (by rw [List.drop_zero, ← hO'l, ← ac_len, List.take_length])) ?_
      (refine xep rfl rfl ?_; refine runL_nil ?_; refine then_normal ?_; refine run_block ?_)
      refine run_loopK (σ := Nat) [0, 3, 4, 5, 6, 58, 59, 9] (fun j => [(0, .slice (some ⟨zb, off, none⟩) len cap), (3, .pointer (some ⟨b, 0, none⟩)), (4, .pointer (some ⟨c, 0, none⟩)), (5, .int .i64 k), (6, .int .i64 i), (58, .agg ⟨ac O'⟩), (59, .int .i64 j), (9, .int .i64 (sumL O' j))]) (fun _ => [blk c (ac O') 51, blk b (ac (Opn O')) 76])
        (fun j => j ≤ 8) (fun j => 8 - j) 0 (Nat.zero_le _) rfl (fun x => by (simp only [cnt_append, cnt_cons, cnt_nil, blk]; omega)) ?_
      intro j gj
      have hsum := sumL_in O' hO'3 j
      (refine run_seq ?_; refine run_region ?_; refine xep rfl rfl ?_; refine runL_nil ?_; refine then_normal ?_; refine run_seq ?_)
      (refine run_cond rfl (fun hc => ?_) (fun hc => ?_) <;> (try simp only [z0, z1, z2, z3, z4, z5, z6, z7, z8, z9] at hc))
      · have hat2 : (ac O')[(j : Int).toNat * 1]? = some (.int .i64 (at_ O' j)) := ac_get (by rw [Nat.mul_one]; exact at_get (by omega))
        have hin2 : 0 ≤ at_ O' j ∧ at_ O' j ≤ 6000 := by
          unfold at_; rw [List.getD_eq_getElem?_getD, List.getElem?_eq_getElem (by omega)]; exact hO'3 _ (List.getElem_mem _)
        (refine run_skip ?_; refine then_normal ?_; refine run_seq ?_; refine run_block ?_; refine run_seq ?_; refine run_region ?_)
        refine runL_ev rfl rfl rfl rfl (ev_indexV rfl rfl rfl (ar rfl) (sc rfl) (by omega) (by omega) hat2) ?_
        (refine xep rfl rfl ?_; refine runL_nil ?_; refine then_normal ?_; refine run_region ?_; (iterate 2 refine xep rfl rfl ?_); refine xel rfl (ev_add rfl rfl rfl (by omega)) ?_; refine xep rfl rfl ?_; refine runL_nil ?_; refine in_normal ?_; refine then_normal ?_; refine run_region ?_; refine xel rfl (ev_add rfl rfl rfl (by omega)) ?_; refine xep rfl rfl ?_; refine runL_nil ?_; refine then_normal ?_)
        refine ⟨j + 1, by omega, by omega, rfl, [], fun _ => by rw [List.append_nil]⟩
      · have : j = 8 := by omega
        subst this
        have m1 := fun F hm => sp_open _ hOo b 76 F hm 5
        have m2 := fun F hm => sp_open _ hOo b 76 F hm 6
        have m3 := fun F hm => sp_openAt _ hOo b 76 F hm 5 i
        have m4 := fun F hm => sp_pos _ hOo b 76 F hm 5 i
        rw [Opn_sum O' hO'l 8 (by omega)] at m1
        rw [Opn_sum6 O' hO'l 6 (by omega) 8] at m2
        rw [Opn_oa O' hO'l hi] at m3
        rw [Opn_pa O' hO'l] at m4
        have g1 : (ac O')[0 + i.toNat * 1]? = some (.int .i64 (at_ O' i.toNat)) := ac_get (by rw [Nat.zero_add, Nat.mul_one]; exact at_get (by omega))
        (refine run_exit ?_; (iterate 2 refine then_exit ?_); refine in_exit ?_; refine then_normal ?_)
        (refine run_seq ?_; refine run_region_draw mo (by kernel_rfl) ?_; refine xqp rfl rfl ?_; refine xql rfl (ev_callQ rfl rfl rfl (pf rfl) (m1 _ (memF (.tail _ (.head _))) ..)) ?_; (iterate 3 refine xqp rfl rfl ?_); (iterate 2 refine xhp rfl rfl rfl ?_); refine xhl rfl rfl (fun hq => ev_callQ rfl rfl rfl (pf rfl) (m3 _ (memF (.tail _ (.head _))) ..)) ?_; refine xhp rfl rfl rfl ?_; refine xhl rfl rfl (fun hq => ev_indexAddrA rfl rfl rfl (ar rfl) (by (try simp only [z0, z1, z2, z3, z4, z5, z6, z7, z8, z9] at hq); omega) (by (try simp only [z0, z1, z2, z3, z4, z5, z6, z7, z8, z9] at hq); omega)) ?_; refine xhl rfl rfl (fun hq => ev_load rfl rfl (sc rfl) (memF (.head _)) g1) ?_; refine xhp rfl rfl rfl ?_; (iterate 2 refine xqp rfl rfl ?_); refine xhp rfl rfl rfl ?_; refine xhl rfl rfl (fun hq => ev_callQ rfl rfl rfl (pf rfl) (m2 _ (memF (.tail _ (.head _))) ..)) ?_; refine xhp rfl rfl rfl ?_; (iterate 2 refine xqp rfl rfl ?_); (iterate 2 refine xhp rfl rfl rfl ?_); refine xhl rfl rfl (fun hq => ev_callQ rfl rfl rfl (pf rfl) (m4 _ (memF (.tail _ (.head _))) ..)) ?_; refine xhp rfl rfl rfl ?_; refine xqp rfl rfl ?_; refine runQ_nil ?_; refine then_normal ?_)
        refine run_condF rfl (by simp) ?_
        (refine run_skip ?_; refine in_normal ?_; refine then_normal ?_; refine run_region ?_; refine xep rfl rfl ?_; refine xel rfl (ev_add rfl rfl rfl (by omega)) ?_; refine xep rfl rfl ?_; refine runL_nil ?_; refine then_normal ?_)
        exact ⟨(k + 1, O'), ⟨by show k + 1 ≤ len; omega, by show k + 1 ≤ 60; omega, hO'l, hO'2⟩, by show 60 - (k + 1) < 60 - k; omega, rfl, [], fun _ => by rw [List.append_nil]⟩
  · (refine run_exit ?_; (iterate 2 refine then_exit ?_); refine in_exit ?_; refine then_normal ?_)
    (refine run_seq ?_; refine run_region ?_; refine xel rfl (ev_callQ rfl rfl rfl (pf rfl) (q4 ..)) ?_; refine xep rfl rfl ?_; refine runL_nil ?_; refine then_normal ?_; refine run_ret ?_)
    exact ⟨_, rfl, rfl⟩
end Go.Proofs.Ytnpcmcijlgklfaa
