/- Contracts of functions of the given program over its translation, each proved by walking its text; used by the laws' rows. It proves no given statement by itself. -/
import Derived.Test.YtnpcmcijlgklfaaSLBase
import Derived.Test.YtnpcmcijlgklfaaSLDraw
set_option autoImplicit false
set_option linter.unusedSectionVars false
set_option linter.unusedSimpArgs false
set_option linter.unusedVariables false
namespace Go.Proofs.Ytnpcmcijlgklfaa
open Go Go.SL Go.Proofs
variable [Base]

/-- What is told of accounts: 512 numbers: what is open, then the positions, trader by trader. -/
def AOk (A : List Int) : Prop := A.length = 512 ∧ ∀ (k : Nat) (x : Int), A[k]? = some x → -1099511627776 ≤ x ∧ x ≤ 1099511627776
def ac (A : List Int) : List Value := A.map (Value.int .i64)
theorem ac_get {A : List Int} {k : Nat} {x : Int} (h : A[k]? = some x) : (ac A)[k]? = some (.int .i64 x) := by
  unfold ac; rw [List.getElem?_map, h]; rfl
theorem ac_set (A : List Int) (k : Nat) (x : Int) : (ac A).set k (.int .i64 x) = ac (A.set k x) := by
  unfold ac; rw [List.map_set]
theorem ac_len (A : List Int) : (ac A).length = A.length := by unfold ac; simp

def at_ (A : List Int) (k : Nat) : Int := A.getD k 0
theorem AOk.at {A : List Int} (h : AOk A) {k : Nat} (hk : k < 512) : A[k]? = some (at_ A k) ∧ -1099511627776 ≤ at_ A k ∧ at_ A k ≤ 1099511627776 := by
  have : A[k]? = some (at_ A k) := by
    unfold at_; rw [List.getD_eq_getElem?_getD, List.getElem?_eq_getElem (by have := h.1; omega)]; rfl
  exact ⟨this, h.2 _ _ this⟩

def mv (A : List Int) (k : Nat) (by_ lo hi : Int) : Bool × List Int :=
  if lo ≤ at_ A k + by_ ∧ at_ A k + by_ ≤ hi then (true, A.set k (at_ A k + by_)) else (false, A)

theorem sp_move (F : Heap) (A : List Int) (hA : AOk A) (b k : Nat) (hk : k < 512) (e : TypeId) (by_ lo hi : Int) (h1 : -1099511627776 ≤ by_) (h2 : by_ ≤ 1099511627776) :
    Sp Try.prog F 60 [.pointer (some ⟨b, k, none⟩), .int .i64 by_, .int .i64 lo, .int .i64 hi] [blk b (ac A) e] (fun v h' => v = .bool (mv A k by_ lo hi).1 ∧ h' = [blk b (ac (mv A k by_ lo hi).2) e]) := by
  obtain ⟨hg, hb1, hb2⟩ := hA.at hk
  have hg := ac_get hg
  refine sp_of_code Try.func60 rfl rfl ?_
  (refine run_seq ?_; refine run_region ?_; refine xep rfl rfl ?_; refine runL_nil ?_; refine then_normal ?_; refine run_seq ?_; refine run_region ?_; (iterate 2 refine xep rfl rfl ?_))
  refine runL_ev rfl rfl rfl rfl (ev_load rfl rfl (sc rfl) (memF (.head _)) hg) ?_
  (refine xep rfl rfl ?_; refine xel rfl (ev_add rfl rfl rfl (by omega)) ?_; refine xep rfl rfl ?_; refine runL_nil ?_; refine then_normal ?_; (iterate 2 refine run_seq ?_); refine run_region ?_; (iterate 4 refine xep rfl rfl ?_); (iterate 3 refine xgp rfl rfl rfl ?_); refine xep rfl rfl ?_; refine runL_nil ?_; refine then_normal ?_)
  (refine run_cond rfl (fun hc => ?_) (fun hc => ?_) <;> (try simp only [z0, z1, z2, z3, z4, z5, z6, z7, z8, z9] at hc))
  · (refine run_seq ?_; refine run_region ?_; refine xep rfl rfl ?_; refine runL_nil ?_; refine then_normal ?_; refine run_ret ?_; refine then_ret ?_)
    refine ⟨_, rfl, ?_⟩
    unfold mv; rw [if_neg (by omega)]; exact ⟨rfl, rfl⟩
  · (refine run_skip ?_; refine then_normal ?_; refine run_seq ?_; refine run_region ?_; (iterate 3 refine xep rfl rfl ?_))
    refine runL_set0 rfl rfl rfl rfl rfl (sz rfl) rfl (by have := hA.1; rw [ac_len]; omega) ?_
    (refine runL_nil ?_; refine then_normal ?_; refine run_seq ?_; refine run_region ?_; refine xep rfl rfl ?_; refine runL_nil ?_; refine then_normal ?_; refine run_ret ?_)
    refine ⟨_, rfl, ?_⟩
    unfold mv; rw [if_pos (by omega), ac_set]; exact ⟨rfl, rfl⟩

def there (n i : Int) : Bool := decide (0 ≤ n) && decide (n < 32) && decide (0 ≤ i) && decide (i < 8)
def slot (n i : Int) : Nat := n.toNat * 8 + i.toNat
def opens (A : List Int) (n i q : Int) : Bool × List Int :=
  if there n i = true ∧ -1048576 ≤ q ∧ q ≤ 1048576 then mv A (slot n i) q 0 1099511627776 else (false, A)

theorem sp_there (F : Heap) (n i : Int) : Sp Try.prog F 59 [.int .i64 n, .int .i64 i] [] (Ret (.bool (decide (0 ≤ n) && decide (n < 32) && decide (0 ≤ i) && decide (i < 8)))) := by
  refine sp_of_code Try.func59 rfl rfl ?_
  (refine run_seq ?_; refine run_region ?_; refine xep rfl rfl ?_; refine runL_nil ?_; refine then_normal ?_; refine run_seq ?_; refine run_region ?_; (iterate 3 refine xep rfl rfl ?_); (iterate 2 refine xgp rfl rfl rfl ?_); (iterate 2 refine xep rfl rfl ?_); (iterate 2 refine xgp rfl rfl rfl ?_); (iterate 2 refine xep rfl rfl ?_); (iterate 2 refine xgp rfl rfl rfl ?_); (iterate 2 refine xep rfl rfl ?_); refine runL_nil ?_; refine then_normal ?_; refine run_ret ?_)
  exact ⟨_, rfl, rfl⟩

theorem sp_opens (F : Heap) (A : List Int) (hA : AOk A) (b : Nat) (e : TypeId) (n i q : Int) :
    Sp Try.prog F 37 [.pointer (some ⟨b, 0, none⟩), .int .i64 n, .int .i64 i, .int .i64 q] [blk b (ac A) e] (fun v h' => v = .bool (opens A n i q).1 ∧ h' = [blk b (ac (opens A n i q).2) e]) := by
  have q1 := @sp_there
  refine sp_of_code Try.func37 rfl rfl ?_
  rcases Bool.eq_false_or_eq_true (there n i && decide (-1048576 ≤ q) && decide (q ≤ 1048576)) with hgd | hgd
  · have hh := hgd
    unfold there at hh
    simp only [Bool.and_eq_true, decide_eq_true_eq] at hh
    (refine run_seq ?_; refine run_region ?_; refine xep rfl rfl ?_; refine runL_nil ?_; refine then_normal ?_; refine run_seq ?_; refine run_region ?_; (iterate 2 refine xep rfl rfl ?_); refine xel rfl (ev_callQ rfl rfl rfl (pf rfl) (q1 ..)) ?_; refine xep rfl rfl ?_; (iterate 2 refine xgp rfl rfl rfl ?_); (iterate 2 refine xep rfl rfl ?_); (iterate 2 refine xgp rfl rfl rfl ?_); (iterate 2 refine xep rfl rfl ?_); refine runL_yes rfl rfl hgd ?_; refine xep rfl rfl ?_; refine runL_yes rfl rfl hgd ?_; refine xep rfl rfl ?_; refine runL_yes rfl rfl hgd ?_; refine xep rfl rfl ?_; refine runL_yes rfl rfl hgd ?_; refine xep rfl rfl ?_; refine runL_yes rfl rfl hgd ?_; refine xel rfl (ev_fieldAddr rfl rfl (fo rfl)) ?_; refine runL_yes rfl rfl hgd ?_; refine xel rfl (ev_indexAddrA rfl rfl rfl (ar rfl) (by omega) (by omega)) ?_; refine runL_yes rfl rfl hgd ?_; refine xel rfl (ev_indexAddrA rfl rfl rfl (ar rfl) (by omega) (by omega)) ?_; refine runL_yes rfl rfl hgd ?_; refine xep rfl rfl ?_; refine runL_yes rfl rfl hgd ?_)
    refine runL_call1 rfl rfl rfl rfl rfl rfl rfl (pf rfl) (sp_move _ A hA b _ (by omega) e q 0 1099511627776 (by omega) (by omega)) ?_
    rintro v h1 ⟨rfl, rfl⟩
    ((iterate 2 refine xep rfl rfl ?_); refine runL_nil ?_; refine then_normal ?_; refine run_ret ?_)
    refine ⟨_, rfl, ?_⟩
    unfold there at hgd
    have hs : 0 + 0 + n.toNat * 8 + i.toNat * 1 = slot n i := by unfold slot; omega
    have hh2 : there n i = true := by unfold there; simp only [Bool.and_eq_true, decide_eq_true_eq]; exact hh.1.1
    unfold opens; rw [if_pos ⟨hh2, by omega, by omega⟩, hgd, Bool.true_and, hs]
    exact ⟨rfl, rfl⟩
  · (refine run_seq ?_; refine run_region ?_; refine xep rfl rfl ?_; refine runL_nil ?_; refine then_normal ?_; refine run_seq ?_; refine run_region ?_; (iterate 2 refine xep rfl rfl ?_); refine xel rfl (ev_callQ rfl rfl rfl (pf rfl) (q1 ..)) ?_; refine xep rfl rfl ?_; (iterate 2 refine xgp rfl rfl rfl ?_); (iterate 2 refine xep rfl rfl ?_); (iterate 2 refine xgp rfl rfl rfl ?_); (iterate 2 refine xep rfl rfl ?_); (iterate 9 refine runL_no rfl rfl rfl rfl hgd rfl rfl ?_); refine xel rfl (ev_pickF rfl rfl hgd rfl) ?_; refine xep rfl rfl ?_; refine runL_nil ?_; refine then_normal ?_; refine run_ret ?_)
    refine ⟨_, rfl, ?_⟩
    unfold opens
    rw [if_neg (by intro ⟨a, b, c⟩; rw [a, decide_eq_true b, decide_eq_true c] at hgd; cases hgd)]
    exact ⟨rfl, rfl⟩

def pslot (n i : Int) : Nat := 256 + n.toNat * 8 + i.toNat
def trades (A : List Int) (n i s q : Int) : Bool × List Int :=
  if there n i = true ∧ 1 ≤ q ∧ q ≤ 1048576 ∧ (s = 1 ∨ s = 2) then mv A (pslot n i) (if s = 2 then -q else q) (-1099511627776) 1099511627776 else (false, A)
theorem there_iff {n i : Int} : there n i = true ↔ 0 ≤ n ∧ n < 32 ∧ 0 ≤ i ∧ i < 8 := by
  unfold there; simp only [Bool.and_eq_true, decide_eq_true_eq]; omega

theorem sp_trades (F : Heap) (A : List Int) (hA : AOk A) (b : Nat) (e : TypeId) (n i s q : Int) :
    Sp Try.prog F 39 [.pointer (some ⟨b, 0, none⟩), .int .i64 n, .int .i64 i, .int .i64 s, .int .i64 q] [blk b (ac A) e] (fun v h' => v = .bool (trades A n i s q).1 ∧ h' = [blk b (ac (trades A n i s q).2) e]) := by
  have q1 := @sp_there
  refine sp_of_code Try.func39 rfl rfl ?_
  (refine run_seq ?_; refine run_region ?_; refine xep rfl rfl ?_; refine runL_nil ?_; refine then_normal ?_; (iterate 2 refine run_seq ?_); refine run_region ?_; (iterate 2 refine xep rfl rfl ?_); refine xel rfl (ev_callQ rfl rfl rfl (pf rfl) (q1 ..)) ?_; (iterate 2 refine xep rfl rfl ?_); (iterate 2 refine xgp rfl rfl rfl ?_); (iterate 2 refine xep rfl rfl ?_); (iterate 2 refine xgp rfl rfl rfl ?_); (iterate 2 refine xep rfl rfl ?_); (iterate 6 refine xgp rfl rfl rfl ?_); refine xep rfl rfl ?_; refine runL_nil ?_; refine then_normal ?_)
  (refine run_cond rfl (fun hc => ?_) (fun hc => ?_) <;> (try simp only [z0, z1, z2, z3, z4, z5, z6, z7, z8, z9] at hc))
  · (refine run_seq ?_; refine run_region ?_; refine xep rfl rfl ?_; refine runL_nil ?_; refine then_normal ?_; refine run_ret ?_; refine then_ret ?_)
    refine ⟨_, rfl, ?_⟩
    unfold trades
    rw [if_neg (by rw [there_iff]; omega)]
    exact ⟨rfl, rfl⟩
  · have hc0 := hc
    (refine run_skip ?_; refine then_normal ?_; (iterate 2 refine run_seq ?_); refine run_region ?_; (iterate 2 refine xep rfl rfl ?_); refine runL_nil ?_; refine then_normal ?_)
    (refine run_cond rfl (fun hc => ?_) (fun hc => ?_) <;> (try simp only [z0, z1, z2, z3, z4, z5, z6, z7, z8, z9] at hc))
    · (refine run_region ?_; refine xep rfl rfl ?_; refine xel rfl (ev_neg rfl rfl (by omega)) ?_; refine xep rfl rfl ?_; refine runL_nil ?_; refine then_normal ?_; refine run_seq ?_; refine run_region ?_; (iterate 4 refine xep rfl rfl ?_); refine xel rfl (ev_fieldAddr rfl rfl (fo rfl)) ?_; (iterate 2 refine xel rfl (ev_indexAddrA rfl rfl rfl (ar rfl) (by omega) (by omega)) ?_); refine xep rfl rfl ?_)
      refine runL_call1 rfl rfl rfl rfl rfl rfl rfl (pf rfl) (sp_move _ A hA b _ ?_ e (-q) (-1099511627776) 1099511627776 (by omega) (by omega)) ?_
      · omega
      rintro v h1 ⟨rfl, rfl⟩
      (refine xep rfl rfl ?_; refine runL_nil ?_; refine then_normal ?_; refine run_ret ?_)
      refine ⟨_, rfl, ?_⟩
      have hs : 0 + 256 + n.toNat * 8 + i.toNat * 1 = pslot n i := by unfold pslot; omega
      unfold trades
      rw [if_pos (by rw [there_iff]; omega), if_pos hc, ← hs]
      exact ⟨rfl, rfl⟩
    · (refine run_skip ?_; refine then_normal ?_; refine run_seq ?_; refine run_region ?_; (iterate 4 refine xep rfl rfl ?_); refine xel rfl (ev_fieldAddr rfl rfl (fo rfl)) ?_; (iterate 2 refine xel rfl (ev_indexAddrA rfl rfl rfl (ar rfl) (by omega) (by omega)) ?_); refine xep rfl rfl ?_)
      refine runL_call1 rfl rfl rfl rfl rfl rfl rfl (pf rfl) (sp_move _ A hA b _ ?_ e q (-1099511627776) 1099511627776 (by omega) (by omega)) ?_
      · omega
      rintro v h1 ⟨rfl, rfl⟩
      (refine xep rfl rfl ?_; refine runL_nil ?_; refine then_normal ?_; refine run_ret ?_)
      refine ⟨_, rfl, ?_⟩
      have hs : 0 + 256 + n.toNat * 8 + i.toNat * 1 = pslot n i := by unfold pslot; omega
      unfold trades
      rw [if_pos (by rw [there_iff]; omega), if_neg hc, ← hs]
      exact ⟨rfl, rfl⟩

def A0 : List Int := List.replicate 512 0
theorem A0_ok : AOk A0 := by
  refine ⟨List.length_replicate, fun k x h => ?_⟩
  have := List.eq_of_mem_replicate (List.mem_of_getElem? h)
  omega
theorem zeA : zeroT Try.prog 76 = some (ac A0) := by kernel_rfl
theorem plA : PlacesOk Try.prog 76 [(0, 256), (256, 256)] (ac A0) := ⟨by kernel_rfl, by kernel_rfl, zeA⟩
theorem sp_new (F : Heap) : Sp Try.prog F 36 [] [] (fun v h' => ∃ b, v = .pointer (some ⟨b, 0, none⟩) ∧ h' = [blk b (ac A0) 76]) := by
  refine sp_of_code Try.func36 rfl rfl ?_
  (refine run_seq ?_; refine run_region ?_; refine xep rfl rfl ?_; refine runL_nil ?_; refine then_normal ?_; refine run_seq ?_; refine run_region ?_)
  refine runL_ev rfl rfl rfl rfl (ev_build rfl plA rfl) ?_
  (refine runL_box rfl rfl rfl rfl rfl rfl (fun _ => ?_); refine xep rfl rfl ?_; refine runL_nil ?_; refine then_normal ?_; refine run_ret ?_)
  exact ⟨_, rfl, _, rfl, rfl⟩

def oa (A : List Int) (n i : Int) : Int := if there n i = true then at_ A (slot n i) else 0
def pa (A : List Int) (n i : Int) : Int := if there n i = true then at_ A (pslot n i) else 0
theorem sp_openAt (A : List Int) (hA : AOk A) (b : Nat) (e : TypeId) (F : Heap) (hm : blk b (ac A) e ∈ F) (n i : Int) :
    Sp Try.prog F 45 [.pointer (some ⟨b, 0, none⟩), .int .i64 n, .int .i64 i] [] (Ret (.int .i64 (oa A n i))) := by
  have q1 := @sp_there
  refine sp_of_code Try.func45 rfl rfl ?_
  (refine run_seq ?_; refine run_region ?_; refine xep rfl rfl ?_; refine runL_nil ?_; refine then_normal ?_; (iterate 2 refine run_seq ?_); refine run_region ?_; (iterate 2 refine xep rfl rfl ?_); refine xel rfl (ev_callQ rfl rfl rfl (pf rfl) (q1 ..)) ?_; refine xep rfl rfl ?_; refine runL_nil ?_; refine then_normal ?_)
  (refine run_cond rfl (fun hc => ?_) (fun hc => ?_) <;> (try simp only [z0, z1, z2, z3, z4, z5, z6, z7, z8, z9] at hc))
  · (refine run_seq ?_; refine run_region ?_; refine xep rfl rfl ?_; refine runL_nil ?_; refine then_normal ?_; refine run_ret ?_; refine then_ret ?_)
    refine ⟨_, rfl, ?_⟩
    unfold oa
    rw [if_neg (by rw [there_iff]; omega)]; rfl
  · (refine run_skip ?_; refine then_normal ?_; refine run_seq ?_; refine run_region ?_; (iterate 4 refine xep rfl rfl ?_); refine xel rfl (ev_fieldAddr rfl rfl (fo rfl)) ?_; (iterate 2 refine xel rfl (ev_indexAddrA rfl rfl rfl (ar rfl) (by omega) (by omega)) ?_))
    refine runL_ev rfl rfl rfl rfl (ev_load rfl rfl (sc rfl) (memR hm) (ac_get (hA.at (by omega)).1)) ?_
    (refine xep rfl rfl ?_; refine runL_nil ?_; refine then_normal ?_; refine run_ret ?_)
    refine ⟨_, rfl, ?_⟩
    have hs : 0 + 0 + n.toNat * 8 + i.toNat * 1 = slot n i := by unfold slot; omega
    unfold oa
    rw [if_pos (by rw [there_iff]; omega), ← hs]; rfl
theorem sp_pos (A : List Int) (hA : AOk A) (b : Nat) (e : TypeId) (F : Heap) (hm : blk b (ac A) e ∈ F) (n i : Int) :
    Sp Try.prog F 40 [.pointer (some ⟨b, 0, none⟩), .int .i64 n, .int .i64 i] [] (Ret (.int .i64 (pa A n i))) := by
  have q1 := @sp_there
  refine sp_of_code Try.func40 rfl rfl ?_
  (refine run_seq ?_; refine run_region ?_; refine xep rfl rfl ?_; refine runL_nil ?_; refine then_normal ?_; (iterate 2 refine run_seq ?_); refine run_region ?_; (iterate 2 refine xep rfl rfl ?_); refine xel rfl (ev_callQ rfl rfl rfl (pf rfl) (q1 ..)) ?_; refine xep rfl rfl ?_; refine runL_nil ?_; refine then_normal ?_)
  (refine run_cond rfl (fun hc => ?_) (fun hc => ?_) <;> (try simp only [z0, z1, z2, z3, z4, z5, z6, z7, z8, z9] at hc))
  · (refine run_seq ?_; refine run_region ?_; refine xep rfl rfl ?_; refine runL_nil ?_; refine then_normal ?_; refine run_ret ?_; refine then_ret ?_)
    refine ⟨_, rfl, ?_⟩
    unfold pa
    rw [if_neg (by rw [there_iff]; omega)]; rfl
  · (refine run_skip ?_; refine then_normal ?_; refine run_seq ?_; refine run_region ?_; (iterate 4 refine xep rfl rfl ?_); refine xel rfl (ev_fieldAddr rfl rfl (fo rfl)) ?_; (iterate 2 refine xel rfl (ev_indexAddrA rfl rfl rfl (ar rfl) (by omega) (by omega)) ?_))
    refine runL_ev rfl rfl rfl rfl (ev_load rfl rfl (sc rfl) (memR hm) (ac_get (hA.at (by omega)).1)) ?_
    (refine xep rfl rfl ?_; refine runL_nil ?_; refine then_normal ?_; refine run_ret ?_)
    refine ⟨_, rfl, ?_⟩
    have hs : 0 + 256 + n.toNat * 8 + i.toNat * 1 = pslot n i := by unfold pslot; omega
    unfold pa
    rw [if_pos (by rw [there_iff]; omega), ← hs]; rfl
def sumN (A : List Int) (n : Int) : Nat → Int
  | 0 => 0
  | k + 1 => sumN A n k + oa A n k
theorem oa_in {A : List Int} (hA : AOk A) (n i : Int) : -1099511627776 ≤ oa A n i ∧ oa A n i ≤ 1099511627776 := by
  unfold oa
  split
  · rename_i h
    rw [there_iff] at h
    exact (hA.at (by unfold slot; omega)).2
  · omega
theorem pa_in {A : List Int} (hA : AOk A) (n i : Int) : -1099511627776 ≤ pa A n i ∧ pa A n i ≤ 1099511627776 := by
  unfold pa
  split
  · rename_i h
    rw [there_iff] at h
    exact (hA.at (by unfold pslot; omega)).2
  · omega
theorem sumN_in {A : List Int} (hA : AOk A) (n : Int) : ∀ k : Nat, -(k * 1099511627776) ≤ sumN A n k ∧ sumN A n k ≤ k * 1099511627776
  | 0 => by simp [sumN]
  | k + 1 => by
    have h1 := sumN_in hA n k
    have h2 := oa_in hA n k
    unfold sumN
    omega
set_option linter.unusedSectionVars false in
theorem sp_open (A : List Int) (hA : AOk A) (b : Nat) (e : TypeId) (F : Heap) (hm : blk b (ac A) e ∈ F) (n : Int) :
    Sp Try.prog F 38 [.pointer (some ⟨b, 0, none⟩), .int .i64 n] [] (Ret (.int .i64 (sumN A n 8))) := by
  have m1 := sp_openAt A hA b e
  refine sp_of_code Try.func38 rfl rfl ?_
  (refine run_seq ?_; refine run_region ?_; refine xep rfl rfl ?_; refine runL_nil ?_; refine then_normal ?_; refine run_seq ?_; refine run_region ?_; refine xep rfl rfl ?_; refine runL_nil ?_; refine then_normal ?_; (iterate 2 refine run_seq ?_); refine run_region ?_; refine xep rfl rfl ?_; refine runL_nil ?_; refine then_normal ?_; refine run_block ?_)
  refine run_loopK (σ := Int) [0, 1, 7, 5] (fun k => [(0, .pointer (some ⟨b, 0, none⟩)), (1, .int .i64 n), (7, .int .i64 k), (5, .int .i64 (sumN A n k.toNat))]) (fun _ => []) (fun k => 0 ≤ k ∧ k ≤ 8) (fun k => (8 - k).toNat) 0 ⟨by omega, by omega⟩ rfl (fun _ => rfl) ?_
  rintro k ⟨h0, h1⟩
  have hs := sumN_in hA n k.toNat
  have ho := oa_in hA n k
  (refine run_seq ?_; refine run_region ?_; refine xep rfl rfl ?_; refine runL_nil ?_; refine then_normal ?_; refine run_seq ?_)
  (refine run_cond rfl (fun hc => ?_) (fun hc => ?_) <;> (try simp only [z0, z1, z2, z3, z4, z5, z6, z7, z8, z9] at hc))
  · (refine run_skip ?_; refine then_normal ?_; refine run_seq ?_; refine run_block ?_; refine run_seq ?_; refine run_region ?_; (iterate 2 refine xep rfl rfl ?_); refine runL_nil ?_; refine then_normal ?_; refine run_region ?_; (iterate 4 refine xep rfl rfl ?_); refine xel rfl (ev_callQ rfl rfl rfl (pf rfl) (m1 _ (memR hm) ..)) ?_; refine xel rfl (ev_add rfl rfl rfl (by omega)) ?_; refine xep rfl rfl ?_; refine runL_nil ?_; refine in_normal ?_; refine then_normal ?_; refine run_region ?_; refine xel rfl (ev_add rfl rfl rfl (by omega)) ?_; refine xep rfl rfl ?_; refine runL_nil ?_; refine then_normal ?_)
    refine ⟨k + 1, ⟨by omega, by omega⟩, by omega, ?_, [], fun _ => by simp only [List.append_nil]⟩
    have e1 : (k + 1).toNat = k.toNat + 1 := by omega
    have e2 : ((k.toNat : Nat) : Int) = k := by omega
    show _ = [(0, Value.pointer (some ⟨b, 0, none⟩)), (1, Value.int .i64 n), (7, Value.int .i64 (k + 1)), (5, Value.int .i64 (sumN A n (k + 1).toNat))]
    rw [e1, sumN, e2]; rfl
  · have : k = 8 := by omega
    subst this
    (refine run_exit ?_; (iterate 2 refine then_exit ?_); refine in_exit ?_; refine then_normal ?_; refine run_seq ?_; refine run_region ?_; (iterate 2 refine xep rfl rfl ?_); refine runL_nil ?_; refine then_normal ?_; refine run_ret ?_)
    exact ⟨_, rfl, rfl⟩
end Go.Proofs.Ytnpcmcijlgklfaa
