/- Contracts of functions of the given program over its translation, each proved by walking its text; used by the laws' rows. It proves no given statement by itself. -/
import Derived.Test.YtmelpobcpcmdoaaGreatSLTy
import Derived.Test.YtmelpobcpcmdoaaGreatSLRows
set_option autoImplicit false
set_option linter.unusedSectionVars false
set_option linter.unusedSimpArgs false
set_option linter.unusedVariables false
namespace Go.Proofs.YtmelpobcpcmdoaaGreat
open Go Go.SL Go.Proofs
variable [Base]
set_option maxHeartbeats 1000000 in
theorem sp_delEnt (F A : Heap) (a : Option Addr) (k cap : Nat) (cl : List Value) (own : OwnS 118 10 (.slice a k cap) k cl A) (hcl : allCells cl = true) (i j : Nat) (hi : i ≤ j) (hj : j ≤ k) :
    Sp Tryz.prog F 103 [.slice a k cap, .int .i64 i, .int .i64 j] A (fun v h' => OwnS 118 10 v (k - (j - i)) (cl.take (i * 10) ++ cl.drop (j * 10)) h') := by
  have hkc : k ≤ cap := by
    obtain ⟨_, _, h1, h2⟩ := own.form
    cases h1; exact h2
  refine sp_of_code Tryz.func103 rfl rfl ?_
  (refine run_seq ?_; refine run_region ?_; refine xep rfl rfl ?_; refine runL_nil ?_; refine then_normal ?_; refine run_seq ?_; refine run_region ?_; (iterate 4 refine xep rfl rfl ?_); refine xel rfl (ev_len rfl rfl (se rfl)) ?_; refine xel rfl (ev_slice3 rfl rfl rfl rfl rfl (se rfl) (by omega) (by omega) (by omega) (by omega)) ?_; refine runL_nil ?_; refine then_normal ?_; (iterate 2 refine run_seq ?_); refine run_region ?_; (iterate 3 refine xep rfl rfl ?_); refine runL_nil ?_; refine then_normal ?_)
  (refine run_cond rfl (fun hc => ?_) (fun hc => ?_) <;> (try simp only [z0, z1, z2, z3, z4, z5, z6, z7, z8, z9, Bool.not_true, Bool.not_false, Bool.false_or, Bool.true_and, true_and, and_true, false_or, or_false, reduceCtorEq, Bool.false_eq_true] at hc))
  · have hij : i = j := by omega
    subst hij
    (refine run_seq ?_; refine run_region ?_; (iterate 2 refine xep rfl rfl ?_); refine runL_nil ?_; refine then_normal ?_; refine run_ret ?_; refine then_ret ?_)
    refine ⟨_, rfl, ?_⟩
    rw [List.take_append_drop, Nat.sub_self, Nat.sub_zero]
    exact own
  · obtain ⟨b, rest, cap', hv, rfl, hl, hr, hk⟩ := own.pos (by omega)
    cases hv
    have e1 : cl ++ rest = cl.take (i * 10) ++ (cl.drop (i * 10) ++ rest) := by rw [← List.append_assoc, List.take_append_drop]
    have l1 : (cl.take (i * 10)).length = i * 10 := by
      rw [List.length_take, hl]; omega
    have l2 : (cl.drop (j * 10)).length = (k - j) * 10 := by
      rw [List.length_drop, hl, Nat.sub_mul]
    (refine run_skip ?_; refine then_normal ?_; refine run_seq ?_; refine run_region ?_; refine xep rfl rfl ?_; refine xel rfl (ev_len rfl rfl (se rfl)) ?_; refine xep rfl rfl ?_; refine runL_nil ?_; refine then_normal ?_; refine run_seq ?_)
    refine run_region_D mo ?_
    (refine runD_q 0 rfl rfl (by kernel_rfl) ?_; refine ⟨_, fun _ => ev_pure rfl, ?_⟩; refine runD_q 1 rfl rfl (by kernel_rfl) ?_; refine ⟨_, fun _ => ev_pure rfl, ?_⟩; refine runD_q 2 rfl rfl (by kernel_rfl) ?_; refine ⟨_, fun _ => ev_sliceHi rfl rfl rfl (se rfl) (by omega) (by omega), ?_⟩; refine runD_q 3 rfl rfl (by kernel_rfl) ?_; refine ⟨_, fun _ => ev_pure rfl, ?_⟩; refine runD_q 4 rfl rfl (by kernel_rfl) ?_; refine ⟨_, fun _ => ev_pure rfl, ?_⟩; refine runD_q 5 rfl rfl (by kernel_rfl) ?_; refine ⟨_, fun _ => ev_sliceLo rfl rfl rfl (se rfl) (by omega) (by omega), ?_⟩; refine runD_1 6 (by kernel_rfl) rfl rfl rfl ?_)
    rw [e1]
    refine runL_appendIn (sl := cl.drop (j * 10)) rfl rfl rfl rfl rfl rfl rfl (se rfl) (se rfl) l1 ?_ ?_ ?_ (allCells_drop hcl _) ?_
    · rw [← e1, List.length_append, hl, l2]; omega
    · omega
    · refine ⟨l2, ?_⟩
      by_cases hjc : cap = j
      · exact .inl (by show k - j = 0; omega)
      · refine .inr ⟨b, 0 + j * 10, _, _, _, cutA_ne hjc, .head _, ?_, ?_⟩
        · rw [← e1, List.length_append, hl]; show 0 + j * 10 + (k - j) * 10 ≤ _; omega
        · rw [← e1, Nat.zero_add, List.drop_append_of_le_length (by rw [hl]; omega)]
          show List.take ((k - j) * 10) _ = _
          rw [← l2, List.take_left]
    generalize hc : cl.take (i * 10) ++ cl.drop (j * 10) ++ (cl.drop (i * 10) ++ rest).drop (cl.drop (j * 10)).length = c
    have lX : (cl.take (i * 10) ++ cl.drop (j * 10)).length = (i + (k - j)) * 10 := by rw [List.length_append, l1, l2, Nat.add_mul]
    have lc : c.length = cap * 10 := by
      rw [← hc, List.length_append, lX, List.length_drop, List.length_append, List.length_drop, hl, l2]; omega
    have tX : c.take ((i + (k - j)) * 10) = cl.take (i * 10) ++ cl.drop (j * 10) := by rw [← hc, ← lX, List.take_left]
    (refine runL_nil ?_; refine endS_d rfl ?_; refine runD_q 7 rfl rfl (by kernel_rfl) ?_; refine ⟨_, fun _ => ev_pure rfl, ?_⟩; refine runD_done (by kernel_rfl) ?_; refine then_normal ?_; refine run_seq ?_; refine run_region ?_; (iterate 2 refine xep rfl rfl ?_); refine xel rfl (ev_len rfl rfl (se rfl)) ?_; refine xep rfl rfl ?_; refine xel rfl (ev_sliceLH rfl rfl rfl rfl (se rfl) (by omega) (by omega) (by omega)) ?_)
    simp only [Int.toNat_natCast]
    rw [cutA_ne (by omega)]
    refine runL_clear rfl rfl rfl rfl (se rfl) ze118 rfl rfl (by rw [lc, Nat.zero_add]; have : (i + (k - j) + (k - (i + (k - j)))) * 10 ≤ cap * 10 := Nat.mul_le_mul_right _ (by omega); rw [Nat.add_mul] at this; exact this) (fun zs hzs => ?_)
    (refine runL_nil ?_; refine then_normal ?_; refine run_seq ?_; refine run_region ?_; (iterate 2 refine xep rfl rfl ?_); refine runL_nil ?_; refine then_normal ?_; refine run_ret ?_)
    refine ⟨_, rfl, .inr ⟨b, zs ++ c.drop (0 + (i + (k - j)) * 10 + (k - (i + (k - j))) * 10), cap, ?_, ?_, ?_, ?_, ?_⟩⟩
    · show Value.slice _ (i + (k - j)) cap = _
      congr 1; omega
    · rw [Nat.zero_add, tX, List.append_assoc]
    · rw [lX]; congr 1; omega
    · rw [List.length_append, hzs, List.length_drop, lc]
      have h1 : (k - (j - i)) = i + (k - j) := by omega
      have h2 : (i + (k - j) + (k - (i + (k - j)))) * 10 ≤ cap * 10 := Nat.mul_le_mul_right _ (by omega)
      rw [Nat.add_mul] at h2
      rw [h1]; omega
    · omega
/-- Where the first one stands; -1: there is none. -/
def idxI {α : Type} (p : α → Bool) (l : List α) : Int := match l.findIdx? p with
  | some i => (i : Int)
  | none => -1
theorem idxI_here {α : Type} {p : α → Bool} {l : List α} {i : Nat} {x : α} (hi : l[i]? = some x) (hp : p x = true) (hn : ∀ j y, j < i → l[j]? = some y → p y = false) : idxI p l = i := by
  have hlt := (List.getElem?_eq_some_iff.1 hi).1
  have hx := (List.getElem?_eq_some_iff.1 hi).2
  have : l.findIdx? p = some i := by
    rw [List.findIdx?_eq_some_iff_getElem]
    refine ⟨hlt, by rw [hx]; exact hp, fun j hj => ?_⟩
    have := hn j _ hj (List.getElem?_eq_getElem (by omega))
    rw [this]; simp
  unfold idxI; rw [this]
theorem idxI_none {α : Type} {p : α → Bool} {l : List α} (hn : ∀ (j : Nat) (y : α), l[j]? = some y → p y = false) : idxI p l = -1 := by
  have : l.findIdx? p = none := by
    rw [List.findIdx?_eq_none_iff]
    intro x hx
    obtain ⟨j, hj⟩ := List.mem_iff_getElem?.1 hx
    exact hn j x hj
  unfold idxI; rw [this]
theorem idxI_cases {α : Type} (p : α → Bool) (l : List α) : (idxI p l = -1 ∧ ∀ x ∈ l, p x = false) ∨ ∃ (i : Nat) (x : α), idxI p l = i ∧ l[i]? = some x ∧ p x = true ∧ ∀ j y, j < i → l[j]? = some y → p y = false := by
  unfold idxI
  cases h : l.findIdx? p with
  | none => exact .inl ⟨rfl, List.findIdx?_eq_none_iff.1 h⟩
  | some i =>
    rw [List.findIdx?_eq_some_iff_getElem] at h
    obtain ⟨hlt, h1, h2⟩ := h
    refine .inr ⟨i, l[i], rfl, List.getElem?_eq_getElem hlt, h1, fun j y hj hy => ?_⟩
    have h3 := (List.getElem?_eq_some_iff.1 hy)
    obtain ⟨h4, h5⟩ := h3
    have := h2 j hj
    rw [h5] at this
    simpa using this
theorem sp_idxEnt (F : Heap) (a : Option Addr) (k cap : Nat) {α : Type} (f : α → List Value) (hf : ∀ x, (f x).length = 10) (l : List α) (hl : l.length = k) (hkb : k ≤ 1048576) (hs : SrcIs F a k 10 (rows f l)) (g : FuncId) (hg : SL.Program.plainFn Tryz.prog g = true) (caps : List Value) (p : α → Bool)
    (hp : ∀ x ∈ l, Sp Tryz.prog F g (.agg ⟨f x⟩ :: caps) [] (Ret (.bool (p x)))) :
    Sp Tryz.prog F 101 [.slice a k cap, .func (.func g) #[] ⟨caps⟩] [] (Ret (.int .i64 (idxI p l))) := by
  refine sp_of_code Tryz.func101 rfl rfl ?_
  (refine run_seq ?_; refine run_region ?_; refine xep rfl rfl ?_; refine runL_nil ?_; refine then_normal ?_; (iterate 2 refine run_seq ?_); refine run_region ?_; refine xep rfl rfl ?_; refine xel rfl (ev_len rfl rfl (se rfl)) ?_; refine xep rfl rfl ?_; refine runL_nil ?_; refine then_normal ?_; refine run_block ?_)
  refine run_loopK (σ := Nat) [0, 1, 7, 8] (fun i => [(0, .slice a k cap), (1, .func (.func g) #[] ⟨caps⟩), (7, .int .i64 k), (8, .int .i64 i)]) (fun _ => []) (fun i => i ≤ k ∧ ∀ j y, j < i → l[j]? = some y → p y = false) (fun i => k - i) 0 ⟨Nat.zero_le _, fun j y h => absurd h (Nat.not_lt_zero _)⟩ rfl (fun _ => rfl) ?_
  rintro i ⟨g1, g2⟩
  (refine run_seq ?_; refine run_region ?_; refine xep rfl rfl ?_; refine runL_nil ?_; refine then_normal ?_; refine run_seq ?_)
  (refine run_cond rfl (fun hc => ?_) (fun hc => ?_) <;> (try simp only [z0, z1, z2, z3, z4, z5, z6, z7, z8, z9, Bool.not_true, Bool.not_false, Bool.false_or, Bool.true_and, true_and, and_true, false_or, or_false, reduceCtorEq, Bool.false_eq_true] at hc))
  · obtain ⟨b, off, _, _, _, rfl, _⟩ := hs.pos (by omega)
    obtain ⟨x, hx⟩ : ∃ x, l[i]? = some x := ⟨l[i]'(by omega), List.getElem?_eq_getElem _⟩
    have l1 := SrcIs.row hf hs hl hx
    (refine run_skip ?_; refine then_normal ?_; refine run_seq ?_; refine run_block ?_; refine run_seq ?_; refine run_region ?_; (iterate 2 refine xep rfl rfl ?_); refine runL_nil ?_; refine then_normal ?_; refine run_seq ?_; refine run_region ?_; (iterate 3 refine xep rfl rfl ?_); refine xel rfl (ev_indexAddr rfl rfl rfl (se rfl) (by omega) (by omega)) ?_)
    refine runL_ev rfl rfl rfl rfl (ev_loadAF rfl rfl (ag rfl) (sz rfl) l1 (hf x)) ?_
    skip
    refine runL_ev rfl rfl rfl rfl (ev_call (vs := [.agg ⟨f x⟩]) (caps := caps) (v := .bool (p x)) rfl rfl rfl hg (hp x (List.mem_of_getElem? hx))) ?_
    (refine runL_nil ?_; refine then_normal ?_)
    (refine run_cond rfl (fun hc => ?_) (fun hc => ?_) <;> (try simp only [z0, z1, z2, z3, z4, z5, z6, z7, z8, z9, Bool.not_true, Bool.not_false, Bool.false_or, Bool.true_and, true_and, and_true, false_or, or_false, reduceCtorEq, Bool.false_eq_true] at hc))
    · (refine run_seq ?_; refine run_region ?_; (iterate 2 refine xep rfl rfl ?_); refine runL_nil ?_; refine then_normal ?_; refine run_ret ?_; refine in_ret ?_; (iterate 2 refine then_ret ?_); refine in_ret ?_; refine then_ret ?_)
      refine ⟨_, rfl, ?_⟩
      rw [idxI_here hx hc g2]; rfl
    · have hpx := hc
      (refine run_skip ?_; refine in_normal ?_; refine then_normal ?_; refine run_region ?_; refine xel rfl (ev_add rfl rfl rfl (by omega)) ?_; refine xep rfl rfl ?_; refine runL_nil ?_; refine then_normal ?_)
      refine ⟨i + 1, ⟨by omega, fun j y hj hy => ?_⟩, by omega, rfl, [], fun _ => rfl⟩
      by_cases e : j = i
      · subst e; rw [hx] at hy; cases hy; exact hpx
      · exact g2 j y (by omega) hy
  · (refine run_exit ?_; (iterate 2 refine then_exit ?_); refine in_exit ?_; refine then_normal ?_)
    (refine run_seq ?_; refine run_region ?_; refine xep rfl rfl ?_; refine runL_nil ?_; refine then_normal ?_; refine run_ret ?_)
    refine ⟨_, rfl, ?_⟩
    rw [idxI_none fun j y hy => g2 j y (by have := (List.getElem?_eq_some_iff.1 hy).1; omega) hy]; rfl
end Go.Proofs.YtmelpobcpcmdoaaGreat

set_option autoImplicit false
set_option linter.unusedSectionVars false
set_option linter.unusedSimpArgs false
set_option linter.unusedVariables false
namespace Go.Proofs.YtmelpobcpcmdoaaGreat
open Go Go.SL Go.Proofs
variable [Base]
theorem sp_within (F : Heap) (n lo hi : Int) (h1 : lo ≤ hi) (h2 : 0 ≤ lo) (h3 : hi ≤ 1099511627776) :
   Sp Tryz.prog F 28 [.int .i64 n, .int .i64 lo, .int .i64 hi] [] (Ret (.int .i64 (lo + n.emod (hi - lo + 1)))) := by
  refine sp_of_code Tryz.func28 rfl rfl ?_
  (refine run_seq ?_; refine run_region ?_; refine xep rfl rfl ?_; refine runL_nil ?_; refine then_normal ?_; refine run_seq ?_; refine run_region ?_; (iterate 3 refine xep rfl rfl ?_); refine xel rfl (ev_sub rfl rfl rfl (by omega)) ?_; refine xel rfl (ev_add rfl rfl rfl (by omega)) ?_; refine xel rfl (ev_rem rfl rfl rfl (by omega)) ?_; refine xep rfl rfl ?_; refine runL_nil ?_; refine then_normal ?_; (iterate 2 refine run_seq ?_); refine run_region ?_; (iterate 2 refine xep rfl rfl ?_); refine runL_nil ?_; refine then_normal ?_)
  have hb := Int.emod_nonneg n (show hi - lo + 1 ≠ 0 by omega)
  have hb2 := Int.emod_lt_of_pos n (show 0 < hi - lo + 1 by omega)
  have ht : n.tmod (hi - lo + 1) = if 0 ≤ n ∨ n % (hi - lo + 1) = 0 then n % (hi - lo + 1) else n % (hi - lo + 1) - (hi - lo + 1) := by
    rw [Int.tmod_eq_emod]
    have : ((hi - lo + 1 : Int) ∣ n) ↔ n % (hi - lo + 1) = 0 := Int.dvd_iff_emod_eq_zero
    simp only [this]
    split <;> omega
  (refine run_cond rfl (fun hc => ?_) (fun hc => ?_) <;> (try simp only [z0, z1, z2, z3, z4, z5, z6, z7, z8, z9, Bool.not_true, Bool.not_false, Bool.false_or, Bool.true_and, true_and, and_true, false_or, or_false, reduceCtorEq, Bool.false_eq_true] at hc))
  · have e : n.emod (hi - lo + 1) = n.tmod (hi - lo + 1) + hi - lo + 1 := by
      show n % (hi - lo + 1) = _
      split at ht <;> omega
    (refine run_region ?_; (iterate 2 refine xep rfl rfl ?_); refine xel rfl (ev_add rfl rfl rfl (by omega)) ?_; refine xep rfl rfl ?_; refine xel rfl (ev_sub rfl rfl rfl (by omega)) ?_; refine xel rfl (ev_add rfl rfl rfl (by omega)) ?_; refine xep rfl rfl ?_; refine runL_nil ?_; refine then_normal ?_; refine run_seq ?_; refine run_region ?_; (iterate 2 refine xep rfl rfl ?_); refine xel rfl (ev_add rfl rfl rfl (by omega)) ?_; refine xep rfl rfl ?_; refine runL_nil ?_; refine then_normal ?_; refine run_ret ?_)
    exact ⟨_, rfl, by rw [e]; rfl⟩
  · have e : n.emod (hi - lo + 1) = n.tmod (hi - lo + 1) := by
      show n % (hi - lo + 1) = _
      split at ht <;> omega
    (refine run_skip ?_; refine then_normal ?_; refine run_seq ?_; refine run_region ?_; (iterate 2 refine xep rfl rfl ?_); refine xel rfl (ev_add rfl rfl rfl (by omega)) ?_; refine xep rfl rfl ?_; refine runL_nil ?_; refine then_normal ?_; refine run_ret ?_)
    exact ⟨_, rfl, by rw [e]; rfl⟩
end Go.Proofs.YtmelpobcpcmdoaaGreat

set_option autoImplicit false
set_option linter.unusedSectionVars false
set_option linter.unusedSimpArgs false
set_option linter.unusedVariables false
namespace Go.Proofs.YtmelpobcpcmdoaaGreat
open Go Go.SL Go.Proofs

/-- An order, by its numbers. -/
structure Ord where
  (trader id firm side kind price qty show_ stop : Int)
def Ord.zs (o : Ord) : List Int := [o.trader, o.id, o.firm, o.side, o.kind, o.price, o.qty, o.show_, o.stop]
def Ord.cells (o : Ord) : List Value := [.int .i64 o.trader, .int .i64 o.id, .int .i64 o.firm, .int .i64 o.side, .int .i64 o.kind, .int .i64 o.price, .int .i64 o.qty, .int .i64 o.show_, .int .i64 o.stop]
def ov (o : Ord) : Value := .agg ⟨o.cells⟩
structure Ord.In (o : Ord) : Prop where
  (trader : InI o.trader) (id : InI o.id) (firm : InI o.firm) (side : InI o.side) (kind : InI o.kind) (price : InI o.price) (qty : InI o.qty) (show_ : InI o.show_) (stop : InI o.stop)
theorem Ord.of {zs : List Int} (hl : zs.length = 9) (hz : ∀ z ∈ zs, InI z) : ∃ o : Ord, Value.agg ⟨ints zs⟩ = ov o ∧ o.In := by
  match zs, hl with
  | [a, b, c, d, e, f, g, h, i], _ =>
    refine ⟨⟨a, b, c, d, e, f, g, h, i⟩, rfl, ?_⟩
    constructor <;> exact hz _ (by simp)

def rightP (o : Ord) : Prop := 0 ≤ o.trader ∧ o.trader ≤ 31 ∧ 0 ≤ o.firm ∧ o.firm ≤ 7 ∧ 0 ≤ o.id ∧ o.id ≤ 1073741824 ∧ 1 ≤ o.side ∧ o.side ≤ 2 ∧ 1 ≤ o.kind ∧ o.kind ≤ 5 ∧ 1 ≤ o.qty ∧ o.qty ≤ 1048576 ∧
  0 ≤ o.show_ ∧ o.show_ ≤ o.qty ∧ 0 ≤ o.stop ∧ o.stop ≤ 1048576 ∧ (o.kind = 2 → o.price = 0) ∧ (o.kind ≠ 2 → 1 ≤ o.price ∧ o.price ≤ 1048576) ∧ (o.show_ = 0 ∨ o.kind = 1 ∨ o.kind = 5)
instance (o : Ord) : Decidable (rightP o) := by unfold rightP; infer_instance
def right (o : Ord) : Int := if rightP o then 0 else 1
def crosses (o : Ord) (p : Int) : Bool := if o.kind = 2 then true else if o.side = 1 then decide (p ≤ o.price) else decide (o.price ≤ p)
def hit (o : Ord) (p : Int) : Bool := if o.stop ≤ 0 ∨ p ≤ 0 then false else if o.side = 1 then decide (o.stop ≤ p) else decide (p ≤ o.stop)
def better (s a b : Int) : Bool := if s = 1 then decide (b < a) else decide (a < b)

def win (n lo hi : Int) : Int := lo + n.emod (hi - lo + 1)
theorem win_in (n : Int) {lo hi : Int} (h : lo ≤ hi) : lo ≤ win n lo hi ∧ win n lo hi ≤ hi := by
  have hb := Int.emod_nonneg n (show hi - lo + 1 ≠ 0 by omega)
  have hb2 := Int.emod_lt_of_pos n (show 0 < hi - lo + 1 by omega)
  change 0 ≤ n.emod (hi - lo + 1) at hb
  change n.emod (hi - lo + 1) < _ at hb2
  unfold win; omega
theorem inI {z : Int} (h : (decide (-9223372036854775808 ≤ z) && decide (z ≤ 9223372036854775807)) = true) : InI z := by
  simp only [Bool.and_eq_true, decide_eq_true_eq] at h; exact h
variable [Base]
theorem sp_Win (F : Heap) (n lo hi : Int) (h1 : lo ≤ hi) (h2 : 0 ≤ lo) (h3 : hi ≤ 1099511627776) :
   Sp Tryz.prog F 28 [.int .i64 n, .int .i64 lo, .int .i64 hi] [] (Ret (.int .i64 (win n lo hi))) := sp_within F n lo hi h1 h2 h3
end Go.Proofs.YtmelpobcpcmdoaaGreat

set_option autoImplicit false
set_option linter.unusedSectionVars false
set_option linter.unusedSimpArgs false
set_option linter.unusedVariables false
namespace Go.Proofs.YtmelpobcpcmdoaaGreat
open Go Go.SL Go.Proofs
/-- What rests of an order, and how much of it is seen. -/
structure Ent where
  o : Ord
  seen : Int
def ec (x : Ent) : List Value := [.int .i64 x.o.trader, .int .i64 x.o.id, .int .i64 x.o.firm, .int .i64 x.o.side, .int .i64 x.o.kind, .int .i64 x.o.price, .int .i64 x.o.qty, .int .i64 x.o.show_, .int .i64 x.o.stop, .int .i64 x.seen]
theorem ec_len (x : Ent) : (ec x).length = 10 := rfl
theorem ec_cells (x : Ent) : allCells (ec x) = true := rfl
theorem oc_len (o : Ord) : o.cells.length = 9 := rfl
theorem oc_cells (o : Ord) : allCells o.cells = true := rfl
def tip (o : Ord) : Int := if 0 < o.show_ then min o.show_ o.qty else o.qty
def LB (es : List Ent) : Prop := es.length ≤ 65536 ∧ ∀ x ∈ es, 1 ≤ x.o.qty ∧ x.o.qty ≤ 1048576 ∧ 1 ≤ x.seen ∧ x.seen ≤ x.o.qty
variable [Base]
/-- A level at a block of its own. -/
def LvH (b : Nat) (p : Int) (es : List Ent) (H : Heap) : Prop :=
  ∃ a cap A, OwnS 118 10 (.slice a es.length cap) es.length (rows ec es) A ∧ H = blk b [.int .i64 p, .slice a es.length cap] 121 :: A
/-- A level that can be read. -/
def LvIn (F : Heap) (b : Nat) (p : Int) (es : List Ent) : Prop :=
  ∃ a cap, blk b [.int .i64 p, .slice a es.length cap] 121 ∈ F ∧ SrcIs F a es.length 10 (rows ec es)
theorem LvH.in {b : Nat} {p : Int} {es : List Ent} {H F : Heap} (h : LvH b p es H) (hF : ∀ x ∈ H, x ∈ F) : LvIn F b p es := by
  obtain ⟨a, cap, A, own, rfl⟩ := h
  exact ⟨a, cap, hF _ (.head _), own.src fun x m => hF _ (.tail _ m)⟩
theorem LvIn.mono {F F' : Heap} {b : Nat} {p : Int} {es : List Ent} (h : LvIn F b p es) (hF : ∀ x ∈ F, x ∈ F') : LvIn F' b p es := by
  obtain ⟨a, cap, h1, h2⟩ := h
  exact ⟨a, cap, hF _ h1, h2.mono hF⟩
theorem LvIn.up {F A : Heap} {b : Nat} {p : Int} {es : List Ent} (h : LvIn F b p es) : LvIn (A ++ F) b p es := h.mono fun x m => List.mem_append_right _ m
theorem sp_lnew (F : Heap) (p : Int) : Sp Tryz.prog F 98 [.int .i64 p] [] (fun v h' => ∃ b, v = .pointer (some ⟨b, 0, none⟩) ∧ LvH b p [] h') := by
  refine sp_of_code Tryz.func98 rfl rfl ?_
  (refine run_seq ?_; refine run_region ?_; refine xep rfl rfl ?_; refine runL_nil ?_; refine then_normal ?_; refine run_seq ?_; refine run_region ?_; refine xep rfl rfl ?_; refine xel rfl (ev_build rfl pl121 rfl) ?_; refine runL_box rfl rfl rfl rfl rfl rfl (fun _ => ?_); refine xep rfl rfl ?_; refine runL_nil ?_; refine then_normal ?_; refine run_ret ?_)
  exact ⟨_, rfl, _, rfl, none, 0, [], .nil _ _, rfl⟩
theorem sp_tip (F : Heap) (o : Ord) : Sp Tryz.prog F 109 [ov o] [] (Ret (.int .i64 (tip o))) := by
  refine sp_of_code Tryz.func109 rfl rfl ?_
  unfold tip
  (refine run_seq ?_; refine run_region ?_; refine runL_box rfl rfl rfl rfl rfl rfl (fun _ => ?_); refine xep rfl rfl ?_; refine runL_nil ?_; refine then_normal ?_; (iterate 2 refine run_seq ?_); refine run_region ?_; refine xel rfl (ev_fieldAddr rfl rfl (fo rfl)) ?_; refine xel rfl (ev_loadK rfl rfl (sc rfl) (memF (.head _)) rfl) ?_; refine xep rfl rfl ?_; refine runL_nil ?_; refine then_normal ?_)
  (refine run_cond rfl (fun hc => ?_) (fun hc => ?_) <;> (try simp only [z0, z1, z2, z3, z4, z5, z6, z7, z8, z9, Bool.not_true, Bool.not_false, Bool.false_or, Bool.true_and, true_and, and_true, false_or, or_false, reduceCtorEq, Bool.false_eq_true] at hc))
  · (refine run_seq ?_; refine run_region ?_; refine xel rfl (ev_fieldAddr rfl rfl (fo rfl)) ?_; refine xel rfl (ev_loadK rfl rfl (sc rfl) (memF (.head _)) rfl) ?_; refine xel rfl (ev_fieldAddr rfl rfl (fo rfl)) ?_; refine xel rfl (ev_loadK rfl rfl (sc rfl) (memF (.head _)) rfl) ?_; refine xel rfl (ev_min rfl rfl rfl) ?_; refine xep rfl rfl ?_; refine runL_nil ?_; refine then_normal ?_; refine run_ret ?_; refine then_ret ?_)
    rw [if_pos hc]; exact ⟨_, rfl, rfl⟩
  · (refine run_skip ?_; refine then_normal ?_; refine run_seq ?_; refine run_region ?_; refine xel rfl (ev_fieldAddr rfl rfl (fo rfl)) ?_; refine xel rfl (ev_loadK rfl rfl (sc rfl) (memF (.head _)) rfl) ?_; refine xep rfl rfl ?_; refine runL_nil ?_; refine then_normal ?_; refine run_ret ?_)
    rw [if_neg (by omega)]; exact ⟨_, rfl, rfl⟩
theorem sp_lprice (F : Heap) (b : Nat) (p : Int) (es : List Ent) (hl : LvIn F b p es) : Sp Tryz.prog F 91 [.pointer (some ⟨b, 0, none⟩)] [] (Ret (.int .i64 p)) := by
  obtain ⟨a, cap, hm, hs⟩ := hl
  have l1 : LoadsF F b (0 + 0) (.int .i64 p) := ⟨_, _, _, hm, rfl⟩
  refine sp_of_code Tryz.func91 rfl rfl ?_
  (refine run_seq ?_; refine run_region ?_; refine xep rfl rfl ?_; refine runL_nil ?_; refine then_normal ?_; refine run_seq ?_; refine run_region ?_; (iterate 2 refine xep rfl rfl ?_); refine xel rfl (ev_fieldAddr rfl rfl (fo rfl)) ?_; refine xel rfl (ev_loadF rfl rfl (sc rfl) l1) ?_; refine xep rfl rfl ?_; refine runL_nil ?_; refine then_normal ?_; refine run_ret ?_)
  exact ⟨_, rfl, rfl⟩
theorem sp_llen (F : Heap) (b : Nat) (p : Int) (es : List Ent) (hl : LvIn F b p es) : Sp Tryz.prog F 88 [.pointer (some ⟨b, 0, none⟩)] [] (Ret (.int .i64 es.length)) := by
  obtain ⟨a, cap, hm, hs⟩ := hl
  have l1 : LoadsF F b (0 + 1) (.slice a es.length cap) := ⟨_, _, _, hm, rfl⟩
  refine sp_of_code Tryz.func88 rfl rfl ?_
  (refine run_seq ?_; refine run_region ?_; refine xep rfl rfl ?_; refine runL_nil ?_; refine then_normal ?_; refine run_seq ?_; refine run_region ?_; (iterate 2 refine xep rfl rfl ?_); refine xel rfl (ev_fieldAddr rfl rfl (fo rfl)) ?_; refine xel rfl (ev_loadF rfl rfl (sc rfl) l1) ?_; refine xel rfl (ev_len rfl rfl (se rfl)) ?_; refine xep rfl rfl ?_; refine runL_nil ?_; refine then_normal ?_; refine run_ret ?_)
  exact ⟨_, rfl, rfl⟩
def isIt (t i : Int) (x : Ent) : Bool := decide (x.o.trader = t) && decide (x.o.id = i)
theorem sp_find1 (F : Heap) (c1 c2 : Nat) (t i : Int) (x : Ent) (l1 : LoadsF F c1 0 (.int .i64 t)) (l2 : LoadsF F c2 0 (.int .i64 i)) :
    Sp Tryz.prog F 102 [.agg ⟨ec x⟩, .pointer (some ⟨c1, 0, none⟩), .pointer (some ⟨c2, 0, none⟩)] [] (Ret (.bool (isIt t i x))) := by
  refine sp_of_code Tryz.func102 rfl rfl ?_
  (refine run_seq ?_; refine run_region ?_; refine runL_box rfl rfl rfl rfl rfl rfl (fun _ => ?_); refine xep rfl rfl ?_; refine runL_nil ?_; refine then_normal ?_; refine run_seq ?_; refine run_region ?_; (iterate 2 refine xel rfl (ev_fieldAddr rfl rfl (fo rfl)) ?_); refine xel rfl (ev_loadK rfl rfl (sc rfl) (memF (.head _)) rfl) ?_; refine xel rfl (ev_loadF rfl rfl (sc rfl) l1) ?_; (iterate 2 refine xep rfl rfl ?_); (iterate 2 refine xgl rfl rfl (fun hq => ev_fieldAddr rfl rfl (fo rfl)) ?_); refine xgl rfl rfl (fun hq => ev_loadK rfl rfl (sc rfl) (memF (.head _)) rfl) ?_; refine xgl rfl rfl (fun hq => ev_loadF rfl rfl (sc rfl) l2) ?_; refine xgp rfl rfl rfl ?_; (iterate 2 refine xep rfl rfl ?_); refine runL_nil ?_; refine then_normal ?_; refine run_ret ?_)
  exact ⟨_, rfl, rfl⟩
theorem sp_lfind (F : Heap) (b : Nat) (p : Int) (es : List Ent) (hl : LvIn F b p es) (hb : es.length ≤ 65536) (t i : Int) :
    Sp Tryz.prog F 84 [.pointer (some ⟨b, 0, none⟩), .int .i64 t, .int .i64 i] [] (Ret (.int .i64 (idxI (isIt t i) es))) := by
  obtain ⟨a, cap, hm, hs⟩ := hl
  have l1 : LoadsF F b (0 + 1) (.slice a es.length cap) := ⟨_, _, _, hm, rfl⟩
  refine sp_of_code Tryz.func84 rfl rfl ?_
  (refine run_seq ?_; refine run_region ?_; (iterate 2 refine runL_box rfl rfl rfl rfl rfl rfl (fun _ => ?_)); refine xep rfl rfl ?_; refine runL_nil ?_; refine then_normal ?_; refine run_seq ?_; refine run_region ?_; (iterate 2 refine xep rfl rfl ?_); refine xel rfl (ev_fieldAddr rfl rfl (fo rfl)) ?_; refine xel rfl (ev_loadF rfl rfl (sc rfl) l1) ?_; refine xel rfl (ev_makeFunc rfl rfl) ?_)
  rename_i c1 c2
  refine runL_ev rfl rfl rfl rfl (ev_callQ rfl rfl rfl (pf rfl) (sp_idxEnt _ a es.length cap ec ec_len es rfl (by omega) hs.up 102 (pf rfl) _ (isIt t i) fun x _ => sp_find1 _ c1 c2 t i x ⟨_, _, _, memF (.tail _ (.head _)), rfl⟩ ⟨_, _, _, memF (.head _), rfl⟩)) ?_
  (refine xep rfl rfl ?_; refine runL_nil ?_; refine then_normal ?_; refine run_ret ?_)
  exact ⟨_, rfl, rfl⟩
def sumE (g : Ent → Int) : List Ent → Int
  | [] => 0
  | x :: l => g x + sumE g l
theorem sumE_append (g : Ent → Int) (l m : List Ent) : sumE g (l ++ m) = sumE g l + sumE g m := by
  induction l with
  | nil => simp [sumE]
  | cons x l ih => simp only [List.cons_append, sumE, ih]; omega
theorem sumE_in {g : Ent → Int} {l : List Ent} (h : ∀ x ∈ l, 0 ≤ g x ∧ g x ≤ 1048576) : 0 ≤ sumE g l ∧ sumE g l ≤ l.length * 1048576 := by
  induction l with
  | nil => simp [sumE]
  | cons x l ih =>
    have h1 := ih fun y m => h y (List.mem_cons_of_mem _ m)
    have h2 := h x (List.mem_cons_self ..)
    simp only [sumE, List.length_cons]; omega
theorem sumE_take {g : Ent → Int} {l : List Ent} {i : Nat} {x : Ent} (h : l[i]? = some x) : sumE g (l.take (i + 1)) = sumE g (l.take i) + g x := by
  have hi := (List.getElem?_eq_some_iff.1 h).1
  have hx := (List.getElem?_eq_some_iff.1 h).2
  rw [List.take_succ_eq_append_getElem hi, sumE_append, hx]; simp [sumE]
set_option maxRecDepth 4000 in
theorem sp_lwhole (F : Heap) (b : Nat) (p : Int) (es : List Ent) (hl : LvIn F b p es) (hb : LB es) :
    Sp Tryz.prog F 110 [.pointer (some ⟨b, 0, none⟩)] [] (Ret (.int .i64 (sumE (fun x => x.o.qty) es))) := by
  obtain ⟨a, cap, hm, hs⟩ := hl
  obtain ⟨hb1, hb2⟩ := hb
  have l1 : LoadsF F b (0 + 1) (.slice a es.length cap) := ⟨_, _, _, hm, rfl⟩
  refine sp_of_code Tryz.func110 rfl rfl ?_
  (refine run_seq ?_; refine run_region ?_; refine xep rfl rfl ?_; refine runL_nil ?_; refine then_normal ?_; refine run_seq ?_; refine run_region ?_; refine xep rfl rfl ?_; refine runL_nil ?_; refine then_normal ?_; (iterate 2 refine run_seq ?_); refine run_region ?_; (iterate 2 refine xep rfl rfl ?_); refine xel rfl (ev_fieldAddr rfl rfl (fo rfl)) ?_; refine xel rfl (ev_loadF rfl rfl (sc rfl) l1) ?_; refine xel rfl (ev_len rfl rfl (se rfl)) ?_; refine xep rfl rfl ?_; refine runL_nil ?_; refine then_normal ?_; refine run_block ?_)
  clear l1
  refine run_loopK (σ := Nat) [9, 10, 11, 3] (fun i => [(9, .slice a es.length cap), (10, .int .i64 es.length), (11, .int .i64 i), (3, .int .i64 (sumE (fun x => x.o.qty) (es.take i)))]) (fun _ => []) (fun i => i ≤ es.length) (fun i => es.length - i) 0 (Nat.zero_le _) rfl (fun _ => rfl) ?_
  intro i gi
  have hs1 := sumE_in (g := (fun x => x.o.qty)) (l := es.take i) fun x m => by have := hb2 x (List.mem_of_mem_take m); omega
  have hlen : (es.take i).length ≤ 65536 := by rw [List.length_take]; omega
  (refine run_seq ?_; refine run_region ?_; refine xep rfl rfl ?_; refine runL_nil ?_; refine then_normal ?_; refine run_seq ?_)
  (refine run_cond rfl (fun hc => ?_) (fun hc => ?_) <;> (try simp only [z0, z1, z2, z3, z4, z5, z6, z7, z8, z9, Bool.not_true, Bool.not_false, Bool.false_or, Bool.true_and, true_and, and_true, false_or, or_false, reduceCtorEq, Bool.false_eq_true] at hc))
  · obtain ⟨b2, off, _, _, _, rfl, _⟩ := hs.pos (by omega)
    obtain ⟨x, hx⟩ : ∃ x, es[i]? = some x := ⟨es[i]'(by omega), List.getElem?_eq_getElem _⟩
    have l1 := SrcIs.row ec_len hs rfl hx
    have hx2 := hb2 x (List.mem_of_getElem? hx)
    have hst := sumE_take (g := (fun x => x.o.qty)) hx
    (refine run_skip ?_; refine then_normal ?_; refine run_seq ?_; refine run_block ?_; refine run_seq ?_; refine run_region ?_; refine xel rfl (ev_indexAddr rfl rfl rfl (se rfl) (by omega) (by omega)) ?_; refine xel rfl (ev_loadAF rfl rfl (ag rfl) (sz rfl) l1 rfl) ?_; refine runL_alloc rfl rfl rfl rfl rfl ze84 (fun _ => ?_); refine runL_store0 rfl rfl rfl rfl rfl (sz rfl) rfl rfl rfl rfl rfl ?_; refine runL_nil ?_; refine then_normal ?_; refine run_region ?_; refine xep rfl rfl ?_; (iterate 2 refine xel rfl (ev_fieldAddr rfl rfl (fo rfl)) ?_); refine xel rfl (ev_loadK rfl rfl (sc rfl) (memF (.head _)) rfl) ?_; refine xel rfl (ev_add rfl rfl rfl (by omega)) ?_; refine xep rfl rfl ?_; refine runL_nil ?_; refine in_normal ?_; refine then_normal ?_; refine run_region ?_; refine xel rfl (ev_add rfl rfl rfl (by omega)) ?_; refine xep rfl rfl ?_; refine runL_nil ?_; refine then_normal ?_)
    refine ⟨i + 1, by omega, by omega, ?_, [_], fun _ => rfl⟩
    rw [hst]; rfl
  · have : i = es.length := by omega
    subst this
    (refine run_exit ?_; (iterate 2 refine then_exit ?_); refine in_exit ?_; refine then_normal ?_)
    (refine run_seq ?_; refine run_region ?_; (iterate 2 refine xep rfl rfl ?_); refine runL_nil ?_; refine then_normal ?_; refine run_ret ?_)
    refine ⟨_, rfl, ?_⟩
    rw [List.take_length]; rfl
end Go.Proofs.YtmelpobcpcmdoaaGreat

set_option autoImplicit false
set_option linter.unusedSectionVars false
set_option linter.unusedSimpArgs false
set_option linter.unusedVariables false
namespace Go.Proofs.YtmelpobcpcmdoaaGreat
open Go Go.SL Go.Proofs
variable [Base]
set_option maxRecDepth 4000 in
theorem sp_lorders (F : Heap) (b : Nat) (p : Int) (es : List Ent) (hl : LvIn F b p es) (hb : es.length ≤ 65536) :
    Sp Tryz.prog F 72 [.pointer (some ⟨b, 0, none⟩)] [] (fun v h' => OwnS 35 9 v es.length (rows Ord.cells (es.map (·.o))) h') := by
  obtain ⟨a, cap, hm, hs⟩ := hl
  have l1 : LoadsF F b (0 + 1) (.slice a es.length cap) := ⟨_, _, _, hm, rfl⟩
  refine Sp.up ?_
  refine sp_of_code Tryz.func72 rfl rfl ?_
  (refine run_seq ?_; refine run_region ?_; refine xep rfl rfl ?_; refine runL_nil ?_; refine then_normal ?_; refine run_seq ?_; refine run_region ?_; refine xep rfl rfl ?_; refine runL_nil ?_; refine then_normal ?_; (iterate 2 refine run_seq ?_); refine run_region ?_; (iterate 2 refine xep rfl rfl ?_); refine xel rfl (ev_fieldAddr rfl rfl (fo rfl)) ?_; refine xel rfl (ev_loadF rfl rfl (sc rfl) l1) ?_; refine xel rfl (ev_len rfl rfl (se rfl)) ?_; refine xep rfl rfl ?_; refine runL_nil ?_; refine then_normal ?_; refine run_block ?_)
  clear l1
  refine run_loopK (σ := Nat × Option Addr × Nat × Heap) [9, 10, 11, 3] (fun s => [(9, .slice a es.length cap), (10, .int .i64 es.length), (11, .int .i64 s.1), (3, .slice s.2.1 s.1 s.2.2.1)]) (fun s => s.2.2.2)
    (fun s => s.1 ≤ es.length ∧ OwnS 35 9 (.slice s.2.1 s.1 s.2.2.1) s.1 (rows Ord.cells ((es.take s.1).map (·.o))) s.2.2.2) (fun s => es.length - s.1) (0, none, 0, []) ⟨Nat.zero_le _, .nil _ _⟩ rfl (fun _ => rfl) ?_
  rintro ⟨i, ao, co, A⟩ ⟨gi, own⟩
  dsimp only at gi own ⊢
  (refine run_seq ?_; refine run_region ?_; refine xep rfl rfl ?_; refine runL_nil ?_; refine then_normal ?_; refine run_seq ?_)
  (refine run_cond rfl (fun hc => ?_) (fun hc => ?_) <;> (try simp only [z0, z1, z2, z3, z4, z5, z6, z7, z8, z9, Bool.not_true, Bool.not_false, Bool.false_or, Bool.true_and, true_and, and_true, false_or, or_false, reduceCtorEq, Bool.false_eq_true] at hc))
  · obtain ⟨b2, off, _, _, _, rfl, _⟩ := hs.pos (by omega)
    obtain ⟨x, hx⟩ : ∃ x, es[i]? = some x := ⟨es[i]'(by omega), List.getElem?_eq_getElem _⟩
    have l1 := SrcIs.row ec_len hs rfl hx
    (refine run_skip ?_; refine then_normal ?_; refine run_seq ?_; refine run_block ?_; refine run_seq ?_; refine run_region ?_; refine xel rfl (ev_indexAddr rfl rfl rfl (se rfl) (by omega) (by omega)) ?_; refine xel rfl (ev_loadAF rfl rfl (ag rfl) (sz rfl) l1 rfl) ?_; refine runL_alloc rfl rfl rfl rfl rfl ze84 (fun _ => ?_); refine runL_store0 rfl rfl rfl rfl rfl (sz rfl) rfl rfl rfl rfl rfl ?_; refine runL_nil ?_; refine then_normal ?_; refine run_region ?_; refine xep rfl rfl ?_; refine xel rfl (ev_fieldAddr rfl rfl (fo rfl)) ?_; refine xel rfl (ev_loadAK rfl rfl (ag rfl) (sz rfl) (memF (.head _)) rfl) ?_)
    rename_i b3
    refine runL_buildSlice (l := x.o.cells) rfl rfl rfl rfl rfl (se rfl) ze35 rfl rfl rfl rfl rfl (fun b4 => ?_)
    skip
    refine runL_append (sl := x.o.cells) [blk b4 x.o.cells 35, blk b3 (ec x) 118] rfl rfl rfl rfl rfl rfl rfl (se rfl) (se rfl) ze35 rfl (byt rfl) own (fun y => by show cnt y (blk b4 x.o.cells 35 :: blk b3 (ec x) 118 :: A) = _; (first | rfl | (simp only [List.append_eq, cnt_append, cnt_cons, cnt_nil, blk]; omega) | (simp only [List.append_eq, cnt_append, cnt_cons, cnt_nil, blk]; done))) ⟨rfl, .inr ⟨b4, 0, _, _, _, rfl, memF (.head _), by simp [Ord.cells], rfl⟩⟩ rfl (by decide) (by decide) (by omega) ?_
    rintro v' A' own'
    have own2 := own'.snoc (x := x.o) (by rw [List.length_map, List.length_take]; omega)
    have e : (es.take i).map (·.o) ++ [x.o] = (es.take (i + 1)).map (·.o) := by
      have hi := (List.getElem?_eq_some_iff.1 hx).1
      rw [List.take_succ_eq_append_getElem hi, List.map_append, (List.getElem?_eq_some_iff.1 hx).2]; rfl
    rw [e, List.length_map, List.length_take, Nat.min_eq_left (by omega)] at own2
    obtain ⟨a5, c5, rfl, own3⟩ := own2.at
    (refine xep rfl rfl ?_; refine runL_nil ?_; refine in_normal ?_; refine then_normal ?_; refine run_region ?_; refine xel rfl (ev_add rfl rfl rfl (by omega)) ?_; refine xep rfl rfl ?_; refine runL_nil ?_; refine then_normal ?_)
    exact ⟨(i + 1, a5, c5, A'), ⟨by show i + 1 ≤ _; omega, own3⟩, by show es.length - (i + 1) < es.length - i; omega, rfl, _, fun _ => rfl⟩
  · have : i = es.length := by omega
    subst this
    (refine run_exit ?_; (iterate 2 refine then_exit ?_); refine in_exit ?_; refine then_normal ?_)
    (refine run_seq ?_; refine run_region ?_; (iterate 2 refine xep rfl rfl ?_); refine runL_nil ?_; refine then_normal ?_; refine run_ret ?_)
    refine ⟨_, rfl, A, [], ?_, fun x => by rw [List.append_nil]⟩
    rw [List.take_length] at own
    exact own
end Go.Proofs.YtmelpobcpcmdoaaGreat
