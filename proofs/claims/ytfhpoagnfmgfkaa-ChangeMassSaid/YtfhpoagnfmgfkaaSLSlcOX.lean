/- Contracts of functions of the given program over its translation, each proved by walking its text; used by the laws' rows. It proves no given statement by itself. -/
import Derived.Test.YtfhpoagnfmgfkaaSLSlcE
import Derived.Test.YtfhpoagnfmgfkaaSLOrdB
import Derived.Test.YtfhpoagnfmgfkaaSLBkW
import Derived.Test.YtfhpoagnfmgfkaaSLBk5X
import Derived.Test.YtfhpoagnfmgfkaaSLPlKX
import Derived.Test.YtfhpoagnfmgfkaaSLBkF
set_option autoImplicit false
set_option linter.unusedSectionVars false
set_option linter.unusedSimpArgs false
set_option linter.unusedVariables false
namespace Go.Proofs.Ytfhpoagnfmgfkaa
open Go Go.SL Go.Proofs
variable [Base]
set_option maxHeartbeats 1000000 in
theorem sp_delOrd (F A : Heap) (a : Option Addr) (k cap : Nat) (cl : List Value) (own : OwnS 24 9 (.slice a k cap) k cl A) (hcl : allCells cl = true) (i j : Nat) (hi : i ≤ j) (hj : j ≤ k) :
    Sp Try.prog F 36 [.slice a k cap, .int .i64 i, .int .i64 j] A (fun v h' => OwnS 24 9 v (k - (j - i)) (cl.take (i * 9) ++ cl.drop (j * 9)) h') := by
  have hkc : k ≤ cap := by
    obtain ⟨_, _, h1, h2⟩ := own.form
    cases h1; exact h2
  refine sp_of_code Try.func36 rfl rfl ?_
  (refine run_seq ?_; refine run_region ?_; refine xep rfl rfl ?_; refine runL_nil ?_; refine then_normal ?_; refine run_seq ?_; refine run_region ?_; (iterate 4 refine xep rfl rfl ?_); refine xel rfl (ev_len rfl rfl (se rfl)) ?_; refine xel rfl (ev_slice3 rfl rfl rfl rfl rfl (se rfl) (by omega) (by omega) (by omega) (by omega)) ?_; refine runL_nil ?_; refine then_normal ?_; (iterate 2 refine run_seq ?_); refine run_region ?_; (iterate 3 refine xep rfl rfl ?_); refine runL_nil ?_; refine then_normal ?_)
  (refine run_cond rfl (fun hc => ?_) (fun hc => ?_) <;> (try simp only [z0, z1, z2, z3, z4, z5, z6, z7, z8, z9, Bool.not_true, Bool.not_false, Bool.false_or, Bool.true_and, true_and, and_true, false_or, or_false, reduceCtorEq, Bool.false_eq_true] at hc))
  · have hij : i = j := by omega
    subst hij
    (refine run_seq ?_; refine run_region ?_; (iterate 2 refine xep rfl rfl ?_); refine runL_nil ?_; refine then_normal ?_; refine run_ret ?_; refine then_ret ?_)
    refine ⟨_, rfl, ?_⟩
    rw [List.take_append_drop, Nat.sub_self, Nat.sub_zero]
    exact own
  · obtain ⟨b, rest, cap', hv, rfl, hl, hr, hk⟩ := own.pos (by omega)
    cases hv
    have e1 : cl ++ rest = cl.take (i * 9) ++ (cl.drop (i * 9) ++ rest) := by rw [← List.append_assoc, List.take_append_drop]
    have l1 : (cl.take (i * 9)).length = i * 9 := by
      rw [List.length_take, hl]; omega
    have l2 : (cl.drop (j * 9)).length = (k - j) * 9 := by
      rw [List.length_drop, hl, Nat.sub_mul]
    (refine run_skip ?_; refine then_normal ?_; refine run_seq ?_; refine run_region ?_; refine xep rfl rfl ?_; refine xel rfl (ev_len rfl rfl (se rfl)) ?_; refine xep rfl rfl ?_; refine runL_nil ?_; refine then_normal ?_; refine run_seq ?_)
    refine run_region_D mo ?_
    (refine runD_q 0 rfl rfl (by kernel_rfl) ?_; refine ⟨_, fun _ => ev_pure rfl, ?_⟩; refine runD_q 1 rfl rfl (by kernel_rfl) ?_; refine ⟨_, fun _ => ev_pure rfl, ?_⟩; refine runD_q 2 rfl rfl (by kernel_rfl) ?_; refine ⟨_, fun _ => ev_sliceHi rfl rfl rfl (se rfl) (by omega) (by omega), ?_⟩; refine runD_q 3 rfl rfl (by kernel_rfl) ?_; refine ⟨_, fun _ => ev_pure rfl, ?_⟩; refine runD_q 4 rfl rfl (by kernel_rfl) ?_; refine ⟨_, fun _ => ev_pure rfl, ?_⟩; refine runD_q 5 rfl rfl (by kernel_rfl) ?_; refine ⟨_, fun _ => ev_sliceLo rfl rfl rfl (se rfl) (by omega) (by omega), ?_⟩; refine runD_1 6 (by kernel_rfl) rfl rfl rfl ?_)
    rw [e1]
    refine runL_appendIn (sl := cl.drop (j * 9)) rfl rfl rfl rfl rfl rfl rfl (se rfl) (se rfl) l1 ?_ ?_ ?_ (allCells_drop hcl _) ?_
    · rw [← e1, List.length_append, hl, l2]; omega
    · omega
    · refine ⟨l2, ?_⟩
      by_cases hjc : cap = j
      · exact .inl (by show k - j = 0; omega)
      · refine .inr ⟨b, 0 + j * 9, _, _, _, cutA_ne hjc, .head _, ?_, ?_⟩
        · rw [← e1, List.length_append, hl]; show 0 + j * 9 + (k - j) * 9 ≤ _; omega
        · rw [← e1, Nat.zero_add, List.drop_append_of_le_length (by rw [hl]; omega)]
          show List.take ((k - j) * 9) _ = _
          rw [← l2, List.take_left]
    generalize hc : cl.take (i * 9) ++ cl.drop (j * 9) ++ (cl.drop (i * 9) ++ rest).drop (cl.drop (j * 9)).length = c
    have lX : (cl.take (i * 9) ++ cl.drop (j * 9)).length = (i + (k - j)) * 9 := by rw [List.length_append, l1, l2, Nat.add_mul]
    have lc : c.length = cap * 9 := by
      rw [← hc, List.length_append, lX, List.length_drop, List.length_append, List.length_drop, hl, l2]; omega
    have tX : c.take ((i + (k - j)) * 9) = cl.take (i * 9) ++ cl.drop (j * 9) := by rw [← hc, ← lX, List.take_left]
    (refine runL_nil ?_; refine endS_d rfl ?_; refine runD_q 7 rfl rfl (by kernel_rfl) ?_; refine ⟨_, fun _ => ev_pure rfl, ?_⟩; refine runD_done (by kernel_rfl) ?_; refine then_normal ?_; refine run_seq ?_; refine run_region ?_; (iterate 2 refine xep rfl rfl ?_); refine xel rfl (ev_len rfl rfl (se rfl)) ?_; refine xep rfl rfl ?_; refine xel rfl (ev_sliceLH rfl rfl rfl rfl (se rfl) (by omega) (by omega) (by omega)) ?_)
    simp only [Int.toNat_natCast]
    rw [cutA_ne (by omega)]
    refine runL_clear rfl rfl rfl rfl (se rfl) ze24 rfl rfl (by rw [lc, Nat.zero_add]; have : (i + (k - j) + (k - (i + (k - j)))) * 9 ≤ cap * 9 := Nat.mul_le_mul_right _ (by omega); rw [Nat.add_mul] at this; exact this) (fun zs hzs => ?_)
    (refine runL_nil ?_; refine then_normal ?_; refine run_seq ?_; refine run_region ?_; (iterate 2 refine xep rfl rfl ?_); refine runL_nil ?_; refine then_normal ?_; refine run_ret ?_)
    refine ⟨_, rfl, .inr ⟨b, zs ++ c.drop (0 + (i + (k - j)) * 9 + (k - (i + (k - j))) * 9), cap, ?_, ?_, ?_, ?_, ?_⟩⟩
    · show Value.slice _ (i + (k - j)) cap = _
      congr 1; omega
    · rw [Nat.zero_add, tX, List.append_assoc]
    · rw [lX]; congr 1; omega
    · rw [List.length_append, hzs, List.length_drop, lc]
      have h1 : (k - (j - i)) = i + (k - j) := by omega
      have h2 : (i + (k - j) + (k - (i + (k - j)))) * 9 ≤ cap * 9 := Nat.mul_le_mul_right _ (by omega)
      rw [Nat.add_mul] at h2
      rw [h1]; omega
    · omega
theorem sp_idxOrd (F : Heap) (a : Option Addr) (k cap : Nat) {α : Type} (f : α → List Value) (hf : ∀ x, (f x).length = 9) (l : List α) (hl : l.length = k) (hkb : k ≤ 1048576) (hs : SrcIs F a k 9 (rows f l)) (g : FuncId) (hg : SL.Program.plainFn Try.prog g = true) (caps : List Value) (p : α → Bool)
    (hp : ∀ x ∈ l, Sp Try.prog F g (.agg ⟨f x⟩ :: caps) [] (Ret (.bool (p x)))) :
    Sp Try.prog F 50 [.slice a k cap, .func (.func g) #[] ⟨caps⟩] [] (Ret (.int .i64 (idxI p l))) := by
  refine sp_of_code Try.func50 rfl rfl ?_
  (refine run_seq ?_; refine run_region ?_; refine xep rfl rfl ?_; refine runL_nil ?_; refine then_normal ?_; (iterate 2 refine run_seq ?_); refine run_region ?_; refine xep rfl rfl ?_; refine xel rfl (ev_len rfl rfl (se rfl)) ?_; refine xep rfl rfl ?_; refine runL_nil ?_; refine then_normal ?_; refine run_block ?_)
  refine run_loopK (σ := Nat) [0, 1, 7, 8] (fun i => [(0, .slice a k cap), (1, .func (.func g) #[] ⟨caps⟩), (7, .int .i64 k), (8, .int .i64 i)]) (fun _ => []) (fun i => i ≤ k ∧ ∀ j y, j < i → l[j]? = some y → p y = false) (fun i => k - i) 0 ⟨Nat.zero_le _, fun j y h => absurd h (Nat.not_lt_zero _)⟩ rfl (fun _ => rfl) ?_
  rintro i ⟨g1, g2⟩
  (refine run_seq ?_; refine run_region ?_; refine xep rfl rfl ?_; refine runL_nil ?_; refine then_normal ?_; refine run_seq ?_)
  (refine run_cond rfl (fun hc => ?_) (fun hc => ?_) <;> (try simp only [z0, z1, z2, z3, z4, z5, z6, z7, z8, z9, Bool.not_true, Bool.not_false, Bool.false_or, Bool.true_and, true_and, and_true, false_or, or_false, reduceCtorEq, Bool.false_eq_true] at hc))
  · obtain ⟨b, off, _, _, _, rfl, _⟩ := hs.pos (by omega)
    obtain ⟨x, hx⟩ : ∃ x, l[i]? = some x := ⟨l[i]'(by omega), List.getElem?_eq_getElem _⟩
    have l1 := SrcIs.row hf hs hl hx
    (refine run_skip ?_; refine then_normal ?_; refine run_seq ?_; refine run_block ?_; refine run_seq ?_; refine run_region ?_; (iterate 2 refine xep rfl rfl ?_); refine runL_nil ?_; refine then_normal ?_; refine run_seq ?_; refine run_region ?_; (iterate 3 refine xep rfl rfl ?_); refine xel rfl (ev_indexAddr rfl rfl rfl (se rfl) (by omega) (by omega)) ?_)
    refine runL_ev rfl rfl rfl rfl (ev_loadAF rfl rfl (ag rfl) (sz rfl) l1 (hf x)) ?_
    skip
    refine runL_ev rfl rfl rfl rfl (ev_call (vs := [.agg ⟨f x⟩]) (caps := caps) (v := .bool (p x)) rfl rfl rfl hg (hp x (List.mem_of_getElem? hx))) ?_
    (refine runL_nil ?_; refine then_normal ?_)
    (refine run_cond rfl (fun hc => ?_) (fun hc => ?_) <;> (try simp only [z0, z1, z2, z3, z4, z5, z6, z7, z8, z9, Bool.not_true, Bool.not_false, Bool.false_or, Bool.true_and, true_and, and_true, false_or, or_false, reduceCtorEq, Bool.false_eq_true] at hc))
    · (refine run_seq ?_; refine run_region ?_; (iterate 2 refine xep rfl rfl ?_); refine runL_nil ?_; refine then_normal ?_; refine run_ret ?_; refine in_ret ?_; (iterate 2 refine then_ret ?_); refine in_ret ?_; refine then_ret ?_)
      refine ⟨_, rfl, ?_⟩
      rw [idxI_here hx hc g2]; rfl
    · have hpx := hc
      (refine run_skip ?_; refine in_normal ?_; refine then_normal ?_; refine run_region ?_; refine xel rfl (ev_add rfl rfl rfl (by omega)) ?_; refine xep rfl rfl ?_; refine runL_nil ?_; refine then_normal ?_)
      refine ⟨i + 1, ⟨by omega, fun j y hj hy => ?_⟩, by omega, rfl, [], fun _ => rfl⟩
      by_cases e : j = i
      · subst e; rw [hx] at hy; cases hy; exact hpx
      · exact g2 j y (by omega) hy
  · (refine run_exit ?_; (iterate 2 refine then_exit ?_); refine in_exit ?_; refine then_normal ?_)
    (refine run_seq ?_; refine run_region ?_; refine xep rfl rfl ?_; refine runL_nil ?_; refine then_normal ?_; refine run_ret ?_)
    refine ⟨_, rfl, ?_⟩
    rw [idxI_none fun j y hy => g2 j y (by have := (List.getElem?_eq_some_iff.1 hy).1; omega) hy]; rfl
end Go.Proofs.Ytfhpoagnfmgfkaa

set_option autoImplicit false
set_option linter.unusedSectionVars false
set_option linter.unusedSimpArgs false
set_option linter.unusedVariables false
namespace Go.Proofs.Ytfhpoagnfmgfkaa
open Go Go.SL Go.Proofs
variable [Base]
theorem sp_hit (F : Heap) (o : Ord) (p : Int) : Sp Try.prog F 38 [ov o, .int .i64 p] [] (Ret (.bool (hit o p))) := by
  refine sp_of_code Try.func38 rfl rfl ?_
  (refine run_seq ?_; refine run_region ?_; refine runL_box rfl rfl rfl rfl rfl rfl (fun _ => ?_); refine xep rfl rfl ?_; refine runL_nil ?_; refine then_normal ?_; (iterate 2 refine run_seq ?_); refine run_region ?_; refine xel rfl (ev_fieldAddr rfl rfl (fo rfl)) ?_; refine xel rfl (ev_loadK rfl rfl (sc rfl) (memF (.head _)) rfl) ?_; (iterate 2 refine xep rfl rfl ?_); (iterate 2 refine xgp rfl rfl rfl ?_); refine xep rfl rfl ?_; refine runL_nil ?_; refine then_normal ?_)
  (refine run_cond rfl (fun hc => ?_) (fun hc => ?_) <;> (try simp only [z0, z1, z2, z3, z4, z5, z6, z7, z8, z9, Bool.not_true, Bool.not_false, Bool.false_or, Bool.true_and, true_and, and_true, false_or, or_false, reduceCtorEq, Bool.false_eq_true] at hc))
  · (refine run_seq ?_; refine run_region ?_; refine xep rfl rfl ?_; refine runL_nil ?_; refine then_normal ?_; refine run_ret ?_; refine then_ret ?_)
    exact ⟨_, rfl, by unfold hit; rw [if_pos hc]; rfl⟩
  · have hc1 : ¬ (o.stop ≤ 0 ∨ p ≤ 0) := by omega
    (refine run_skip ?_; refine then_normal ?_; (iterate 2 refine run_seq ?_); refine run_region ?_; refine xel rfl (ev_fieldAddr rfl rfl (fo rfl)) ?_; refine xel rfl (ev_loadK rfl rfl (sc rfl) (memF (.head _)) rfl) ?_; refine xep rfl rfl ?_; refine runL_nil ?_; refine then_normal ?_)
    (refine run_cond rfl (fun hc => ?_) (fun hc => ?_) <;> (try simp only [z0, z1, z2, z3, z4, z5, z6, z7, z8, z9, Bool.not_true, Bool.not_false, Bool.false_or, Bool.true_and, true_and, and_true, false_or, or_false, reduceCtorEq, Bool.false_eq_true] at hc))
    · (refine run_seq ?_; refine run_region ?_; refine xep rfl rfl ?_; refine xel rfl (ev_fieldAddr rfl rfl (fo rfl)) ?_; refine xel rfl (ev_loadK rfl rfl (sc rfl) (memF (.head _)) rfl) ?_; (iterate 2 refine xep rfl rfl ?_); refine runL_nil ?_; refine then_normal ?_; refine run_ret ?_; refine then_ret ?_)
      exact ⟨_, rfl, by unfold hit; rw [if_neg hc1, if_pos hc]; rfl⟩
    · (refine run_skip ?_; refine then_normal ?_; refine run_seq ?_; refine run_region ?_; refine xep rfl rfl ?_; refine xel rfl (ev_fieldAddr rfl rfl (fo rfl)) ?_; refine xel rfl (ev_loadK rfl rfl (sc rfl) (memF (.head _)) rfl) ?_; (iterate 2 refine xep rfl rfl ?_); refine runL_nil ?_; refine then_normal ?_; refine run_ret ?_)
      exact ⟨_, rfl, by unfold hit; rw [if_neg hc1, if_neg hc]; rfl⟩
end Go.Proofs.Ytfhpoagnfmgfkaa

set_option autoImplicit false
set_option linter.unusedSectionVars false
set_option linter.unusedSimpArgs false
set_option linter.unusedVariables false
set_option maxRecDepth 4000
namespace Go.Proofs.Ytfhpoagnfmgfkaa
open Go Go.SL Go.Proofs
/-- A market: its book, and what waits. -/
structure Mk where
  (B : Bk)
  (W : List Ord)
def bare (o : Ord) : Ord := ⟨o.trader, o.id, o.firm, o.side, o.kind, o.price, o.qty, o.show_, 0⟩
def menter (o : Ord) (B : Bk) : Out × Bk := (⟨o, (badd (bare o) B).1.fs, (badd (bare o) B).1.left, (badd (bare o) B).1.rests, (badd (bare o) B).1.waits, (badd (bare o) B).1.self, (badd (bare o) B).1.err⟩, (badd (bare o) B).2)
def mfind (t i : Int) (M : Mk) : Ord × Bool := if (bfind t i M.B).2 = true then ((bfind t i M.B).1, true) else match M.W.findIdx? (isO t i) with
  | none => (o0, false)
  | some k => match M.W[k]? with
    | none => (o0, false)
    | some o => (o, true)
def mremove (t i : Int) (M : Mk) : Ord × Bool × Mk := if (bremove t i M.B).2.1 = true then ((bremove t i M.B).1, true, ⟨(bremove t i M.B).2.2, M.W⟩) else match M.W.findIdx? (isO t i) with
  | none => (o0, false, ⟨(bremove t i M.B).2.2, M.W⟩)
  | some k => match M.W[k]? with
    | none => (o0, false, ⟨(bremove t i M.B).2.2, M.W⟩)
    | some o => (o, true, ⟨(bremove t i M.B).2.2, M.W.take k ++ M.W.drop (k + 1)⟩)
def mlen (M : Mk) : Nat := lenL M.B.buys + lenL M.B.sells + M.W.length
def mrefused (o : Ord) (M : Mk) : Int :=
  if right o ≠ 0 then 1 else if (mfind o.trader o.id M).2 = true then 5
  else if 64 ≤ mlen M ∧ (0 < o.stop ∨ o.kind = 1 ∨ o.kind = 5) then 4 else 0
def mtrig : Nat → Mk → List Out × Mk
  | 0, M => ([], M)
  | n + 1, M => match M.W.findIdx? (fun o => hit o M.B.last) with
    | none => ([], M)
    | some k => match M.W[k]? with
      | none => ([], M)
      | some o => ((menter o M.B).1 :: (mtrig n ⟨(menter o M.B).2, M.W.take k ++ M.W.drop (k + 1)⟩).1, (mtrig n ⟨(menter o M.B).2, M.W.take k ++ M.W.drop (k + 1)⟩).2)
/-- What comes first of an order, ahead of those that it triggers. -/
def mfirst (o : Ord) (M : Mk) : Out × Mk :=
  if mrefused o M ≠ 0 then (⟨o, [], o.qty, false, false, false, mrefused o M⟩, M)
  else if 0 < o.stop ∧ hit o M.B.last = false then (⟨o, [], o.qty, false, true, false, 0⟩, ⟨M.B, M.W ++ [o]⟩)
  else ((menter o M.B).1, ⟨(menter o M.B).2, M.W⟩)
def madd (o : Ord) (M : Mk) : List Out × Mk := ((mfirst o M).1 :: (mtrig (mfirst o M).2.W.length (mfirst o M).2).1, (mtrig (mfirst o M).2.W.length (mfirst o M).2).2)
def emptyM : Mk := ⟨empty, []⟩
/-- Outcomes where they lie: each with its trades' slice. -/
def orow (t : (Option Addr × Nat) × Out) : List Value := outV t.1.1 t.1.2 t.2
theorem orow_len (t : (Option Addr × Nat) × Out) : (orow t).length = 15 := rfl
variable [Base]
def FsH : List ((Option Addr × Nat) × Out) → Heap → Prop
  | [], H => H = []
  | t :: r, H => ∃ A1 H2, OwnS 61 21 (.slice t.1.1 t.2.fs.length t.1.2) t.2.fs.length (rows fcell t.2.fs) A1 ∧ FsH r H2 ∧ H = A1 ++ H2
theorem FsH.append : ∀ {l m : List ((Option Addr × Nat) × Out)} {H G : Heap}, FsH l H → FsH m G → FsH (l ++ m) (H ++ G)
  | [], _, _, _, h, g => by
    have h : _ = [] := h
    subst h; exact g
  | t :: r, m, _, G, ⟨A1, H2, h1, h2, rfl⟩, g => ⟨A1, H2 ++ G, h1, h2.append g, by rw [List.append_assoc]⟩
def MkH (m : Nat) (M : Mk) (H : Heap) : Prop := ∃ b a c HB A, BkH b M.B HB ∧ OwnS 24 9 (.slice a M.W.length c) M.W.length (rows Ord.cells M.W) A ∧ H = blk m [.pointer (some ⟨b, 0, none⟩), .slice a M.W.length c] 67 :: (HB ++ A)
def MkIn (F : Heap) (m : Nat) (M : Mk) : Prop := ∃ b a c, BkIn F b M.B ∧ M.W.length ≤ c ∧ SrcIs F a M.W.length 9 (rows Ord.cells M.W) ∧ blk m [.pointer (some ⟨b, 0, none⟩), .slice a M.W.length c] 67 ∈ F
theorem MkH.in {m : Nat} {M : Mk} {H F : Heap} (h : MkH m M H) (hF : ∀ x ∈ H, x ∈ F) : MkIn F m M := by
  obtain ⟨b, a, c, HB, A, h1, own, rfl⟩ := h
  have hc : M.W.length ≤ c := by
    obtain ⟨_, _, hv, h2⟩ := own.form
    cases hv; exact h2
  exact ⟨b, a, c, h1.in fun x m => hF x (.tail _ (List.mem_append_left _ m)), hc, own.src fun x m => hF x (.tail _ (List.mem_append_right _ m)), hF _ (.head _)⟩
theorem MkIn.mono {F F' : Heap} {m : Nat} {M : Mk} (h : MkIn F m M) (hF : ∀ x ∈ F, x ∈ F') : MkIn F' m M := by
  obtain ⟨b, a, c, h1, h2, h3, h4⟩ := h
  exact ⟨b, a, c, h1.mono hF, h2, h3.mono hF, hF _ h4⟩
theorem MkIn.up {F A : Heap} {m : Nat} {M : Mk} (h : MkIn F m M) : MkIn (A ++ F) m M := h.mono fun x m => List.mem_append_right _ m
/-- A market that its functions can work on. -/
structure MW (M : Mk) : Prop where
  b : BW M.B
  no : 0 ≤ M.B.no
  len : mlen M ≤ 64
  w : ∀ o ∈ M.W, rightP o
end Go.Proofs.Ytfhpoagnfmgfkaa

set_option autoImplicit false
set_option linter.unusedSectionVars false
set_option linter.unusedSimpArgs false
set_option linter.unusedVariables false
set_option maxRecDepth 4000
set_option maxHeartbeats 16000000
namespace Go.Proofs.Ytfhpoagnfmgfkaa
open Go Go.SL Go.Proofs
theorem bare_right {o : Ord} (h : rightP o) : rightP (bare o) := by
  obtain ⟨h1, h2, h3, h4, h5, h6, h7, h8, h9, h10, h11, h12, h13, h14, h15, h16, h17, h18, h19⟩ := h
  exact ⟨h1, h2, h3, h4, h5, h6, h7, h8, h9, h10, h11, h12, h13, h14, Int.le_refl _, by show (0 : Int) ≤ 1048576; decide, h17, h18, h19⟩
theorem side_len (B : Bk) {s : Int} (hs : s = 1 ∨ s = 2) : lenL B.buys + lenL B.sells = lenL (B.side s) + lenL (B.side (3 - s)) := by
  rcases hs with rfl | rfl
  · rfl
  · exact Nat.add_comm _ _
theorem cut_len {W : List Ord} {k : Nat} {o : Ord} (h : W[k]? = some o) : (W.take k ++ W.drop (k + 1)).length + 1 = W.length := by
  have := (List.getElem?_eq_some_iff.1 h).1
  rw [List.length_append, List.length_take, List.length_drop]; omega
theorem cut_mem {W : List Ord} {k : Nat} {o : Ord} (h : o ∈ W.take k ++ W.drop (k + 1)) : o ∈ W := by
  rcases List.mem_append.1 h with h | h
  · exact List.mem_of_mem_take h
  · exact List.mem_of_mem_drop h
variable [Base]
theorem badd_lenL {o : Ord} {B : Bk} (hw : BW B) : lenL (badd o B).2.buys + lenL (badd o B).2.sells ≤ lenL B.buys + lenL B.sells + (if rests o = true then 1 else 0) := by
  by_cases h0 : brefused o B = 0
  · have hr := right_zero (refused_zero h0).1
    have hs : o.side = 1 ∨ o.side = 2 := by unfold rightP at hr; omega
    have hq : 1 ≤ o.qty ∧ o.qty ≤ 1048576 ∧ 0 ≤ o.show_ := by unfold rightP at hr; omega
    have M := match_is (B.side (3 - o.side)) o B.last B.no (hw.side _).1 (by omega)
    have A := add_is hs h0
    generalize matchL o (B.side (3 - o.side)) B.last B.no = m at *
    have h1 := side_len B hs
    have h2 := side_len (badd o B).2 hs
    have h3 := A.theirs
    have h4 := A.mine
    have h5 := M.len
    have h6 := hw.side o.side
    rw [h2, h3, h4, h1]
    split
    · rename_i hc
      simp only [Bool.and_eq_true, decide_eq_true_eq] at hc
      have hmq := M.qty
      have := (restL_is (o := wqs o m.qty (min o.show_ m.qty)) h6.1 (by omega) (by show 1 ≤ m.qty ∧ m.qty ≤ 1048576; omega) (by show 0 ≤ min o.show_ m.qty; omega)).2
      rw [this, if_pos hc.2]; omega
    · omega
  · rw [refused_is h0]; dsimp only; omega
theorem menter_ok {o : Ord} {M : Mk} (hw : BW M.B) (hn : 0 ≤ M.B.no) : BW (menter o M.B).2 ∧ M.B.no ≤ (menter o M.B).2.no ∧ (menter o M.B).2.no ≤ M.B.no + 1048576 ∧ lenL (menter o M.B).2.buys + lenL (menter o M.B).2.sells ≤ lenL M.B.buys + lenL M.B.sells + (if rests o = true then 1 else 0) := by
  have h := badd_BW (o := bare o) hw hn
  have h2 := badd_lenL (o := bare o) hw
  exact ⟨h.1, h.2.1, h.2.2, h2⟩
theorem mtrig_ok : ∀ (n : Nat) (M : Mk), MW M → MW (mtrig n M).2 ∧ M.B.no ≤ (mtrig n M).2.B.no ∧ (mtrig n M).2.B.no ≤ M.B.no + n * 1048576 ∧ (mtrig n M).1.length ≤ n
  | 0, M, h => ⟨h, Int.le_refl _, by show M.B.no ≤ M.B.no + ((0 : Nat) : Int) * 1048576; omega, Nat.le_refl _⟩
  | n + 1, M, h => by
    unfold mtrig
    cases hf : M.W.findIdx? (fun o => hit o M.B.last) with
    | none => exact ⟨h, Int.le_refl _, by dsimp only; push_cast; omega, Nat.zero_le _⟩
    | some k =>
      dsimp only
      cases ho : M.W[k]? with
      | none => exact ⟨h, Int.le_refl _, by dsimp only; push_cast; omega, Nat.zero_le _⟩
      | some o =>
        dsimp only
        have e := menter_ok (o := o) h.b h.no
        have hc := cut_len ho
        have hl := h.len
        unfold mlen at hl
        have ih := mtrig_ok n ⟨(menter o M.B).2, M.W.take k ++ M.W.drop (k + 1)⟩ ⟨e.1, by have := h.no; show 0 ≤ (menter o M.B).2.no; omega, by
          unfold mlen
          have := e.2.2.2
          dsimp only
          split at this <;> omega, fun x m => h.w x (cut_mem m)⟩
        obtain ⟨i1, i2, i3, i4⟩ := ih
        dsimp only at i2 i3 ⊢
        refine ⟨i1, by omega, by push_cast; omega, by rw [List.length_cons]; omega⟩
theorem mfirst_ok {o : Ord} {M : Mk} (h : MW M) : MW (mfirst o M).2 ∧ M.B.no ≤ (mfirst o M).2.B.no ∧ (mfirst o M).2.B.no ≤ M.B.no + 1048576 := by
  unfold mfirst
  split
  · exact ⟨h, Int.le_refl _, by dsimp only; omega⟩
  · rename_i hr
    have hr : mrefused o M = 0 := by omega
    unfold mrefused at hr
    split at hr
    · cases hr
    · rename_i hright
      have hright : rightP o := right_zero (by omega)
      split at hr
      · cases hr
      · split at hr
        · cases hr
        · rename_i hfull
          have hl := h.len
          split
          · rename_i hw
            refine ⟨⟨h.b, h.no, ?_, ?_⟩, Int.le_refl _, by dsimp only; omega⟩
            · unfold mlen at hl hfull ⊢
              simp only [List.length_append, List.length_singleton]
              omega
            · intro x m
              rcases List.mem_append.1 m with m | m
              · exact h.w x m
              · simp only [List.mem_singleton] at m
                subst m; exact hright
          · have e := menter_ok (o := o) h.b h.no
            refine ⟨⟨e.1, by have := h.no; show 0 ≤ (menter o M.B).2.no; omega, ?_, h.w⟩, e.2.1, e.2.2.1⟩
            have h4 := e.2.2.2
            unfold mlen at hl hfull ⊢
            dsimp only
            by_cases hre : rests o = true
            · rw [if_pos hre] at h4
              have := rests_kind hre
              omega
            · rw [if_neg hre] at h4; omega
theorem madd_ok {o : Ord} {M : Mk} (h : MW M) : MW (madd o M).2 ∧ M.B.no ≤ (madd o M).2.B.no ∧ (madd o M).2.B.no ≤ M.B.no + 68157440 ∧ (madd o M).1.length ≤ 65 := by
  obtain ⟨h1, h2, h3⟩ := mfirst_ok (o := o) h
  obtain ⟨i1, i2, i3, i4⟩ := mtrig_ok (mfirst o M).2.W.length _ h1
  have hl := h1.len
  unfold mlen at hl
  unfold madd
  exact ⟨i1, by dsimp only; omega, by dsimp only; omega, by rw [List.length_cons]; omega⟩
theorem emptyM_ok : MW emptyM := ⟨empty_BW, Int.le_refl _, by decide, fun _ m => nomatch m⟩
end Go.Proofs.Ytfhpoagnfmgfkaa

set_option autoImplicit false
set_option linter.unusedSectionVars false
set_option linter.unusedSimpArgs false
set_option linter.unusedVariables false
set_option maxRecDepth 4000
namespace Go.Proofs.Ytfhpoagnfmgfkaa
open Go Go.SL Go.Proofs
/-! The same by fuel: closed sentences are reckoned so. -/
def menterF (n : Nat) (o : Ord) (B : Bk) : Out × Bk := (⟨o, (baddF n (bare o) B).1.fs, (baddF n (bare o) B).1.left, (baddF n (bare o) B).1.rests, (baddF n (bare o) B).1.waits, (baddF n (bare o) B).1.self, (baddF n (bare o) B).1.err⟩, (baddF n (bare o) B).2)
theorem menter_eqF (n : Nat) (o : Ord) (B : Bk) (h : o.qty.toNat ≤ n) : menter o B = menterF n o B := by
  unfold menter menterF
  rw [badd_eqF n (bare o) B h]
def mtrigF (f : Nat) : Nat → Mk → List Out × Mk
  | 0, M => ([], M)
  | n + 1, M => match M.W.findIdx? (fun o => hit o M.B.last) with
    | none => ([], M)
    | some k => match M.W[k]? with
      | none => ([], M)
      | some o => ((menterF f o M.B).1 :: (mtrigF f n ⟨(menterF f o M.B).2, M.W.take k ++ M.W.drop (k + 1)⟩).1, (mtrigF f n ⟨(menterF f o M.B).2, M.W.take k ++ M.W.drop (k + 1)⟩).2)
theorem mtrig_eqF (f : Nat) : ∀ (n : Nat) (M : Mk), (∀ x ∈ M.W, x.qty.toNat ≤ f) → mtrig n M = mtrigF f n M
  | 0, _, _ => rfl
  | n + 1, M, h => by
    unfold mtrig mtrigF
    cases hf : M.W.findIdx? (fun o => hit o M.B.last) with
    | none => rfl
    | some k =>
      dsimp only
      cases ho : M.W[k]? with
      | none => rfl
      | some o =>
        dsimp only
        rw [menter_eqF f o _ (h o (List.mem_of_getElem? ho)), mtrig_eqF f n ⟨(menterF f o M.B).2, M.W.take k ++ M.W.drop (k + 1)⟩ fun x m => h x (cut_mem m)]
def mfirstF (f : Nat) (o : Ord) (M : Mk) : Out × Mk :=
  if mrefused o M ≠ 0 then (⟨o, [], o.qty, false, false, false, mrefused o M⟩, M)
  else if 0 < o.stop ∧ hit o M.B.last = false then (⟨o, [], o.qty, false, true, false, 0⟩, ⟨M.B, M.W ++ [o]⟩)
  else ((menterF f o M.B).1, ⟨(menterF f o M.B).2, M.W⟩)
theorem mfirst_eqF (f : Nat) (o : Ord) (M : Mk) (h : o.qty.toNat ≤ f) : mfirst o M = mfirstF f o M := by
  unfold mfirst mfirstF
  rw [menter_eqF f o M.B h]
theorem mfirst_W {o x : Ord} {M : Mk} (h : x ∈ (mfirst o M).2.W) : x ∈ M.W ∨ x = o := by
  unfold mfirst at h
  split at h
  · exact .inl h
  · split at h
    · rcases List.mem_append.1 h with h | h
      · exact .inl h
      · exact .inr (by simpa using h)
    · exact .inl h
def maddF (f : Nat) (o : Ord) (M : Mk) : List Out × Mk := ((mfirstF f o M).1 :: (mtrigF f (mfirstF f o M).2.W.length (mfirstF f o M).2).1, (mtrigF f (mfirstF f o M).2.W.length (mfirstF f o M).2).2)
theorem madd_eqF (f : Nat) (o : Ord) (M : Mk) (h : o.qty.toNat ≤ f) (hW : ∀ x ∈ M.W, x.qty.toNat ≤ f) : madd o M = maddF f o M := by
  unfold madd maddF
  rw [← mfirst_eqF f o M h]
  rw [mtrig_eqF f _ _ fun x m => by
    rcases mfirst_W m with m | rfl
    · exact hW x m
    · exact h]
def uA : Ord := ⟨1, 1, 1, 2, 1, 10, 5, 0, 0⟩
def uB : Ord := ⟨1, 2, 1, 2, 1, 11, 5, 0, 0⟩
def uC : Ord := ⟨2, 1, 2, 1, 1, 12, 3, 0, 10⟩
def uD : Ord := ⟨3, 1, 3, 1, 1, 10, 5, 0, 0⟩
def m1 : Mk := ⟨⟨[], [⟨10, [⟨uA, 5⟩]⟩], 0, 0⟩, []⟩
def m2 : Mk := ⟨⟨[], [⟨10, [⟨uA, 5⟩]⟩, ⟨11, [⟨uB, 5⟩]⟩], 0, 0⟩, []⟩
def m3 : Mk := ⟨⟨[], [⟨10, [⟨uA, 5⟩]⟩, ⟨11, [⟨uB, 5⟩]⟩], 0, 0⟩, [uC]⟩
def m4 : Mk := ⟨⟨[], [⟨11, [⟨wq uB 2, 2⟩]⟩], 11, 2⟩, []⟩
theorem u1e : madd uA emptyM = ([⟨uA, [], 5, true, false, false, 0⟩], m1) := (madd_eqF 16 _ _ (by decide) (by decide)).trans (by kernel_rfl)
theorem u2e : madd uB m1 = ([⟨uB, [], 5, true, false, false, 0⟩], m2) := (madd_eqF 16 _ _ (by decide) (by decide)).trans (by kernel_rfl)
theorem u3e : madd uC m2 = ([⟨uC, [], 3, false, true, false, 0⟩], m3) := (madd_eqF 16 _ _ (by decide) (by decide)).trans (by kernel_rfl)
theorem u4e : madd uD m3 = ([⟨uD, [⟨uA, uD, 10, 5, 1⟩], 0, false, false, false, 0⟩, ⟨uC, [⟨uB, bare uC, 11, 3, 2⟩], 0, false, false, false, 0⟩], m4) := (madd_eqF 16 _ _ (by decide) (by intro x h; simp [m3] at h; subst h; decide)).trans (by kernel_rfl)
end Go.Proofs.Ytfhpoagnfmgfkaa
