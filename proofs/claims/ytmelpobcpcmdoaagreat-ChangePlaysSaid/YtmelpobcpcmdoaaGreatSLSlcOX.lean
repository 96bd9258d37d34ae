/- Contracts of functions of the given program over its translation, each proved by walking its text; used by the laws' rows. It proves no given statement by itself. -/
import Derived.Test.YtmelpobcpcmdoaaGreatSLSlcEX
import Derived.Test.YtmelpobcpcmdoaaGreatSLBkAX
import Derived.Test.YtmelpobcpcmdoaaGreatSLRBkOX
import Derived.Test.YtmelpobcpcmdoaaGreatSLBk8X
set_option autoImplicit false
set_option linter.unusedSectionVars false
set_option linter.unusedSimpArgs false
set_option linter.unusedVariables false
namespace Go.Proofs.YtmelpobcpcmdoaaGreat
open Go Go.SL Go.Proofs
variable [Base]
set_option maxHeartbeats 1000000 in
theorem sp_delOrd (F A : Heap) (a : Option Addr) (k cap : Nat) (cl : List Value) (own : OwnS 35 9 (.slice a k cap) k cl A) (hcl : allCells cl = true) (i j : Nat) (hi : i ≤ j) (hj : j ≤ k) :
    Sp Tryz.prog F 55 [.slice a k cap, .int .i64 i, .int .i64 j] A (fun v h' => OwnS 35 9 v (k - (j - i)) (cl.take (i * 9) ++ cl.drop (j * 9)) h') := by
  have hkc : k ≤ cap := by
    obtain ⟨_, _, h1, h2⟩ := own.form
    cases h1; exact h2
  refine sp_of_code Tryz.func55 rfl rfl ?_
  (refine run_seq ?_; refine run_region ?_; refine xep rfl rfl ?_; refine runL_nil ?_; refine then_normal ?_; refine run_seq ?_; refine run_region ?_; (iterate 4 refine xep rfl rfl ?_); refine xel rfl (ev_len rfl rfl (se rfl)) ?_; refine xel rfl (ev_slice3 rfl rfl rfl rfl rfl (se rfl) (by omega) (by omega) (by omega) (by omega)) ?_; refine runL_nil ?_; refine then_normal ?_; (iterate 2 refine run_seq ?_); refine run_region ?_; (iterate 3 refine xep rfl rfl ?_); refine runL_nil ?_; refine then_normal ?_)
  (refine run_cond rfl (fun hc => ?_) (fun hc => ?_) <;> (try simp only [z0, z1, z2, z3, z4, z5, z6, z7, z8, z9, Bool.not_true, Bool.not_false, Bool.false_or, Bool.true_and, true_and, and_true, false_or, or_false, reduceCtorEq, Bool.false_eq_true] at hc))
  · have hij : i = j := by omega
    subst hij
    (refine run_seq ?_; refine run_region ?_; (iterate 2 refine xep rfl rfl ?_); refine runL_nil ?_; refine then_normal ?_; refine run_ret ?_; refine then_ret ?_)
    refine ⟨_, rfl, ?_⟩
    rw [List.take_append_drop, Nat.sub_self, Nat.sub_zero]
    exact own
  · obtain ⟨b, rest, cap', hv, rfl, hl, hr, hk⟩ := own.pos (by omega)
    cases hv
    have e1 : cl ++ rest = cl.take (i * 9) ++ (cl.drop (i * 9) ++ rest) := by rw [← List.append_assoc, List.take_append_drop]
    have l1 : (cl.take (i * 9)).length = i * 9 := by
      rw [List.length_take, hl]; omega
    have l2 : (cl.drop (j * 9)).length = (k - j) * 9 := by
      rw [List.length_drop, hl, Nat.sub_mul]
    (refine run_skip ?_; refine then_normal ?_; refine run_seq ?_; refine run_region ?_; refine xep rfl rfl ?_; refine xel rfl (ev_len rfl rfl (se rfl)) ?_; refine xep rfl rfl ?_; refine runL_nil ?_; refine then_normal ?_; refine run_seq ?_)
    refine run_region_D mo ?_
    (refine runD_q 0 rfl rfl (by kernel_rfl) ?_; refine ⟨_, fun _ => ev_pure rfl, ?_⟩; refine runD_q 1 rfl rfl (by kernel_rfl) ?_; refine ⟨_, fun _ => ev_pure rfl, ?_⟩; refine runD_q 2 rfl rfl (by kernel_rfl) ?_; refine ⟨_, fun _ => ev_sliceHi rfl rfl rfl (se rfl) (by omega) (by omega), ?_⟩; refine runD_q 3 rfl rfl (by kernel_rfl) ?_; refine ⟨_, fun _ => ev_pure rfl, ?_⟩; refine runD_q 4 rfl rfl (by kernel_rfl) ?_; refine ⟨_, fun _ => ev_pure rfl, ?_⟩; refine runD_q 5 rfl rfl (by kernel_rfl) ?_; refine ⟨_, fun _ => ev_sliceLo rfl rfl rfl (se rfl) (by omega) (by omega), ?_⟩; refine runD_1 6 (by kernel_rfl) rfl rfl rfl ?_)
    rw [e1]
    refine runL_appendIn (sl := cl.drop (j * 9)) rfl rfl rfl rfl rfl rfl rfl (se rfl) (se rfl) l1 ?_ ?_ ?_ (allCells_drop hcl _) ?_
    · rw [← e1, List.length_append, hl, l2]; omega
    · omega
    · refine ⟨l2, ?_⟩
      by_cases hjc : cap = j
      · exact .inl (by show k - j = 0; omega)
      · refine .inr ⟨b, 0 + j * 9, _, _, _, cutA_ne hjc, .head _, ?_, ?_⟩
        · rw [← e1, List.length_append, hl]; show 0 + j * 9 + (k - j) * 9 ≤ _; omega
        · rw [← e1, Nat.zero_add, List.drop_append_of_le_length (by rw [hl]; omega)]
          show List.take ((k - j) * 9) _ = _
          rw [← l2, List.take_left]
    generalize hc : cl.take (i * 9) ++ cl.drop (j * 9) ++ (cl.drop (i * 9) ++ rest).drop (cl.drop (j * 9)).length = c
    have lX : (cl.take (i * 9) ++ cl.drop (j * 9)).length = (i + (k - j)) * 9 := by rw [List.length_append, l1, l2, Nat.add_mul]
    have lc : c.length = cap * 9 := by
      rw [← hc, List.length_append, lX, List.length_drop, List.length_append, List.length_drop, hl, l2]; omega
    have tX : c.take ((i + (k - j)) * 9) = cl.take (i * 9) ++ cl.drop (j * 9) := by rw [← hc, ← lX, List.take_left]
    (refine runL_nil ?_; refine endS_d rfl ?_; refine runD_q 7 rfl rfl (by kernel_rfl) ?_; refine ⟨_, fun _ => ev_pure rfl, ?_⟩; refine runD_done (by kernel_rfl) ?_; refine then_normal ?_; refine run_seq ?_; refine run_region ?_; (iterate 2 refine xep rfl rfl ?_); refine xel rfl (ev_len rfl rfl (se rfl)) ?_; refine xep rfl rfl ?_; refine xel rfl (ev_sliceLH rfl rfl rfl rfl (se rfl) (by omega) (by omega) (by omega)) ?_)
    simp only [Int.toNat_natCast]
    rw [cutA_ne (by omega)]
    refine runL_clear rfl rfl rfl rfl (se rfl) ze35 rfl rfl (by rw [lc, Nat.zero_add]; have : (i + (k - j) + (k - (i + (k - j)))) * 9 ≤ cap * 9 := Nat.mul_le_mul_right _ (by omega); rw [Nat.add_mul] at this; exact this) (fun zs hzs => ?_)
    (refine runL_nil ?_; refine then_normal ?_; refine run_seq ?_; refine run_region ?_; (iterate 2 refine xep rfl rfl ?_); refine runL_nil ?_; refine then_normal ?_; refine run_ret ?_)
    refine ⟨_, rfl, .inr ⟨b, zs ++ c.drop (0 + (i + (k - j)) * 9 + (k - (i + (k - j))) * 9), cap, ?_, ?_, ?_, ?_, ?_⟩⟩
    · show Value.slice _ (i + (k - j)) cap = _
      congr 1; omega
    · rw [Nat.zero_add, tX, List.append_assoc]
    · rw [lX]; congr 1; omega
    · rw [List.length_append, hzs, List.length_drop, lc]
      have h1 : (k - (j - i)) = i + (k - j) := by omega
      have h2 : (i + (k - j) + (k - (i + (k - j)))) * 9 ≤ cap * 9 := Nat.mul_le_mul_right _ (by omega)
      rw [Nat.add_mul] at h2
      rw [h1]; omega
    · omega
theorem sp_idxOrd (F : Heap) (a : Option Addr) (k cap : Nat) {α : Type} (f : α → List Value) (hf : ∀ x, (f x).length = 9) (l : List α) (hl : l.length = k) (hkb : k ≤ 1048576) (hs : SrcIs F a k 9 (rows f l)) (g : FuncId) (hg : SL.Program.plainFn Tryz.prog g = true) (caps : List Value) (p : α → Bool)
    (hp : ∀ x ∈ l, Sp Tryz.prog F g (.agg ⟨f x⟩ :: caps) [] (Ret (.bool (p x)))) :
    Sp Tryz.prog F 53 [.slice a k cap, .func (.func g) #[] ⟨caps⟩] [] (Ret (.int .i64 (idxI p l))) := by
  refine sp_of_code Tryz.func53 rfl rfl ?_
  (refine run_seq ?_; refine run_region ?_; refine xep rfl rfl ?_; refine runL_nil ?_; refine then_normal ?_; (iterate 2 refine run_seq ?_); refine run_region ?_; refine xep rfl rfl ?_; refine xel rfl (ev_len rfl rfl (se rfl)) ?_; refine xep rfl rfl ?_; refine runL_nil ?_; refine then_normal ?_; refine run_block ?_)
  refine run_loopK (σ := Nat) [0, 1, 7, 8] (fun i => [(0, .slice a k cap), (1, .func (.func g) #[] ⟨caps⟩), (7, .int .i64 k), (8, .int .i64 i)]) (fun _ => []) (fun i => i ≤ k ∧ ∀ j y, j < i → l[j]? = some y → p y = false) (fun i => k - i) 0 ⟨Nat.zero_le _, fun j y h => absurd h (Nat.not_lt_zero _)⟩ rfl (fun _ => rfl) ?_
  rintro i ⟨g1, g2⟩
  (refine run_seq ?_; refine run_region ?_; refine xep rfl rfl ?_; refine runL_nil ?_; refine then_normal ?_; refine run_seq ?_)
  (refine run_cond rfl (fun hc => ?_) (fun hc => ?_) <;> (try simp only [z0, z1, z2, z3, z4, z5, z6, z7, z8, z9, Bool.not_true, Bool.not_false, Bool.false_or, Bool.true_and, true_and, and_true, false_or, or_false, reduceCtorEq, Bool.false_eq_true] at hc))
  · obtain ⟨b, off, _, _, _, rfl, _⟩ := hs.pos (by omega)
    obtain ⟨x, hx⟩ : ∃ x, l[i]? = some x := ⟨l[i]'(by omega), List.getElem?_eq_getElem _⟩
    have l1 := SrcIs.row hf hs hl hx
    (refine run_skip ?_; refine then_normal ?_; refine run_seq ?_; refine run_block ?_; refine run_seq ?_; refine run_region ?_; (iterate 2 refine xep rfl rfl ?_); refine runL_nil ?_; refine then_normal ?_; refine run_seq ?_; refine run_region ?_; (iterate 3 refine xep rfl rfl ?_); refine xel rfl (ev_indexAddr rfl rfl rfl (se rfl) (by omega) (by omega)) ?_)
    refine runL_ev rfl rfl rfl rfl (ev_loadAF rfl rfl (ag rfl) (sz rfl) l1 (hf x)) ?_
    skip
    refine runL_ev rfl rfl rfl rfl (ev_call (vs := [.agg ⟨f x⟩]) (caps := caps) (v := .bool (p x)) rfl rfl rfl hg (hp x (List.mem_of_getElem? hx))) ?_
    (refine runL_nil ?_; refine then_normal ?_)
    (refine run_cond rfl (fun hc => ?_) (fun hc => ?_) <;> (try simp only [z0, z1, z2, z3, z4, z5, z6, z7, z8, z9, Bool.not_true, Bool.not_false, Bool.false_or, Bool.true_and, true_and, and_true, false_or, or_false, reduceCtorEq, Bool.false_eq_true] at hc))
    · (refine run_seq ?_; refine run_region ?_; (iterate 2 refine xep rfl rfl ?_); refine runL_nil ?_; refine then_normal ?_; refine run_ret ?_; refine in_ret ?_; (iterate 2 refine then_ret ?_); refine in_ret ?_; refine then_ret ?_)
      refine ⟨_, rfl, ?_⟩
      rw [idxI_here hx hc g2]; rfl
    · have hpx := hc
      (refine run_skip ?_; refine in_normal ?_; refine then_normal ?_; refine run_region ?_; refine xel rfl (ev_add rfl rfl rfl (by omega)) ?_; refine xep rfl rfl ?_; refine runL_nil ?_; refine then_normal ?_)
      refine ⟨i + 1, ⟨by omega, fun j y hj hy => ?_⟩, by omega, rfl, [], fun _ => rfl⟩
      by_cases e : j = i
      · subst e; rw [hx] at hy; cases hy; exact hpx
      · exact g2 j y (by omega) hy
  · (refine run_exit ?_; (iterate 2 refine then_exit ?_); refine in_exit ?_; refine then_normal ?_)
    (refine run_seq ?_; refine run_region ?_; refine xep rfl rfl ?_; refine runL_nil ?_; refine then_normal ?_; refine run_ret ?_)
    refine ⟨_, rfl, ?_⟩
    rw [idxI_none fun j y hy => g2 j y (by have := (List.getElem?_eq_some_iff.1 hy).1; omega) hy]; rfl
end Go.Proofs.YtmelpobcpcmdoaaGreat

set_option autoImplicit false
set_option linter.unusedSectionVars false
set_option linter.unusedSimpArgs false
set_option linter.unusedVariables false
set_option maxRecDepth 4000
namespace Go.Proofs.YtmelpobcpcmdoaaGreat
open Go Go.SL Go.Proofs
/-- A market: its book, and what waits. -/
structure Mk where
  (B : Bk)
  (W : List Ord)
def bare (o : Ord) : Ord := ⟨o.trader, o.id, o.firm, o.side, o.kind, o.price, o.qty, o.show_, 0⟩
def menter (o : Ord) (B : Bk) : Out × Bk := (⟨o, (badd (bare o) B).1.fs, (badd (bare o) B).1.left, (badd (bare o) B).1.rests, (badd (bare o) B).1.waits, (badd (bare o) B).1.self, (badd (bare o) B).1.err⟩, (badd (bare o) B).2)
def mfind (t i : Int) (M : Mk) : Ord × Bool := if (bfind t i M.B).2 = true then ((bfind t i M.B).1, true) else match M.W.findIdx? (isO t i) with
  | none => (o0, false)
  | some k => match M.W[k]? with
    | none => (o0, false)
    | some o => (o, true)
def mremove (t i : Int) (M : Mk) : Ord × Bool × Mk := if (bremove t i M.B).2.1 = true then ((bremove t i M.B).1, true, ⟨(bremove t i M.B).2.2, M.W⟩) else match M.W.findIdx? (isO t i) with
  | none => (o0, false, ⟨(bremove t i M.B).2.2, M.W⟩)
  | some k => match M.W[k]? with
    | none => (o0, false, ⟨(bremove t i M.B).2.2, M.W⟩)
    | some o => (o, true, ⟨(bremove t i M.B).2.2, M.W.take k ++ M.W.drop (k + 1)⟩)
def mlen (M : Mk) : Nat := lenL M.B.buys + lenL M.B.sells + M.W.length
def mrefused (o : Ord) (M : Mk) : Int :=
  if right o ≠ 0 then 1 else if (mfind o.trader o.id M).2 = true then 5
  else if 64 ≤ mlen M ∧ (0 < o.stop ∨ o.kind = 1 ∨ o.kind = 5) then 4 else 0
def mtrig : Nat → Mk → List Out × Mk
  | 0, M => ([], M)
  | n + 1, M => match M.W.findIdx? (fun o => hit o M.B.last) with
    | none => ([], M)
    | some k => match M.W[k]? with
      | none => ([], M)
      | some o => ((menter o M.B).1 :: (mtrig n ⟨(menter o M.B).2, M.W.take k ++ M.W.drop (k + 1)⟩).1, (mtrig n ⟨(menter o M.B).2, M.W.take k ++ M.W.drop (k + 1)⟩).2)
/-- What comes first of an order, ahead of those that it triggers. -/
def mfirst (o : Ord) (M : Mk) : Out × Mk :=
  if mrefused o M ≠ 0 then (⟨o, [], o.qty, false, false, false, mrefused o M⟩, M)
  else if 0 < o.stop ∧ hit o M.B.last = false then (⟨o, [], o.qty, false, true, false, 0⟩, ⟨M.B, M.W ++ [o]⟩)
  else ((menter o M.B).1, ⟨(menter o M.B).2, M.W⟩)
def madd (o : Ord) (M : Mk) : List Out × Mk := ((mfirst o M).1 :: (mtrig (mfirst o M).2.W.length (mfirst o M).2).1, (mtrig (mfirst o M).2.W.length (mfirst o M).2).2)
def emptyM : Mk := ⟨empty, []⟩
/-- Outcomes where they lie: each with its trades' slice. -/
def orow (t : (Option Addr × Nat) × Out) : List Value := outV t.1.1 t.1.2 t.2
theorem orow_len (t : (Option Addr × Nat) × Out) : (orow t).length = 15 := rfl
variable [Base]
def FsH : List ((Option Addr × Nat) × Out) → Heap → Prop
  | [], H => H = []
  | t :: r, H => ∃ A1 H2, OwnS 93 21 (.slice t.1.1 t.2.fs.length t.1.2) t.2.fs.length (rows fcell t.2.fs) A1 ∧ FsH r H2 ∧ H = A1 ++ H2
theorem FsH.append : ∀ {l m : List ((Option Addr × Nat) × Out)} {H G : Heap}, FsH l H → FsH m G → FsH (l ++ m) (H ++ G)
  | [], _, _, _, h, g => by
    have h : _ = [] := h
    subst h; exact g
  | t :: r, m, _, G, ⟨A1, H2, h1, h2, rfl⟩, g => ⟨A1, H2 ++ G, h1, h2.append g, by rw [List.append_assoc]⟩
def MkH (m : Nat) (M : Mk) (H : Heap) : Prop := ∃ b a c HB A, BkH b M.B HB ∧ OwnS 35 9 (.slice a M.W.length c) M.W.length (rows Ord.cells M.W) A ∧ H = blk m [.pointer (some ⟨b, 0, none⟩), .slice a M.W.length c] 55 :: (HB ++ A)
def MkIn (F : Heap) (m : Nat) (M : Mk) : Prop := ∃ b a c, BkIn F b M.B ∧ M.W.length ≤ c ∧ SrcIs F a M.W.length 9 (rows Ord.cells M.W) ∧ blk m [.pointer (some ⟨b, 0, none⟩), .slice a M.W.length c] 55 ∈ F
theorem MkH.in {m : Nat} {M : Mk} {H F : Heap} (h : MkH m M H) (hF : ∀ x ∈ H, x ∈ F) : MkIn F m M := by
  obtain ⟨b, a, c, HB, A, h1, own, rfl⟩ := h
  have hc : M.W.length ≤ c := by
    obtain ⟨_, _, hv, h2⟩ := own.form
    cases hv; exact h2
  exact ⟨b, a, c, h1.in fun x m => hF x (.tail _ (List.mem_append_left _ m)), hc, own.src fun x m => hF x (.tail _ (List.mem_append_right _ m)), hF _ (.head _)⟩
theorem MkIn.mono {F F' : Heap} {m : Nat} {M : Mk} (h : MkIn F m M) (hF : ∀ x ∈ F, x ∈ F') : MkIn F' m M := by
  obtain ⟨b, a, c, h1, h2, h3, h4⟩ := h
  exact ⟨b, a, c, h1.mono hF, h2, h3.mono hF, hF _ h4⟩
theorem MkIn.up {F A : Heap} {m : Nat} {M : Mk} (h : MkIn F m M) : MkIn (A ++ F) m M := h.mono fun x m => List.mem_append_right _ m
/-- A market that its functions can work on. -/
structure MW (M : Mk) : Prop where
  b : BW M.B
  no : 0 ≤ M.B.no
  len : mlen M ≤ 64
  w : ∀ o ∈ M.W, rightP o
end Go.Proofs.YtmelpobcpcmdoaaGreat

set_option autoImplicit false
set_option linter.unusedSectionVars false
set_option linter.unusedSimpArgs false
set_option linter.unusedVariables false
set_option maxRecDepth 4000
set_option maxHeartbeats 32000000
namespace Go.Proofs.YtmelpobcpcmdoaaGreat
open Go Go.SL Go.Proofs
variable [Base]
theorem sp_sbook (F : Heap) (m b : Nat) (a : Option Addr) (k c : Nat) (hm : blk m [.pointer (some ⟨b, 0, none⟩), .slice a k c] 55 ∈ F) : Sp Tryz.prog F 39 [.pointer (some ⟨m, 0, none⟩)] [] (Ret (.pointer (some ⟨b, 0, none⟩))) := by
  have l1 : LoadsF F m (0 + 0) (.pointer (some ⟨b, 0, none⟩)) := ⟨_, _, _, hm, rfl⟩
  refine sp_of_code Tryz.func39 rfl rfl ?_
  (refine run_seq ?_; refine run_region ?_; refine xep rfl rfl ?_; refine runL_nil ?_; refine then_normal ?_; refine run_seq ?_; refine run_region ?_; (iterate 2 refine xep rfl rfl ?_); refine xel rfl (ev_fieldAddr rfl rfl (fo rfl)) ?_; refine xel rfl (ev_loadF rfl rfl (sc rfl) l1) ?_; refine xep rfl rfl ?_; refine runL_nil ?_; refine then_normal ?_; refine run_ret ?_)
  exact ⟨_, rfl, rfl⟩
theorem sp_slen (F : Heap) (m : Nat) (M : Mk) (h : MkIn F m M) (hw : BW M.B) (hl : mlen M ≤ 64) : Sp Tryz.prog F 51 [.pointer (some ⟨m, 0, none⟩)] [] (Ret (.int .i64 (mlen M : Nat))) := by
  obtain ⟨b, a, c, h1, h2, h3, hm⟩ := h
  have l1 : LoadsF F m (0 + 0) (.pointer (some ⟨b, 0, none⟩)) := ⟨_, _, _, hm, rfl⟩
  have l2 : LoadsF F m (0 + 1) (.slice a M.W.length c) := ⟨_, _, _, hm, rfl⟩
  have q1 := sp_blen F b M.B h1 hw
  have q1 := fun G : Heap => sp_blen (G ++ F) b M.B h1.up hw
  unfold mlen at hl ⊢
  refine sp_of_code Tryz.func51 rfl rfl ?_
  (refine run_seq ?_; refine run_region ?_; refine xep rfl rfl ?_; refine runL_nil ?_; refine then_normal ?_; refine run_seq ?_; refine run_region_draw mo (by kernel_rfl) ?_; (iterate 2 refine xqp rfl rfl ?_); refine xql rfl (ev_fieldAddr rfl rfl (fo rfl)) ?_; refine xql rfl (ev_loadF rfl rfl (sc rfl) l1) ?_; refine xql rfl (ev_callQ rfl rfl rfl (pf rfl) (q1 ..)) ?_; (iterate 2 refine xqp rfl rfl ?_); refine xql rfl (ev_fieldAddr rfl rfl (fo rfl)) ?_; refine xql rfl (ev_loadF rfl rfl (sc rfl) l2) ?_; refine xql rfl (ev_len rfl rfl (se rfl)) ?_; refine xql rfl (ev_add rfl rfl rfl (by omega)) ?_; refine xqp rfl rfl ?_; refine runQ_nil ?_; refine then_normal ?_; refine run_ret ?_)
  refine ⟨_, rfl, congrArg (Value.int .i64) ?_⟩
  push_cast; omega
theorem sp_splace1 (F : Heap) (c1 c2 : Nat) (t i : Int) (x : Ord) (l1 : LoadsF F c1 0 (.int .i64 t)) (l2 : LoadsF F c2 0 (.int .i64 i)) :
    Sp Tryz.prog F 83 [ov x, .pointer (some ⟨c1, 0, none⟩), .pointer (some ⟨c2, 0, none⟩)] [] (Ret (.bool (isO t i x))) := by
  refine sp_of_code Tryz.func83 rfl rfl ?_
  (refine run_seq ?_; refine run_region ?_; refine runL_box rfl rfl rfl rfl rfl rfl (fun _ => ?_); refine xep rfl rfl ?_; refine runL_nil ?_; refine then_normal ?_; refine run_seq ?_; refine run_region ?_; refine xel rfl (ev_fieldAddr rfl rfl (fo rfl)) ?_; refine xel rfl (ev_loadK rfl rfl (sc rfl) (memF (.head _)) rfl) ?_; refine xel rfl (ev_loadF rfl rfl (sc rfl) l1) ?_; (iterate 2 refine xep rfl rfl ?_); refine xgl rfl rfl (fun hq => ev_fieldAddr rfl rfl (fo rfl)) ?_; refine xgl rfl rfl (fun hq => ev_loadK rfl rfl (sc rfl) (memF (.head _)) rfl) ?_; refine xgl rfl rfl (fun hq => ev_loadF rfl rfl (sc rfl) l2) ?_; refine xgp rfl rfl rfl ?_; (iterate 2 refine xep rfl rfl ?_); refine runL_nil ?_; refine then_normal ?_; refine run_ret ?_)
  exact ⟨_, rfl, rfl⟩
theorem sp_splace (F : Heap) (m : Nat) (M : Mk) (h : MkIn F m M) (hl : M.W.length ≤ 65536) (t i : Int) :
    Sp Tryz.prog F 63 [.pointer (some ⟨m, 0, none⟩), .int .i64 t, .int .i64 i] [] (Ret (.int .i64 (idxI (isO t i) M.W))) := by
  obtain ⟨b, a, c, h1, h2, hs, hm⟩ := h
  have l1 : LoadsF F m (0 + 1) (.slice a M.W.length c) := ⟨_, _, _, hm, rfl⟩
  refine sp_of_code Tryz.func63 rfl rfl ?_
  (refine run_seq ?_; refine run_region ?_; (iterate 2 refine runL_box rfl rfl rfl rfl rfl rfl (fun _ => ?_)); refine xep rfl rfl ?_; refine runL_nil ?_; refine then_normal ?_; refine run_seq ?_; refine run_region ?_; (iterate 2 refine xep rfl rfl ?_); refine xel rfl (ev_fieldAddr rfl rfl (fo rfl)) ?_; refine xel rfl (ev_loadF rfl rfl (sc rfl) l1) ?_; refine xel rfl (ev_makeFunc rfl rfl) ?_)
  rename_i c1 c2
  refine runL_ev rfl rfl rfl rfl (ev_callQ rfl rfl rfl (pf rfl) (sp_idxOrd _ a M.W.length c Ord.cells oc_len M.W rfl (by omega) hs.up 83 (pf rfl) _ (isO t i) fun x _ => sp_splace1 _ c1 c2 t i x ⟨_, _, _, memF (.tail _ (.head _)), rfl⟩ ⟨_, _, _, memF (.head _), rfl⟩)) ?_
  (refine xep rfl rfl ?_; refine runL_nil ?_; refine then_normal ?_; refine run_ret ?_)
  exact ⟨_, rfl, rfl⟩
theorem sp_strig1 (F : Heap) (c1 m b : Nat) (a : Option Addr) (k c : Nat) (B : Bk) (x : Ord) (l0 : LoadsF F c1 0 (.pointer (some ⟨m, 0, none⟩))) (hm : blk m [.pointer (some ⟨b, 0, none⟩), .slice a k c] 55 ∈ F) (hB : BkIn F b B) :
    Sp Tryz.prog F 54 [ov x, .pointer (some ⟨c1, 0, none⟩)] [] (Ret (.bool (hit x B.last))) := by
  refine sp_of_code Tryz.func54 rfl rfl ?_
  (refine run_seq ?_; refine run_region ?_; refine runL_box rfl rfl rfl rfl rfl rfl (fun _ => ?_); refine xep rfl rfl ?_; refine runL_nil ?_; refine then_normal ?_; refine run_seq ?_)
  rename_i bx
  refine RunC.perm (h' := [] ++ [blk bx x.cells 35]) (fun y => rfl) ?_
  refine RunC.freezeR ?_
  have l1 : LoadsF ([blk bx x.cells 35] ++ F) m (0 + 0) (.pointer (some ⟨b, 0, none⟩)) := ⟨_, _, _, List.mem_append_right _ hm, rfl⟩
  have l2 : LoadsF ([blk bx x.cells 35] ++ F) c1 0 (.pointer (some ⟨m, 0, none⟩)) := l0.up
  have l3 : AggF ([blk bx x.cells 35] ++ F) bx 0 x.cells := ⟨_, _, _, memF (.head _), Nat.le_refl _, rfl⟩
  have q1 := fun G : Heap => sp_blast (G ++ ([blk bx x.cells 35] ++ F)) b B (hB.mono fun y m => by simp [m])
  have q2 := fun F => sp_hit F x B.last

  refine run_region_D mo ?_
  (refine runD_q 0 rfl rfl (by kernel_rfl) ?_; refine ⟨_, fun _ => ev_loadAK rfl rfl (ag rfl) (sz rfl) (memR (memF (.head _))) rfl, ?_⟩; refine runD_q 1 rfl rfl (by kernel_rfl) ?_; refine ⟨_, fun _ => ev_loadF rfl rfl (sc rfl) l2, ?_⟩; refine runD_q 2 rfl rfl (by kernel_rfl) ?_; refine ⟨_, fun _ => ev_pure rfl, ?_⟩; refine runD_q 3 rfl rfl (by kernel_rfl) ?_; refine ⟨_, fun _ => ev_fieldAddr rfl rfl (fo rfl), ?_⟩; refine runD_q 4 rfl rfl (by kernel_rfl) ?_; refine ⟨_, fun _ => ev_loadF rfl rfl (sc rfl) l1, ?_⟩; refine runD_q 5 rfl rfl (by kernel_rfl) ?_; refine ⟨_, fun _ => ev_callQ rfl rfl rfl (pf rfl) (q1 ..), ?_⟩; refine runD_q 6 rfl rfl (by kernel_rfl) ?_; refine ⟨_, fun _ => ev_callQ rfl rfl rfl (pf rfl) (q2 ..), ?_⟩; refine runD_q 7 rfl rfl (by kernel_rfl) ?_; refine ⟨_, fun _ => ev_pure rfl, ?_⟩; refine runD_done (by kernel_rfl) ?_; refine then_normal ?_; refine run_ret ?_)
  exact ⟨_, rfl, rfl⟩
theorem sp_snew (F : Heap) : Sp Tryz.prog F 4 [] [] (fun v h' => ∃ m, v = .pointer (some ⟨m, 0, none⟩) ∧ MkH m emptyM h') := by
  refine sp_of_code Tryz.func4 rfl rfl ?_
  (refine run_seq ?_; refine run_region ?_; refine xep rfl rfl ?_; refine runL_nil ?_; refine then_normal ?_; refine run_seq ?_; refine run_region ?_)
  refine runL_call0 rfl rfl rfl rfl rfl rfl rfl (pf rfl) (sp_bnew _) ?_
  rintro v H ⟨b, rfl, hH⟩
  (refine xel rfl (ev_build rfl pl55 rfl) ?_; refine runL_box rfl rfl rfl rfl rfl rfl (fun _ => ?_); refine xep rfl rfl ?_; refine runL_nil ?_; refine then_normal ?_; refine run_ret ?_)
  rename_i m
  exact ⟨_, rfl, m, rfl, b, none, 0, H, [], hH, .nil _ _, by simp; rfl⟩
end Go.Proofs.YtmelpobcpcmdoaaGreat

set_option autoImplicit false
set_option linter.unusedSectionVars false
set_option linter.unusedSimpArgs false
set_option linter.unusedVariables false
set_option maxRecDepth 4000
set_option maxHeartbeats 64000000
namespace Go.Proofs.YtmelpobcpcmdoaaGreat
open Go Go.SL Go.Proofs
variable [Base]
theorem sp_sFind (F : Heap) (m : Nat) (M : Mk) (h : MkIn F m M) (hw : BW M.B) (hl : M.W.length ≤ 65536) (t i : Int) :
    Sp Tryz.prog F 36 [.pointer (some ⟨m, 0, none⟩), .int .i64 t, .int .i64 i] [] (Ret (.tuple #[ov (mfind t i M).1, .bool (mfind t i M).2])) := by
  have q2 := fun G : Heap => sp_splace (G ++ F) m M h.up hl t i
  obtain ⟨b, a, c, h1, h2, hs, hm⟩ := h
  have l1 : LoadsF F m (0 + 0) (.pointer (some ⟨b, 0, none⟩)) := ⟨_, _, _, hm, rfl⟩
  have l2 : LoadsF F m (0 + 1) (.slice a M.W.length c) := ⟨_, _, _, hm, rfl⟩
  have q1 := fun G : Heap => sp_bFind (G ++ F) b M.B h1.up hw t i
  refine sp_of_codeR Tryz.func36 rfl rfl ?_
  (refine run_seq ?_; refine run_region ?_; refine runL_alloc rfl rfl rfl rfl rfl ze35 (fun _ => ?_); refine xep rfl rfl ?_; refine runL_nil ?_; refine then_normal ?_; (iterate 2 refine run_seq ?_); refine run_region ?_; (iterate 2 refine xep rfl rfl ?_); refine xel rfl (ev_fieldAddr rfl rfl (fo rfl)) ?_; refine xel rfl (ev_loadF rfl rfl (sc rfl) l1) ?_; (iterate 2 refine xep rfl rfl ?_); refine xel rfl (ev_callQ rfl rfl rfl (pf rfl) (q1 ..)) ?_; (iterate 3 refine xep rfl rfl ?_); refine runL_alloc rfl rfl rfl rfl rfl ze35 (fun _ => ?_); refine runL_store0 rfl rfl rfl rfl rfl (sz rfl) rfl rfl rfl rfl rfl ?_; refine xep rfl rfl ?_; refine runL_nil ?_; refine then_normal ?_; refine run_seq ?_; refine run_region ?_; refine xep rfl rfl ?_; refine runL_nil ?_; refine then_normal ?_)
  rename_i b6 b8
  unfold mfind
  cases hf : (bfind t i M.B).2 with
  | true =>
    refine run_condT rfl rfl ?_
    refine RunC.perm (h' := [blk b8 (bfind t i M.B).1.cells 35, blk b6 o0.cells 35]) (fun x => rfl) ?_
    (refine run_seq ?_; refine run_region ?_; refine xel rfl (ev_loadAK rfl rfl (ag rfl) (sz rfl) (memF (.head _)) rfl) ?_; refine runL_store1 rfl rfl rfl rfl rfl (sz rfl) rfl rfl rfl rfl rfl ?_; refine xep rfl rfl ?_; refine runL_nil ?_; refine then_normal ?_; refine run_ret ?_; refine then_ret ?_)
    exact ⟨_, .agg rfl (memF (.tail _ (.head _))) (ag rfl) (sz rfl) rfl (.tmp rfl .nil), by rw [if_pos rfl]; rfl⟩
  | false =>
    refine run_condF rfl rfl ?_
    refine RunC.perm (h' := [blk b8 (bfind t i M.B).1.cells 35, blk b6 o0.cells 35]) (fun x => rfl) ?_
    (refine run_skip ?_; refine then_normal ?_; (iterate 2 refine run_seq ?_); refine run_region ?_; (iterate 3 refine xep rfl rfl ?_); refine xel rfl (ev_callQ rfl rfl rfl (pf rfl) (q2 ..)) ?_; refine xep rfl rfl ?_; refine runL_nil ?_; refine then_normal ?_; refine run_seq ?_; refine run_region ?_; (iterate 2 refine xep rfl rfl ?_); refine runL_nil ?_; refine then_normal ?_)
    rcases idxI_cases (isO t i) M.W with ⟨hk, hno⟩ | ⟨k, x, hk, hx, hp, hn⟩
    · have e : M.W.findIdx? (isO t i) = none := by rw [List.findIdx?_eq_none_iff]; exact hno
      rw [hk, e]
      refine run_condF rfl rfl ?_
      (refine run_skip ?_; refine then_normal ?_; refine run_seq ?_; refine run_region ?_; refine xel rfl (ev_build rfl pl35 rfl) ?_; refine runL_store1 rfl rfl rfl rfl rfl (sz rfl) rfl rfl rfl rfl rfl ?_; refine xep rfl rfl ?_; refine runL_nil ?_; refine then_normal ?_; refine run_ret ?_)
      exact ⟨_, .agg rfl (memF (.tail _ (.head _))) (ag rfl) (sz rfl) rfl (.tmp rfl .nil), by rw [if_neg (by simp)]; rfl⟩
    · have hlt := (List.getElem?_eq_some_iff.1 hx).1
      have e : M.W.findIdx? (isO t i) = some k := by
        rw [List.findIdx?_eq_some_iff_getElem]
        refine ⟨hlt, by rw [(List.getElem?_eq_some_iff.1 hx).2]; exact hp, fun j hj => ?_⟩
        have := hn j _ hj (List.getElem?_eq_getElem (by omega))
        rw [this]; simp
      rw [hk, e]
      obtain ⟨b2, off, _, _, _, rfl, _⟩ := hs.pos (by omega)
      have l3 := SrcIs.row oc_len hs rfl hx
      refine run_condT rfl (decide_eq_true (by omega)) ?_
      (refine run_seq ?_; refine run_region ?_; (iterate 2 refine xep rfl rfl ?_); refine xel rfl (ev_fieldAddr rfl rfl (fo rfl)) ?_; refine xel rfl (ev_loadF rfl rfl (sc rfl) l2) ?_; refine xep rfl rfl ?_; refine xel rfl (ev_indexAddr rfl rfl rfl (se rfl) (by omega) (by omega)) ?_; refine xel rfl (ev_loadAF rfl rfl (ag rfl) (sz rfl) l3 rfl) ?_; refine runL_store1 rfl rfl rfl rfl rfl (sz rfl) rfl rfl rfl rfl rfl ?_; refine xep rfl rfl ?_; refine runL_nil ?_; refine then_normal ?_; refine run_ret ?_; refine then_ret ?_)
      exact ⟨_, .agg rfl (memF (.tail _ (.head _))) (ag rfl) (sz rfl) rfl (.tmp rfl .nil), by rw [if_neg (by simp)]; dsimp only; rw [hx]; rfl⟩
theorem sp_srefused (F : Heap) (m : Nat) (M : Mk) (h : MkIn F m M) (hw : MW M) (o : Ord) (hk : InI o.kind) :
    Sp Tryz.prog F 22 [.pointer (some ⟨m, 0, none⟩), ov o] [] (Ret (.int .i64 (mrefused o M))) := by
  have hl : M.W.length ≤ 64 := by have := hw.len; unfold mlen at this; omega
  have hln := hw.len
  have q1 := fun F => sp_right F o hk
  have q2 := fun G : Heap => sp_sFind (G ++ F) m M h.up hw.b (by omega) o.trader o.id
  have q3 := fun G : Heap => sp_slen (G ++ F) m M h.up hw.b hw.len
  refine sp_of_code Tryz.func22 rfl rfl ?_
  (refine run_seq ?_; refine run_region ?_; refine runL_box rfl rfl rfl rfl rfl rfl (fun _ => ?_); refine xep rfl rfl ?_; refine runL_nil ?_; refine then_normal ?_; (iterate 2 refine run_seq ?_); refine run_region ?_; refine xel rfl (ev_loadAK rfl rfl (ag rfl) (sz rfl) (memF (.head _)) rfl) ?_; refine xel rfl (ev_callQ rfl rfl rfl (pf rfl) (q1 ..)) ?_; refine xep rfl rfl ?_; refine runL_nil ?_; refine then_normal ?_)
  rename_i b3
  by_cases c1 : right o ≠ 0
  · have e : mrefused o M = 1 := by unfold mrefused; rw [if_pos c1]
    rw [e]
    refine run_condT rfl (by simp [c1]) ?_
    (refine run_seq ?_; refine run_region ?_; refine xep rfl rfl ?_; refine runL_nil ?_; refine then_normal ?_; refine run_ret ?_; refine then_ret ?_)
    exact ⟨_, rfl, rfl⟩
  · have c1' : right o = 0 := by omega
    refine run_condF rfl (by simp [c1']) ?_
    refine RunC.perm (h' := [blk b3 o.cells 35]) (fun x => rfl) ?_
    (refine run_skip ?_; refine then_normal ?_; (iterate 2 refine run_seq ?_); refine run_region ?_; refine xep rfl rfl ?_; refine xel rfl (ev_fieldAddr rfl rfl (fo rfl)) ?_; refine xel rfl (ev_loadK rfl rfl (sc rfl) (memF (.head _)) rfl) ?_; refine xel rfl (ev_fieldAddr rfl rfl (fo rfl)) ?_; refine xel rfl (ev_loadK rfl rfl (sc rfl) (memF (.head _)) rfl) ?_; refine xel rfl (ev_callQ rfl rfl rfl (pf rfl) (q2 ..)) ?_; (iterate 3 refine xep rfl rfl ?_); refine runL_alloc rfl rfl rfl rfl rfl ze35 (fun _ => ?_); refine runL_store0 rfl rfl rfl rfl rfl (sz rfl) rfl rfl rfl rfl rfl ?_; refine xep rfl rfl ?_; refine runL_nil ?_; refine then_normal ?_; refine run_seq ?_; refine run_region ?_; refine xep rfl rfl ?_; refine runL_nil ?_; refine then_normal ?_)
    rename_i b5
    cases c2 : (mfind o.trader o.id M).2 with
    | true =>
      have e : mrefused o M = 5 := by unfold mrefused; rw [if_neg c1, if_pos c2]
      rw [e]
      refine run_condT rfl rfl ?_
      (refine run_seq ?_; refine run_region ?_; refine xep rfl rfl ?_; refine runL_nil ?_; refine then_normal ?_; refine run_ret ?_; refine then_ret ?_)
      exact ⟨_, rfl, rfl⟩
    | false =>
      refine run_condF rfl rfl ?_
      refine RunC.perm (h' := [blk b5 (mfind o.trader o.id M).1.cells 35, blk b3 o.cells 35]) (fun x => rfl) ?_
      (refine run_skip ?_; refine then_normal ?_; (iterate 2 refine run_seq ?_); refine run_region ?_; refine xep rfl rfl ?_; refine xel rfl (ev_callQ rfl rfl rfl (pf rfl) (q3 ..)) ?_; (iterate 2 refine xep rfl rfl ?_); refine xgl rfl rfl (fun hq => ev_fieldAddr rfl rfl (fo rfl)) ?_; refine xgl rfl rfl (fun hq => ev_loadK rfl rfl (sc rfl) (memF (.tail _ (.head _))) rfl) ?_; (iterate 2 refine xgp rfl rfl rfl ?_); refine xgl rfl rfl (fun hq => ev_fieldAddr rfl rfl (fo rfl)) ?_; refine xgl rfl rfl (fun hq => ev_loadK rfl rfl (sc rfl) (memF (.tail _ (.head _))) rfl) ?_; (iterate 3 refine xgp rfl rfl rfl ?_); refine xgl rfl rfl (fun hq => ev_fieldAddr rfl rfl (fo rfl)) ?_; refine xgl rfl rfl (fun hq => ev_loadK rfl rfl (sc rfl) (memF (.tail _ (.head _))) rfl) ?_; (iterate 2 refine xgp rfl rfl rfl ?_); refine xep rfl rfl ?_; refine runL_nil ?_; refine then_normal ?_)
      by_cases c3 : 64 ≤ mlen M ∧ (0 < o.stop ∨ o.kind = 1 ∨ o.kind = 5)
      · have e : mrefused o M = 4 := by unfold mrefused; rw [if_neg c1, if_neg (by rw [c2]; simp), if_pos c3]
        rw [e]
        refine run_condT rfl ?_ ?_
        · have h64 : decide ((64 : Int) ≤ (mlen M : Nat)) = true := decide_eq_true (by omega)
          rw [h64]
          rcases c3.2 with h | h | h <;> simp [h]
        (refine run_seq ?_; refine run_region ?_; refine xep rfl rfl ?_; refine runL_nil ?_; refine then_normal ?_; refine run_ret ?_; refine then_ret ?_)
        exact ⟨_, rfl, rfl⟩
      · have e : mrefused o M = 0 := by unfold mrefused; rw [if_neg c1, if_neg (by rw [c2]; simp), if_neg c3]
        rw [e]
        refine run_condF rfl ?_ ?_
        · by_cases h64 : 64 ≤ mlen M
          · have h9 : ¬ (0 < o.stop ∨ o.kind = 1 ∨ o.kind = 5) := fun h => c3 ⟨h64, h⟩
            have n1 : ¬ 0 < o.stop := fun h => h9 (.inl h)
            have n2 : ¬ o.kind = 1 := fun h => h9 (.inr (.inl h))
            have n3 : ¬ o.kind = 5 := fun h => h9 (.inr (.inr h))
            simp [n1, n2, n3]
          · rw [decide_eq_false (by omega : ¬ (64 : Int) ≤ (mlen M : Nat))]; rfl
        (refine run_skip ?_; refine then_normal ?_; refine run_seq ?_; refine run_region ?_; refine xep rfl rfl ?_; refine runL_nil ?_; refine then_normal ?_; refine run_ret ?_)
        exact ⟨_, rfl, rfl⟩
end Go.Proofs.YtmelpobcpcmdoaaGreat

set_option autoImplicit false
set_option linter.unusedSectionVars false
set_option linter.unusedSimpArgs false
set_option linter.unusedVariables false
set_option maxRecDepth 4000
namespace Go.Proofs.YtmelpobcpcmdoaaGreat
open Go Go.SL Go.Proofs
/-! The same by fuel: closed sentences are reckoned so. -/
def takeF : Nat → Int → Int → List Ent → List (Ord × Int) × Bool × List Ent
  | 0, _, _, es => ([], false, es)
  | n + 1, firm, q, es =>
    if 0 < q then
      match es with
      | [] => ([], false, [])
      | e :: l =>
        if e.o.firm = firm then ([], true, e :: l)
        else if 0 < min q e.seen then
          ((e.o, min q e.seen) :: (takeF n firm (q - min q e.seen) (giveE e l (min q e.seen))).1, (takeF n firm (q - min q e.seen) (giveE e l (min q e.seen))).2)
        else ([], false, e :: l)
    else ([], false, es)
theorem take_eqF : ∀ (n : Nat) (firm q : Int) (es : List Ent), q.toNat ≤ n → take firm q es = takeF n firm q es
  | 0, firm, q, es, h => by rw [take_le (by omega)]; rfl
  | n + 1, firm, q, es, h => by
    rw [take.eq_def]
    unfold takeF
    split
    · cases es with
      | nil => rfl
      | cons e l =>
        dsimp only
        split
        · rfl
        · split
          · rename_i hn
            rw [take_eqF n _ _ _ (by omega)]
          · rfl
    · rfl
theorem takeF_pos : ∀ (n : Nat) (firm q : Int) (es : List Ent), 0 ≤ sumH (takeF n firm q es).1
  | 0, firm, q, es => by simp [takeF, sumH]
  | n + 1, firm, q, es => by
    unfold takeF
    split
    · cases es with
      | nil => simp [sumH]
      | cons e l =>
        dsimp only
        split
        · simp [sumH]
        · split
          · rename_i hn
            have := takeF_pos n firm (q - min q e.seen) (giveE e l (min q e.seen))
            simp only [sumH]; omega
          · simp [sumH]
    · simp [sumH]
def matchF (n : Nat) : Ord → List Lv → Int → Int → MR
  | o, [], last, no => ⟨[], o.qty, false, [], last, no⟩
  | o, lv :: r, last, no =>
    if 0 < o.qty ∧ crosses o lv.p = true then
      if (takeF n o.firm o.qty lv.es).2.1 = true then
        ⟨flls o lv.p no (takeF n o.firm o.qty lv.es).1, o.qty - sumH (takeF n o.firm o.qty lv.es).1, true, (if (takeF n o.firm o.qty lv.es).2.2.isEmpty = true then r else ⟨lv.p, (takeF n o.firm o.qty lv.es).2.2⟩ :: r),
          (if (takeF n o.firm o.qty lv.es).1.isEmpty = true then last else lv.p), no + (takeF n o.firm o.qty lv.es).1.length⟩
      else if (takeF n o.firm o.qty lv.es).2.2.isEmpty = true then
        (matchF n (wq o (o.qty - sumH (takeF n o.firm o.qty lv.es).1)) r (if (takeF n o.firm o.qty lv.es).1.isEmpty = true then last else lv.p) (no + (takeF n o.firm o.qty lv.es).1.length)).pre (flls o lv.p no (takeF n o.firm o.qty lv.es).1)
      else
        ⟨flls o lv.p no (takeF n o.firm o.qty lv.es).1, o.qty - sumH (takeF n o.firm o.qty lv.es).1, false, ⟨lv.p, (takeF n o.firm o.qty lv.es).2.2⟩ :: r, (if (takeF n o.firm o.qty lv.es).1.isEmpty = true then last else lv.p), no + (takeF n o.firm o.qty lv.es).1.length⟩
    else ⟨[], o.qty, false, lv :: r, last, no⟩
theorem match_eqF (n : Nat) : ∀ (l : List Lv) (o : Ord) (last no : Int), o.qty.toNat ≤ n → matchL o l last no = matchF n o l last no
  | [], _, _, _, _ => rfl
  | lv :: r, o, last, no, h => by
    have hp := takeF_pos n o.firm o.qty lv.es
    have ih := match_eqF n r (wq o (o.qty - sumH (takeF n o.firm o.qty lv.es).1)) (if (takeF n o.firm o.qty lv.es).1.isEmpty = true then last else lv.p) (no + (takeF n o.firm o.qty lv.es).1.length) (by show (o.qty - _).toNat ≤ n; omega)
    unfold matchL matchF
    rw [take_eqF n _ _ _ h]
    simp only [← List.isEmpty_iff, ih]
def findF (t i : Int) : List Lv → Option (Nat × Ord) := findL t i
def baddF (n : Nat) (o : Ord) (B : Bk) : Out × Bk :=
  if brefused o B ≠ 0 then (⟨o, [], o.qty, false, false, false, brefused o B⟩, B)
  else
    let m := matchF n o (B.side (3 - o.side)) B.last B.no
    let B1 := (B.put (3 - o.side) m.lvs).tell m.last m.no
    let r := decide (0 < m.qty) && !m.self && rests o
    (⟨o, m.fs, m.qty, r, false, m.self, 0⟩, if r = true then B1.put o.side (restL (wqs o m.qty (min o.show_ m.qty)) (B1.side o.side)) else B1)
theorem badd_eqF (n : Nat) (o : Ord) (B : Bk) (h : o.qty.toNat ≤ n) : badd o B = baddF n o B := by
  unfold badd baddF
  rw [match_eqF n _ _ _ _ h]
def rA : Ord := ⟨1, 1, 1, 2, 1, 10, 5, 0, 0⟩
def rB : Ord := ⟨2, 1, 2, 2, 1, 9, 5, 0, 0⟩
def rC : Ord := ⟨3, 1, 3, 1, 1, 10, 7, 0, 0⟩
def rD : Ord := ⟨3, 2, 3, 1, 4, 10, 9, 0, 0⟩
def rE : Ord := ⟨1, 2, 1, 1, 1, 10, 1, 0, 0⟩
def b1 : Bk := ⟨[], [⟨10, [⟨rA, 5⟩]⟩], 0, 0⟩
def b2 : Bk := ⟨[], [⟨9, [⟨rB, 5⟩]⟩, ⟨10, [⟨rA, 5⟩]⟩], 0, 0⟩
def b3 : Bk := ⟨[], [⟨10, [⟨wq rA 3, 3⟩]⟩], 10, 2⟩
end Go.Proofs.YtmelpobcpcmdoaaGreat
