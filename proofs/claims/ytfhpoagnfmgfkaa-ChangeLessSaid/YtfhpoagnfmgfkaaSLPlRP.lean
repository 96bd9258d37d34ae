/- Contracts of functions of the given program over its translation, each proved by walking its text; used by the laws' rows. It proves no given statement by itself. -/
import Derived.Test.YtfhpoagnfmgfkaaSLPlUX
set_option autoImplicit false
set_option linter.unusedSectionVars false
set_option linter.unusedSimpArgs false
set_option linter.unusedVariables false
set_option maxRecDepth 4000
set_option maxHeartbeats 16000000
namespace Go.Proofs.Ytfhpoagnfmgfkaa
open Go Go.SL Go.Proofs
/-! Orders that are there were right, but for their quantity. -/
def okP (o : Ord) : Prop := 0 ≤ o.trader ∧ o.trader ≤ 31 ∧ 0 ≤ o.firm ∧ o.firm ≤ 7 ∧ 0 ≤ o.id ∧ o.id ≤ 1073741824 ∧ 1 ≤ o.side ∧ o.side ≤ 2 ∧ 1 ≤ o.kind ∧ o.kind ≤ 5 ∧ 0 ≤ o.show_ ∧ 0 ≤ o.stop ∧ o.stop ≤ 1048576 ∧ (o.kind = 2 → o.price = 0) ∧ (o.kind ≠ 2 → 1 ≤ o.price ∧ o.price ≤ 1048576) ∧ (o.show_ = 0 ∨ o.kind = 1 ∨ o.kind = 5)
theorem okP_right {o : Ord} (h : rightP o) : okP o := by
  obtain ⟨h1, h2, h3, h4, h5, h6, h7, h8, h9, h10, h11, h12, h13, h14, h15, h16, h17, h18, h19⟩ := h
  exact ⟨h1, h2, h3, h4, h5, h6, h7, h8, h9, h10, h13, h15, h16, h17, h18, h19⟩
theorem okP_wq {o : Ord} {n : Int} (h : okP o) : okP (wq o n) := h
theorem okP_bare {o : Ord} (h : okP o) : okP (bare o) := by
  obtain ⟨h1, h2, h3, h4, h5, h6, h7, h8, h9, h10, h13, h15, h16, h17, h18, h19⟩ := h
  exact ⟨h1, h2, h3, h4, h5, h6, h7, h8, h9, h10, h13, Int.le_refl _, by show (0 : Int) ≤ 1048576; decide, h17, h18, h19⟩
theorem okP_wqs {o : Ord} {n s : Int} (h : okP o) (hs : 0 ≤ s) (h0 : o.show_ = 0 → s = 0) : okP (wqs o n s) := by
  obtain ⟨h1, h2, h3, h4, h5, h6, h7, h8, h9, h10, h13, h15, h16, h17, h18, h19⟩ := h
  refine ⟨h1, h2, h3, h4, h5, h6, h7, h8, h9, h10, hs, h15, h16, h17, h18, ?_⟩
  rcases h19 with h | h
  · exact .inl (h0 h)
  · exact .inr h
/-- An order with another price and quantity. -/
theorem am_right {o : Ord} {p q : Int} (h : okP o) (hq : 1 ≤ q) (hq2 : q ≤ 1048576) (hp : (o.kind = 2 → p = 0) ∧ (o.kind ≠ 2 → 1 ≤ p ∧ p ≤ 1048576)) : rightP (amO o p q) := by
  obtain ⟨h1, h2, h3, h4, h5, h6, h7, h8, h9, h10, h13, h15, h16, h17, h18, h19⟩ := h
  refine ⟨h1, h2, h3, h4, h5, h6, h7, h8, h9, h10, hq, hq2, ?_, ?_, h15, h16, hp.1, hp.2, ?_⟩
  · show 0 ≤ min o.show_ (max q 0); omega
  · show min o.show_ (max q 0) ≤ q; omega
  · show min o.show_ (max q 0) = 0 ∨ _
    rcases h19 with h | h
    · exact .inl (by omega)
    · exact .inr h
def RL (l : List Lv) : Prop := ∀ lv ∈ l, ∀ e ∈ lv.es, okP e.o
def RB (B : Bk) : Prop := RL (B.side 1) ∧ RL (B.side 2)
theorem RB.side {B : Bk} (h : RB B) {s : Int} (hs : s = 1 ∨ s = 2) : RL (B.side s) := by
  rcases hs with rfl | rfl
  · exact h.1
  · exact h.2
theorem RB.of {B : Bk} {s : Int} (hs : s = 1 ∨ s = 2) (h1 : RL (B.side s)) (h2 : RL (B.side (3 - s))) : RB B := by
  rcases hs with rfl | rfl
  · exact ⟨h1, h2⟩
  · exact ⟨h2, h1⟩
variable [Base]
theorem badd_RB {o : Ord} {B : Bk} (hw : BW B) (h : RB B) (ho : rightP o) : RB (badd o B).2 := by
  by_cases h0 : brefused o B = 0
  · have hs : o.side = 1 ∨ o.side = 2 := by unfold rightP at ho; omega
    have hq : 0 ≤ o.qty ∧ 0 ≤ o.show_ := by unfold rightP at ho; omega
    have M := match_sub (B.side (3 - o.side)) o B.last B.no (hw.side _).1 hq.1
    have MI := match_is (B.side (3 - o.side)) o B.last B.no (hw.side _).1 hq.1
    have A := add_is hs h0
    generalize matchL o (B.side (3 - o.side)) B.last B.no = m at *
    have h3 : (3 : Int) - o.side = 1 ∨ 3 - o.side = 2 := by omega
    have hm : RL m.lvs := by
      intro lv ml e me
      obtain ⟨lv2, ml2, -, h2⟩ := M.sub lv ml
      obtain ⟨e2, me2, n, e3⟩ := h2 e me
      rw [e3]
      exact okP_wq (h.side h3 lv2 ml2 e2 me2)
    refine RB.of hs ?_ (by rw [A.theirs]; exact hm)
    rw [A.mine]
    split
    · intro lv ml e me
      rcases (rest_mem ml).2 e me with ⟨e1, -⟩ | ⟨x, mx, -, me2⟩
      · rw [e1]
        have := MI.qty
        exact okP_wqs (okP_right ho) (by omega) (fun hz => by omega)
      · exact h.side hs x mx e me2
    · exact h.side hs
  · rw [refused_is h0]; exact h
structure RP (M : Mk) : Prop where
  b : RB M.B
theorem trig_RB : ∀ (n : Nat) (M : Mk), MW M → RB M.B → RB (mtrig n M).2.B
  | 0, M, _, h => h
  | n + 1, M, hw, h => by
    unfold mtrig
    cases hf : M.W.findIdx? (fun o => hit o M.B.last) with
    | none => exact h
    | some k =>
      dsimp only
      cases ho : M.W[k]? with
      | none => exact h
      | some o =>
        dsimp only
        have hr := hw.w o (List.mem_of_getElem? ho)
        have e := menter_ok (o := o) hw.b hw.no
        have hc := cut_len ho
        have hl := hw.len
        have hn := hw.no
        unfold mlen at hl
        exact trig_RB n _ ⟨e.1, by show 0 ≤ (menter o M.B).2.no; omega, by
          unfold mlen
          have := e.2.2.2
          dsimp only
          split at this <;> omega, fun x m => hw.w x (cut_mem m)⟩ (badd_RB hw.b h (bare_right hr))
theorem madd_RB {o : Ord} {M : Mk} (hw : MW M) (h : RB M.B) : RB (madd o M).2.B := by
  have h1 : RB (mfirst o M).2.B := by
    unfold mfirst
    split
    · exact h
    · rename_i hr
      have hr := (refused_no (o := o) (M := M) (by omega)).1
      split
      · exact h
      · exact badd_RB hw.b h (bare_right hr)
  exact trig_RB _ _ (mfirst_ok (o := o) hw).1 h1
theorem all_ok {M : Mk} (hw : MW M) (h : RB M.B) {x : Ord} (hx : x ∈ mall M) : okP x := by
  unfold mall at hx
  rcases List.mem_append.1 hx with hx | hx
  · obtain ⟨lv, ml, e, me, rfl⟩ := orders_mem.1 hx
    exact h.1 lv ml e me
  · rcases List.mem_append.1 hx with hx | hx
    · obtain ⟨lv, ml, e, me, rfl⟩ := orders_mem.1 hx
      exact h.2 lv ml e me
    · exact okP_right (hw.w x hx)
/-- A market of numbers' orders. -/
def mfill (rs : List (List Int)) (k : Nat) : Mk := (rs.take k).foldl (fun M r => (madd (kS r) M).2) emptyM
theorem mfill_succ {rs : List (List Int)} {k : Nat} {r : List Int} (h : rs[k]? = some r) : mfill rs (k + 1) = (madd (kS r) (mfill rs k)).2 := by
  have hi := (List.getElem?_eq_some_iff.1 h).1
  unfold mfill
  rw [List.take_succ_eq_append_getElem hi, List.foldl_append, (List.getElem?_eq_some_iff.1 h).2]; rfl
theorem mfill_more {rs : List (List Int)} {k n : Nat} (h : rs.length ≤ k) (hn : k ≤ n) : mfill rs n = mfill rs k := by
  unfold mfill; rw [List.take_of_length_le (by omega), List.take_of_length_le (by omega)]
/-- What is so of a market that was filled. -/
structure FilOk (k : Nat) (M : Mk) : Prop where
  w : MW M
  u : Uq M
  r : RB M.B
  s : Wst M
  g : Gd M.B
  no : M.B.no ≤ k * 68157440
  done : ∀ x ∈ M.W, hit x M.B.last = false
theorem mfill_ok (rs : List (List Int)) : ∀ k : Nat, FilOk k (mfill rs k)
  | 0 => ⟨emptyM_ok, Uq.empty, ⟨fun _ m => (nomatch m), fun _ m => (nomatch m)⟩, fun _ m => (nomatch m), empty_Gd, by show (0 : Int) ≤ ((0 : Nat) : Int) * 68157440; decide, fun _ m => (nomatch m)⟩
  | k + 1 => by
    have ih := mfill_ok rs k
    cases hr : rs[k]? with
    | none =>
      have := List.getElem?_eq_none_iff.1 hr
      rw [mfill_more (k := k) this (by omega)]
      exact ⟨ih.w, ih.u, ih.r, ih.s, ih.g, by have := ih.no; push_cast; omega, ih.done⟩
    | some r =>
      rw [mfill_succ hr]
      have K := madd_ok (o := kS r) ih.w
      have hg := add_counts (o := kS r) ih.w ih.g (kS_right r).1
      exact ⟨K.1, madd_Uq ih.u, madd_RB ih.w ih.r, (madd_stop ih.s).1, hg.1, by have := ih.no; push_cast; omega, madd_done _ _⟩
end Go.Proofs.Ytfhpoagnfmgfkaa
