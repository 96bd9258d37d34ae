/- Contracts of functions of the given program over its translation, each proved by walking its text; used by the laws' rows. It proves no given statement by itself. -/
import Derived.Test.YtfhpoagnfmgfkaaSLPlUX
set_option autoImplicit false
set_option linter.unusedSectionVars false
set_option linter.unusedSimpArgs false
set_option linter.unusedVariables false
set_option maxRecDepth 4000
set_option maxHeartbeats 16000000
namespace Go.Proofs.Ytfhpoagnfmgfkaa
open Go Go.SL Go.Proofs
/-! Orders that are there were right, but for their quantity. -/
def okP (o : Ord) : Prop := 0 ≤ o.trader ∧ o.trader ≤ 31 ∧ 0 ≤ o.firm ∧ o.firm ≤ 7 ∧ 0 ≤ o.id ∧ o.id ≤ 1073741824 ∧ 1 ≤ o.side ∧ o.side ≤ 2 ∧ 1 ≤ o.kind ∧ o.kind ≤ 5 ∧ 0 ≤ o.show_ ∧ 0 ≤ o.stop ∧ o.stop ≤ 1048576 ∧ (o.kind = 2 → o.price = 0) ∧ (o.kind ≠ 2 → 1 ≤ o.price ∧ o.price ≤ 1048576) ∧ (o.show_ = 0 ∨ o.kind = 1 ∨ o.kind = 5)
theorem okP_right {o : Ord} (h : rightP o) : okP o := by
  obtain ⟨h1, h2, h3, h4, h5, h6, h7, h8, h9, h10, h11, h12, h13, h14, h15, h16, h17, h18, h19⟩ := h
  exact ⟨h1, h2, h3, h4, h5, h6, h7, h8, h9, h10, h13, h15, h16, h17, h18, h19⟩
theorem okP_wq {o : Ord} {n : Int} (h : okP o) : okP (wq o n) := h
theorem okP_bare {o : Ord} (h : okP o) : okP (bare o) := by
  obtain ⟨h1, h2, h3, h4, h5, h6, h7, h8, h9, h10, h13, h15, h16, h17, h18, h19⟩ := h
  exact ⟨h1, h2, h3, h4, h5, h6, h7, h8, h9, h10, h13, Int.le_refl _, by show (0 : Int) ≤ 1048576; decide, h17, h18, h19⟩
theorem okP_wqs {o : Ord} {n s : Int} (h : okP o) (hs : 0 ≤ s) (h0 : o.show_ = 0 → s = 0) : okP (wqs o n s) := by
  obtain ⟨h1, h2, h3, h4, h5, h6, h7, h8, h9, h10, h13, h15, h16, h17, h18, h19⟩ := h
  refine ⟨h1, h2, h3, h4, h5, h6, h7, h8, h9, h10, hs, h15, h16, h17, h18, ?_⟩
  rcases h19 with h | h
  · exact .inl (h0 h)
  · exact .inr h
/-- An order with another price and quantity. -/
theorem am_right {o : Ord} {p q : Int} (h : okP o) (hq : 1 ≤ q) (hq2 : q ≤ 1048576) (hp : (o.kind = 2 → p = 0) ∧ (o.kind ≠ 2 → 1 ≤ p ∧ p ≤ 1048576)) : rightP (amO o p q) := by
  obtain ⟨h1, h2, h3, h4, h5, h6, h7, h8, h9, h10, h13, h15, h16, h17, h18, h19⟩ := h
  refine ⟨h1, h2, h3, h4, h5, h6, h7, h8, h9, h10, hq, hq2, ?_, ?_, h15, h16, hp.1, hp.2, ?_⟩
  · show 0 ≤ min o.show_ (max q 0); omega
  · show min o.show_ (max q 0) ≤ q; omega
  · show min o.show_ (max q 0) = 0 ∨ _
    rcases h19 with h | h
    · exact .inl (by omega)
    · exact .inr h
def RL (l : List Lv) : Prop := ∀ lv ∈ l, ∀ e ∈ lv.es, okP e.o
def RB (B : Bk) : Prop := RL (B.side 1) ∧ RL (B.side 2)
theorem RB.side {B : Bk} (h : RB B) {s : Int} (hs : s = 1 ∨ s = 2) : RL (B.side s) := by
  rcases hs with rfl | rfl
  · exact h.1
  · exact h.2
theorem RB.of {B : Bk} {s : Int} (hs : s = 1 ∨ s = 2) (h1 : RL (B.side s)) (h2 : RL (B.side (3 - s))) : RB B := by
  rcases hs with rfl | rfl
  · exact ⟨h1, h2⟩
  · exact ⟨h2, h1⟩
variable [Base]
theorem badd_RB {o : Ord} {B : Bk} (hw : BW B) (h : RB B) (ho : rightP o) : RB (badd o B).2 := by
  by_cases h0 : brefused o B = 0
  · have hs : o.side = 1 ∨ o.side = 2 := by unfold rightP at ho; omega
    have hq : 0 ≤ o.qty ∧ 0 ≤ o.show_ := by unfold rightP at ho; omega
    have M := match_sub (B.side (3 - o.side)) o B.last B.no (hw.side _).1 hq.1
    have MI := match_is (B.side (3 - o.side)) o B.last B.no (hw.side _).1 hq.1
    have A := add_is hs h0
    generalize matchL o (B.side (3 - o.side)) B.last B.no = m at *
    have h3 : (3 : Int) - o.side = 1 ∨ 3 - o.side = 2 := by omega
    have hm : RL m.lvs := by
      intro lv ml e me
      obtain ⟨lv2, ml2, -, h2⟩ := M.sub lv ml
      obtain ⟨e2, me2, n, e3⟩ := h2 e me
      rw [e3]
      exact okP_wq (h.side h3 lv2 ml2 e2 me2)
    refine RB.of hs ?_ (by rw [A.theirs]; exact hm)
    rw [A.mine]
    split
    · intro lv ml e me
      rcases (rest_mem ml).2 e me with ⟨e1, -⟩ | ⟨x, mx, -, me2⟩
      · rw [e1]
        have := MI.qty
        exact okP_wqs (okP_right ho) (by omega) (fun hz => by omega)
      · exact h.side hs x mx e me2
    · exact h.side hs
  · rw [refused_is h0]; exact h
structure RP (M : Mk) : Prop where
  b : RB M.B
theorem trig_RB : ∀ (n : Nat) (M : Mk), MW M → RB M.B → RB (mtrig n M).2.B
  | 0, M, _, h => h
  | n + 1, M, hw, h => by
    unfold mtrig
    cases hf : M.W.findIdx? (fun o => hit o M.B.last) with
    | none => exact h
    | some k =>
      dsimp only
      cases ho : M.W[k]? with
      | none => exact h
      | some o =>
        dsimp only
        have hr := hw.w o (List.mem_of_getElem? ho)
        have e := menter_ok (o := o) hw.b hw.no
        have hc := cut_len ho
        have hl := hw.len
        have hn := hw.no
        unfold mlen at hl
        exact trig_RB n _ ⟨e.1, by show 0 ≤ (menter o M.B).2.no; omega, by
          unfold mlen
          have := e.2.2.2
          dsimp only
          split at this <;> omega, fun x m => hw.w x (cut_mem m)⟩ (badd_RB hw.b h (bare_right hr))
theorem madd_RB {o : Ord} {M : Mk} (hw : MW M) (h : RB M.B) : RB (madd o M).2.B := by
  have h1 : RB (mfirst o M).2.B := by
    unfold mfirst
    split
    · exact h
    · rename_i hr
      have hr := (refused_no (o := o) (M := M) (by omega)).1
      split
      · exact h
      · exact badd_RB hw.b h (bare_right hr)
  exact trig_RB _ _ (mfirst_ok (o := o) hw).1 h1
theorem all_ok {M : Mk} (hw : MW M) (h : RB M.B) {x : Ord} (hx : x ∈ mall M) : okP x := by
  unfold mall at hx
  rcases List.mem_append.1 hx with hx | hx
  · obtain ⟨lv, ml, e, me, rfl⟩ := orders_mem.1 hx
    exact h.1 lv ml e me
  · rcases List.mem_append.1 hx with hx | hx
    · obtain ⟨lv, ml, e, me, rfl⟩ := orders_mem.1 hx
      exact h.2 lv ml e me
    · exact okP_right (hw.w x hx)
/-- A market of numbers' orders. -/
def mfill (rs : List (List Int)) (k : Nat) : Mk := (rs.take k).foldl (fun M r => (madd (kS r) M).2) emptyM
theorem mfill_succ {rs : List (List Int)} {k : Nat} {r : List Int} (h : rs[k]? = some r) : mfill rs (k + 1) = (madd (kS r) (mfill rs k)).2 := by
  have hi := (List.getElem?_eq_some_iff.1 h).1
  unfold mfill
  rw [List.take_succ_eq_append_getElem hi, List.foldl_append, (List.getElem?_eq_some_iff.1 h).2]; rfl
theorem mfill_more {rs : List (List Int)} {k n : Nat} (h : rs.length ≤ k) (hn : k ≤ n) : mfill rs n = mfill rs k := by
  unfold mfill; rw [List.take_of_length_le (by omega), List.take_of_length_le (by omega)]
/-- What is so of a market that was filled. -/
structure FilOk (k : Nat) (M : Mk) : Prop where
  w : MW M
  u : Uq M
  r : RB M.B
  s : Wst M
  g : Gd M.B
  no : M.B.no ≤ k * 68157440
  done : ∀ x ∈ M.W, hit x M.B.last = false
theorem mfill_ok (rs : List (List Int)) : ∀ k : Nat, FilOk k (mfill rs k)
  | 0 => ⟨emptyM_ok, Uq.empty, ⟨fun _ m => (nomatch m), fun _ m => (nomatch m)⟩, fun _ m => (nomatch m), empty_Gd, by show (0 : Int) ≤ ((0 : Nat) : Int) * 68157440; decide, fun _ m => (nomatch m)⟩
  | k + 1 => by
    have ih := mfill_ok rs k
    cases hr : rs[k]? with
    | none =>
      have := List.getElem?_eq_none_iff.1 hr
      rw [mfill_more (k := k) this (by omega)]
      exact ⟨ih.w, ih.u, ih.r, ih.s, ih.g, by have := ih.no; push_cast; omega, ih.done⟩
    | some r =>
      rw [mfill_succ hr]
      have K := madd_ok (o := kS r) ih.w
      have hg := add_counts (o := kS r) ih.w ih.g (kS_right r).1
      exact ⟨K.1, madd_Uq ih.u, madd_RB ih.w ih.r, (madd_stop ih.s).1, hg.1, by have := ih.no; push_cast; omega, madd_done _ _⟩
end Go.Proofs.Ytfhpoagnfmgfkaa

set_option autoImplicit false
set_option linter.unusedSectionVars false
set_option linter.unusedSimpArgs false
set_option linter.unusedVariables false
set_option maxRecDepth 4000
set_option maxHeartbeats 16000000
namespace Go.Proofs.Ytfhpoagnfmgfkaa
open Go Go.SL Go.Proofs
/-! An order that is made more goes behind. -/
def lastAt (p : Int) (i : Ord) (l : List Ord) : Ord := l.foldl (fun acc y => if y.price = p then y else acc) i
theorem lastAt_append (p : Int) (i : Ord) (l m : List Ord) : lastAt p i (l ++ m) = lastAt p (lastAt p i l) m := List.foldl_append ..
theorem lastAt_none {p : Int} {i : Ord} : ∀ {l : List Ord}, (∀ y ∈ l, y.price ≠ p) → lastAt p i l = i
  | [], _ => rfl
  | y :: l, h => by
    unfold lastAt
    rw [List.foldl_cons, if_neg (h y (List.mem_cons_self ..))]
    exact lastAt_none fun z m => h z (List.mem_cons_of_mem _ m)
theorem lastAt_snoc {p : Int} {i : Ord} {l : List Ord} {y : Ord} (h : y.price = p) : lastAt p i (l ++ [y]) = y := by
  rw [lastAt_append]
  unfold lastAt
  rw [List.foldl_cons, if_pos h]; rfl
theorem lastAt_take {p : Int} {i : Ord} {l : List Ord} {k : Nat} {y : Ord} (h : l[k]? = some y) : lastAt p i (l.take (k + 1)) = if y.price = p then y else lastAt p i (l.take k) := by
  have hi := (List.getElem?_eq_some_iff.1 h).1
  rw [List.take_succ_eq_append_getElem hi, (List.getElem?_eq_some_iff.1 h).2, lastAt_append]; rfl
variable [Base]
/-- The side behind an order that rests there: it is the last at its price. -/
theorem rest_last {o : Ord} {l : List Lv} {i : Ord} (hs : Srt o.side (restL o l)) (ha : AtS o.side (restL o l)) : lastAt o.price i (ordersL (restL o l)) = o := by
  obtain ⟨a, b, hb, h⟩ := restL_form o l
  have key : ∀ L : Lv, L.p = o.price → (∃ es, L.es = es ++ [⟨o, tip o⟩]) → restL o l = a ++ L :: b → lastAt o.price i (ordersL (restL o l)) = o := by
    intro L hp hes e
    obtain ⟨es, hes⟩ := hes
    rw [e] at hs ha ⊢
    have hb2 : ∀ y ∈ ordersL b, y.price ≠ o.price := by
      intro y hy
      obtain ⟨lv, ml, ee, me, rfl⟩ := orders_mem.1 hy
      have h1 := (ha lv (List.mem_append_right _ (List.mem_cons_of_mem _ ml)) ee me).2
      unfold Srt SrtP at hs
      rw [List.map_append, List.map_cons, List.pairwise_append, List.pairwise_cons] at hs
      have h2 := hs.2.1.1 lv.p (List.mem_map_of_mem ml)
      rw [h1]
      intro h3
      rw [h3, ← hp, better_self] at h2
      cases h2
    rw [ordersL_app, ordersL, hes, List.map_append, List.map_cons, List.map_nil, lastAt_append, lastAt_append, lastAt_none hb2]
    exact lastAt_snoc rfl
  rcases h with ⟨lv, h1, h2, h3⟩ | ⟨h2, h3, -⟩
  · exact key ⟨lv.p, lv.es ++ [⟨o, tip o⟩]⟩ h1 ⟨lv.es, rfl⟩ h3
  · exact key ⟨o.price, [⟨o, tip o⟩]⟩ rfl ⟨[], rfl⟩ h3
theorem srt_cut {s : Int} {l : List Lv} (h : Srt s l) {k : Nat} {lv : Lv} (hk : l[k]? = some lv) (es : List Ent) : Srt s (if es = [] then l.eraseIdx k else l.set k ⟨lv.p, es⟩) := by
  unfold Srt SrtP at h ⊢
  split
  · exact h.sublist ((List.eraseIdx_sublist l k).map _)
  · have : (l.set k ⟨lv.p, es⟩).map (·.p) = l.map (·.p) := by
      rw [List.map_set]
      apply List.ext_getElem?
      intro j
      rw [List.getElem?_set]
      split
      · rename_i hj
        subst hj
        have hk2 : (l.map (·.p))[k]? = some lv.p := by rw [List.getElem?_map, hk]; rfl
        rw [hk2]
        split
        · rfl
        · rename_i hn
          exact absurd (List.getElem?_eq_some_iff.1 hk2).1 hn
      · rfl
    rw [this]; exact h
theorem at_cut {s : Int} {l : List Lv} (h : AtS s l) {k : Nat} {lv : Lv} (hk : l[k]? = some lv) {es : List Ent} (hes : ∀ e ∈ es, e ∈ lv.es) : AtS s (if es = [] then l.eraseIdx k else l.set k ⟨lv.p, es⟩) := by
  intro x m e me
  split at m
  · exact h x (List.mem_of_mem_eraseIdx m) e me
  · rcases List.mem_or_eq_of_mem_set m with m | rfl
    · exact h x m e me
    · exact h lv (List.mem_of_getElem? hk) e (hes e me)
/-- A removal leaves sides sorted, and the last price. -/
theorem brem_side (t i : Int) {B : Bk} (hg : Gd B) {s : Int} (hs : s = 1 ∨ s = 2) : Srt s ((bremove t i B).2.2.side s) ∧ AtS s ((bremove t i B).2.2.side s) ∧ (bremove t i B).2.2.last = B.last := by
  have hgs := hg.side hs
  unfold bremove
  split
  · exact ⟨hgs.s1, hgs.a1, rfl⟩
  · rename_i r s' k o hf
    have hs' := findB_side hf
    split
    · exact ⟨hgs.s1, hgs.a1, rfl⟩
    · rename_i lv hlv
      dsimp only
      have hsub : ∀ e ∈ (lrem t i lv.es).2.2, e ∈ lv.es := by
        intro e me
        unfold lrem at me
        split at me
        · exact me
        · split at me
          · exact me
          · rcases List.mem_append.1 me with me | me
            · exact List.mem_of_mem_take me
            · exact List.mem_of_mem_drop me
      have hlast : (B.put s' (if (lrem t i lv.es).2.2 = [] then (B.side s').eraseIdx k else (B.side s').set k ⟨lv.p, (lrem t i lv.es).2.2⟩)).last = B.last := by
        unfold Bk.put
        split <;> rfl
      refine ⟨?_, ?_, hlast⟩
      · by_cases he : s' = s
        · subst he
          rw [put_side hs]
          exact srt_cut hgs.s1 hlv _
        · have h3 : s = 3 - s' := by omega
          rw [h3, put_other hs', ← h3]; exact hgs.s1
      · by_cases he : s' = s
        · subst he
          rw [put_side hs]
          exact at_cut hgs.a1 hlv hsub
        · have h3 : s = 3 - s' := by omega
          rw [h3, put_other hs', ← h3]; exact hgs.a1
theorem mremove_B (t i : Int) (M : Mk) : (mremove t i M).2.2.B = (bremove t i M.B).2.2 := by
  unfold mremove
  split
  · rfl
  · split
    · rfl
    · split <;> rfl
theorem mremove_W (t i : Int) (M : Mk) : ∀ x ∈ (mremove t i M).2.2.W, x ∈ M.W := by
  intro x m
  unfold mremove at m
  split at m
  · exact m
  · split at m
    · exact m
    · split at m
      · exact m
      · exact cut_mem m
theorem mtrig_same {n : Nat} {M : Mk} (h : ∀ x ∈ M.W, hit x M.B.last = false) : mtrig n M = ([], M) := by
  have hf : M.W.findIdx? (fun o => hit o M.B.last) = none := by rw [List.findIdx?_eq_none_iff]; exact h
  cases n with
  | zero => rfl
  | succ n => unfold mtrig; rw [hf]
/-- An order that comes in again, and rests without a trade, is the last at its price. -/
theorem behind_is {o : Ord} {M : Mk} (hw : MW M) (hg : Gd M.B) (hd : ∀ x ∈ M.W, hit x M.B.last = false) (hr : rightP o) (t i : Int) (h1 : (mfirst o (mremove t i M).2.2).1.rests = true) (h2 : (mfirst o (mremove t i M).2.2).1.fs = []) (j : Ord) :
    (lastAt o.price j (ordersL ((madd o (mremove t i M).2.2).2.B.side o.side))).trader = o.trader ∧ (lastAt o.price j (ordersL ((madd o (mremove t i M).2.2).2.B.side o.side))).id = o.id := by
  have hs : o.side = 1 ∨ o.side = 2 := by unfold rightP at hr; omega
  obtain ⟨b1, b2, b3⟩ := brem_side t i hg hs
  have eB := mremove_B t i M
  have eW := mremove_W t i M
  have hw2 := mremove_MW (t := t) (i := i) hw
  rw [← eB] at b1 b2 b3
  generalize (mremove t i M).2.2 = N at *
  have hf : mfirst o N = ((menter o N.B).1, ⟨(menter o N.B).2, N.W⟩) := by
    unfold mfirst at h1 ⊢
    split
    · rename_i hc
      rw [if_pos hc] at h1; cases h1
    · rename_i hc
      rw [if_neg hc] at h1
      split
      · rename_i hc2
        rw [if_pos hc2] at h1; cases h1
      · rfl
  rw [hf] at h1 h2
  have hbr := bare_right hr
  have h0 : brefused (bare o) N.B = 0 := by
    apply Classical.byContradiction
    intro hn
    have e : (menter o N.B).1.rests = (badd (bare o) N.B).1.rests := rfl
    dsimp only at h1
    rw [e, refused_is hn] at h1
    cases h1
  have hq : 0 ≤ (bare o).qty := by unfold rightP at hbr; omega
  have hsb : (bare o).side = 1 ∨ (bare o).side = 2 := hs
  have A := add_is hsb h0
  have MS := match_sub (N.B.side (3 - (bare o).side)) (bare o) N.B.last N.B.no (hw2.b.side _).1 hq
  have e1 : (badd (bare o) N.B).1.rests = true := h1
  have e2 : (badd (bare o) N.B).1.fs = [] := h2
  generalize matchL (bare o) (N.B.side (3 - (bare o).side)) N.B.last N.B.no = m at *
  rw [A.out] at e1 e2
  dsimp only at e1 e2
  have hmine := A.mine
  rw [if_pos e1] at hmine
  have hlast : (menter o N.B).2.last = N.B.last := by
    have h := A.last
    rw [MS.last, e2] at h
    exact h
  have htr : madd o N = ([(menter o N.B).1], ⟨(menter o N.B).2, N.W⟩) := by
    unfold madd
    rw [hf]
    dsimp only
    rw [mtrig_same (by
      intro x mx
      dsimp only at mx ⊢
      rw [hlast, b3]
      exact hd x (eW x mx))]
  rw [htr]
  dsimp only
  have hmine : (menter o N.B).2.side o.side = restL (wqs (bare o) m.qty (min (bare o).show_ m.qty)) (N.B.side o.side) := hmine
  rw [hmine]
  have hS : Srt (wqs (bare o) m.qty (min (bare o).show_ m.qty)).side (restL (wqs (bare o) m.qty (min (bare o).show_ m.qty)) (N.B.side o.side)) := srt_rest b1
  have hA : AtS (wqs (bare o) m.qty (min (bare o).show_ m.qty)).side (restL (wqs (bare o) m.qty (min (bare o).show_ m.qty)) (N.B.side o.side)) := by
    intro lv ml e me
    rcases (rest_mem ml).2 e me with ⟨h3, h4⟩ | ⟨x, mx, h3, h4⟩
    · rw [h3, h4]; exact ⟨rfl, rfl⟩
    · rw [h3]; exact b2 x mx e h4
  have hl := rest_last (i := j) hS hA
  have hp : (wqs (bare o) m.qty (min (bare o).show_ m.qty)).price = o.price := rfl
  rw [hp] at hl
  rw [hl]
  exact ⟨rfl, rfl⟩
theorem first_order (o : Ord) (M : Mk) : (mfirst o M).1.order = o := by
  unfold mfirst
  split
  · rfl
  · split <;> rfl
theorem came_le {o : Ord} (M : Mk) (hq : 0 ≤ o.qty) : cameL (madd o M).1 ≤ o.qty := by
  have h := first_order o M
  show cameO (mfirst o M).1 ≤ o.qty
  unfold cameO
  rw [h]
  split <;> omega
theorem mfill_sum (rs : List (List Int)) : ∀ k : Nat, sumM (mfill rs k) ≤ k * 12
  | 0 => by show (0 : Int) ≤ ((0 : Nat) : Int) * 12; decide
  | k + 1 => by
    have ih := mfill_sum rs k
    have hok := mfill_ok rs k
    cases hr : rs[k]? with
    | none =>
      have := List.getElem?_eq_none_iff.1 hr
      rw [mfill_more (k := k) this (by omega)]
      push_cast; omega
    | some r =>
      rw [mfill_succ hr]
      have ko := kS_right r
      obtain ⟨-, c2, c3⟩ := add_counts (o := kS r) hok.w hok.g ko.1
      have c4 := came_le (o := kS r) (mfill rs k) (by omega)
      have c5 := (goneL_part c3 true (madd (kS r) (mfill rs k)).1.length).1
      rw [List.take_length] at c5
      push_cast; omega
theorem mem_sum {M : Mk} (hw : MW M) {k : Nat} {x : Ord} (hk : (mall M)[k]? = some x) : x.qty ≤ sumM M := by
  obtain ⟨hp, he⟩ := sumM_pos hw
  have h1 := sumO_take hk
  have h2 := hp k
  rw [← sumM_all]
  have hlt := (List.getElem?_eq_some_iff.1 hk).1
  have : sumO ((mall M).take (k + 1)) ≤ sumO (mall M) := by
    conv => rhs; rw [← List.take_append_drop (k + 1) (mall M)]
    rw [sumO_append]
    have h3 := sumO_part (l := (mall M).drop (k + 1)) (fun y my => he y (List.mem_of_mem_drop my)) ((mall M).drop (k + 1)).length
    rw [List.take_length] at h3
    omega
  omega
end Go.Proofs.Ytfhpoagnfmgfkaa

set_option autoImplicit false
set_option linter.unusedSectionVars false
set_option linter.unusedSimpArgs false
set_option linter.unusedVariables false
set_option maxRecDepth 4000
set_option maxHeartbeats 16000000
namespace Go.Proofs.Ytfhpoagnfmgfkaa
open Go Go.SL Go.Proofs
/-! An order that rests is made less. -/
theorem lless_split {t i : Int} {es : List Ent} {o : Ord} (n : Int) (h : (es.map (·.o)).find? (isO t i) = some o) : ∃ j x, es[j]? = some x ∧ isO t i x.o = true ∧ lless t i n es = if n < 1 ∨ x.o.qty < n then (false, es) else (true, es.set j ⟨wq x.o n, min x.seen n⟩) := by
  rcases hf : es.findIdx? (isIt t i) with _ | j
  · rw [List.findIdx?_eq_none_iff] at hf
    have hm := List.mem_of_find?_eq_some h
    have hp := List.find?_some h
    obtain ⟨e, me, rfl⟩ := List.mem_map.1 hm
    have := hf e me
    have hp : isIt t i e = true := hp
    rw [this] at hp; cases hp
  · obtain ⟨hj, hp, -⟩ := List.findIdx?_eq_some_iff_getElem.1 hf
    have hx : es[j]? = some es[j] := List.getElem?_eq_getElem hj
    refine ⟨j, es[j], hx, hp, ?_⟩
    unfold lless
    rw [hf]
    dsimp only
    rw [hx]
theorem es_split {α : Type} {es : List α} {j : Nat} {x : α} (hx : es[j]? = some x) : es = es.take j ++ x :: es.drop (j + 1) := by
  have hj := (List.getElem?_eq_some_iff.1 hx).1
  have ex : es[j] = x := (List.getElem?_eq_some_iff.1 hx).2
  conv => lhs; rw [← List.take_append_drop j es, List.drop_eq_getElem_cons hj, ex]
theorem set_split {α : Type} {es : List α} {j : Nat} {x : α} (hx : es[j]? = some x) (y : α) : es.set j y = es.take j ++ y :: es.drop (j + 1) := by
  have hj := (List.getElem?_eq_some_iff.1 hx).1
  rw [List.set_eq_take_append_cons_drop, if_pos hj]
theorem set_here {α : Type} (P Q : List α) (y z : α) : (P ++ y :: Q).set P.length z = P ++ z :: Q := by
  induction P with
  | nil => rfl
  | cons p P ih => simp [ih]
theorem lv_set {lv : Lv} (h : lv.Ok) {j : Nat} {e : Ent} (he : lv.es[j]? = some e) {n : Int} (h1 : 1 ≤ n) (h2 : n ≤ e.o.qty) : (⟨lv.p, lv.es.set j ⟨wq e.o n, min e.seen n⟩⟩ : Lv).Ok := by
  obtain ⟨⟨hl, hb⟩, hn⟩ := h
  have hee := hb e (List.mem_of_getElem? he)
  refine ⟨⟨by show (lv.es.set j _).length ≤ _; rw [List.length_set]; exact hl, fun x m => ?_⟩, fun h0 => hn ?_⟩
  · rcases List.mem_or_eq_of_mem_set m with m | rfl
    · exact hb x m
    · show 1 ≤ n ∧ n ≤ 1048576 ∧ 1 ≤ min e.seen n ∧ min e.seen n ≤ n
      omega
  · have := congrArg List.length h0
    dsimp only at this
    rw [List.length_set] at this
    exact List.length_eq_zero_iff.1 this
variable [Base]
theorem bless_is {M : Mk} (hw : MW M) (hu : Uq M) {k : Nat} {x : Ord} {n : Int} (hk : (mall M)[k]? = some x) (hb : (bfind x.trader x.id M.B).2 = true) (h1 : 1 ≤ n) (h2 : n ≤ x.qty) :
    mall ⟨(bless x.trader x.id n M.B).2, M.W⟩ = (mall M).set k (wq x n) ∧ MW ⟨(bless x.trader x.id n M.B).2, M.W⟩ ∧ (bless x.trader x.id n M.B).2.no = M.B.no := by
  have hu1 : (mall M).countP (isO x.trader x.id) ≤ 1 := by rw [cM_all]; exact hu _ _
  cases hf : findB x.trader x.id M.B with
  | none =>
    unfold bfind at hb
    rw [hf] at hb; cases hb
  | some r =>
    obtain ⟨s, kk, o⟩ := r
    have hs := findB_side hf
    have hl : findL x.trader x.id (M.B.side s) = some (kk, o) := by
      unfold findB at hf
      split at hf
      · rename_i h1
        cases hf; exact h1
      · split at hf
        · rename_i h2
          cases hf; exact h2
        · cases hf
    obtain ⟨lv, hlv, hfo⟩ := findL_get hl
    obtain ⟨j, e, he, hp, hr⟩ := lless_split n hfo
    have o1 := orders_at hlv
    have hsp := es_split he
    have hall : ∃ P Q, mall M = P ++ e.o :: Q ∧ ∀ z : Ent, (s = 1 → ordersL ((M.B.side 1).set kk ⟨lv.p, lv.es.set j z⟩) ++ (ordersL (M.B.side 2) ++ M.W) = P ++ z.o :: Q) ∧ (s = 2 → ordersL (M.B.side 1) ++ (ordersL ((M.B.side 2).set kk ⟨lv.p, lv.es.set j z⟩) ++ M.W) = P ++ z.o :: Q) := by
      have hkk := (List.getElem?_eq_some_iff.1 hlv).1
      have hset : ∀ z : Ent, ordersL ((M.B.side s).set kk ⟨lv.p, lv.es.set j z⟩) = ordersL ((M.B.side s).take kk) ++ ((lv.es.take j).map (·.o) ++ z.o :: ((lv.es.drop (j + 1)).map (·.o) ++ ordersL ((M.B.side s).drop (kk + 1)))) := by
        intro z
        rw [List.set_eq_take_append_cons_drop, if_pos hkk, ordersL_app, ordersL, set_split he]
        simp
      have hold : ordersL (M.B.side s) = ordersL ((M.B.side s).take kk) ++ ((lv.es.take j).map (·.o) ++ e.o :: ((lv.es.drop (j + 1)).map (·.o) ++ ordersL ((M.B.side s).drop (kk + 1)))) := by
        rw [o1]
        conv => lhs; rw [hsp]
        simp
      rcases hs with rfl | rfl
      · refine ⟨ordersL ((M.B.side 1).take kk) ++ (lv.es.take j).map (·.o), (lv.es.drop (j + 1)).map (·.o) ++ ordersL ((M.B.side 1).drop (kk + 1)) ++ (ordersL (M.B.side 2) ++ M.W), ?_, fun z => ⟨fun _ => ?_, fun h => by omega⟩⟩
        · unfold mall; rw [hold]; simp
        · rw [hset z]; simp
      · refine ⟨ordersL (M.B.side 1) ++ (ordersL ((M.B.side 2).take kk) ++ (lv.es.take j).map (·.o)), (lv.es.drop (j + 1)).map (·.o) ++ ordersL ((M.B.side 2).drop (kk + 1)) ++ M.W, ?_, fun z => ⟨fun h => by omega, fun _ => ?_⟩⟩
        · unfold mall; rw [hold]; simp
        · rw [hset z]; simp
    obtain ⟨P, Q, e1, e2⟩ := hall
    have hy2 : (mall M)[P.length]? = some e.o := by rw [e1]; simp
    have hkP := uq_at hu1 hk hy2 (isO_self x) hp
    subst hkP
    rw [hy2] at hk
    have hxe : e.o = x := by cases hk; rfl
    rw [if_neg (by rw [hxe]; omega)] at hr
    have hbl : bless x.trader x.id n M.B = (true, M.B.put s ((M.B.side s).set kk ⟨lv.p, lv.es.set j ⟨wq e.o n, min e.seen n⟩⟩)) := by
      unfold bless
      rw [hf]
      dsimp only
      rw [hlv]
      dsimp only
      rw [hr]
    rw [hbl]
    dsimp only
    have hlok : (⟨lv.p, lv.es.set j ⟨wq e.o n, min e.seen n⟩⟩ : Lv).Ok := lv_set ((hw.b.side s).1 lv (List.mem_of_getElem? hlv)) he h1 (by rw [hxe]; exact h2)
    have hoks : ∀ z ∈ (M.B.side s).set kk ⟨lv.p, lv.es.set j ⟨wq e.o n, min e.seen n⟩⟩, z.Ok := by
      intro z m
      rcases List.mem_or_eq_of_mem_set m with m | rfl
      · exact (hw.b.side s).1 z m
      · exact hlok
    have e3 := e2 ⟨wq e.o n, min e.seen n⟩
    have hmall : mall ⟨M.B.put s ((M.B.side s).set kk ⟨lv.p, lv.es.set j ⟨wq e.o n, min e.seen n⟩⟩), M.W⟩ = (mall M).set P.length (wq x n) := by
      rw [e1, set_here, ← hxe]
      rcases hs with rfl | rfl
      · exact e3.1 rfl
      · exact e3.2 rfl
    have hlen := congrArg List.length hmall
    rw [List.length_set, mall_len, mall_len] at hlen
    have hlm := hw.len
    have hbw : BW (M.B.put s ((M.B.side s).set kk ⟨lv.p, lv.es.set j ⟨wq e.o n, min e.seen n⟩⟩)) := by
      have hll : lenL (M.B.put s ((M.B.side s).set kk ⟨lv.p, lv.es.set j ⟨wq e.o n, min e.seen n⟩⟩)).buys + lenL (M.B.put s ((M.B.side s).set kk ⟨lv.p, lv.es.set j ⟨wq e.o n, min e.seen n⟩⟩)).sells ≤ 64 := by
        unfold mlen at hlen hlm
        dsimp only at hlen
        omega
      rcases hs with rfl | rfl
      · exact ⟨hoks, hw.b.sells, hll⟩
      · exact ⟨hw.b.buys, hoks, hll⟩
    refine ⟨hmall, ⟨hbw, ?_, by rw [hlen]; exact hlm, hw.w⟩, ?_⟩
    · have := hw.no
      rcases hs with rfl | rfl <;> exact this
    · rcases hs with rfl | rfl <;> rfl
/-- An order of the book, by its place. -/
theorem rest_at {M : Mk} {k : Nat} {x : Ord} (hk : (mall M)[k]? = some x) (h : k + M.W.length < (mall M).length) : (bfind x.trader x.id M.B).2 = true := by
  cases hb : (bfind x.trader x.id M.B).2 with
  | true => rfl
  | false =>
    have h0 := cB_zero.2 hb
    unfold mall at hk h
    rw [← List.append_assoc] at hk h
    rw [List.length_append] at h
    rw [List.getElem?_append_left (by omega)] at hk
    have hm := List.mem_of_getElem? hk
    have : 0 < (ordersL (M.B.side 1) ++ ordersL (M.B.side 2)).countP (isO x.trader x.id) := List.countP_pos_iff.2 ⟨x, hm, isO_self x⟩
    rw [List.countP_append] at this
    unfold cB cL at h0
    omega
theorem amend_less {M : Mk} {x : Ord} {n : Int} (h : mfind x.trader x.id M = (x, true)) (hb : (bfind x.trader x.id M.B).2 = true) (hr : rightP (amO x x.price n)) (h2 : n ≤ x.qty) : mamend x.trader x.id x.price n M = ([], 0, ⟨(bless x.trader x.id n M.B).2, M.W⟩) := by
  unfold mamend
  rw [h, if_neg (by simp), if_neg (by unfold right; rw [if_pos hr]; decide), if_pos ⟨rfl, h2, hb⟩]
end Go.Proofs.Ytfhpoagnfmgfkaa

set_option autoImplicit false
set_option linter.unusedSectionVars false
set_option linter.unusedSimpArgs false
set_option linter.unusedVariables false
set_option maxRecDepth 4000
set_option maxHeartbeats 16000000
namespace Go.Proofs.Ytfhpoagnfmgfkaa
open Go Go.SL Go.Proofs
/-! A mass cancel. -/
def tbit (T x : Int) : Bool := decide (bits .and .u64 (T.fdiv (2 ^ min x.toNat IntKind.u64.bits)) 1 = 1)
def massM (f : Int → Bool) (M : Mk) (l : List Ord) : Mk := l.foldl (fun M x => if f x.trader = true then (mremove x.trader x.id M).2.2 else M) M
def wentL (f : Int → Bool) (l : List Ord) : List Ord := l.filter fun x => f x.trader
def stayL (f : Int → Bool) (l : List Ord) : List Ord := l.filter fun x => !f x.trader
def openS (t : Int) (l : List Ord) : Int := sumO (l.filter fun x => decide (x.trader = t))
theorem filter_take {p : Ord → Bool} {l : List Ord} {j : Nat} {x : Ord} (h : l[j]? = some x) : (l.take (j + 1)).filter p = (l.take j).filter p ++ (if p x = true then [x] else []) := by
  have hi := (List.getElem?_eq_some_iff.1 h).1
  rw [List.take_succ_eq_append_getElem hi, (List.getElem?_eq_some_iff.1 h).2, List.filter_append]
  congr 1
  by_cases hp : p x = true
  · rw [if_pos hp, List.filter_cons_of_pos hp]; rfl
  · rw [if_neg hp, List.filter_cons_of_neg hp]; rfl
theorem openS_take {t : Int} {l : List Ord} {j : Nat} {x : Ord} (h : l[j]? = some x) : openS t (l.take (j + 1)) = openS t (l.take j) + (if x.trader = t then x.qty else 0) := by
  unfold openS
  rw [filter_take h, sumO_append]
  by_cases hx : x.trader = t
  · rw [if_pos (decide_eq_true hx), if_pos hx]
    show _ + (x.qty + 0) = _
    omega
  · rw [if_neg (by rw [decide_eq_false hx]; simp), if_neg hx]; rfl
theorem openS_in {t : Int} {l : List Ord} (h : ∀ x ∈ l, 1 ≤ x.qty ∧ x.qty ≤ 1048576) : ∀ j, j ≤ l.length → 0 ≤ openS t (l.take j) ∧ openS t (l.take j) ≤ 1048576 * j
  | 0, _ => by simp [openS, sumO]
  | j + 1, hj => by
    have ih := openS_in h (t := t) j (by omega)
    obtain ⟨x, hx⟩ : ∃ x, l[j]? = some x := ⟨l[j]'(by omega), List.getElem?_eq_getElem _⟩
    have hq := h x (List.mem_of_getElem? hx)
    rw [openS_take hx]
    push_cast
    split <;> omega
variable [Base]
theorem massM_take {f : Int → Bool} {M : Mk} {l : List Ord} {j : Nat} {x : Ord} (h : l[j]? = some x) : massM f M (l.take (j + 1)) = if f x.trader = true then (mremove x.trader x.id (massM f M (l.take j))).2.2 else massM f M (l.take j) := by
  have hi := (List.getElem?_eq_some_iff.1 h).1
  unfold massM
  rw [List.take_succ_eq_append_getElem hi, List.foldl_append, (List.getElem?_eq_some_iff.1 h).2]; rfl
theorem mass_is {f : Int → Bool} {M : Mk} (hw : MW M) (hu : Uq M) : ∀ j, j ≤ (mall M).length → mall (massM f M ((mall M).take j)) = stayL f ((mall M).take j) ++ (mall M).drop j ∧ MW (massM f M ((mall M).take j)) ∧ Uq (massM f M ((mall M).take j)) ∧ (massM f M ((mall M).take j)).B.no = M.B.no
  | 0, _ => ⟨rfl, hw, hu, rfl⟩
  | j + 1, hj => by
    obtain ⟨i1, i2, i3, i4⟩ := mass_is (f := f) hw hu j (by omega)
    obtain ⟨x, hx⟩ : ∃ x, (mall M)[j]? = some x := ⟨(mall M)[j]'(by omega), List.getElem?_eq_getElem _⟩
    have hd : (mall M).drop j = x :: (mall M).drop (j + 1) := by
      have hj2 := (List.getElem?_eq_some_iff.1 hx).1
      rw [List.drop_eq_getElem_cons hj2, (List.getElem?_eq_some_iff.1 hx).2]
    rw [massM_take hx]
    unfold stayL
    rw [filter_take hx]
    unfold stayL at i1
    rw [hd] at i1
    generalize massM f M ((mall M).take j) = N at *
    generalize ((mall M).take j).filter (fun x => !f x.trader) = P at *
    by_cases hf : f x.trader = true
    · rw [if_pos hf, if_neg (by rw [hf]; simp), List.append_nil]
      have hk : (mall N)[P.length]? = some x := by rw [i1]; simp
      obtain ⟨-, -, r3, r4, -⟩ := mremove_at i2 i3 hk
      refine ⟨?_, r4, mremove_Uq i2 i3, by rw [mremove_no]; exact i4⟩
      rw [r3, i1, List.take_left, List.drop_append, List.drop_eq_nil_of_le (by omega)]
      have : P.length + 1 - P.length = 1 := by omega
      rw [this]; rfl
    · rw [if_neg hf, if_pos (by simp [hf])]
      refine ⟨?_, i2, i3, i4⟩
      rw [i1]; simp
end Go.Proofs.Ytfhpoagnfmgfkaa
