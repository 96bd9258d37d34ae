/- Contracts of functions of the given program over its translation, each proved by walking its text; used by the laws' rows. It proves no given statement by itself. -/
import Derived.Test.YtlokkniepoeepaaSLPlSC
set_option autoImplicit false
set_option linter.unusedSectionVars false
set_option linter.unusedSimpArgs false
set_option linter.unusedVariables false
set_option maxRecDepth 4000
set_option maxHeartbeats 16000000
namespace Go.Proofs.Ytlokkniepoeepaa
open Go Go.SL Go.Proofs
/-! Nothing is there twice. -/
def cE (t i : Int) (es : List Ent) : Nat := (es.map (·.o)).countP (isO t i)
def cL (t i : Int) (l : List Lv) : Nat := (ordersL l).countP (isO t i)
def cB (t i : Int) (B : Bk) : Nat := cL t i (B.side 1) + cL t i (B.side 2)
def cM (t i : Int) (M : Mk) : Nat := cB t i M.B + M.W.countP (isO t i)
theorem cE_cons (t i : Int) (e : Ent) (l : List Ent) : cE t i (e :: l) = cE t i l + if isO t i e.o = true then 1 else 0 := by
  unfold cE
  rw [List.map_cons, List.countP_cons]
theorem cE_append (t i : Int) (l m : List Ent) : cE t i (l ++ m) = cE t i l + cE t i m := by
  unfold cE
  rw [List.map_append, List.countP_append]
theorem cL_cons (t i : Int) (lv : Lv) (l : List Lv) : cL t i (lv :: l) = cE t i lv.es + cL t i l := by
  unfold cL cE
  rw [ordersL, List.countP_append]
theorem cL_append (t i : Int) (l m : List Lv) : cL t i (l ++ m) = cL t i l + cL t i m := by
  induction l with
  | nil => simp [cL, ordersL]
  | cons x l ih => rw [List.cons_append, cL_cons, cL_cons, ih]; omega
theorem giveE_cnt (t i : Int) (e : Ent) (l : List Ent) (n : Int) : cE t i (giveE e l n) ≤ cE t i (e :: l) := by
  unfold giveE
  rw [cE_cons]
  split
  · rw [cE_cons]; exact Nat.le_refl _
  · split
    · rw [cE_append, cE_cons]
      show cE t i l + (0 + if isO t i e.o = true then 1 else 0) ≤ _
      omega
    · omega
theorem take_cnt (t i : Int) {firm : Int} (k : Nat) : ∀ (q : Int) (es : List Ent), q.toNat ≤ k → cE t i (take firm q es).2.2 ≤ cE t i es := by
  induction k with
  | zero =>
    intro q es hq
    rw [take_le (by omega)]
    exact Nat.le_refl _
  | succ k ih =>
    intro q es hq
    rw [take.eq_def]
    split
    · cases es with
      | nil => exact Nat.le_refl _
      | cons e l =>
        dsimp only
        split
        · exact Nat.le_refl _
        · split
          · rename_i hn
            have h1 := ih (q - min q e.seen) (giveE e l (min q e.seen)) (by omega)
            have h2 := giveE_cnt t i e l (min q e.seen)
            dsimp only; omega
          · exact Nat.le_refl _
    · exact Nat.le_refl _
theorem match_cnt (t i : Int) : ∀ (l : List Lv) (o : Ord) (last no : Int), cL t i (matchL o l last no).lvs ≤ cL t i l
  | [], _, _, _ => Nat.le_refl _
  | lv :: r, o, last, no => by
    have ht := take_cnt t i (firm := o.firm) o.qty.toNat o.qty lv.es (Nat.le_refl _)
    rw [cL_cons]
    unfold matchL
    split
    · split
      · dsimp only
        split
        · omega
        · rw [cL_cons]; dsimp only; omega
      · split
        · have := match_cnt t i r (wq o (o.qty - sumH (take o.firm o.qty lv.es).1)) (if (take o.firm o.qty lv.es).1 = [] then last else lv.p) (no + (take o.firm o.qty lv.es).1.length)
          show cL t i (matchL _ r _ _).lvs ≤ _
          omega
        · rw [cL_cons]; dsimp only; omega
    · rw [cL_cons]; exact Nat.le_refl _
variable [Base]
theorem rest_cnt (t i : Int) (o : Ord) (l : List Lv) : cL t i (restL o l) = cL t i l + if isO t i o = true then 1 else 0 := by
  obtain ⟨a, b, -, h⟩ := restL_form o l
  rcases h with ⟨lv, -, h1, h2⟩ | ⟨h1, h2, -⟩
  · rw [h2, h1, cL_append, cL_append, cL_cons, cL_cons]
    dsimp only
    rw [cE_append, cE_cons]
    show cL t i a + (cE t i lv.es + (0 + (if isO t i o = true then 1 else 0)) + cL t i b) = cL t i a + (cE t i lv.es + cL t i b) + (if isO t i o = true then 1 else 0)
    omega
  · rw [h2, h1, cL_append, cL_append, cL_cons]
    dsimp only
    rw [cE_cons]
    show cL t i a + (0 + (if isO t i o = true then 1 else 0) + cL t i b) = cL t i a + cL t i b + (if isO t i o = true then 1 else 0)
    omega
theorem cB_side (t i : Int) (B : Bk) {s : Int} (hs : s = 1 ∨ s = 2) : cB t i B = cL t i (B.side s) + cL t i (B.side (3 - s)) := by
  rcases hs with rfl | rfl
  · rfl
  · unfold cB
    show _ = cL t i (B.side 2) + cL t i (B.side 1); omega
theorem cE_zero {t i : Int} {es : List Ent} : cE t i es = 0 ↔ ∀ e ∈ es, ¬ (e.o.trader = t ∧ e.o.id = i) := by
  unfold cE
  rw [List.countP_eq_zero]
  constructor
  · intro h e m hh
    have := h e.o (List.mem_map_of_mem m)
    unfold isO at this
    rw [decide_eq_true hh.1, decide_eq_true hh.2] at this
    exact this rfl
  · intro h o m hh
    obtain ⟨e, me, rfl⟩ := List.mem_map.1 m
    unfold isO at hh
    rw [Bool.and_eq_true, decide_eq_true_eq, decide_eq_true_eq] at hh
    exact h e me hh
theorem cL_zero {t i : Int} : ∀ {l : List Lv}, cL t i l = 0 ↔ findL t i l = none
  | [] => by simp [cL, ordersL, findL]
  | lv :: r => by
    have ih := cL_zero (t := t) (i := i) (l := r)
    rw [cL_cons]
    unfold findL
    have hf : (lv.es.map (·.o)).find? (fun o => decide (o.trader = t) && decide (o.id = i)) = none ↔ cE t i lv.es = 0 := by
      unfold cE
      rw [List.find?_eq_none, List.countP_eq_zero]
      exact Iff.rfl
    cases h1 : (lv.es.map (·.o)).find? (fun o => decide (o.trader = t) && decide (o.id = i)) with
    | some o =>
      have hne : cE t i lv.es ≠ 0 := fun h => by rw [hf.2 h] at h1; cases h1
      dsimp only
      constructor
      · intro h; omega
      · intro h; cases h
    | none =>
      have h0 := hf.1 h1
      dsimp only
      cases h2 : findL t i r with
      | some x =>
        obtain ⟨k, o⟩ := x
        dsimp only
        constructor
        · intro h
          have := ih.1 (by omega)
          rw [h2] at this; cases this
        · intro h; cases h
      | none =>
        have := ih.2 h2
        dsimp only
        constructor
        · intro _; rfl
        · intro _; omega
theorem cB_zero {t i : Int} {B : Bk} : cB t i B = 0 ↔ (bfind t i B).2 = false := by
  unfold bfind findB cB
  have h1 : cL t i (B.side 1) = 0 ↔ findL t i B.buys = none := cL_zero
  have h2 : cL t i (B.side 2) = 0 ↔ findL t i B.sells = none := cL_zero
  cases e1 : findL t i B.buys with
  | some x =>
    obtain ⟨k, o⟩ := x
    dsimp only
    constructor
    · intro h
      have := h1.1 (by omega)
      rw [e1] at this; cases this
    · intro h; cases h
  | none =>
    have e3 := h1.2 e1
    cases e2 : findL t i B.sells with
    | some x =>
      obtain ⟨k, o⟩ := x
      dsimp only
      constructor
      · intro h
        have := h2.1 (by omega)
        rw [e2] at this; cases this
      · intro h; cases h
    | none =>
      have e4 := h2.2 e2
      dsimp only
      constructor
      · intro _; rfl
      · intro _; omega
theorem cM_all (t i : Int) (M : Mk) : (mall M).countP (isO t i) = cM t i M := by
  unfold mall cM cB cL
  rw [List.countP_append, List.countP_append]; omega
theorem cM_zero {t i : Int} {M : Mk} (h : (mfind t i M).2 = false) : cM t i M = 0 := by
  unfold mfind at h
  split at h
  · cases h
  · rename_i hb
    have hb0 := cB_zero.2 (show (bfind t i M.B).2 = false by simpa using hb)
    unfold cM
    cases hf : M.W.findIdx? (isO t i) with
    | none =>
      rw [List.findIdx?_eq_none_iff] at hf
      have : M.W.countP (isO t i) = 0 := by
        rw [List.countP_eq_zero]
        intro o m; rw [hf o m]; simp
      omega
    | some k =>
      rw [hf] at h
      dsimp only at h
      have hk := (List.findIdx?_eq_some_iff_getElem.1 hf).1
      rw [List.getElem?_eq_getElem hk] at h
      cases h
theorem add_cnt (t i : Int) {o : Ord} {B : Bk} : cB t i (badd o B).2 ≤ cB t i B + if isO t i o = true then 1 else 0 := by
  by_cases h0 : brefused o B = 0
  · have hr2 : right o = 0 := by
      unfold brefused at h0
      split at h0
      · cases h0
      · rename_i h; omega
    have hr := right_zero hr2
    have hs : o.side = 1 ∨ o.side = 2 := by unfold rightP at hr; omega
    have A := add_is hs h0
    have hm := match_cnt t i (B.side (3 - o.side)) o B.last B.no
    generalize matchL o (B.side (3 - o.side)) B.last B.no = m at *
    rw [cB_side t i _ hs, cB_side t i B hs, A.theirs, A.mine]
    split
    · rw [rest_cnt]
      have : isO t i (wqs o m.qty (min o.show_ m.qty)) = isO t i o := rfl
      rw [this]; omega
    · omega
  · rw [refused_is h0]
    dsimp only; omega
theorem enter_cnt (t i : Int) (o : Ord) (B : Bk) : cB t i (menter o B).2 ≤ cB t i B + if isO t i o = true then 1 else 0 := add_cnt t i (o := bare o)
theorem cut_cnt (t i : Int) {W : List Ord} {k : Nat} {o : Ord} (h : W[k]? = some o) : (W.take k ++ W.drop (k + 1)).countP (isO t i) + (if isO t i o = true then 1 else 0) = W.countP (isO t i) := by
  have hk := (List.getElem?_eq_some_iff.1 h).1
  have e : W[k] = o := (List.getElem?_eq_some_iff.1 h).2
  have hs : W = W.take k ++ o :: W.drop (k + 1) := by
    conv => lhs; rw [← List.take_append_drop k W, List.drop_eq_getElem_cons hk, e]
  conv => rhs; rw [hs]
  rw [List.countP_append, List.countP_append, List.countP_cons]; omega
theorem trig_cnt (t i : Int) : ∀ (n : Nat) (M : Mk), cM t i (mtrig n M).2 ≤ cM t i M
  | 0, M => Nat.le_refl _
  | n + 1, M => by
    unfold mtrig
    cases hf : M.W.findIdx? (fun o => hit o M.B.last) with
    | none => exact Nat.le_refl _
    | some k =>
      dsimp only
      cases ho : M.W[k]? with
      | none => exact Nat.le_refl _
      | some o =>
        dsimp only
        have h1 := trig_cnt t i n ⟨(menter o M.B).2, M.W.take k ++ M.W.drop (k + 1)⟩
        have h2 := enter_cnt t i o M.B
        have h3 := cut_cnt t i ho
        unfold cM at h1 ⊢
        dsimp only at h1
        omega
theorem isO_is {t i : Int} {o : Ord} (h : isO t i o = true) : o.trader = t ∧ o.id = i := by
  unfold isO at h
  rwa [Bool.and_eq_true, decide_eq_true_eq, decide_eq_true_eq] at h
/-- Nothing is there twice. -/
def Uq (M : Mk) : Prop := ∀ t i, cM t i M ≤ 1
theorem Uq.empty : Uq emptyM := fun _ _ => Nat.zero_le _
theorem refused_no {o : Ord} {M : Mk} (h : mrefused o M = 0) : rightP o ∧ cM o.trader o.id M = 0 := by
  unfold mrefused at h
  split at h
  · cases h
  · rename_i h1
    split at h
    · cases h
    · rename_i h2
      exact ⟨right_zero (by omega), cM_zero (by simpa using h2)⟩
theorem madd_Uq {o : Ord} {M : Mk} (h : Uq M) : Uq (madd o M).2 := by
  intro t i
  have h1 : cM t i (mfirst o M).2 ≤ 1 := by
    unfold mfirst
    split
    · exact h t i
    · rename_i hr
      have h0 := (refused_no (o := o) (M := M) (by omega)).2
      have ht := h t i
      split
      · unfold cM at h0 ht ⊢
        dsimp only
        rw [List.countP_append, List.countP_cons]
        by_cases hi : isO t i o = true
        · obtain ⟨rfl, rfl⟩ := isO_is hi
          rw [if_pos hi]
          show _ + (_ + (0 + 1)) ≤ 1
          omega
        · rw [if_neg hi]
          show _ + (_ + (0 + 0)) ≤ 1
          omega
      · have h2 := enter_cnt t i o M.B
        unfold cM at h0 ht ⊢
        dsimp only
        by_cases hi : isO t i o = true
        · obtain ⟨rfl, rfl⟩ := isO_is hi
          rw [if_pos hi] at h2
          omega
        · rw [if_neg hi] at h2
          omega
  have h2 := trig_cnt t i (mfirst o M).2.W.length (mfirst o M).2
  unfold madd
  dsimp only
  omega
/-- Two places of a list of orders with one key are one place. -/
theorem uq_at {l : List Ord} {t i : Int} (h : l.countP (isO t i) ≤ 1) {a c : Nat} {x y : Ord} (hx : l[a]? = some x) (hy : l[c]? = some y) (hp : isO t i x = true) (hq : isO t i y = true) : a = c := by
  induction l generalizing a c with
  | nil => simp at hx
  | cons z l ih =>
    rw [List.countP_cons] at h
    have pos : ∀ {k : Nat} {w : Ord}, l[k]? = some w → isO t i w = true → 1 ≤ l.countP (isO t i) := fun hw hp => List.countP_pos_iff.2 ⟨_, List.mem_of_getElem? hw, hp⟩
    cases a with
    | zero =>
      cases c with
      | zero => rfl
      | succ c =>
        simp only [List.getElem?_cons_zero, Option.some.injEq] at hx
        simp only [List.getElem?_cons_succ] at hy
        subst hx
        rw [if_pos hp] at h
        have := pos hy hq
        omega
    | succ a =>
      cases c with
      | zero =>
        simp only [List.getElem?_cons_zero, Option.some.injEq] at hy
        simp only [List.getElem?_cons_succ] at hx
        subst hy
        rw [if_pos hq] at h
        have := pos hx hp
        omega
      | succ c =>
        simp only [List.getElem?_cons_succ] at hx hy
        rw [ih (by split at h <;> omega) hx hy]
theorem isO_self (o : Ord) : isO o.trader o.id o = true := by unfold isO; simp
theorem Uq.at {M : Mk} (h : Uq M) {a c : Nat} {x y : Ord} (hx : (mall M)[a]? = some x) (hy : (mall M)[c]? = some y) (hk : x.trader = y.trader ∧ x.id = y.id) : a = c :=
  uq_at (t := x.trader) (i := x.id) (by rw [cM_all]; exact h _ _) hx hy (isO_self x) (by unfold isO; rw [hk.1, hk.2]; simp)
/-! What is left waiting isn't hit. -/
theorem trig_done : ∀ (n : Nat) (M : Mk), M.W.length ≤ n → ∀ x ∈ (mtrig n M).2.W, hit x (mtrig n M).2.B.last = false
  | 0, M, h, x, m => by
    have : M.W = [] := List.length_eq_zero_iff.1 (by omega)
    have m : x ∈ M.W := m
    rw [this] at m; cases m
  | n + 1, M, h, x, m => by
    unfold mtrig at m ⊢
    cases hf : M.W.findIdx? (fun o => hit o M.B.last) with
    | none =>
      rw [hf] at m
      rw [List.findIdx?_eq_none_iff] at hf
      exact hf x m
    | some k =>
      have hk := (List.findIdx?_eq_some_iff_getElem.1 hf).1
      have ho : M.W[k]? = some M.W[k] := List.getElem?_eq_getElem hk
      generalize M.W[k] = o at *
      rw [hf] at m
      dsimp only at m ⊢
      rw [ho] at m ⊢
      dsimp only at m ⊢
      exact trig_done n _ (by have := cut_len ho; dsimp only; omega) x m
theorem madd_done (o : Ord) (M : Mk) : ∀ x ∈ (madd o M).2.W, hit x (madd o M).2.B.last = false := trig_done _ _ (Nat.le_refl _)
/-- What waits has a stop. -/
def Wst (M : Mk) : Prop := ∀ o ∈ M.W, 0 < o.stop
theorem trig_stop : ∀ (n : Nat) (M : Mk), Wst M → Wst (mtrig n M).2 ∧ ∀ x ∈ (mtrig n M).1, x.order.stop ≠ 0 ∧ x.waits = false
  | 0, M, h => ⟨h, fun _ m => nomatch m⟩
  | n + 1, M, h => by
    unfold mtrig
    cases hf : M.W.findIdx? (fun o => hit o M.B.last) with
    | none => exact ⟨h, fun _ m => nomatch m⟩
    | some k =>
      dsimp only
      cases ho : M.W[k]? with
      | none => exact ⟨h, fun _ m => nomatch m⟩
      | some o =>
        dsimp only
        obtain ⟨i1, i2⟩ := trig_stop n ⟨(menter o M.B).2, M.W.take k ++ M.W.drop (k + 1)⟩ fun x m => h x (cut_mem m)
        refine ⟨i1, fun x m => ?_⟩
        rcases List.mem_cons.1 m with rfl | m
        · have := h o (List.mem_of_getElem? ho)
          exact ⟨by show o.stop ≠ 0; omega, badd_waits (bare o) M.B⟩
        · exact i2 x m
theorem madd_stop {o : Ord} {M : Mk} (h : Wst M) : Wst (madd o M).2 ∧ ∀ (k : Nat) (x : Out), 0 < k → (madd o M).1[k]? = some x → x.order.stop ≠ 0 ∧ x.waits = false := by
  have h1 : Wst (mfirst o M).2 := by
    unfold mfirst
    split
    · exact h
    · split
      · rename_i hs
        intro x m
        rcases List.mem_append.1 m with m | m
        · exact h x m
        · rw [List.mem_singleton] at m
          subst m; exact hs.1
      · exact h
  obtain ⟨i1, i2⟩ := trig_stop (mfirst o M).2.W.length _ h1
  unfold madd
  refine ⟨i1, fun k x hk hx => ?_⟩
  cases k with
  | zero => omega
  | succ k =>
    simp only [List.getElem?_cons_succ] at hx
    exact i2 x (List.mem_of_getElem? hx)
end Go.Proofs.Ytlokkniepoeepaa
