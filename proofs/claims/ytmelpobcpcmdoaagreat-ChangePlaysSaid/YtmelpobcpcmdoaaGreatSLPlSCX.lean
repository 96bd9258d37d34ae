/- Contracts of functions of the given program over its translation, each proved by walking its text; used by the laws' rows. It proves no given statement by itself. -/
import Derived.Test.YtmelpobcpcmdoaaGreatSLSlcCX
import Derived.Test.YtmelpobcpcmdoaaGreatSLBk8X
set_option autoImplicit false
set_option linter.unusedSectionVars false
set_option linter.unusedSimpArgs false
set_option linter.unusedVariables false
set_option maxRecDepth 4000
set_option maxHeartbeats 16000000
namespace Go.Proofs.YtmelpobcpcmdoaaGreat
open Go Go.SL Go.Proofs
/-- What an outcome takes away; of an order that was refused at once nothing. -/
def goneO (first : Bool) (x : Out) : Int := 2 * sumF x.fs + (if x.rests = false ∧ x.waits = false ∧ (first = false ∨ x.err = 0) then x.left else 0)
def goneL : Bool → List Out → Int
  | _, [] => 0
  | b, x :: r => goneO b x + goneL false r
def cameO (x : Out) : Int := if x.err = 0 then x.order.qty else 0
def cameL : List Out → Int
  | [] => 0
  | x :: _ => cameO x
def sumB (B : Bk) : Int := sumO (ordersL (B.side 1)) + sumO (ordersL (B.side 2))
def sumM (M : Mk) : Int := sumB M.B + sumO M.W
/-- An outcome's numbers. -/
structure OutOk (x : Out) : Prop where
  part : ∀ i, 0 ≤ sumF (x.fs.take i) ∧ sumF (x.fs.take i) ≤ sumF x.fs
  got : 0 ≤ sumF x.fs ∧ sumF x.fs ≤ x.order.qty
  left : x.left = x.order.qty - sumF x.fs
  qty : 1 ≤ x.order.qty ∧ x.order.qty ≤ 1048576
  num : x.fs.length ≤ 1048576
  each : ∀ f ∈ x.fs, 1 ≤ f.qty ∧ f.qty ≤ 1048576
variable [Base]
theorem sumM_pos {M : Mk} (h : MW M) : (∀ i, 0 ≤ sumO ((mall M).take i) ∧ sumO ((mall M).take i) ≤ 1048576 * ((mall M).length : Nat)) ∧ ∀ x ∈ mall M, 1 ≤ x.qty ∧ x.qty ≤ 1048576 := by
  have he : ∀ x ∈ mall M, 1 ≤ x.qty ∧ x.qty ≤ 1048576 := by
    intro x m
    unfold mall at m
    rcases List.mem_append.1 m with m | m
    · exact orders_qty (h.b.side 1).1 m
    · rcases List.mem_append.1 m with m | m
      · exact orders_qty (h.b.side 2).1 m
      · have := h.w x m
        unfold rightP at this; omega
  exact ⟨fun i => sumO_part he i, he⟩
end Go.Proofs.YtmelpobcpcmdoaaGreat

set_option autoImplicit false
set_option linter.unusedSectionVars false
set_option linter.unusedSimpArgs false
set_option linter.unusedVariables false
set_option maxRecDepth 4000
set_option maxHeartbeats 16000000
namespace Go.Proofs.YtmelpobcpcmdoaaGreat
open Go Go.SL Go.Proofs
/-! Nothing is there twice. -/
def cE (t i : Int) (es : List Ent) : Nat := (es.map (·.o)).countP (isO t i)
def cL (t i : Int) (l : List Lv) : Nat := (ordersL l).countP (isO t i)
def cB (t i : Int) (B : Bk) : Nat := cL t i (B.side 1) + cL t i (B.side 2)
def cM (t i : Int) (M : Mk) : Nat := cB t i M.B + M.W.countP (isO t i)
theorem cE_cons (t i : Int) (e : Ent) (l : List Ent) : cE t i (e :: l) = cE t i l + if isO t i e.o = true then 1 else 0 := by
  unfold cE
  rw [List.map_cons, List.countP_cons]
theorem cE_append (t i : Int) (l m : List Ent) : cE t i (l ++ m) = cE t i l + cE t i m := by
  unfold cE
  rw [List.map_append, List.countP_append]
theorem cL_cons (t i : Int) (lv : Lv) (l : List Lv) : cL t i (lv :: l) = cE t i lv.es + cL t i l := by
  unfold cL cE
  rw [ordersL, List.countP_append]
theorem cL_append (t i : Int) (l m : List Lv) : cL t i (l ++ m) = cL t i l + cL t i m := by
  induction l with
  | nil => simp [cL, ordersL]
  | cons x l ih => rw [List.cons_append, cL_cons, cL_cons, ih]; omega
theorem giveE_cnt (t i : Int) (e : Ent) (l : List Ent) (n : Int) : cE t i (giveE e l n) ≤ cE t i (e :: l) := by
  unfold giveE
  rw [cE_cons]
  split
  · rw [cE_cons]; exact Nat.le_refl _
  · split
    · rw [cE_append, cE_cons]
      show cE t i l + (0 + if isO t i e.o = true then 1 else 0) ≤ _
      omega
    · omega
theorem take_cnt (t i : Int) {firm : Int} (k : Nat) : ∀ (q : Int) (es : List Ent), q.toNat ≤ k → cE t i (take firm q es).2.2 ≤ cE t i es := by
  induction k with
  | zero =>
    intro q es hq
    rw [take_le (by omega)]
    exact Nat.le_refl _
  | succ k ih =>
    intro q es hq
    rw [take.eq_def]
    split
    · cases es with
      | nil => exact Nat.le_refl _
      | cons e l =>
        dsimp only
        split
        · exact Nat.le_refl _
        · split
          · rename_i hn
            have h1 := ih (q - min q e.seen) (giveE e l (min q e.seen)) (by omega)
            have h2 := giveE_cnt t i e l (min q e.seen)
            dsimp only; omega
          · exact Nat.le_refl _
    · exact Nat.le_refl _
theorem match_cnt (t i : Int) : ∀ (l : List Lv) (o : Ord) (last no : Int), cL t i (matchL o l last no).lvs ≤ cL t i l
  | [], _, _, _ => Nat.le_refl _
  | lv :: r, o, last, no => by
    have ht := take_cnt t i (firm := o.firm) o.qty.toNat o.qty lv.es (Nat.le_refl _)
    rw [cL_cons]
    unfold matchL
    split
    · split
      · dsimp only
        split
        · omega
        · rw [cL_cons]; dsimp only; omega
      · split
        · have := match_cnt t i r (wq o (o.qty - sumH (take o.firm o.qty lv.es).1)) (if (take o.firm o.qty lv.es).1 = [] then last else lv.p) (no + (take o.firm o.qty lv.es).1.length)
          show cL t i (matchL _ r _ _).lvs ≤ _
          omega
        · rw [cL_cons]; dsimp only; omega
    · rw [cL_cons]; exact Nat.le_refl _
variable [Base]
theorem rest_cnt (t i : Int) (o : Ord) (l : List Lv) : cL t i (restL o l) = cL t i l + if isO t i o = true then 1 else 0 := by
  obtain ⟨a, b, -, h⟩ := restL_form o l
  rcases h with ⟨lv, -, h1, h2⟩ | ⟨h1, h2, -⟩
  · rw [h2, h1, cL_append, cL_append, cL_cons, cL_cons]
    dsimp only
    rw [cE_append, cE_cons]
    show cL t i a + (cE t i lv.es + (0 + (if isO t i o = true then 1 else 0)) + cL t i b) = cL t i a + (cE t i lv.es + cL t i b) + (if isO t i o = true then 1 else 0)
    omega
  · rw [h2, h1, cL_append, cL_append, cL_cons]
    dsimp only
    rw [cE_cons]
    show cL t i a + (0 + (if isO t i o = true then 1 else 0) + cL t i b) = cL t i a + cL t i b + (if isO t i o = true then 1 else 0)
    omega
theorem cB_side (t i : Int) (B : Bk) {s : Int} (hs : s = 1 ∨ s = 2) : cB t i B = cL t i (B.side s) + cL t i (B.side (3 - s)) := by
  rcases hs with rfl | rfl
  · rfl
  · unfold cB
    show _ = cL t i (B.side 2) + cL t i (B.side 1); omega
theorem cL_zero {t i : Int} : ∀ {l : List Lv}, cL t i l = 0 ↔ findL t i l = none
  | [] => by simp [cL, ordersL, findL]
  | lv :: r => by
    have ih := cL_zero (t := t) (i := i) (l := r)
    rw [cL_cons]
    unfold findL
    have hf : (lv.es.map (·.o)).find? (fun o => decide (o.trader = t) && decide (o.id = i)) = none ↔ cE t i lv.es = 0 := by
      unfold cE
      rw [List.find?_eq_none, List.countP_eq_zero]
      exact Iff.rfl
    cases h1 : (lv.es.map (·.o)).find? (fun o => decide (o.trader = t) && decide (o.id = i)) with
    | some o =>
      have hne : cE t i lv.es ≠ 0 := fun h => by rw [hf.2 h] at h1; cases h1
      dsimp only
      constructor
      · intro h; omega
      · intro h; cases h
    | none =>
      have h0 := hf.1 h1
      dsimp only
      cases h2 : findL t i r with
      | some x =>
        obtain ⟨k, o⟩ := x
        dsimp only
        constructor
        · intro h
          have := ih.1 (by omega)
          rw [h2] at this; cases this
        · intro h; cases h
      | none =>
        have := ih.2 h2
        dsimp only
        constructor
        · intro _; rfl
        · intro _; omega
theorem cB_zero {t i : Int} {B : Bk} : cB t i B = 0 ↔ (bfind t i B).2 = false := by
  unfold bfind findB cB
  have h1 : cL t i (B.side 1) = 0 ↔ findL t i B.buys = none := cL_zero
  have h2 : cL t i (B.side 2) = 0 ↔ findL t i B.sells = none := cL_zero
  cases e1 : findL t i B.buys with
  | some x =>
    obtain ⟨k, o⟩ := x
    dsimp only
    constructor
    · intro h
      have := h1.1 (by omega)
      rw [e1] at this; cases this
    · intro h; cases h
  | none =>
    have e3 := h1.2 e1
    cases e2 : findL t i B.sells with
    | some x =>
      obtain ⟨k, o⟩ := x
      dsimp only
      constructor
      · intro h
        have := h2.1 (by omega)
        rw [e2] at this; cases this
      · intro h; cases h
    | none =>
      have e4 := h2.2 e2
      dsimp only
      constructor
      · intro _; rfl
      · intro _; omega
theorem cM_all (t i : Int) (M : Mk) : (mall M).countP (isO t i) = cM t i M := by
  unfold mall cM cB cL
  rw [List.countP_append, List.countP_append]; omega
theorem cM_zero {t i : Int} {M : Mk} (h : (mfind t i M).2 = false) : cM t i M = 0 := by
  unfold mfind at h
  split at h
  · cases h
  · rename_i hb
    have hb0 := cB_zero.2 (show (bfind t i M.B).2 = false by simpa using hb)
    unfold cM
    cases hf : M.W.findIdx? (isO t i) with
    | none =>
      rw [List.findIdx?_eq_none_iff] at hf
      have : M.W.countP (isO t i) = 0 := by
        rw [List.countP_eq_zero]
        intro o m; rw [hf o m]; simp
      omega
    | some k =>
      rw [hf] at h
      dsimp only at h
      have hk := (List.findIdx?_eq_some_iff_getElem.1 hf).1
      rw [List.getElem?_eq_getElem hk] at h
      cases h
theorem add_cnt (t i : Int) {o : Ord} {B : Bk} : cB t i (badd o B).2 ≤ cB t i B + if isO t i o = true then 1 else 0 := by
  by_cases h0 : brefused o B = 0
  · have hr2 : right o = 0 := by
      unfold brefused at h0
      split at h0
      · cases h0
      · rename_i h; omega
    have hr := right_zero hr2
    have hs : o.side = 1 ∨ o.side = 2 := by unfold rightP at hr; omega
    have A := add_is hs h0
    have hm := match_cnt t i (B.side (3 - o.side)) o B.last B.no
    generalize matchL o (B.side (3 - o.side)) B.last B.no = m at *
    rw [cB_side t i _ hs, cB_side t i B hs, A.theirs, A.mine]
    split
    · rw [rest_cnt]
      have : isO t i (wqs o m.qty (min o.show_ m.qty)) = isO t i o := rfl
      rw [this]; omega
    · omega
  · rw [refused_is h0]
    dsimp only; omega
theorem enter_cnt (t i : Int) (o : Ord) (B : Bk) : cB t i (menter o B).2 ≤ cB t i B + if isO t i o = true then 1 else 0 := add_cnt t i (o := bare o)
theorem cut_cnt (t i : Int) {W : List Ord} {k : Nat} {o : Ord} (h : W[k]? = some o) : (W.take k ++ W.drop (k + 1)).countP (isO t i) + (if isO t i o = true then 1 else 0) = W.countP (isO t i) := by
  have hk := (List.getElem?_eq_some_iff.1 h).1
  have e : W[k] = o := (List.getElem?_eq_some_iff.1 h).2
  have hs : W = W.take k ++ o :: W.drop (k + 1) := by
    conv => lhs; rw [← List.take_append_drop k W, List.drop_eq_getElem_cons hk, e]
  conv => rhs; rw [hs]
  rw [List.countP_append, List.countP_append, List.countP_cons]; omega
theorem trig_cnt (t i : Int) : ∀ (n : Nat) (M : Mk), cM t i (mtrig n M).2 ≤ cM t i M
  | 0, M => Nat.le_refl _
  | n + 1, M => by
    unfold mtrig
    cases hf : M.W.findIdx? (fun o => hit o M.B.last) with
    | none => exact Nat.le_refl _
    | some k =>
      dsimp only
      cases ho : M.W[k]? with
      | none => exact Nat.le_refl _
      | some o =>
        dsimp only
        have h1 := trig_cnt t i n ⟨(menter o M.B).2, M.W.take k ++ M.W.drop (k + 1)⟩
        have h2 := enter_cnt t i o M.B
        have h3 := cut_cnt t i ho
        unfold cM at h1 ⊢
        dsimp only at h1
        omega
theorem isO_is {t i : Int} {o : Ord} (h : isO t i o = true) : o.trader = t ∧ o.id = i := by
  unfold isO at h
  rwa [Bool.and_eq_true, decide_eq_true_eq, decide_eq_true_eq] at h
/-- Nothing is there twice. -/
def Uq (M : Mk) : Prop := ∀ t i, cM t i M ≤ 1
theorem Uq.empty : Uq emptyM := fun _ _ => Nat.zero_le _
theorem refused_no {o : Ord} {M : Mk} (h : mrefused o M = 0) : rightP o ∧ cM o.trader o.id M = 0 := by
  unfold mrefused at h
  split at h
  · cases h
  · rename_i h1
    split at h
    · cases h
    · rename_i h2
      exact ⟨right_zero (by omega), cM_zero (by simpa using h2)⟩
theorem madd_Uq {o : Ord} {M : Mk} (h : Uq M) : Uq (madd o M).2 := by
  intro t i
  have h1 : cM t i (mfirst o M).2 ≤ 1 := by
    unfold mfirst
    split
    · exact h t i
    · rename_i hr
      have h0 := (refused_no (o := o) (M := M) (by omega)).2
      have ht := h t i
      split
      · unfold cM at h0 ht ⊢
        dsimp only
        rw [List.countP_append, List.countP_cons]
        by_cases hi : isO t i o = true
        · obtain ⟨rfl, rfl⟩ := isO_is hi
          rw [if_pos hi]
          show _ + (_ + (0 + 1)) ≤ 1
          omega
        · rw [if_neg hi]
          show _ + (_ + (0 + 0)) ≤ 1
          omega
      · have h2 := enter_cnt t i o M.B
        unfold cM at h0 ht ⊢
        dsimp only
        by_cases hi : isO t i o = true
        · obtain ⟨rfl, rfl⟩ := isO_is hi
          rw [if_pos hi] at h2
          omega
        · rw [if_neg hi] at h2
          omega
  have h2 := trig_cnt t i (mfirst o M).2.W.length (mfirst o M).2
  unfold madd
  dsimp only
  omega
/-- Two places of a list of orders with one key are one place. -/
theorem uq_at {l : List Ord} {t i : Int} (h : l.countP (isO t i) ≤ 1) {a c : Nat} {x y : Ord} (hx : l[a]? = some x) (hy : l[c]? = some y) (hp : isO t i x = true) (hq : isO t i y = true) : a = c := by
  induction l generalizing a c with
  | nil => simp at hx
  | cons z l ih =>
    rw [List.countP_cons] at h
    have pos : ∀ {k : Nat} {w : Ord}, l[k]? = some w → isO t i w = true → 1 ≤ l.countP (isO t i) := fun hw hp => List.countP_pos_iff.2 ⟨_, List.mem_of_getElem? hw, hp⟩
    cases a with
    | zero =>
      cases c with
      | zero => rfl
      | succ c =>
        simp only [List.getElem?_cons_zero, Option.some.injEq] at hx
        simp only [List.getElem?_cons_succ] at hy
        subst hx
        rw [if_pos hp] at h
        have := pos hy hq
        omega
    | succ a =>
      cases c with
      | zero =>
        simp only [List.getElem?_cons_zero, Option.some.injEq] at hy
        simp only [List.getElem?_cons_succ] at hx
        subst hy
        rw [if_pos hq] at h
        have := pos hx hp
        omega
      | succ c =>
        simp only [List.getElem?_cons_succ] at hx hy
        rw [ih (by split at h <;> omega) hx hy]
theorem isO_self (o : Ord) : isO o.trader o.id o = true := by unfold isO; simp
theorem Uq.at {M : Mk} (h : Uq M) {a c : Nat} {x y : Ord} (hx : (mall M)[a]? = some x) (hy : (mall M)[c]? = some y) (hk : x.trader = y.trader ∧ x.id = y.id) : a = c :=
  uq_at (t := x.trader) (i := x.id) (by rw [cM_all]; exact h _ _) hx hy (isO_self x) (by unfold isO; rw [hk.1, hk.2]; simp)
/-! What is left waiting isn't hit. -/
/-- What waits has a stop. -/
def Wst (M : Mk) : Prop := ∀ o ∈ M.W, 0 < o.stop
end Go.Proofs.YtmelpobcpcmdoaaGreat

set_option autoImplicit false
set_option linter.unusedSectionVars false
set_option linter.unusedSimpArgs false
set_option linter.unusedVariables false
set_option maxRecDepth 4000
set_option maxHeartbeats 16000000
namespace Go.Proofs.YtmelpobcpcmdoaaGreat
open Go Go.SL Go.Proofs
/-! What is there is found, and removed once. -/
theorem orders_at {l : List Lv} {k : Nat} {lv : Lv} (h : l[k]? = some lv) : ordersL l = ordersL (l.take k) ++ (lv.es.map (·.o) ++ ordersL (l.drop (k + 1))) := by
  induction l generalizing k with
  | nil => simp at h
  | cons x l ih =>
    cases k with
    | zero =>
      simp only [List.getElem?_cons_zero, Option.some.injEq] at h
      subst h
      simp [ordersL]
    | succ k =>
      simp only [List.getElem?_cons_succ] at h
      simp only [List.take_succ_cons, List.drop_succ_cons, ordersL]
      rw [ih h, List.append_assoc]
theorem ordersL_app (l m : List Lv) : ordersL (l ++ m) = ordersL l ++ ordersL m := by
  induction l with
  | nil => rfl
  | cons x l ih => simp only [List.cons_append, ordersL, ih, List.append_assoc]
theorem orders_cut {l : List Lv} {k : Nat} {lv : Lv} (h : l[k]? = some lv) (es : List Ent) :
    ordersL (if es = [] then l.eraseIdx k else l.set k ⟨lv.p, es⟩) = ordersL (l.take k) ++ (es.map (·.o) ++ ordersL (l.drop (k + 1))) := by
  have hk := (List.getElem?_eq_some_iff.1 h).1
  split
  · rename_i he
    rw [he, List.eraseIdx_eq_take_drop_succ, ordersL_app]; rfl
  · rw [List.set_eq_take_append_cons_drop, if_pos hk, ordersL_app, ordersL]
theorem lrem_split {t i : Int} {es : List Ent} {o : Ord} (h : (es.map (·.o)).find? (isO t i) = some o) : ∃ j x, es[j]? = some x ∧ isO t i x.o = true ∧ lrem t i es = (x.o, true, es.take j ++ es.drop (j + 1)) := by
  rcases hf : es.findIdx? (isIt t i) with _ | j
  · rw [List.findIdx?_eq_none_iff] at hf
    have hm := List.mem_of_find?_eq_some h
    have hp := List.find?_some h
    obtain ⟨e, me, rfl⟩ := List.mem_map.1 hm
    have := hf e me
    have hp : isIt t i e = true := hp
    rw [this] at hp; cases hp
  · obtain ⟨hj, hp, -⟩ := List.findIdx?_eq_some_iff_getElem.1 hf
    have hx : es[j]? = some es[j] := List.getElem?_eq_getElem hj
    refine ⟨j, es[j], hx, hp, ?_⟩
    unfold lrem
    rw [hf]
    dsimp only
    rw [hx]
/-- What a removal takes away. -/
structure RemIs (t i : Int) (M : Mk) (R : Ord × Bool × Mk) : Prop where
  yes : R.2.1 = true
  split : ∃ P Q, mall M = P ++ R.1 :: Q ∧ mall R.2.2 = P ++ Q
  key : isO t i R.1 = true
  len : mlen R.2.2 ≤ mlen M
theorem bk_len (B : Bk) : lenL B.buys + lenL B.sells = (ordersL (B.side 1)).length + (ordersL (B.side 2)).length := by
  have h1 := ordersL_len (B.side 1)
  have h2 := ordersL_len (B.side 2)
  have hs1 : lenL (B.side 1) = lenL B.buys := rfl
  have hs2 : lenL (B.side 2) = lenL B.sells := rfl
  omega
theorem lv_cut {lv : Lv} (h : lv.Ok) (j : Nat) (hn : lv.es.take j ++ lv.es.drop (j + 1) ≠ []) : (⟨lv.p, lv.es.take j ++ lv.es.drop (j + 1)⟩ : Lv).Ok := by
  obtain ⟨⟨h1, h2⟩, h3⟩ := h
  refine ⟨⟨?_, fun x m => ?_⟩, hn⟩
  · dsimp only
    rw [List.length_append, List.length_take, List.length_drop]; omega
  · rcases List.mem_append.1 m with m | m
    · exact h2 x (List.mem_of_mem_take m)
    · exact h2 x (List.mem_of_mem_drop m)
theorem lvs_cut {l : List Lv} (h : ∀ lv ∈ l, lv.Ok) {k : Nat} {lv : Lv} (hk : l[k]? = some lv) (j : Nat) : ∀ x ∈ (if lv.es.take j ++ lv.es.drop (j + 1) = [] then l.eraseIdx k else l.set k ⟨lv.p, lv.es.take j ++ lv.es.drop (j + 1)⟩), x.Ok := by
  intro x m
  split at m
  · exact h x (List.mem_of_mem_eraseIdx m)
  · rename_i hn
    rcases List.mem_or_eq_of_mem_set m with m | rfl
    · exact h x m
    · exact lv_cut (h lv (List.mem_of_getElem? hk)) j hn
theorem cut_spl {W : List Ord} {k : Nat} {o : Ord} (h : W[k]? = some o) : W = W.take k ++ o :: W.drop (k + 1) := by
  have hk := (List.getElem?_eq_some_iff.1 h).1
  have e : W[k] = o := (List.getElem?_eq_some_iff.1 h).2
  conv => lhs; rw [← List.take_append_drop k W, List.drop_eq_getElem_cons hk, e]
theorem mfind_non {t i : Int} {M : Mk} (h1 : (bfind t i M.B).2 = false) (h2 : M.W.findIdx? (isO t i) = none) : (mfind t i M).2 = false := by
  unfold mfind
  rw [if_neg (by rw [h1]; simp), h2]
variable [Base]
theorem brem_is {t i : Int} {M : Mk} (hw : BW M.B) (h : (bfind t i M.B).2 = true) : RemIs t i M ((bremove t i M.B).1, (bremove t i M.B).2.1, ⟨(bremove t i M.B).2.2, M.W⟩) ∧ BW (bremove t i M.B).2.2 ∧ (bremove t i M.B).2.2.no = M.B.no ∧ (bremove t i M.B).2.1 = true := by
  cases hf : findB t i M.B with
  | none =>
    unfold bfind at h
    rw [hf] at h; cases h
  | some r =>
    obtain ⟨s, k, o⟩ := r
    have hs := findB_side hf
    have hl : findL t i (M.B.side s) = some (k, o) := by
      unfold findB at hf
      split at hf
      · rename_i h1
        cases hf; exact h1
      · split at hf
        · rename_i h2
          cases hf; exact h2
        · cases hf
    obtain ⟨lv, hlv, hfo⟩ := findL_get hl
    obtain ⟨j, x, hx, hp, hr⟩ := lrem_split hfo
    have e : bremove t i M.B = (x.o, true, M.B.put s (if lv.es.take j ++ lv.es.drop (j + 1) = [] then (M.B.side s).eraseIdx k else (M.B.side s).set k ⟨lv.p, lv.es.take j ++ lv.es.drop (j + 1)⟩)) := by
      unfold bremove
      rw [hf]
      dsimp only
      rw [hlv]
      dsimp only
      rw [hr]
    have o1 := orders_at hlv
    have o2 := orders_cut hlv (lv.es.take j ++ lv.es.drop (j + 1))
    have hok := lvs_cut (hw.side s).1 hlv j
    have hsp : lv.es = lv.es.take j ++ x :: lv.es.drop (j + 1) := by
      have hj := (List.getElem?_eq_some_iff.1 hx).1
      have ex : lv.es[j] = x := (List.getElem?_eq_some_iff.1 hx).2
      conv => lhs; rw [← List.take_append_drop j lv.es, List.drop_eq_getElem_cons hj, ex]
    generalize (if lv.es.take j ++ lv.es.drop (j + 1) = [] then (M.B.side s).eraseIdx k else (M.B.side s).set k ⟨lv.p, lv.es.take j ++ lv.es.drop (j + 1)⟩) = nl at *
    rw [e]
    dsimp only
    have hsplit : ∃ P Q, ordersL (M.B.side s) = P ++ x.o :: Q ∧ ordersL nl = P ++ Q := by
      refine ⟨ordersL ((M.B.side s).take k) ++ (lv.es.take j).map (·.o), (lv.es.drop (j + 1)).map (·.o) ++ ordersL ((M.B.side s).drop (k + 1)), ?_, ?_⟩
      · rw [o1]
        conv => lhs; rw [hsp]
        simp
      · rw [o2]; simp
    obtain ⟨P, Q, e1, e2⟩ := hsplit
    have hlen : (ordersL nl).length + 1 = (ordersL (M.B.side s)).length := by rw [e1, e2]; simp; omega
    have hml := mall_len M
    have hb := bk_len M.B
    have h64 := hw.len
    rcases hs with rfl | rfl
    · have hl2 : lenL (M.B.put 1 nl).buys + lenL (M.B.put 1 nl).sells = (ordersL nl).length + (ordersL (M.B.side 2)).length := bk_len _
      refine ⟨⟨rfl, ⟨P, Q ++ (ordersL (M.B.side 2) ++ M.W), ?_, ?_⟩, hp, ?_⟩, ⟨hok, hw.sells, ?_⟩, rfl, rfl⟩
      · unfold mall; rw [e1]; simp
      · show ordersL nl ++ (ordersL (M.B.side 2) ++ M.W) = _
        rw [e2]; simp
      · unfold mlen; dsimp only; omega
      · omega
    · have hl2 : lenL (M.B.put 2 nl).buys + lenL (M.B.put 2 nl).sells = (ordersL (M.B.side 1)).length + (ordersL nl).length := bk_len _
      refine ⟨⟨rfl, ⟨ordersL (M.B.side 1) ++ P, Q ++ M.W, ?_, ?_⟩, hp, ?_⟩, ⟨hw.buys, hok, ?_⟩, rfl, rfl⟩
      · unfold mall; rw [e1]; simp
      · show ordersL (M.B.side 1) ++ (ordersL nl ++ M.W) = _
        rw [e2]; simp
      · unfold mlen; dsimp only; omega
      · omega
theorem brem_no {t i : Int} {B : Bk} (h : (bfind t i B).2 = false) : bremove t i B = (o0, false, B) := by
  cases hf : findB t i B with
  | none => unfold bremove; rw [hf]
  | some r =>
    obtain ⟨s, k, o⟩ := r
    unfold bfind at h
    rw [hf] at h; cases h
theorem mem_cM {x : Ord} {M : Mk} (h : x ∈ mall M) : 0 < cM x.trader x.id M := by
  rw [← cM_all]
  exact List.countP_pos_iff.2 ⟨x, h, isO_self x⟩
theorem findW {t i : Int} {W : List Ord} (h : 0 < W.countP (isO t i)) : ∃ k o, W.findIdx? (isO t i) = some k ∧ W[k]? = some o ∧ isO t i o = true := by
  cases hf : W.findIdx? (isO t i) with
  | none =>
    rw [List.findIdx?_eq_none_iff] at hf
    obtain ⟨o, m, hp⟩ := List.countP_pos_iff.1 h
    rw [hf o m] at hp; cases hp
  | some k =>
    obtain ⟨hk, hp, -⟩ := List.findIdx?_eq_some_iff_getElem.1 hf
    exact ⟨k, W[k], rfl, List.getElem?_eq_getElem hk, hp⟩
/-- What has a key that is there is removed. -/
theorem mrem_is {t i : Int} {M : Mk} (hw : MW M) (h : 0 < cM t i M) : RemIs t i M (mremove t i M) ∧ MW (mremove t i M).2.2 := by
  by_cases hb : (bfind t i M.B).2 = true
  · obtain ⟨h1, h2, h3, h4⟩ := brem_is (M := M) hw.b hb
    have e : mremove t i M = ((bremove t i M.B).1, (bremove t i M.B).2.1, ⟨(bremove t i M.B).2.2, M.W⟩) := by
      unfold mremove
      rw [if_pos h4, h4]
    rw [e]
    refine ⟨h1, ⟨h2, ?_, ?_, hw.w⟩⟩
    · dsimp only; rw [h3]; exact hw.no
    · have := h1.len
      have := hw.len
      dsimp only at *
      omega
  · have hb : (bfind t i M.B).2 = false := by simpa using hb
    have h0 := cB_zero.2 hb
    have hr := brem_no hb
    unfold cM at h
    obtain ⟨k, o, f1, f2, f3⟩ := findW (t := t) (i := i) (W := M.W) (by omega)
    have e : mremove t i M = (o, true, ⟨M.B, M.W.take k ++ M.W.drop (k + 1)⟩) := by
      unfold mremove
      rw [hr]
      dsimp only
      rw [if_neg (by simp), f1]
      dsimp only
      rw [f2]
    rw [e]
    have hs := cut_spl f2
    have hc := cut_len f2
    have hl : mlen ⟨M.B, M.W.take k ++ M.W.drop (k + 1)⟩ ≤ mlen M := by unfold mlen; dsimp only; omega
    refine ⟨⟨rfl, ⟨ordersL (M.B.side 1) ++ (ordersL (M.B.side 2) ++ M.W.take k), M.W.drop (k + 1), ?_, ?_⟩, f3, hl⟩, ⟨hw.b, hw.no, by have := hw.len; dsimp only; omega, fun x m => hw.w x (cut_mem m)⟩⟩
    · unfold mall
      conv => lhs; rw [hs]
      simp
    · unfold mall; simp
theorem split_here {l P Q : List Ord} {t i : Int} {x y : Ord} {k : Nat} (hu : l.countP (isO t i) ≤ 1) (hk : l[k]? = some x) (hx : isO t i x = true) (e : l = P ++ y :: Q) (hy : isO t i y = true) : y = x ∧ P ++ Q = l.take k ++ l.drop (k + 1) := by
  have hy2 : l[P.length]? = some y := by rw [e]; simp
  have hkk := uq_at hu hk hy2 hx hy
  subst hkk
  rw [hy2] at hk
  refine ⟨by cases hk; rfl, ?_⟩
  rw [e, List.take_left, List.drop_append, List.drop_eq_nil_of_le (by omega)]
  have : P.length + 1 - P.length = 1 := by omega
  rw [this]; rfl
/-- An order that is there is found as it stands. -/
theorem mfind_at {M : Mk} (hu : Uq M) {k : Nat} {x : Ord} (hk : (mall M)[k]? = some x) : mfind x.trader x.id M = (x, true) := by
  have hu1 : (mall M).countP (isO x.trader x.id) ≤ 1 := by rw [cM_all]; exact hu _ _
  have hpos := mem_cM (List.mem_of_getElem? hk)
  unfold mfind
  by_cases hb : (bfind x.trader x.id M.B).2 = true
  · rw [if_pos hb]
    cases hf : findB x.trader x.id M.B with
    | none =>
      unfold bfind at hb
      rw [hf] at hb; cases hb
    | some r =>
      obtain ⟨s, j, o⟩ := r
      have hs := findB_side hf
      have hl : findL x.trader x.id (M.B.side s) = some (j, o) := by
        unfold findB at hf
        split at hf
        · rename_i h1
          cases hf; exact h1
        · split at hf
          · rename_i h2
            cases hf; exact h2
          · cases hf
      obtain ⟨lv, hlv, hfo⟩ := findL_get hl
      have hp := List.find?_some hfo
      have hm : o ∈ ordersL (M.B.side s) := by
        rw [orders_at hlv]
        exact List.mem_append_right _ (List.mem_append_left _ (List.mem_of_find?_eq_some hfo))
      have hm2 : o ∈ mall M := by
        unfold mall
        rcases hs with rfl | rfl
        · exact List.mem_append_left _ hm
        · exact List.mem_append_right _ (List.mem_append_left _ hm)
      obtain ⟨c, hc, ec⟩ := List.getElem_of_mem hm2
      have hc2 : (mall M)[c]? = some o := by rw [List.getElem?_eq_getElem hc, ec]
      have := uq_at hu1 hk hc2 (isO_self x) hp
      subst this
      rw [hc2] at hk
      cases hk
      unfold bfind
      rw [hf]
  · rw [if_neg hb]
    have h0 := cB_zero.2 (show (bfind x.trader x.id M.B).2 = false by simpa using hb)
    unfold cM at hpos
    obtain ⟨j, o, f1, f2, f3⟩ := findW (t := x.trader) (i := x.id) (W := M.W) (by omega)
    rw [f1]
    dsimp only
    rw [f2]
    dsimp only
    have hm2 : o ∈ mall M := by
      unfold mall
      exact List.mem_append_right _ (List.mem_append_right _ (List.mem_of_getElem? f2))
    obtain ⟨c, hc, ec⟩ := List.getElem_of_mem hm2
    have hc2 : (mall M)[c]? = some o := by rw [List.getElem?_eq_getElem hc, ec]
    have := uq_at hu1 hk hc2 (isO_self x) f3
    subst this
    rw [hc2] at hk
    cases hk; rfl
theorem gone_no {t i : Int} {M : Mk} (h : cM t i M = 0) : (mfind t i M).2 = false ∧ (mremove t i M).2.1 = false ∧ (mremove t i M).2.2 = M := by
  unfold cM at h
  have hb := cB_zero.1 (show cB t i M.B = 0 by omega)
  have hf : M.W.findIdx? (isO t i) = none := by
    rw [List.findIdx?_eq_none_iff]
    intro o m
    have : M.W.countP (isO t i) = 0 := by omega
    rw [List.countP_eq_zero] at this
    simpa using this o m
  refine ⟨mfind_non hb hf, ?_⟩
  unfold mremove
  rw [brem_no hb]
  dsimp only
  rw [if_neg (by simp), hf]
  exact ⟨rfl, rfl⟩
/-- An order that is there is removed once. -/
theorem mremove_at {M : Mk} (hw : MW M) (hu : Uq M) {k : Nat} {x : Ord} (hk : (mall M)[k]? = some x) :
    (mremove x.trader x.id M).1 = x ∧ (mremove x.trader x.id M).2.1 = true ∧ mall (mremove x.trader x.id M).2.2 = (mall M).take k ++ (mall M).drop (k + 1) ∧ MW (mremove x.trader x.id M).2.2 ∧ cM x.trader x.id (mremove x.trader x.id M).2.2 = 0 := by
  have hu1 : (mall M).countP (isO x.trader x.id) ≤ 1 := by rw [cM_all]; exact hu _ _
  obtain ⟨R, hw2⟩ := mrem_is hw (mem_cM (List.mem_of_getElem? hk))
  obtain ⟨P, Q, e1, e2⟩ := R.split
  obtain ⟨h1, h2⟩ := split_here hu1 hk (isO_self x) e1 R.key
  refine ⟨h1, R.yes, by rw [e2, h2], hw2, ?_⟩
  rw [← cM_all, e2]
  rw [e1, List.countP_append, List.countP_cons, if_pos R.key] at hu1
  rw [List.countP_append]; omega
end Go.Proofs.YtmelpobcpcmdoaaGreat

set_option autoImplicit false
set_option linter.unusedSectionVars false
set_option linter.unusedSimpArgs false
set_option linter.unusedVariables false
set_option maxRecDepth 4000
set_option maxHeartbeats 16000000
namespace Go.Proofs.YtmelpobcpcmdoaaGreat
open Go Go.SL Go.Proofs
/-! Amending. -/
def amO (w : Ord) (p q : Int) : Ord := ⟨w.trader, w.id, w.firm, w.side, w.kind, p, q, min w.show_ (max q 0), w.stop⟩
def mamend (t i p q : Int) (M : Mk) : List Out × Int × Mk :=
  if (mfind t i M).2 = false then ([], 6, M)
  else if right (amO (mfind t i M).1 p q) ≠ 0 then ([], 1, M)
  else if p = (mfind t i M).1.price ∧ q ≤ (mfind t i M).1.qty ∧ (bfind t i M.B).2 = true then ([], 0, ⟨(bless t i q M.B).2, M.W⟩)
  else ((madd (amO (mfind t i M).1 p q) (mremove t i M).2.2).1, 0, (madd (amO (mfind t i M).1 p q) (mremove t i M).2.2).2)
variable [Base]
theorem mfind_cM {t i : Int} {M : Mk} (h : (mfind t i M).2 = true) : 0 < cM t i M := by
  rcases Nat.eq_zero_or_pos (cM t i M) with h0 | h0
  · rw [(gone_no h0).1] at h; cases h
  · exact h0
theorem bremove_no (t i : Int) (B : Bk) : (bremove t i B).2.2.no = B.no := by
  unfold bremove
  split
  · rfl
  · split
    · rfl
    · rename_i s k _ _ _ _ _
      show (B.put s _).no = B.no
      unfold Bk.put
      split <;> rfl
theorem mremove_no (t i : Int) (M : Mk) : (mremove t i M).2.2.B.no = M.B.no := by
  unfold mremove
  split
  · exact bremove_no t i M.B
  · split
    · exact bremove_no t i M.B
    · split <;> exact bremove_no t i M.B
theorem mremove_cM (t i : Int) {M : Mk} (hw : MW M) (a b : Int) : cM a b (mremove t i M).2.2 ≤ cM a b M := by
  rcases Nat.eq_zero_or_pos (cM t i M) with h0 | h0
  · rw [(gone_no h0).2.2]; exact Nat.le_refl _
  · obtain ⟨P, Q, e1, e2⟩ := (mrem_is hw h0).1.split
    rw [← cM_all, ← cM_all, e1, e2, List.countP_append, List.countP_append, List.countP_cons]; omega
theorem mremove_Uq {t i : Int} {M : Mk} (hw : MW M) (hu : Uq M) : Uq (mremove t i M).2.2 := fun a b => Nat.le_trans (mremove_cM t i hw a b) (hu a b)
theorem mremove_MW {t i : Int} {M : Mk} (hw : MW M) : MW (mremove t i M).2.2 := by
  rcases Nat.eq_zero_or_pos (cM t i M) with h0 | h0
  · rw [(gone_no h0).2.2]; exact hw
  · exact (mrem_is hw h0).2
end Go.Proofs.YtmelpobcpcmdoaaGreat
