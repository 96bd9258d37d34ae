/- Contracts of functions of the given program over its translation, each proved by walking its text; used by the laws' rows. It proves no given statement by itself. -/
import Derived.Test.YtiilndlgfgikbaaSLPlT
set_option autoImplicit false
set_option linter.unusedSectionVars false
set_option linter.unusedSimpArgs false
set_option linter.unusedVariables false
set_option maxRecDepth 4000
set_option maxHeartbeats 16000000
namespace Go.Proofs.Ytiilndlgfgikbaa
open Go Go.SL Go.Proofs
theorem put_put {B : Bk} {s : Int} (hs : s = 1 ∨ s = 2) (x y : List Lv) : (B.put s x).put s y = B.put s y := by
  rcases hs with rfl | rfl <;> rfl
theorem put_self {B : Bk} {s : Int} (hs : s = 1 ∨ s = 2) : B.put s (B.side s) = B := by
  rcases hs with rfl | rfl <;> rfl
theorem bk_eq {A B : Bk} {s : Int} (hs : s = 1 ∨ s = 2) (h1 : A.side s = B.side s) (h2 : A.side (3 - s) = B.side (3 - s)) (h3 : A.last = B.last) (h4 : A.no = B.no) : A = B := by
  obtain ⟨a, b, c, d⟩ := A
  obtain ⟨a', b', c', d'⟩ := B
  have h3 : c = c' := h3
  have h4 : d = d' := h4
  rcases hs with rfl | rfl
  · have h1 : a = a' := h1
    have h2 : b = b' := h2
    subst h1 h2 h3 h4; rfl
  · have h1 : b = b' := h1
    have h2 : a = a' := h2
    subst h1 h2 h3 h4; rfl
theorem find_side {t i : Int} {B : Bk} (h : (bfind t i B).2 = false) {s : Int} (hs : s = 1 ∨ s = 2) : ∀ lv ∈ B.side s, ∀ e ∈ lv.es, ¬ (e.o.trader = t ∧ e.o.id = i) := by
  obtain ⟨h1, h2⟩ := bfind_none.1 h
  rcases hs with rfl | rfl
  · exact findL_none.2 h1
  · exact findL_none.2 h2
theorem find_sides {t i : Int} {B : Bk} {s : Int} (hs : s = 1 ∨ s = 2) (h1 : ∀ lv ∈ B.side s, ∀ e ∈ lv.es, ¬ (e.o.trader = t ∧ e.o.id = i)) (h2 : ∀ lv ∈ B.side (3 - s), ∀ e ∈ lv.es, ¬ (e.o.trader = t ∧ e.o.id = i)) : (bfind t i B).2 = false := by
  rw [bfind_none]
  rcases hs with rfl | rfl
  · exact ⟨findL_none.1 h1, findL_none.1 h2⟩
  · exact ⟨findL_none.1 h2, findL_none.1 h1⟩
variable [Base]
/-- What came to rest last is found, and its removal undoes it. -/
theorem rest_undone {o : Ord} {B : Bk} (hs : o.side = 1 ∨ o.side = 2) (hok : ∀ lv ∈ B.side o.side, lv.Ok) (hn : (bfind o.trader o.id B).2 = false) :
    bfind o.trader o.id (B.put o.side (restL o (B.side o.side))) = (o, true) ∧ bremove o.trader o.id (B.put o.side (restL o (B.side o.side))) = (o, true, B) := by
  have hno := find_side hn hs
  have hother := (find_side hn (s := 3 - o.side) (by omega))
  -- where it rests
  have key : ∃ k lv', (restL o (B.side o.side))[k]? = some lv' ∧ (lv'.es.map (·.o)).find? (isO o.trader o.id) = some o ∧ (∀ (j : Nat) y, j < k → (restL o (B.side o.side))[j]? = some y → (y.es.map (·.o)).find? (isO o.trader o.id) = none) ∧
      (lrem o.trader o.id lv'.es).1 = o ∧ (lrem o.trader o.id lv'.es).2.1 = true ∧ (if (lrem o.trader o.id lv'.es).2.2 = [] then (restL o (B.side o.side)).eraseIdx k else (restL o (B.side o.side)).set k ⟨lv'.p, (lrem o.trader o.id lv'.es).2.2⟩) = B.side o.side := by
    obtain ⟨a, b, -, hf⟩ := restL_form o (B.side o.side)
    have hnone : ∀ y : Lv, (∀ e ∈ y.es, ¬ (e.o.trader = o.trader ∧ e.o.id = o.id)) → (y.es.map (·.o)).find? (isO o.trader o.id) = none := by
      intro y hy
      rw [List.find?_eq_none]
      intro x hx
      obtain ⟨e, me, rfl⟩ := List.mem_map.1 hx
      have := hy e me
      simpa [isO] using this
    have hlast : ∀ es : List Ent, (∀ e ∈ es, ¬ (e.o.trader = o.trader ∧ e.o.id = o.id)) → ((es ++ [(⟨o, tip o⟩ : Ent)]).map (fun e => e.o)).find? (isO o.trader o.id) = some o ∧ lrem o.trader o.id (es ++ [(⟨o, tip o⟩ : Ent)]) = (o, true, es) := by
      intro es hes
      constructor
      · rw [List.map_append, List.find?_append, hnone ⟨0, es⟩ hes]
        simp [isO]
      · rw [lrem_some (k := es.length) (x := ⟨o, tip o⟩) (by simp) (by simp [isIt])]
        · simp
        · intro j y hj hy
          rw [List.getElem?_append_left hj] at hy
          have := hes y (List.mem_of_getElem? hy)
          simp only [isIt]
          rw [Bool.and_eq_false_iff]
          by_cases h : y.o.trader = o.trader
          · exact .inr (decide_eq_false fun h2 => this ⟨h, h2⟩)
          · exact .inl (decide_eq_false h)
    rcases hf with ⟨lv, hp, e1, e2⟩ | ⟨e1, e2, -⟩
    · rw [e2]
      have hmem : lv ∈ B.side o.side := by rw [e1]; simp
      obtain ⟨g1, g2⟩ := hlast lv.es (hno lv hmem)
      refine ⟨a.length, ⟨lv.p, lv.es ++ [⟨o, tip o⟩]⟩, by simp, g1, ?_, by rw [g2], by rw [g2], ?_⟩
      · intro j y hj hy
        rw [List.getElem?_append_left hj] at hy
        exact hnone y (hno y (by rw [e1]; exact List.mem_append_left _ (List.mem_of_getElem? hy)))
      · rw [g2, if_neg (hok lv hmem).2, List.set_append_right _ _ (Nat.le_refl _), Nat.sub_self]
        exact e1.symm
    · rw [e2]
      obtain ⟨g1, g2⟩ := hlast [] (fun _ m => nomatch m)
      refine ⟨a.length, ⟨o.price, [⟨o, tip o⟩]⟩, by simp, g1, ?_, ?_, ?_, ?_⟩
      · intro j y hj hy
        rw [List.getElem?_append_left hj] at hy
        exact hnone y (hno y (by rw [e1]; exact List.mem_append_left _ (List.mem_of_getElem? hy)))
      · have g2 : lrem o.trader o.id [⟨o, tip o⟩] = (o, true, []) := g2
        rw [g2]
      · have g2 : lrem o.trader o.id [⟨o, tip o⟩] = (o, true, []) := g2
        rw [g2]
      · have g2 : lrem o.trader o.id [⟨o, tip o⟩] = (o, true, []) := g2
        rw [g2, if_pos rfl, List.eraseIdx_append_of_length_le (Nat.le_refl _), Nat.sub_self]
        exact e1.symm
  obtain ⟨k, lv', k1, k2, k3, k4, k5, k6⟩ := key
  have hfl := findL_here k1 k2 k3
  have hfb : findB o.trader o.id (B.put o.side (restL o (B.side o.side))) = some (o.side, k, o) := by
    unfold findB
    rcases hs with h | h
    · rw [h] at hfl ⊢
      have : findL o.trader o.id (B.put 1 (restL o (B.side 1))).buys = some (k, o) := hfl
      rw [this]
    · rw [h] at hfl hother ⊢
      have h1 : findL o.trader o.id (B.put 2 (restL o (B.side 2))).buys = none := findL_none.1 hother
      have h2 : findL o.trader o.id (B.put 2 (restL o (B.side 2))).sells = some (k, o) := hfl
      rw [h1, h2]
  constructor
  · unfold bfind; rw [hfb]
  · unfold bremove
    rw [hfb]
    dsimp only
    rw [put_side hs, k1]
    dsimp only
    rw [k4, k5, k6, put_put hs, put_self hs]
/-- A match that trades nothing, and meets no firm of its own, leaves all as it was. -/
theorem match_same : ∀ (l : List Lv) (o : Ord) (last no : Int), (∀ lv ∈ l, lv.Ok) → 0 < o.qty → (matchL o l last no).fs = [] → (matchL o l last no).self = false → (matchL o l last no).lvs = l
  | [], o, last, no, _, _, _, _ => rfl
  | lv :: r, o, last, no, hok, hq, h1, h2 => by
    have hl := hok lv (by simp)
    unfold matchL at h1 h2 ⊢
    split
    · rename_i hc
      exfalso
      rw [if_pos hc] at h1 h2
      have t := take_is (firm := o.firm) o.qty.toNat o.qty lv.es (Nat.le_refl _) (by omega) hl.1
      generalize take o.firm o.qty lv.es = T at *
      have hfl := flls_len o lv.p no T.1
      have hpos : 1 ≤ sumE (fun x => x.o.qty) lv.es := by
        obtain ⟨⟨-, hb⟩, hne⟩ := hl
        clear t hfl h1 h2
        generalize lv.es = es0 at hb hne
        cases es0 with
        | nil => exact absurd rfl hne
        | cons e es =>
          have h0 := hb e (List.mem_cons_self ..)
          have : 0 ≤ sumE (fun x => x.o.qty) es := by
            have hb2 : ∀ x ∈ es, 1 ≤ x.o.qty := fun x m => (hb x (List.mem_cons_of_mem _ m)).1
            clear hb h0 hne
            induction es with
            | nil => exact Int.le_refl _
            | cons y es ih =>
              have h1 := ih fun x m => hb2 x (List.mem_cons_of_mem _ m)
              have h2 := hb2 y (List.mem_cons_self ..)
              simp only [sumE]; omega
          simp only [sumE]; omega
      split at h1
      · rename_i hs
        rw [if_pos hs] at h2; cases h2
      · rename_i hs
        have hsf : T.2.1 = false := by simpa using hs
        have hall := t.all hsf
        have hT : T.1 = [] := by
          rw [← List.length_eq_zero_iff, ← hfl]
          split at h1
          · have h1 : flls o lv.p no T.1 ++ _ = [] := h1
            rw [(List.append_eq_nil_iff.1 h1).1]; rfl
          · have h1 : flls o lv.p no T.1 = [] := h1
            rw [h1]; rfl
        have hsum := t.sum
        rw [hT] at hall hsum
        simp only [sumH] at hall hsum
        rcases hall with h | h
        · omega
        · rw [h] at hsum; simp only [sumE] at hsum; omega
    · rfl
def FK (f : Fl) : Ord × Int × Int × Int := (f.maker, f.price, f.qty, f.no)
structure Alike (o o' : Ord) : Prop where
  firm : o'.firm = o.firm
  qty : o'.qty = o.qty
  cr : ∀ p, crosses o' p = crosses o p
theorem flls_alike {p : Int} : ∀ (l : List (Ord × Int)) (o o' : Ord) (no : Int), (flls o' p no l).map FK = (flls o p no l).map FK
  | [], _, _, _ => rfl
  | h :: r, o, o', no => by
    simp only [flls, List.map_cons, flls_alike r (wq o (o.qty - h.2)) (wq o' (o'.qty - h.2)) (no + 1)]; rfl
/-- Orders alike match alike. -/
theorem match_alike : ∀ (l : List Lv) (o o' : Ord) (last no : Int), Alike o o' → (matchL o' l last no).lvs = (matchL o l last no).lvs ∧ (matchL o' l last no).qty = (matchL o l last no).qty ∧ (matchL o' l last no).self = (matchL o l last no).self ∧ (matchL o' l last no).last = (matchL o l last no).last ∧ (matchL o' l last no).no = (matchL o l last no).no ∧ (matchL o' l last no).fs.map FK = (matchL o l last no).fs.map FK
  | [], o, o', last, no, h => ⟨rfl, h.qty, rfl, rfl, rfl, rfl⟩
  | lv :: r, o, o', last, no, h => by
    unfold matchL
    rw [h.firm, h.qty, h.cr]
    split
    · split
      · exact ⟨rfl, rfl, rfl, rfl, rfl, flls_alike _ _ _ _⟩
      · split
        · have ih := match_alike r (wq o (o.qty - sumH (take o.firm o.qty lv.es).1)) (wq o' (o.qty - sumH (take o.firm o.qty lv.es).1)) (if (take o.firm o.qty lv.es).1 = [] then last else lv.p) (no + (take o.firm o.qty lv.es).1.length) ⟨h.firm, rfl, fun p => h.cr p⟩
          obtain ⟨i1, i2, i3, i4, i5, i6⟩ := ih
          refine ⟨i1, i2, i3, i4, i5, ?_⟩
          show (flls o' lv.p no _ ++ _).map FK = (flls o lv.p no _ ++ _).map FK
          rw [List.map_append, List.map_append, i6, flls_alike]
        · exact ⟨rfl, rfl, rfl, rfl, rfl, flls_alike _ _ _ _⟩
    · exact ⟨rfl, rfl, rfl, rfl, rfl, rfl⟩
theorem fillsL_alike : ∀ (l : List Lv) (o o' : Ord), Alike o o' → fillsL o' l = fillsL o l
  | [], _, _, _ => rfl
  | lv :: r, o, o', h => by
    unfold fillsL
    rw [h.firm, h.qty, h.cr, fillsL_alike r (wq o (o.qty - (reachR o.firm lv.es).1)) (wq o' (o.qty - (reachR o.firm lv.es).1)) ⟨h.firm, rfl, fun p => h.cr p⟩]
/-- An order that rests without a trade. -/
theorem back_is {o : Ord} {B : Bk} (hw : BW B) (hr : rightP o) (h1 : (badd o B).1.rests = true) (h2 : (badd o B).1.fs = []) : bfind o.trader o.id (badd o B).2 = (o, true) ∧ bremove o.trader o.id (badd o B).2 = (o, true, B) := by
  have hs : o.side = 1 ∨ o.side = 2 := by unfold rightP at hr; omega
  have hq : 1 ≤ o.qty ∧ o.qty ≤ 1048576 ∧ 0 ≤ o.show_ ∧ o.show_ ≤ o.qty := by unfold rightP at hr; omega
  by_cases h0 : brefused o B = 0
  · have hok := (hw.side (3 - o.side)).1
    have A := add_is hs h0
    have M := match_sub (B.side (3 - o.side)) o B.last B.no hok (by omega)
    have MI := match_is (B.side (3 - o.side)) o B.last B.no hok (by omega)
    have hsame := match_same (B.side (3 - o.side)) o B.last B.no hok (by omega)
    generalize matchL o (B.side (3 - o.side)) B.last B.no = m at *
    obtain ⟨a1, a2, a3, a4, a5⟩ := A
    rw [a1] at h1 h2
    have h1 : (decide (0 < m.qty) && !m.self && rests o) = true := h1
    have h2 : m.fs = [] := h2
    have hself : m.self = false := by
      cases hx : m.self with
      | false => rfl
      | true => rw [hx] at h1; simp at h1
    have hl := hsame h2 hself
    have e1 := M.qty
    have e2 := M.last
    have e3 := MI.no
    rw [h2] at e1 e2 e3
    simp only [sumF, lastP, List.length_nil] at e1 e2 e3
    have ew : wqs o m.qty (min o.show_ m.qty) = o := by
      rw [e1, Int.sub_zero, show min o.show_ o.qty = o.show_ by omega]; rfl
    rw [if_pos h1, ew] at a3
    have eB : (badd o B).2 = B.put o.side (restL o (B.side o.side)) := by
      refine bk_eq hs ?_ ?_ ?_ ?_
      · rw [a3, put_side hs]
      · rw [a2, put_other hs, hl]
      · rw [a4, e2]; rcases hs with h | h <;> rw [h] <;> rfl
      · rw [a5, e3]; rcases hs with h | h <;> rw [h] <;> simp [Bk.put]
    rw [eB]
    exact rest_undone hs (hw.side o.side).1 (refused_zero h0).2.2.1
  · rw [refused_is h0] at h1; cases h1
end Go.Proofs.Ytiilndlgfgikbaa
