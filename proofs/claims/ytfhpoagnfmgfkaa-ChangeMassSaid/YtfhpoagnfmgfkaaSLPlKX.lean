/- Contracts of functions of the given program over its translation, each proved by walking its text; used by the laws' rows. It proves no given statement by itself. -/
import Derived.Test.YtfhpoagnfmgfkaaSLLaw10b
set_option autoImplicit false
set_option linter.unusedSectionVars false
set_option linter.unusedSimpArgs false
set_option linter.unusedVariables false
set_option maxRecDepth 4000
namespace Go.Proofs.Ytfhpoagnfmgfkaa
open Go Go.SL Go.Proofs
variable [Base]
theorem reach_snoc_own {firm : Int} {x : Ent} : ∀ {l : List Ent}, (reach firm l).2 = true → reach firm (l ++ [x]) = reach firm l
  | [], h => by cases h
  | y :: l, h => by
    simp only [List.cons_append, reach] at h ⊢
    split
    · rfl
    · rename_i hf
      rw [if_neg hf] at h
      rw [reach_snoc_own (l := l) h]
theorem reach_snoc_not {firm : Int} {x : Ent} (hx : x.o.firm ≠ firm) : ∀ {l : List Ent}, (reach firm l).2 = false → (reach firm (l ++ [x])).2 = false
  | [], _ => by simp [reach, hx]
  | y :: l, h => by
    simp only [List.cons_append, reach] at h ⊢
    split
    · rename_i hf; rw [if_pos hf] at h; cases h
    · rename_i hf
      rw [if_neg hf] at h
      exact reach_snoc_not hx (l := l) h
/-- What the first order sees given, the rest gives no more. -/
theorem reachR_give {firm : Int} {e : Ent} {l : List Ent} (hf : e.o.firm ≠ firm) (hs : 1 ≤ e.seen ∧ e.seen ≤ e.o.qty) : reachR firm (giveE e l e.seen) = ((reachR firm (e :: l)).1 - e.seen, (reachR firm (e :: l)).2) := by
  have hr : reach firm (e :: l) = ((reach firm l).1 + e.seen, (reach firm l).2) := by simp only [reach]; rw [if_neg hf]
  have hsum := giveE_sum (e := e) (l := l) (n := e.seen) hs.2 (Int.le_refl _)
  unfold giveE at hsum ⊢
  rw [if_neg (by omega)] at hsum ⊢
  unfold reachR
  rw [hr]
  cases ho : (reach firm l).2 with
  | true =>
    split
    · simp [reach_snoc_own ho, ho]
    · simp [ho]
  | false =>
    split at hsum
    · rename_i hq
      rw [if_pos hq, reach_snoc_not (by exact hf) ho]
      simp only [Bool.false_eq_true, if_false, hsum, sumE]
      congr 1; omega
    · rename_i hq
      rw [if_neg hq, ho]
      simp only [Bool.false_eq_true, if_false, sumE]
      congr 1; omega
/-- A level gives what can be reached, and no more. -/
theorem take_reach {firm : Int} (k : Nat) : ∀ (q : Int) (es : List Ent), q.toNat ≤ k → 0 ≤ q → LB es → sumH (take firm q es).1 = min q (reachR firm es).1 ∧ ((take firm q es).2.1 = true ↔ (reachR firm es).2 = true ∧ (reachR firm es).1 < q) := by
  induction k with
  | zero =>
    intro q es hk hq hb
    have : q = 0 := by omega
    subst this
    have := reachR_nonneg (firm := firm) hb
    rw [take_le (by omega)]
    refine ⟨by simp only [sumH]; omega, ⟨(fun h => by cases h), (fun h => by omega)⟩⟩
  | succ k ih =>
    intro q es hk hq hb
    have hn := reachR_nonneg (firm := firm) hb
    by_cases h0 : 0 < q
    · cases es with
      | nil =>
        rw [take_nil]
        refine ⟨by simp [sumH, reachR, reach, sumE]; try omega, ⟨(fun h => by cases h), (fun h => by simp [reachR, reach] at h)⟩⟩
      | cons e l =>
        have he := hb.2 e (by simp)
        by_cases hf : e.o.firm = firm
        · rw [take_own h0 hf]
          have e1 : reachR firm (e :: l) = (0, true) := by simp [reachR, reach, hf]
          rw [e1]
          exact ⟨by simp only [sumH]; omega, ⟨(fun _ => ⟨rfl, h0⟩), (fun _ => rfl)⟩⟩
        · rw [take_cons h0 hf he.2.2.1]
          by_cases hle : e.seen ≤ q
          · rw [show min q e.seen = e.seen by omega]
            have hg := giveE_LB (n := e.seen) hb (by omega) (Int.le_refl _)
            obtain ⟨i1, i2⟩ := ih (q - e.seen) (giveE e l e.seen) (by omega) (by omega) hg.1
            rw [reachR_give hf ⟨he.2.2.1, he.2.2.2⟩] at i1 i2
            dsimp only at i1 i2 ⊢
            refine ⟨by simp only [sumH]; omega, ?_⟩
            rw [i2]
            constructor
            · rintro ⟨a, b⟩; exact ⟨a, by omega⟩
            · rintro ⟨a, b⟩; exact ⟨a, by omega⟩
          · rw [show min q e.seen = q by omega, Int.sub_self, take_le (by omega)]
            have hge : e.seen ≤ (reachR firm (e :: l)).1 := by
              have := reachR_nonneg (firm := firm) (giveE_LB (n := e.seen) hb (by omega) (Int.le_refl _)).1
              rw [reachR_give hf ⟨he.2.2.1, he.2.2.2⟩] at this
              dsimp only at this; omega
            dsimp only
            exact ⟨by simp only [sumH]; omega, ⟨(fun h => by cases h), (fun h => by omega)⟩⟩
    · have : q = 0 := by omega
      subst this
      rw [take_le (by omega)]
      refine ⟨by simp only [sumH]; omega, ⟨(fun h => by cases h), (fun h => by omega)⟩⟩
/-- An order would be filled whole just if it is. -/
theorem fills_iff : ∀ (l : List Lv) (o : Ord) (last no : Int), (∀ lv ∈ l, lv.Ok) → 0 < o.qty → (fillsL o l = true ↔ (matchL o l last no).qty = 0)
  | [], o, last, no, _, hq => by
    show (false = true ↔ o.qty = 0)
    exact ⟨(fun h => by cases h), (fun h => by omega)⟩
  | lv :: r, o, last, no, hok, hq => by
    have hl := hok lv (by simp)
    have t := take_is (firm := o.firm) o.qty.toNat o.qty lv.es (Nat.le_refl _) (by omega) hl.1
    have tr := take_reach (firm := o.firm) o.qty.toNat o.qty lv.es (Nat.le_refl _) (by omega) hl.1
    have hn := reachR_nonneg (firm := o.firm) hl.1
    have ih := fun q last no => fills_iff r (wq o q) last no (fun x m => hok x (List.mem_cons_of_mem _ m))
    unfold fillsL matchL
    cases hc : crosses o lv.p with
    | false =>
      rw [if_pos rfl, if_neg (by simp)]
      exact ⟨(fun h => by cases h), (fun h => by have : o.qty = 0 := h; omega)⟩
    | true =>
      rw [if_neg (by simp), if_pos (show 0 < o.qty ∧ true = true from ⟨hq, rfl⟩)]
      generalize take o.firm o.qty lv.es = T at *
      generalize reachR o.firm lv.es = R at *
      obtain ⟨t1, t2⟩ := tr
      by_cases h1 : o.qty ≤ R.1
      · rw [if_pos h1]
        have hs : T.2.1 = false := by
          cases hx : T.2.1 with
          | false => rfl
          | true => have := t2.1 hx; omega
        rw [if_neg (by rw [hs]; simp)]
        refine ⟨fun _ => ?_, fun _ => rfl⟩
        split
        · rw [matchL_zero _ _ _ _ (by show ¬ 0 < o.qty - sumH T.1; omega)]
          show o.qty - sumH T.1 = 0; omega
        · show o.qty - sumH T.1 = 0; omega
      · rw [if_neg h1]
        by_cases h2 : R.2 = true
        · rw [if_pos h2, if_pos (t2.2 ⟨h2, by omega⟩)]
          exact ⟨(fun h => by cases h), (fun h => by have : o.qty - sumH T.1 = 0 := h; omega)⟩
        · have hs : T.2.1 = false := by
            cases hx : T.2.1 with
            | false => rfl
            | true => exact absurd (t2.1 hx).1 h2
          have he : T.2.2 = [] := (t.all hs).resolve_left (by omega)
          rw [if_neg h2, if_neg (by rw [hs]; simp), if_pos he]
          rw [show sumH T.1 = R.1 by omega]
          exact ih (o.qty - R.1) _ _ (by show 0 < o.qty - R.1; omega)
end Go.Proofs.Ytfhpoagnfmgfkaa

set_option autoImplicit false
set_option linter.unusedSectionVars false
set_option linter.unusedSimpArgs false
set_option linter.unusedVariables false
set_option maxRecDepth 4000
namespace Go.Proofs.Ytfhpoagnfmgfkaa
open Go Go.SL Go.Proofs
variable [Base]
/-- An order that meets nothing trades nothing. -/
theorem meets_none {o : Ord} {l : List Lv} {last no : Int} (h : meets o l = false) : matchL o l last no = ⟨[], o.qty, false, l, last, no⟩ := by
  cases l with
  | nil => rfl
  | cons lv r =>
    have h : crosses o lv.p = false := h
    unfold matchL
    rw [if_neg (by rw [h]; simp)]
theorem bk_side_ok {B : Bk} (hw : BW B) (s : Int) : ∀ lv ∈ B.side s, lv.Ok := (hw.side s).1
/-- What each kind comes to, but for where a limit order is found. -/
theorem kinds_plain {o : Ord} {B : Bk} (hw : BW B) (hr : rightP o) (hs : o.stop = 0) :
    (o.kind = 2 ∨ o.kind = 3 → (badd o B).1.rests = false ∧ ((badd o B).1.err = 0 ∨ (badd o B).1.err = 5)) ∧
    (o.kind = 4 → (badd o B).1.rests = false ∧ ((badd o B).1.err = 0 ∧ (badd o B).1.left = 0 ∨ (badd o B).1.err ≠ 0 ∧ (badd o B).1.fs = [])) ∧
    (o.kind = 5 → (badd o B).1.fs = [] ∧ (badd o B).1.rests = decide ((badd o B).1.err = 0)) ∧
    ((badd o B).1.rests = true ∨ (badd o B).1.err ≠ 0 ∨ (badd o B).1.left = 0 ∨ (badd o B).1.self = true ∨ rests o = false) := by
  have hq1 : 1 ≤ o.qty := hr.2.2.2.2.2.2.2.2.2.2.1
  have hrt : right o = 0 := by unfold right; rw [if_pos hr]
  have hok := (hw.side (3 - o.side)).1
  by_cases h0 : brefused o B = 0
  · obtain ⟨-, -, -, r4, r5, r6⟩ := refused_zero h0
    unfold badd
    rw [if_neg (by simpa using h0)]
    dsimp only
    have M := match_is (B.side (3 - o.side)) o B.last B.no hok (by omega)
    refine ⟨?_, ?_, ?_, ?_⟩
    · intro hk
      have : rests o = false := by unfold rests; rcases hk with h | h <;> rw [h] <;> rfl
      rw [this]
      exact ⟨by simp, .inl rfl⟩
    · intro hk
      have : rests o = false := by unfold rests; rw [hk]; rfl
      rw [this]
      exact ⟨by simp, .inl ⟨rfl, (fills_iff _ o B.last B.no hok (by omega)).1 (r6 hk)⟩⟩
    · intro hk
      have : rests o = true := by unfold rests; rw [hk]; rfl
      rw [meets_none (r5 hk), this]
      exact ⟨rfl, by simp; omega⟩
    · by_cases hq : 0 < (matchL o (B.side (3 - o.side)) B.last B.no).qty
      · cases hse : (matchL o (B.side (3 - o.side)) B.last B.no).self with
        | true => exact .inr (.inr (.inr (.inl rfl)))
        | false =>
          cases hre : rests o with
          | true => exact .inl (by simp [hq])
          | false => exact .inr (.inr (.inr (.inr rfl)))
      · have := M.qty.1
        exact .inr (.inr (.inl (by omega)))
  · have e : (badd o B).1 = ⟨o, [], o.qty, false, false, false, brefused o B⟩ := by unfold badd; rw [if_pos h0]
    rw [e]
    dsimp only
    refine ⟨fun hk => ⟨rfl, .inr ?_⟩, fun hk => ⟨rfl, .inr ⟨h0, rfl⟩⟩, fun hk => ⟨rfl, ?_⟩, .inr (.inl h0)⟩
    · have hre : rests o = false := by unfold rests; rcases hk with h | h <;> rw [h] <;> rfl
      unfold brefused at h0 ⊢
      rw [if_neg (by omega)] at h0 ⊢
      by_cases hb : (bfind o.trader o.id B).2 = true
      · rw [if_pos hb]
      · rw [if_neg hb, if_neg (by rw [hre]; simp), if_neg (by omega), if_neg (by omega)] at h0
        exact absurd rfl h0
    · rw [decide_eq_false h0]
end Go.Proofs.Ytfhpoagnfmgfkaa

set_option autoImplicit false
set_option linter.unusedSectionVars false
set_option linter.unusedSimpArgs false
set_option linter.unusedVariables false
set_option maxRecDepth 4000
namespace Go.Proofs.Ytfhpoagnfmgfkaa
open Go Go.SL Go.Proofs
variable [Base]
theorem restL_has (o : Ord) (l : List Lv) : ∃ lv ∈ restL o l, ∃ e ∈ lv.es, e.o = o := by
  obtain ⟨lv, hlv, h1, h2⟩ := restP_get o l
  have hres : restL o l = (restP o l).set (restK o l) ⟨lv.p, lv.es ++ [⟨o, tip o⟩]⟩ := by unfold restL; rw [hlv]
  have hlt := (List.getElem?_eq_some_iff.1 hlv).1
  rw [hres]
  exact ⟨_, List.mem_of_getElem? (List.getElem?_set_self hlt), ⟨o, tip o⟩, by simp, rfl⟩
theorem findL_has {t i : Int} : ∀ {l : List Lv}, (∃ lv ∈ l, ∃ e ∈ lv.es, e.o.trader = t ∧ e.o.id = i) → findL t i l ≠ none
  | [], h => by obtain ⟨_, m, _⟩ := h; cases m
  | x :: l, h => by
    unfold findL
    split
    · simp
    · rename_i hn
      obtain ⟨lv, m, e, me, ht, hi⟩ := h
      rcases List.mem_cons.1 m with rfl | m
      · rw [List.find?_eq_none] at hn
        have := hn e.o (List.mem_map_of_mem me)
        simp [ht, hi] at this
      · have := findL_has (l := l) ⟨lv, m, e, me, ht, hi⟩
        split
        · simp
        · rename_i h9; exact absurd h9 this
theorem bfind_has {t i : Int} {B : Bk} (h : findL t i B.buys ≠ none ∨ findL t i B.sells ≠ none) : (bfind t i B).2 = true := by
  unfold bfind findB
  cases h1 : findL t i B.buys with
  | some x => rfl
  | none =>
    cases h2 : findL t i B.sells with
    | some x => rfl
    | none => rcases h with h | h <;> contradiction
/-- An order that rests is there. -/
theorem rests_there {o : Ord} {B : Bk} (hr : rightP o) (h : (badd o B).1.rests = true) : (bfind o.trader o.id (badd o B).2).2 = true := by
  have hs1 : 1 ≤ o.side ∧ o.side ≤ 2 := ⟨hr.2.2.2.2.2.2.1, hr.2.2.2.2.2.2.2.1⟩
  by_cases h0 : brefused o B = 0
  · unfold badd at h ⊢
    rw [if_neg (by simpa using h0)] at h ⊢
    dsimp only at h ⊢
    rw [if_pos h]
    generalize matchL o (B.side (3 - o.side)) B.last B.no = m at *
    rcases (by omega : o.side = 1 ∨ o.side = 2) with hs | hs
    all_goals
      rw [hs]
      apply bfind_has
    · refine .inl (findL_has ?_)
      obtain ⟨lv, a, e, b, c⟩ := restL_has (wqs o m.qty (min o.show_ m.qty)) (((B.put (3 - 1) m.lvs).tell m.last m.no).side 1)
      exact ⟨lv, a, e, b, by rw [c]; exact ⟨rfl, rfl⟩⟩
    · refine .inr (findL_has ?_)
      obtain ⟨lv, a, e, b, c⟩ := restL_has (wqs o m.qty (min o.show_ m.qty)) (((B.put (3 - 2) m.lvs).tell m.last m.no).side 2)
      exact ⟨lv, a, e, b, by rw [c]; exact ⟨rfl, rfl⟩⟩
  · have e : (badd o B).1 = ⟨o, [], o.qty, false, false, false, brefused o B⟩ := by unfold badd; rw [if_pos h0]
    rw [e] at h; cases h
end Go.Proofs.Ytfhpoagnfmgfkaa

set_option autoImplicit false
set_option linter.unusedSectionVars false
set_option linter.unusedSimpArgs false
set_option linter.unusedVariables false
set_option maxRecDepth 4000
namespace Go.Proofs.Ytfhpoagnfmgfkaa
open Go Go.SL Go.Proofs
/-- One price a level, the best first. -/
def SrtP (s : Int) (ps : List Int) : Prop := ps.Pairwise (fun a b => better s a b = true)
def Srt (s : Int) (l : List Lv) : Prop := SrtP s (l.map (·.p))
/-- All that stands there is of this side, and at its level's price. -/
def AtS (s : Int) (l : List Lv) : Prop := ∀ lv ∈ l, ∀ e ∈ lv.es, e.o.side = s ∧ e.o.price = lv.p
def SubL (l' l : List Lv) : Prop := ∀ lv' ∈ l', ∃ lv ∈ l, lv'.p = lv.p ∧ ∀ e' ∈ lv'.es, ∃ e ∈ lv.es, ∃ n, e'.o = wq e.o n
def sumL : List Lv → Int
  | [] => 0
  | lv :: r => sumE (fun x => x.o.qty) lv.es + sumL r
def sumF : List Fl → Int
  | [] => 0
  | f :: r => f.qty + sumF r
def lastP : List Fl → Int → Int
  | [], d => d
  | f :: r, _ => lastP r f.price
def FlsOk (firm oth : Int) : Int → Int → List Fl → Prop
  | _, _, [] => True
  | no, q, f :: r => 1 ≤ f.qty ∧ f.maker.firm ≠ firm ∧ f.maker.side = oth ∧ f.no = no + 1 ∧ f.price = f.maker.price ∧ f.taker.qty = q ∧ FlsOk firm oth (no + 1) (q - f.qty) r
theorem better_self (s p : Int) : better s p p = false := by unfold better; split <;> simp
theorem better_not {s a b : Int} (h : better s a b = true) : better s b a = false := by
  unfold better at h ⊢; split at h <;> simp_all <;> omega
theorem better_tot {s a b : Int} (h : better s a b = false) (hn : a ≠ b) : better s b a = true := by
  unfold better at h ⊢; split at h <;> simp_all <;> omega
theorem better_trans {s a b c : Int} (h : better s a b = true) (h2 : better s b c = true) : better s a c = true := by
  unfold better at h h2 ⊢; split at h <;> simp_all <;> omega
theorem better_no {s a b c : Int} (h : better s b a = false) (h2 : better s c b = false) : better s c a = false := by
  unfold better at h h2 ⊢; split at h <;> simp_all <;> omega
theorem sumF_append (l m : List Fl) : sumF (l ++ m) = sumF l + sumF m := by
  induction l with
  | nil => simp [sumF]
  | cons x l ih => simp only [List.cons_append, sumF, ih]; omega
theorem sumL_append (l m : List Lv) : sumL (l ++ m) = sumL l + sumL m := by
  induction l with
  | nil => simp [sumL]
  | cons x l ih => simp only [List.cons_append, sumL, ih]; omega
theorem lastP_append (l m : List Fl) (d : Int) : lastP (l ++ m) d = lastP m (lastP l d) := by
  induction l generalizing d with
  | nil => rfl
  | cons x l ih => simp only [List.cons_append, lastP, ih]
theorem lastP_get {l : List Fl} {d : Int} {f : Fl} (h : l[l.length - 1]? = some f) : lastP l d = f.price := by
  induction l generalizing d with
  | nil => simp at h
  | cons x l ih =>
    cases l with
    | nil => simp at h; subst h; rfl
    | cons y l => exact ih (d := x.price) (by simpa using h)
theorem flsOk_append {firm oth : Int} : ∀ (l m : List Fl) (no q : Int), FlsOk firm oth no q (l ++ m) ↔ FlsOk firm oth no q l ∧ FlsOk firm oth (no + l.length) (q - sumF l) m
  | [], m, no, q => by simp [FlsOk, sumF]
  | f :: l, m, no, q => by
    have ih := flsOk_append (firm := firm) (oth := oth) l m (no + 1) (q - f.qty)
    have e1 : no + 1 + (l.length : Int) = no + ((f :: l).length : Nat) := by rw [List.length_cons]; push_cast; omega
    have e2 : q - f.qty - sumF l = q - sumF (f :: l) := by simp only [sumF]; omega
    rw [e1, e2] at ih
    simp only [List.cons_append, FlsOk, ih]
    constructor
    · rintro ⟨a, b, c, d, e, f, g, h⟩; exact ⟨⟨a, b, c, d, e, f, g⟩, h⟩
    · rintro ⟨⟨a, b, c, d, e, f, g⟩, h⟩; exact ⟨a, b, c, d, e, f, g, h⟩
theorem flls_mem {o : Ord} {p no : Int} {l : List (Ord × Int)} {f : Fl} (h : f ∈ flls o p no l) : f.price = p ∧ ∃ x ∈ l, f.maker = x.1 ∧ f.qty = x.2 := by
  induction l generalizing o no with
  | nil => cases h
  | cons a r ih =>
    rcases List.mem_cons.1 h with rfl | h
    · exact ⟨rfl, a, List.mem_cons_self .., rfl, rfl⟩
    · obtain ⟨h1, x, hx, h2⟩ := ih h
      exact ⟨h1, x, List.mem_cons_of_mem _ hx, h2⟩
theorem flls_sum (o : Ord) (p no : Int) (l : List (Ord × Int)) : sumF (flls o p no l) = sumH l := by
  induction l generalizing o no with
  | nil => rfl
  | cons a r ih => simp only [flls, sumF, sumH, ih]
theorem flls_last (o : Ord) (p no d : Int) (l : List (Ord × Int)) : lastP (flls o p no l) d = if l = [] then d else p := by
  induction l generalizing o no d with
  | nil => rfl
  | cons a r ih =>
    simp only [flls, lastP, ih]
    split <;> simp
theorem flls_ok {firm oth p : Int} : ∀ (l : List (Ord × Int)) (o : Ord) (no : Int), (∀ h ∈ l, 1 ≤ h.2 ∧ h.1.firm ≠ firm ∧ h.1.side = oth ∧ h.1.price = p) → FlsOk firm oth no o.qty (flls o p no l)
  | [], _, _, _ => trivial
  | a :: r, o, no, h => by
    obtain ⟨h1, h2, h3, h4⟩ := h a (List.mem_cons_self ..)
    exact ⟨h1, h2, h3, rfl, h4.symm, rfl, flls_ok r (wq o (o.qty - a.2)) (no + 1) fun x m => h x (List.mem_cons_of_mem _ m)⟩
theorem crosses_wq (o : Ord) (q p : Int) : crosses (wq o q) p = crosses o p := rfl
variable [Base]
theorem giveE_sub {e : Ent} {l : List Ent} {n : Int} {x : Ent} (h : x ∈ giveE e l n) : ∃ y ∈ e :: l, ∃ m, x.o = wq y.o m := by
  unfold giveE at h
  split at h
  · rcases List.mem_cons.1 h with rfl | h
    · exact ⟨e, List.mem_cons_self .., _, rfl⟩
    · exact ⟨x, List.mem_cons_of_mem _ h, x.o.qty, rfl⟩
  · split at h
    · rcases List.mem_append.1 h with h | h
      · exact ⟨x, List.mem_cons_of_mem _ h, x.o.qty, rfl⟩
      · simp only [List.mem_singleton] at h
        subst h
        exact ⟨e, List.mem_cons_self .., _, rfl⟩
    · exact ⟨x, List.mem_cons_of_mem _ h, x.o.qty, rfl⟩
theorem take_sub {firm : Int} (k : Nat) : ∀ (q : Int) (es : List Ent), q.toNat ≤ k → LB es → (∀ h ∈ (take firm q es).1, ∃ e ∈ es, ∃ n, h.1 = wq e.o n) ∧ (∀ e' ∈ (take firm q es).2.2, ∃ e ∈ es, ∃ n, e'.o = wq e.o n) := by
  induction k with
  | zero =>
    intro q es hq hb
    rw [take_le (by omega)]
    exact ⟨(fun _ m => nomatch m), fun x m => ⟨x, m, x.o.qty, rfl⟩⟩
  | succ k ih =>
    intro q es hq hb
    by_cases h : 0 < q
    · cases es with
      | nil => rw [take_nil]; exact ⟨(fun _ m => nomatch m), fun _ m => nomatch m⟩
      | cons e l =>
        by_cases hf : e.o.firm = firm
        · rw [take_own h hf]; exact ⟨(fun _ m => nomatch m), fun x m => ⟨x, m, x.o.qty, rfl⟩⟩
        · have he := hb.2 e (by simp)
          rw [take_cons h hf he.2.2.1]
          have hg := giveE_LB (n := min q e.seen) hb (by omega) (by omega)
          obtain ⟨i1, i2⟩ := ih (q - min q e.seen) (giveE e l (min q e.seen)) (by omega) hg.1
          refine ⟨fun x m => ?_, fun x m => ?_⟩
          · rcases List.mem_cons.1 m with rfl | m
            · exact ⟨e, List.mem_cons_self .., e.o.qty, rfl⟩
            · obtain ⟨y, hy, n, e1⟩ := i1 x m
              obtain ⟨z, hz, n2, e2⟩ := giveE_sub hy
              exact ⟨z, hz, n, by rw [e1, e2]; rfl⟩
          · obtain ⟨y, hy, n, e1⟩ := i2 x m
            obtain ⟨z, hz, n2, e2⟩ := giveE_sub hy
            exact ⟨z, hz, n, by rw [e1, e2]; rfl⟩
    · rw [take_le (by omega)]
      exact ⟨(fun _ m => nomatch m), fun x m => ⟨x, m, x.o.qty, rfl⟩⟩
/-- What a match leaves, and tells. -/
structure MSub (o : Ord) (l : List Lv) (last : Int) (m : MR) : Prop where
  ps : ∃ k, m.lvs.map (·.p) = (l.map (·.p)).drop k
  sub : SubL m.lvs l
  fs : ∀ f ∈ m.fs, ∃ lv ∈ l, f.price = lv.p ∧ crosses o lv.p = true ∧ ∃ e ∈ lv.es, ∃ n, f.maker = wq e.o n
  stop : 0 < m.qty → m.self = false → meets o m.lvs = false
  sum : sumL l = sumF m.fs + sumL m.lvs
  qty : m.qty = o.qty - sumF m.fs
  last : m.last = lastP m.fs last
  best : ∀ s, Srt s l → m.fs.Pairwise (fun a b => better s b.price a.price = false) ∧ ∀ f ∈ m.fs, ∀ lv ∈ m.lvs, better s lv.p f.price = false
theorem match_sub : ∀ (l : List Lv) (o : Ord) (last no : Int), (∀ lv ∈ l, lv.Ok) → 0 ≤ o.qty → MSub o l last (matchL o l last no)
  | [], o, last, no, _, hq => ⟨⟨0, rfl⟩, (fun _ m => nomatch m), (fun _ m => nomatch m), (fun _ _ => rfl), rfl, by simp [matchL, sumF], rfl, fun s _ => ⟨.nil, fun _ m => nomatch m⟩⟩
  | lv :: r, o, last, no, hok, hq => by
    have hl := hok lv (by simp)
    have hr : ∀ lv ∈ r, lv.Ok := fun x m => hok x (List.mem_cons_of_mem _ m)
    unfold matchL
    split
    · rename_i hc
      have t := take_is (firm := o.firm) o.qty.toNat o.qty lv.es (Nat.le_refl _) hq hl.1
      have ts := take_sub (firm := o.firm) o.qty.toNat o.qty lv.es (Nat.le_refl _) hl.1
      generalize take o.firm o.qty lv.es = T at *
      have hsum := flls_sum o lv.p no T.1
      have hlast := flls_last o lv.p no last T.1
      have hmem : ∀ f ∈ flls o lv.p no T.1, f.price = lv.p ∧ ∃ e ∈ lv.es, ∃ n, f.maker = wq e.o n := by
        intro f m
        obtain ⟨h1, x, hx, h2, -⟩ := flls_mem m
        obtain ⟨e, he, n, h3⟩ := ts.1 x hx
        exact ⟨h1, e, he, n, by rw [h2, h3]⟩
      have hpw : ∀ s, (flls o lv.p no T.1).Pairwise (fun a b => better s b.price a.price = false) := fun s => List.Pairwise.imp_of_mem (R := fun _ _ => True) (fun {a b} ha hb _ => by rw [(hmem a ha).1, (hmem b hb).1]; exact better_self _ _) (List.pairwise_of_forall fun _ _ => trivial)
      have hhd : ∀ s, Srt s (lv :: r) → ∀ x ∈ r, better s x.p lv.p = false := fun s hs x m => better_not ((List.pairwise_cons.1 hs).1 x.p (List.mem_map_of_mem m))
      have hfs : ∀ f ∈ flls o lv.p no T.1, ∃ lv1 ∈ lv :: r, f.price = lv1.p ∧ crosses o lv1.p = true ∧ ∃ e ∈ lv1.es, ∃ n, f.maker = wq e.o n := by
        intro f m
        obtain ⟨h1, h2⟩ := hmem f m
        exact ⟨lv, List.mem_cons_self .., h1, hc.2, h2⟩
      have hsub : SubL (⟨lv.p, T.2.2⟩ :: r) (lv :: r) := by
        intro x m
        rcases List.mem_cons.1 m with rfl | m
        · exact ⟨lv, List.mem_cons_self .., rfl, ts.2⟩
        · exact ⟨x, List.mem_cons_of_mem _ m, rfl, fun e me => ⟨e, me, e.o.qty, rfl⟩⟩
      have hsub2 : SubL r (lv :: r) := fun x m => hsub x (List.mem_cons_of_mem _ m)
      have hbst : ∀ s, Srt s (lv :: r) → ∀ f ∈ flls o lv.p no T.1, ∀ x ∈ (⟨lv.p, T.2.2⟩ :: r : List Lv), better s x.p f.price = false := by
        intro s hs f mf x mx
        rw [(hmem f mf).1]
        rcases List.mem_cons.1 mx with rfl | mx
        · exact better_self _ _
        · exact hhd s hs x mx
      split
      · split
        · rename_i he
          refine ⟨⟨1, rfl⟩, hsub2, hfs, (fun _ h => by cases h), ?_, by rw [hsum], hlast.symm, fun s hs => ⟨hpw s, fun f mf x mx => hbst s hs f mf x (List.mem_cons_of_mem _ mx)⟩⟩
          have := t.sum
          rw [he] at this
          simp only [sumL, sumE, hsum] at this ⊢; omega
        · refine ⟨⟨0, rfl⟩, hsub, hfs, (fun _ h => by cases h), ?_, by rw [hsum], hlast.symm, fun s hs => ⟨hpw s, hbst s hs⟩⟩
          have := t.sum
          simp only [sumL, hsum] at this ⊢; omega
      · rename_i hself
        split
        · rename_i he
          have ih := match_sub r (wq o (o.qty - sumH T.1)) (if T.1 = [] then last else lv.p) (no + T.1.length) hr (by have := t.le; show 0 ≤ o.qty - _; omega)
          have hwq : (wq o (o.qty - sumH T.1)).qty = o.qty - sumH T.1 := rfl
          generalize matchL (wq o (o.qty - sumH T.1)) r (if T.1 = [] then last else lv.p) (no + T.1.length) = M at *
          obtain ⟨⟨k, i1⟩, i2, i3, i4, i5, i6, i7, i8⟩ := ih
          refine ⟨⟨k + 1, by simpa [MR.pre] using i1⟩, ?_, ?_, i4, ?_, ?_, ?_, ?_⟩
          · intro x m
            obtain ⟨y, hy, h⟩ := i2 x m
            exact ⟨y, List.mem_cons_of_mem _ hy, h⟩
          · intro f m
            rcases List.mem_append.1 m with m | m
            · exact hfs f m
            · obtain ⟨y, hy, h⟩ := i3 f m
              exact ⟨y, List.mem_cons_of_mem _ hy, h⟩
          · have := t.sum
            rw [he] at this
            show _ = sumF (_ ++ _) + sumL M.lvs
            rw [sumF_append, hsum]
            simp only [sumL, sumE] at this ⊢; omega
          · show M.qty = o.qty - sumF (_ ++ _)
            rw [sumF_append, hsum]; omega
          · show M.last = lastP (_ ++ _) last
            rw [lastP_append, hlast]; exact i7
          · intro s hs
            obtain ⟨j1, j2⟩ := i8 s (List.pairwise_cons.1 hs).2
            refine ⟨List.pairwise_append.2 ⟨hpw s, j1, ?_⟩, ?_⟩
            · intro a ha b hb
              obtain ⟨y, hy, h1, -⟩ := i3 b hb
              rw [(hmem a ha).1, h1]; exact hhd s hs y hy
            · intro f mf x mx
              rcases List.mem_append.1 mf with mf | mf
              · obtain ⟨y, hy, h1, -⟩ := i2 x mx
                rw [(hmem f mf).1, h1]; exact hhd s hs y hy
              · exact j2 f mf x mx
        · rename_i he
          refine ⟨⟨0, rfl⟩, hsub, hfs, ?_, ?_, by rw [hsum], hlast.symm, fun s hs => ⟨hpw s, hbst s hs⟩⟩
          · intro h1 _
            have h1 : 0 < o.qty - sumH T.1 := h1
            have := (t.all (by simpa using hself)).resolve_right he
            omega
          · have := t.sum
            simp only [sumL, hsum] at this ⊢; omega
    · rename_i hc
      refine ⟨⟨0, rfl⟩, (fun x m => ⟨x, m, rfl, fun e me => ⟨e, me, e.o.qty, rfl⟩⟩), (fun _ m => nomatch m), ?_, by simp [sumF], by simp [sumF], rfl, fun s _ => ⟨.nil, fun _ m => nomatch m⟩⟩
      intro h _
      have h : 0 < o.qty := h
      show crosses o lv.p = false
      cases hx : crosses o lv.p with
      | false => rfl
      | true => exact absurd ⟨h, hx⟩ hc
/-- A match's trades, in order. -/
theorem match_fls {oth : Int} : ∀ (l : List Lv) (o : Ord) (last no : Int), (∀ lv ∈ l, lv.Ok) → AtS oth l → 0 ≤ o.qty → FlsOk o.firm oth no o.qty (matchL o l last no).fs
  | [], o, last, no, _, _, hq => trivial
  | lv :: r, o, last, no, hok, hat, hq => by
    have hl := hok lv (by simp)
    have hr : ∀ lv ∈ r, lv.Ok := fun x m => hok x (List.mem_cons_of_mem _ m)
    unfold matchL
    split
    · rename_i hc
      have t := take_is (firm := o.firm) o.qty.toNat o.qty lv.es (Nat.le_refl _) hq hl.1
      have ts := take_sub (firm := o.firm) o.qty.toNat o.qty lv.es (Nat.le_refl _) hl.1
      generalize take o.firm o.qty lv.es = T at *
      have hf : FlsOk o.firm oth no o.qty (flls o lv.p no T.1) := by
        refine flls_ok T.1 o no fun h m => ?_
        have h1 := t.hits h m
        obtain ⟨e, he, n, h2⟩ := ts.1 h m
        have h3 := hat lv (by simp) e he
        exact ⟨h1.1, h1.2.2, by rw [h2]; exact h3.1, by rw [h2]; exact h3.2⟩
      split
      · exact hf
      · split
        · have ih := match_fls (oth := oth) r (wq o (o.qty - sumH T.1)) (if T.1 = [] then last else lv.p) (no + T.1.length) hr (fun x m => hat x (List.mem_cons_of_mem _ m)) (by have := t.le; show 0 ≤ o.qty - _; omega)
          refine (flsOk_append _ _ _ _).2 ⟨hf, ?_⟩
          rw [flls_len, flls_sum]; exact ih
        · exact hf
    · trivial
end Go.Proofs.Ytfhpoagnfmgfkaa

set_option autoImplicit false
set_option linter.unusedSectionVars false
set_option linter.unusedSimpArgs false
set_option linter.unusedVariables false
set_option maxRecDepth 4000
namespace Go.Proofs.Ytfhpoagnfmgfkaa
open Go Go.SL Go.Proofs
variable [Base]
theorem restK_spec (o : Ord) (l : List Lv) : (∀ lv ∈ l.take (restK o l), better o.side lv.p o.price = true) ∧ ∀ lv, l[restK o l]? = some lv → better o.side lv.p o.price = false := by
  unfold restK
  cases h : l.findIdx? fun lv => !better o.side lv.p o.price with
  | none =>
    rw [List.findIdx?_eq_none_iff] at h
    refine ⟨fun lv m => ?_, fun lv hl => ?_⟩
    · have := h lv (List.mem_of_mem_take m)
      simpa using this
    · simp at hl
  | some k =>
    rw [List.findIdx?_eq_some_iff_getElem] at h
    obtain ⟨hk, h1, h2⟩ := h
    refine ⟨fun lv m => ?_, fun lv hl => ?_⟩
    · obtain ⟨j, hj, e⟩ := List.mem_take_iff_getElem.1 m
      have := h2 j (by simp only [Option.getD_some] at hj; omega)
      rw [e] at this
      simpa using this
    · simp only [Option.getD_some] at hl
      rw [(List.getElem?_eq_some_iff.1 hl).2] at h1
      simpa using h1
/-- Where an order comes to rest. -/
theorem restL_form (o : Ord) (l : List Lv) : ∃ a b, (∀ lv ∈ a, better o.side lv.p o.price = true) ∧
    ((∃ lv, lv.p = o.price ∧ l = a ++ lv :: b ∧ restL o l = a ++ ⟨lv.p, lv.es ++ [⟨o, tip o⟩]⟩ :: b) ∨
    (l = a ++ b ∧ restL o l = a ++ ⟨o.price, [⟨o, tip o⟩]⟩ :: b ∧ ∀ lv, b.head? = some lv → better o.side o.price lv.p = true)) := by
  have hk := restK_le o l
  obtain ⟨s1, s2⟩ := restK_spec o l
  obtain ⟨lv, h0, h1, h2⟩ := restP_get o l
  have hr : restL o l = (restP o l).set (restK o l) ⟨lv.p, lv.es ++ [⟨o, tip o⟩]⟩ := by unfold restL; rw [h0]
  cases hi : restI o l with
  | false =>
    have e : restP o l = l := by unfold restP; rw [if_neg (by rw [hi]; simp)]
    have hl := h1 hi
    refine ⟨l.take (restK o l), l.drop (restK o l + 1), s1, .inl ⟨lv, ?_, split_at hl, ?_⟩⟩
    · unfold restI at hi
      rw [hl] at hi
      simpa using hi
    · rw [hr, e, List.set_eq_take_append_cons_drop, if_pos (List.getElem?_eq_some_iff.1 hl).1]
  | true =>
    have e : restP o l = l.take (restK o l) ++ ⟨o.price, []⟩ :: l.drop (restK o l) := by unfold restP; rw [if_pos hi]
    refine ⟨l.take (restK o l), l.drop (restK o l), s1, .inr ⟨(List.take_append_drop ..).symm, ?_, ?_⟩⟩
    · rw [hr, e, h2 hi, List.set_append_right _ _ (by rw [List.length_take]; omega), List.length_take, Nat.min_eq_left hk, Nat.sub_self]; rfl
    · intro x hx
      rw [List.head?_drop] at hx
      refine better_tot (s2 x hx) ?_
      unfold restI at hi
      rw [hx] at hi
      simpa using hi
theorem restL_sum (o : Ord) (l : List Lv) : sumL (restL o l) = sumL l + o.qty := by
  obtain ⟨a, b, -, h⟩ := restL_form o l
  rcases h with ⟨lv, -, e1, e2⟩ | ⟨e1, e2, -⟩
  · rw [e2]; conv => rhs; rw [e1]
    simp only [sumL_append, sumL, sumE_append, sumE]; omega
  · rw [e2]; conv => rhs; rw [e1]
    simp only [sumL_append, sumL, sumE]; omega
theorem srt_rest {o : Ord} {l : List Lv} (h : Srt o.side l) : Srt o.side (restL o l) := by
  obtain ⟨a, b, ha, h1⟩ := restL_form o l
  rcases h1 with ⟨lv, -, e1, e2⟩ | ⟨e1, e2, hb⟩
  · have e : (restL o l).map (·.p) = l.map (·.p) := by
      rw [e2]; conv => rhs; rw [e1]
      simp
    unfold Srt at h ⊢
    rw [e]; exact h
  · unfold Srt at h ⊢
    rw [e2]
    rw [e1] at h
    rw [List.map_append] at h ⊢
    obtain ⟨p1, p2, p3⟩ := List.pairwise_append.1 h
    have hb2 : ∀ p ∈ b.map (·.p), better o.side o.price p = true := by
      intro p m
      cases b with
      | nil => cases m
      | cons x b =>
        have hx := hb x rfl
        rw [List.map_cons] at m p2
        rcases List.mem_cons.1 m with rfl | m
        · exact hx
        · exact better_trans hx ((List.pairwise_cons.1 p2).1 p m)
    refine List.pairwise_append.2 ⟨p1, List.pairwise_cons.2 ⟨hb2, p2⟩, fun x mx y my => ?_⟩
    rw [List.map_cons] at my
    rcases List.mem_cons.1 my with rfl | my
    · obtain ⟨lv, m, rfl⟩ := List.mem_map.1 mx
      exact ha lv m
    · exact p3 x mx y my
theorem rest_mem {o : Ord} {l : List Lv} {lv : Lv} (h : lv ∈ restL o l) : (lv.p = o.price ∨ ∃ x ∈ l, lv.p = x.p) ∧ ∀ e ∈ lv.es, (e.o = o ∧ lv.p = o.price) ∨ ∃ x ∈ l, lv.p = x.p ∧ e ∈ x.es := by
  obtain ⟨a, b, -, h1⟩ := restL_form o l
  rcases h1 with ⟨x, hx, e1, e2⟩ | ⟨e1, e2, -⟩
  · rw [e2] at h
    have old : ∀ y, y ∈ a ∨ y ∈ b → (y.p = o.price ∨ ∃ x ∈ l, y.p = x.p) ∧ ∀ e ∈ y.es, (e.o = o ∧ y.p = o.price) ∨ ∃ x ∈ l, y.p = x.p ∧ e ∈ x.es := by
      intro y hy
      have : y ∈ l := by rw [e1]; rcases hy with h | h <;> simp [h]
      exact ⟨.inr ⟨y, this, rfl⟩, fun e me => .inr ⟨y, this, rfl, me⟩⟩
    rcases List.mem_append.1 h with h | h
    · exact old lv (.inl h)
    · rcases List.mem_cons.1 h with rfl | h
      · have hm : x ∈ l := by rw [e1]; simp
        refine ⟨.inl hx, fun e me => ?_⟩
        rcases List.mem_append.1 me with me | me
        · exact .inr ⟨x, hm, rfl, me⟩
        · simp only [List.mem_singleton] at me
          subst me; exact .inl ⟨rfl, hx⟩
      · exact old lv (.inr h)
  · rw [e2] at h
    have old : ∀ y, y ∈ a ∨ y ∈ b → (y.p = o.price ∨ ∃ x ∈ l, y.p = x.p) ∧ ∀ e ∈ y.es, (e.o = o ∧ y.p = o.price) ∨ ∃ x ∈ l, y.p = x.p ∧ e ∈ x.es := by
      intro y hy
      have : y ∈ l := by rw [e1]; rcases hy with h | h <;> simp [h]
      exact ⟨.inr ⟨y, this, rfl⟩, fun e me => .inr ⟨y, this, rfl, me⟩⟩
    rcases List.mem_append.1 h with h | h
    · exact old lv (.inl h)
    · rcases List.mem_cons.1 h with rfl | h
      · refine ⟨.inl rfl, fun e me => ?_⟩
        simp only [List.mem_singleton] at me
        subst me; exact .inl ⟨rfl, rfl⟩
      · exact old lv (.inr h)
/-- One side of a book and the other: sorted, at their prices, apart. -/
structure SdOk (s : Int) (mine theirs : List Lv) : Prop where
  s1 : Srt s mine
  a1 : AtS s mine
  s2 : Srt (3 - s) theirs
  a2 : AtS (3 - s) theirs
  ap : ∀ x ∈ mine, ∀ y ∈ theirs, better s y.p x.p = true
theorem SdOk.swap {s : Int} {a b : List Lv} (hs : s = 1 ∨ s = 2) (h : SdOk s a b) : SdOk (3 - s) b a := by
  refine ⟨h.s2, h.a2, by rw [show 3 - (3 - s) = s by omega]; exact h.s1, by rw [show 3 - (3 - s) = s by omega]; exact h.a1, fun x mx y my => ?_⟩
  have := h.ap y my x mx
  unfold better at this ⊢
  rcases hs with rfl | rfl <;> simp_all
theorem srt_drop {s : Int} {l m : List Lv} (h : Srt s l) {k : Nat} (e : m.map (·.p) = (l.map (·.p)).drop k) : Srt s m := by
  unfold Srt SrtP at h ⊢
  rw [e]; exact h.sublist (List.drop_sublist ..)
theorem at_sub {s : Int} {l m : List Lv} (h : AtS s l) (e : SubL m l) : AtS s m := by
  intro x mx y my
  obtain ⟨z, mz, e1, e2⟩ := e x mx
  obtain ⟨w, mw, n, e3⟩ := e2 y my
  have := h z mz w mw
  rw [e3, e1]; exact this
theorem crosses_better {o : Ord} {p : Int} (hk : o.kind ≠ 2) (hs : o.side = 1 ∨ o.side = 2) : crosses o p = !better o.side p o.price := by
  unfold crosses better
  rw [if_neg hk]
  rcases hs with h | h <;> simp [h] <;> rw [Bool.eq_iff_iff] <;> simp
theorem rests_kind {o : Ord} (h : rests o = true) : o.kind = 1 ∨ o.kind = 5 := by
  unfold rests at h; simpa using h
theorem apart_of {o : Ord} {l : List Lv} (hk : o.kind ≠ 2) (hs : o.side = 1 ∨ o.side = 2) (h : Srt (3 - o.side) l) (hm : meets o l = false) : ∀ y ∈ l, better o.side y.p o.price = true := by
  cases l with
  | nil => intro y m; cases m
  | cons x l =>
    have hx : crosses o x.p = false := hm
    rw [crosses_better hk hs] at hx
    have hx : better o.side x.p o.price = true := by simpa using hx
    intro y m
    rcases List.mem_cons.1 m with rfl | m
    · exact hx
    · have := (List.pairwise_cons.1 h).1 y.p (List.mem_map_of_mem m)
      unfold better at this hx ⊢
      rcases hs with h | h <;> simp_all <;> omega
theorem sdOk_match {s : Int} {a b c : List Lv} (h : SdOk s a b) {k : Nat} (e1 : c.map (·.p) = (b.map (·.p)).drop k) (e2 : SubL c b) : SdOk s a c := by
  refine ⟨h.s1, h.a1, srt_drop h.s2 e1, at_sub h.a2 e2, fun x mx y my => ?_⟩
  obtain ⟨z, mz, e, -⟩ := e2 y my
  rw [e]; exact h.ap x mx z mz
theorem sdOk_rest {o : Ord} {a b : List Lv} (h : SdOk o.side a b) (ha : ∀ y ∈ b, better o.side y.p o.price = true) : SdOk o.side (restL o a) b := by
  refine ⟨srt_rest h.s1, fun x mx e me => ?_, h.s2, h.a2, fun x mx y my => ?_⟩
  · rcases (rest_mem mx).2 e me with ⟨rfl, h2⟩ | ⟨z, mz, e1, e2⟩
    · exact ⟨rfl, h2.symm⟩
    · rw [e1]; exact h.a1 z mz e e2
  · rcases (rest_mem mx).1 with e | ⟨z, mz, e⟩
    · rw [e]; exact ha y my
    · rw [e]; exact h.ap z mz y my
/-- A book as it ought to be. -/
def Gd (B : Bk) : Prop := SdOk 1 B.buys B.sells
theorem Gd.side {B : Bk} (h : Gd B) {s : Int} (hs : s = 1 ∨ s = 2) : SdOk s (B.side s) (B.side (3 - s)) := by
  rcases hs with rfl | rfl
  · exact h
  · exact SdOk.swap (.inl rfl) h
theorem Gd.of {B : Bk} {s : Int} (hs : s = 1 ∨ s = 2) (h : SdOk s (B.side s) (B.side (3 - s))) : Gd B := by
  rcases hs with rfl | rfl
  · exact h
  · exact SdOk.swap (.inr rfl) h
theorem empty_Gd : Gd empty := ⟨.nil, (fun _ m => nomatch m), .nil, (fun _ m => nomatch m), fun _ m => nomatch m⟩
theorem put_side {B : Bk} {s : Int} (hs : s = 1 ∨ s = 2) (l : List Lv) : (B.put s l).side s = l := by
  rcases hs with rfl | rfl <;> rfl
theorem put_other {B : Bk} {s : Int} (hs : s = 1 ∨ s = 2) (l : List Lv) : (B.put s l).side (3 - s) = B.side (3 - s) := by
  rcases hs with rfl | rfl <;> rfl
theorem put_tell_side {B : Bk} {s : Int} (l : List Lv) (x y : Int) : (B.tell x y).side s = B.side s := rfl
/-- What an order that is taken does to the two sides. -/
structure AddIs (o : Ord) (B : Bk) (m : MR) : Prop where
  out : (badd o B).1 = ⟨o, m.fs, m.qty, decide (0 < m.qty) && !m.self && rests o, false, m.self, 0⟩
  theirs : (badd o B).2.side (3 - o.side) = m.lvs
  mine : (badd o B).2.side o.side = if (decide (0 < m.qty) && !m.self && rests o) = true then restL (wqs o m.qty (min o.show_ m.qty)) (B.side o.side) else B.side o.side
  last : (badd o B).2.last = m.last
  no : (badd o B).2.no = m.no
theorem add_is {o : Ord} {B : Bk} (hs : o.side = 1 ∨ o.side = 2) (h0 : brefused o B = 0) : AddIs o B (matchL o (B.side (3 - o.side)) B.last B.no) := by
  have e : badd o B = (⟨o, (matchL o (B.side (3 - o.side)) B.last B.no).fs, (matchL o (B.side (3 - o.side)) B.last B.no).qty, decide (0 < (matchL o (B.side (3 - o.side)) B.last B.no).qty) && !(matchL o (B.side (3 - o.side)) B.last B.no).self && rests o, false, (matchL o (B.side (3 - o.side)) B.last B.no).self, 0⟩,
      if (decide (0 < (matchL o (B.side (3 - o.side)) B.last B.no).qty) && !(matchL o (B.side (3 - o.side)) B.last B.no).self && rests o) = true then ((B.put (3 - o.side) (matchL o (B.side (3 - o.side)) B.last B.no).lvs).tell (matchL o (B.side (3 - o.side)) B.last B.no).last (matchL o (B.side (3 - o.side)) B.last B.no).no).put o.side (restL (wqs o (matchL o (B.side (3 - o.side)) B.last B.no).qty (min o.show_ (matchL o (B.side (3 - o.side)) B.last B.no).qty)) (((B.put (3 - o.side) (matchL o (B.side (3 - o.side)) B.last B.no).lvs).tell (matchL o (B.side (3 - o.side)) B.last B.no).last (matchL o (B.side (3 - o.side)) B.last B.no).no).side o.side))
      else (B.put (3 - o.side) (matchL o (B.side (3 - o.side)) B.last B.no).lvs).tell (matchL o (B.side (3 - o.side)) B.last B.no).last (matchL o (B.side (3 - o.side)) B.last B.no).no) := by
    unfold badd
    rw [if_neg (by rw [h0]; simp)]
  rw [show matchL o (B.side (3 - o.side)) B.last B.no = matchL o (B.side (3 - o.side)) B.last B.no from rfl] at e
  generalize matchL o (B.side (3 - o.side)) B.last B.no = m at *
  generalize hr : (decide (0 < m.qty) && !m.self && rests o) = r at *
  refine ⟨by rw [e, hr], ?_, ?_, ?_, ?_⟩
  all_goals rw [e]
  all_goals rcases hs with h | h <;> rw [h] <;> cases r <;> first | rfl | (rw [hr]; rfl)
theorem refused_is {o : Ord} {B : Bk} (h : brefused o B ≠ 0) : badd o B = (⟨o, [], o.qty, false, false, false, brefused o B⟩, B) := by
  unfold badd; rw [if_pos h]
theorem badd_Gd {o : Ord} {B : Bk} (hw : BW B) (hg : Gd B) (hr : rightP o) : Gd (badd o B).2 := by
  by_cases h0 : brefused o B = 0
  · have hs : o.side = 1 ∨ o.side = 2 := by unfold rightP at hr; omega
    have hq : 0 ≤ o.qty := by unfold rightP at hr; omega
    have M := match_sub (B.side (3 - o.side)) o B.last B.no (hw.side _).1 hq
    have A := add_is hs h0
    have S := hg.side hs
    generalize matchL o (B.side (3 - o.side)) B.last B.no = m at *
    obtain ⟨k, hk⟩ := M.ps
    have S2 := sdOk_match S hk M.sub
    refine Gd.of hs ?_
    rw [A.theirs, A.mine]
    split
    · rename_i hc
      simp only [Bool.and_eq_true, decide_eq_true_eq, Bool.not_eq_true'] at hc
      have hk2 : o.kind ≠ 2 := by have := rests_kind hc.2; omega
      have := apart_of (o := o) hk2 hs S2.s2 (M.stop hc.1.1 hc.1.2)
      exact sdOk_rest (o := wqs o m.qty (min o.show_ m.qty)) S2 this
    · exact S2
  · rw [refused_is h0]; exact hg
theorem bfill_Gd (rs : List (List Int)) (k : Nat) : Gd (bfill rs k) :=
  (bfill_ind (I := fun B => BW B ∧ 0 ≤ B.no ∧ Gd B) ⟨empty_BW, (by show (0 : Int) ≤ 0; decide), empty_Gd⟩ (fun r B h => ⟨(badd_BW h.1 h.2.1).1, by have := (badd_BW (o := kO r) h.1 h.2.1).2; omega, badd_Gd h.1 h.2.2 (kO_right r).1⟩) rs k).2.2
end Go.Proofs.Ytfhpoagnfmgfkaa
