/- Contracts of functions of the given program over its translation, each proved by walking its text; used by the laws' rows. It proves no given statement by itself. -/
import Derived.Test.YtiilndlgfgikbaaSLLaw10b
import Derived.Test.YtiilndlgfgikbaaSLIMap
set_option autoImplicit false
set_option linter.unusedSectionVars false
set_option linter.unusedSimpArgs false
set_option linter.unusedVariables false
set_option maxRecDepth 4000
namespace Go.Proofs.Ytiilndlgfgikbaa
open Go Go.SL Go.Proofs
variable [Base]
theorem reach_snoc_own {firm : Int} {x : Ent} : ∀ {l : List Ent}, (reach firm l).2 = true → reach firm (l ++ [x]) = reach firm l
  | [], h => by cases h
  | y :: l, h => by
    simp only [List.cons_append, reach] at h ⊢
    split
    · rfl
    · rename_i hf
      rw [if_neg hf] at h
      rw [reach_snoc_own (l := l) h]
theorem reach_snoc_not {firm : Int} {x : Ent} (hx : x.o.firm ≠ firm) : ∀ {l : List Ent}, (reach firm l).2 = false → (reach firm (l ++ [x])).2 = false
  | [], _ => by simp [reach, hx]
  | y :: l, h => by
    simp only [List.cons_append, reach] at h ⊢
    split
    · rename_i hf; rw [if_pos hf] at h; cases h
    · rename_i hf
      rw [if_neg hf] at h
      exact reach_snoc_not hx (l := l) h
/-- What the first order sees given, the rest gives no more. -/
theorem reachR_give {firm : Int} {e : Ent} {l : List Ent} (hf : e.o.firm ≠ firm) (hs : 1 ≤ e.seen ∧ e.seen ≤ e.o.qty) : reachR firm (giveE e l e.seen) = ((reachR firm (e :: l)).1 - e.seen, (reachR firm (e :: l)).2) := by
  have hr : reach firm (e :: l) = ((reach firm l).1 + e.seen, (reach firm l).2) := by simp only [reach]; rw [if_neg hf]
  have hsum := giveE_sum (e := e) (l := l) (n := e.seen) hs.2 (Int.le_refl _)
  unfold giveE at hsum ⊢
  rw [if_neg (by omega)] at hsum ⊢
  unfold reachR
  rw [hr]
  cases ho : (reach firm l).2 with
  | true =>
    split
    · simp [reach_snoc_own ho, ho]
    · simp [ho]
  | false =>
    split at hsum
    · rename_i hq
      rw [if_pos hq, reach_snoc_not (by exact hf) ho]
      simp only [Bool.false_eq_true, if_false, hsum, sumE]
      congr 1; omega
    · rename_i hq
      rw [if_neg hq, ho]
      simp only [Bool.false_eq_true, if_false, sumE]
      congr 1; omega
/-- A level gives what can be reached, and no more. -/
theorem take_reach {firm : Int} (k : Nat) : ∀ (q : Int) (es : List Ent), q.toNat ≤ k → 0 ≤ q → LB es → sumH (take firm q es).1 = min q (reachR firm es).1 ∧ ((take firm q es).2.1 = true ↔ (reachR firm es).2 = true ∧ (reachR firm es).1 < q) := by
  induction k with
  | zero =>
    intro q es hk hq hb
    have : q = 0 := by omega
    subst this
    have := reachR_nonneg (firm := firm) hb
    rw [take_le (by omega)]
    refine ⟨by simp only [sumH]; omega, ⟨(fun h => by cases h), (fun h => by omega)⟩⟩
  | succ k ih =>
    intro q es hk hq hb
    have hn := reachR_nonneg (firm := firm) hb
    by_cases h0 : 0 < q
    · cases es with
      | nil =>
        rw [take_nil]
        refine ⟨by simp [sumH, reachR, reach, sumE]; try omega, ⟨(fun h => by cases h), (fun h => by simp [reachR, reach] at h)⟩⟩
      | cons e l =>
        have he := hb.2 e (by simp)
        by_cases hf : e.o.firm = firm
        · rw [take_own h0 hf]
          have e1 : reachR firm (e :: l) = (0, true) := by simp [reachR, reach, hf]
          rw [e1]
          exact ⟨by simp only [sumH]; omega, ⟨(fun _ => ⟨rfl, h0⟩), (fun _ => rfl)⟩⟩
        · rw [take_cons h0 hf he.2.2.1]
          by_cases hle : e.seen ≤ q
          · rw [show min q e.seen = e.seen by omega]
            have hg := giveE_LB (n := e.seen) hb (by omega) (Int.le_refl _)
            obtain ⟨i1, i2⟩ := ih (q - e.seen) (giveE e l e.seen) (by omega) (by omega) hg.1
            rw [reachR_give hf ⟨he.2.2.1, he.2.2.2⟩] at i1 i2
            dsimp only at i1 i2 ⊢
            refine ⟨by simp only [sumH]; omega, ?_⟩
            rw [i2]
            constructor
            · rintro ⟨a, b⟩; exact ⟨a, by omega⟩
            · rintro ⟨a, b⟩; exact ⟨a, by omega⟩
          · rw [show min q e.seen = q by omega, Int.sub_self, take_le (by omega)]
            have hge : e.seen ≤ (reachR firm (e :: l)).1 := by
              have := reachR_nonneg (firm := firm) (giveE_LB (n := e.seen) hb (by omega) (Int.le_refl _)).1
              rw [reachR_give hf ⟨he.2.2.1, he.2.2.2⟩] at this
              dsimp only at this; omega
            dsimp only
            exact ⟨by simp only [sumH]; omega, ⟨(fun h => by cases h), (fun h => by omega)⟩⟩
    · have : q = 0 := by omega
      subst this
      rw [take_le (by omega)]
      refine ⟨by simp only [sumH]; omega, ⟨(fun h => by cases h), (fun h => by omega)⟩⟩
/-- An order would be filled whole just if it is. -/
theorem fills_iff : ∀ (l : List Lv) (o : Ord) (last no : Int), (∀ lv ∈ l, lv.Ok) → 0 < o.qty → (fillsL o l = true ↔ (matchL o l last no).qty = 0)
  | [], o, last, no, _, hq => by
    show (false = true ↔ o.qty = 0)
    exact ⟨(fun h => by cases h), (fun h => by omega)⟩
  | lv :: r, o, last, no, hok, hq => by
    have hl := hok lv (by simp)
    have t := take_is (firm := o.firm) o.qty.toNat o.qty lv.es (Nat.le_refl _) (by omega) hl.1
    have tr := take_reach (firm := o.firm) o.qty.toNat o.qty lv.es (Nat.le_refl _) (by omega) hl.1
    have hn := reachR_nonneg (firm := o.firm) hl.1
    have ih := fun q last no => fills_iff r (wq o q) last no (fun x m => hok x (List.mem_cons_of_mem _ m))
    unfold fillsL matchL
    cases hc : crosses o lv.p with
    | false =>
      rw [if_pos rfl, if_neg (by simp)]
      exact ⟨(fun h => by cases h), (fun h => by have : o.qty = 0 := h; omega)⟩
    | true =>
      rw [if_neg (by simp), if_pos (show 0 < o.qty ∧ true = true from ⟨hq, rfl⟩)]
      generalize take o.firm o.qty lv.es = T at *
      generalize reachR o.firm lv.es = R at *
      obtain ⟨t1, t2⟩ := tr
      by_cases h1 : o.qty ≤ R.1
      · rw [if_pos h1]
        have hs : T.2.1 = false := by
          cases hx : T.2.1 with
          | false => rfl
          | true => have := t2.1 hx; omega
        rw [if_neg (by rw [hs]; simp)]
        refine ⟨fun _ => ?_, fun _ => rfl⟩
        split
        · rw [matchL_zero _ _ _ _ (by show ¬ 0 < o.qty - sumH T.1; omega)]
          show o.qty - sumH T.1 = 0; omega
        · show o.qty - sumH T.1 = 0; omega
      · rw [if_neg h1]
        by_cases h2 : R.2 = true
        · rw [if_pos h2, if_pos (t2.2 ⟨h2, by omega⟩)]
          exact ⟨(fun h => by cases h), (fun h => by have : o.qty - sumH T.1 = 0 := h; omega)⟩
        · have hs : T.2.1 = false := by
            cases hx : T.2.1 with
            | false => rfl
            | true => exact absurd (t2.1 hx).1 h2
          have he : T.2.2 = [] := (t.all hs).resolve_left (by omega)
          rw [if_neg h2, if_neg (by rw [hs]; simp), if_pos he]
          rw [show sumH T.1 = R.1 by omega]
          exact ih (o.qty - R.1) _ _ (by show 0 < o.qty - R.1; omega)
end Go.Proofs.Ytiilndlgfgikbaa

set_option autoImplicit false
set_option linter.unusedSectionVars false
set_option linter.unusedSimpArgs false
set_option linter.unusedVariables false
set_option maxRecDepth 4000
namespace Go.Proofs.Ytiilndlgfgikbaa
open Go Go.SL Go.Proofs
variable [Base]
/-- An order that meets nothing trades nothing. -/
theorem meets_none {o : Ord} {l : List Lv} {last no : Int} (h : meets o l = false) : matchL o l last no = ⟨[], o.qty, false, l, last, no⟩ := by
  cases l with
  | nil => rfl
  | cons lv r =>
    have h : crosses o lv.p = false := h
    unfold matchL
    rw [if_neg (by rw [h]; simp)]
theorem bk_side_ok {B : Bk} (hw : BW B) (s : Int) : ∀ lv ∈ B.side s, lv.Ok := (hw.side s).1
/-- What each kind comes to, but for where a limit order is found. -/
theorem kinds_plain {o : Ord} {B : Bk} (hw : BW B) (hr : rightP o) (hs : o.stop = 0) :
    (o.kind = 2 ∨ o.kind = 3 → (badd o B).1.rests = false ∧ ((badd o B).1.err = 0 ∨ (badd o B).1.err = 5)) ∧
    (o.kind = 4 → (badd o B).1.rests = false ∧ ((badd o B).1.err = 0 ∧ (badd o B).1.left = 0 ∨ (badd o B).1.err ≠ 0 ∧ (badd o B).1.fs = [])) ∧
    (o.kind = 5 → (badd o B).1.fs = [] ∧ (badd o B).1.rests = decide ((badd o B).1.err = 0)) ∧
    ((badd o B).1.rests = true ∨ (badd o B).1.err ≠ 0 ∨ (badd o B).1.left = 0 ∨ (badd o B).1.self = true ∨ rests o = false) := by
  have hq1 : 1 ≤ o.qty := hr.2.2.2.2.2.2.2.2.2.2.1
  have hrt : right o = 0 := by unfold right; rw [if_pos hr]
  have hok := (hw.side (3 - o.side)).1
  by_cases h0 : brefused o B = 0
  · obtain ⟨-, -, -, r4, r5, r6⟩ := refused_zero h0
    unfold badd
    rw [if_neg (by simpa using h0)]
    dsimp only
    have M := match_is (B.side (3 - o.side)) o B.last B.no hok (by omega)
    refine ⟨?_, ?_, ?_, ?_⟩
    · intro hk
      have : rests o = false := by unfold rests; rcases hk with h | h <;> rw [h] <;> rfl
      rw [this]
      exact ⟨by simp, .inl rfl⟩
    · intro hk
      have : rests o = false := by unfold rests; rw [hk]; rfl
      rw [this]
      exact ⟨by simp, .inl ⟨rfl, (fills_iff _ o B.last B.no hok (by omega)).1 (r6 hk)⟩⟩
    · intro hk
      have : rests o = true := by unfold rests; rw [hk]; rfl
      rw [meets_none (r5 hk), this]
      exact ⟨rfl, by simp; omega⟩
    · by_cases hq : 0 < (matchL o (B.side (3 - o.side)) B.last B.no).qty
      · cases hse : (matchL o (B.side (3 - o.side)) B.last B.no).self with
        | true => exact .inr (.inr (.inr (.inl rfl)))
        | false =>
          cases hre : rests o with
          | true => exact .inl (by simp [hq])
          | false => exact .inr (.inr (.inr (.inr rfl)))
      · have := M.qty.1
        exact .inr (.inr (.inl (by omega)))
  · have e : (badd o B).1 = ⟨o, [], o.qty, false, false, false, brefused o B⟩ := by unfold badd; rw [if_pos h0]
    rw [e]
    dsimp only
    refine ⟨fun hk => ⟨rfl, .inr ?_⟩, fun hk => ⟨rfl, .inr ⟨h0, rfl⟩⟩, fun hk => ⟨rfl, ?_⟩, .inr (.inl h0)⟩
    · have hre : rests o = false := by unfold rests; rcases hk with h | h <;> rw [h] <;> rfl
      unfold brefused at h0 ⊢
      rw [if_neg (by omega)] at h0 ⊢
      by_cases hb : (bfind o.trader o.id B).2 = true
      · rw [if_pos hb]
      · rw [if_neg hb, if_neg (by rw [hre]; simp), if_neg (by omega), if_neg (by omega)] at h0
        exact absurd rfl h0
    · rw [decide_eq_false h0]
end Go.Proofs.Ytiilndlgfgikbaa

set_option autoImplicit false
set_option linter.unusedSectionVars false
set_option linter.unusedSimpArgs false
set_option linter.unusedVariables false
set_option maxRecDepth 4000
namespace Go.Proofs.Ytiilndlgfgikbaa
open Go Go.SL Go.Proofs
variable [Base]
theorem restL_has (o : Ord) (l : List Lv) : ∃ lv ∈ restL o l, ∃ e ∈ lv.es, e.o = o := by
  obtain ⟨lv, hlv, h1, h2⟩ := restP_get o l
  have hres : restL o l = (restP o l).set (restK o l) ⟨lv.p, lv.es ++ [⟨o, tip o⟩]⟩ := by unfold restL; rw [hlv]
  have hlt := (List.getElem?_eq_some_iff.1 hlv).1
  rw [hres]
  exact ⟨_, List.mem_of_getElem? (List.getElem?_set_self hlt), ⟨o, tip o⟩, by simp, rfl⟩
theorem findL_has {t i : Int} : ∀ {l : List Lv}, (∃ lv ∈ l, ∃ e ∈ lv.es, e.o.trader = t ∧ e.o.id = i) → findL t i l ≠ none
  | [], h => by obtain ⟨_, m, _⟩ := h; cases m
  | x :: l, h => by
    unfold findL
    split
    · simp
    · rename_i hn
      obtain ⟨lv, m, e, me, ht, hi⟩ := h
      rcases List.mem_cons.1 m with rfl | m
      · rw [List.find?_eq_none] at hn
        have := hn e.o (List.mem_map_of_mem me)
        simp [ht, hi] at this
      · have := findL_has (l := l) ⟨lv, m, e, me, ht, hi⟩
        split
        · simp
        · rename_i h9; exact absurd h9 this
theorem bfind_has {t i : Int} {B : Bk} (h : findL t i B.buys ≠ none ∨ findL t i B.sells ≠ none) : (bfind t i B).2 = true := by
  unfold bfind findB
  cases h1 : findL t i B.buys with
  | some x => rfl
  | none =>
    cases h2 : findL t i B.sells with
    | some x => rfl
    | none => rcases h with h | h <;> contradiction
/-- An order that rests is there. -/
theorem rests_there {o : Ord} {B : Bk} (hr : rightP o) (h : (badd o B).1.rests = true) : (bfind o.trader o.id (badd o B).2).2 = true := by
  have hs1 : 1 ≤ o.side ∧ o.side ≤ 2 := ⟨hr.2.2.2.2.2.2.1, hr.2.2.2.2.2.2.2.1⟩
  by_cases h0 : brefused o B = 0
  · unfold badd at h ⊢
    rw [if_neg (by simpa using h0)] at h ⊢
    dsimp only at h ⊢
    rw [if_pos h]
    generalize matchL o (B.side (3 - o.side)) B.last B.no = m at *
    rcases (by omega : o.side = 1 ∨ o.side = 2) with hs | hs
    all_goals
      rw [hs]
      apply bfind_has
    · refine .inl (findL_has ?_)
      obtain ⟨lv, a, e, b, c⟩ := restL_has (wqs o m.qty (min o.show_ m.qty)) (((B.put (3 - 1) m.lvs).tell m.last m.no).side 1)
      exact ⟨lv, a, e, b, by rw [c]; exact ⟨rfl, rfl⟩⟩
    · refine .inr (findL_has ?_)
      obtain ⟨lv, a, e, b, c⟩ := restL_has (wqs o m.qty (min o.show_ m.qty)) (((B.put (3 - 2) m.lvs).tell m.last m.no).side 2)
      exact ⟨lv, a, e, b, by rw [c]; exact ⟨rfl, rfl⟩⟩
  · have e : (badd o B).1 = ⟨o, [], o.qty, false, false, false, brefused o B⟩ := by unfold badd; rw [if_pos h0]
    rw [e] at h; cases h
end Go.Proofs.Ytiilndlgfgikbaa

set_option autoImplicit false
set_option linter.unusedSectionVars false
set_option linter.unusedSimpArgs false
set_option linter.unusedVariables false
set_option maxRecDepth 4000
namespace Go.Proofs.Ytiilndlgfgikbaa
open Go Go.SL Go.Proofs
/-- One price a level, the best first. -/
def SrtP (s : Int) (ps : List Int) : Prop := ps.Pairwise (fun a b => better s a b = true)
def Srt (s : Int) (l : List Lv) : Prop := SrtP s (l.map (·.p))
/-- All that stands there is of this side, and at its level's price. -/
def AtS (s : Int) (l : List Lv) : Prop := ∀ lv ∈ l, ∀ e ∈ lv.es, e.o.side = s ∧ e.o.price = lv.p
def SubL (l' l : List Lv) : Prop := ∀ lv' ∈ l', ∃ lv ∈ l, lv'.p = lv.p ∧ ∀ e' ∈ lv'.es, ∃ e ∈ lv.es, ∃ n, e'.o = wq e.o n
def sumL : List Lv → Int
  | [] => 0
  | lv :: r => sumE (fun x => x.o.qty) lv.es + sumL r
def sumF : List Fl → Int
  | [] => 0
  | f :: r => f.qty + sumF r
def lastP : List Fl → Int → Int
  | [], d => d
  | f :: r, _ => lastP r f.price
def FlsOk (firm oth : Int) : Int → Int → List Fl → Prop
  | _, _, [] => True
  | no, q, f :: r => 1 ≤ f.qty ∧ f.maker.firm ≠ firm ∧ f.maker.side = oth ∧ f.no = no + 1 ∧ f.price = f.maker.price ∧ f.taker.qty = q ∧ FlsOk firm oth (no + 1) (q - f.qty) r
theorem better_self (s p : Int) : better s p p = false := by unfold better; split <;> simp
theorem better_not {s a b : Int} (h : better s a b = true) : better s b a = false := by
  unfold better at h ⊢; split at h <;> simp_all <;> omega
theorem better_tot {s a b : Int} (h : better s a b = false) (hn : a ≠ b) : better s b a = true := by
  unfold better at h ⊢; split at h <;> simp_all <;> omega
theorem better_trans {s a b c : Int} (h : better s a b = true) (h2 : better s b c = true) : better s a c = true := by
  unfold better at h h2 ⊢; split at h <;> simp_all <;> omega
theorem better_no {s a b c : Int} (h : better s b a = false) (h2 : better s c b = false) : better s c a = false := by
  unfold better at h h2 ⊢; split at h <;> simp_all <;> omega
theorem sumF_append (l m : List Fl) : sumF (l ++ m) = sumF l + sumF m := by
  induction l with
  | nil => simp [sumF]
  | cons x l ih => simp only [List.cons_append, sumF, ih]; omega
theorem sumL_append (l m : List Lv) : sumL (l ++ m) = sumL l + sumL m := by
  induction l with
  | nil => simp [sumL]
  | cons x l ih => simp only [List.cons_append, sumL, ih]; omega
theorem lastP_append (l m : List Fl) (d : Int) : lastP (l ++ m) d = lastP m (lastP l d) := by
  induction l generalizing d with
  | nil => rfl
  | cons x l ih => simp only [List.cons_append, lastP, ih]
theorem lastP_get {l : List Fl} {d : Int} {f : Fl} (h : l[l.length - 1]? = some f) : lastP l d = f.price := by
  induction l generalizing d with
  | nil => simp at h
  | cons x l ih =>
    cases l with
    | nil => simp at h; subst h; rfl
    | cons y l => exact ih (d := x.price) (by simpa using h)
theorem flsOk_append {firm oth : Int} : ∀ (l m : List Fl) (no q : Int), FlsOk firm oth no q (l ++ m) ↔ FlsOk firm oth no q l ∧ FlsOk firm oth (no + l.length) (q - sumF l) m
  | [], m, no, q => by simp [FlsOk, sumF]
  | f :: l, m, no, q => by
    have ih := flsOk_append (firm := firm) (oth := oth) l m (no + 1) (q - f.qty)
    have e1 : no + 1 + (l.length : Int) = no + ((f :: l).length : Nat) := by rw [List.length_cons]; push_cast; omega
    have e2 : q - f.qty - sumF l = q - sumF (f :: l) := by simp only [sumF]; omega
    rw [e1, e2] at ih
    simp only [List.cons_append, FlsOk, ih]
    constructor
    · rintro ⟨a, b, c, d, e, f, g, h⟩; exact ⟨⟨a, b, c, d, e, f, g⟩, h⟩
    · rintro ⟨⟨a, b, c, d, e, f, g⟩, h⟩; exact ⟨a, b, c, d, e, f, g, h⟩
theorem flls_mem {o : Ord} {p no : Int} {l : List (Ord × Int)} {f : Fl} (h : f ∈ flls o p no l) : f.price = p ∧ ∃ x ∈ l, f.maker = x.1 ∧ f.qty = x.2 := by
  induction l generalizing o no with
  | nil => cases h
  | cons a r ih =>
    rcases List.mem_cons.1 h with rfl | h
    · exact ⟨rfl, a, List.mem_cons_self .., rfl, rfl⟩
    · obtain ⟨h1, x, hx, h2⟩ := ih h
      exact ⟨h1, x, List.mem_cons_of_mem _ hx, h2⟩
theorem flls_sum (o : Ord) (p no : Int) (l : List (Ord × Int)) : sumF (flls o p no l) = sumH l := by
  induction l generalizing o no with
  | nil => rfl
  | cons a r ih => simp only [flls, sumF, sumH, ih]
theorem flls_last (o : Ord) (p no d : Int) (l : List (Ord × Int)) : lastP (flls o p no l) d = if l = [] then d else p := by
  induction l generalizing o no d with
  | nil => rfl
  | cons a r ih =>
    simp only [flls, lastP, ih]
    split <;> simp
theorem flls_ok {firm oth p : Int} : ∀ (l : List (Ord × Int)) (o : Ord) (no : Int), (∀ h ∈ l, 1 ≤ h.2 ∧ h.1.firm ≠ firm ∧ h.1.side = oth ∧ h.1.price = p) → FlsOk firm oth no o.qty (flls o p no l)
  | [], _, _, _ => trivial
  | a :: r, o, no, h => by
    obtain ⟨h1, h2, h3, h4⟩ := h a (List.mem_cons_self ..)
    exact ⟨h1, h2, h3, rfl, h4.symm, rfl, flls_ok r (wq o (o.qty - a.2)) (no + 1) fun x m => h x (List.mem_cons_of_mem _ m)⟩
theorem crosses_wq (o : Ord) (q p : Int) : crosses (wq o q) p = crosses o p := rfl
variable [Base]
theorem giveE_sub {e : Ent} {l : List Ent} {n : Int} {x : Ent} (h : x ∈ giveE e l n) : ∃ y ∈ e :: l, ∃ m, x.o = wq y.o m := by
  unfold giveE at h
  split at h
  · rcases List.mem_cons.1 h with rfl | h
    · exact ⟨e, List.mem_cons_self .., _, rfl⟩
    · exact ⟨x, List.mem_cons_of_mem _ h, x.o.qty, rfl⟩
  · split at h
    · rcases List.mem_append.1 h with h | h
      · exact ⟨x, List.mem_cons_of_mem _ h, x.o.qty, rfl⟩
      · simp only [List.mem_singleton] at h
        subst h
        exact ⟨e, List.mem_cons_self .., _, rfl⟩
    · exact ⟨x, List.mem_cons_of_mem _ h, x.o.qty, rfl⟩
theorem take_sub {firm : Int} (k : Nat) : ∀ (q : Int) (es : List Ent), q.toNat ≤ k → LB es → (∀ h ∈ (take firm q es).1, ∃ e ∈ es, ∃ n, h.1 = wq e.o n) ∧ (∀ e' ∈ (take firm q es).2.2, ∃ e ∈ es, ∃ n, e'.o = wq e.o n) := by
  induction k with
  | zero =>
    intro q es hq hb
    rw [take_le (by omega)]
    exact ⟨(fun _ m => nomatch m), fun x m => ⟨x, m, x.o.qty, rfl⟩⟩
  | succ k ih =>
    intro q es hq hb
    by_cases h : 0 < q
    · cases es with
      | nil => rw [take_nil]; exact ⟨(fun _ m => nomatch m), fun _ m => nomatch m⟩
      | cons e l =>
        by_cases hf : e.o.firm = firm
        · rw [take_own h hf]; exact ⟨(fun _ m => nomatch m), fun x m => ⟨x, m, x.o.qty, rfl⟩⟩
        · have he := hb.2 e (by simp)
          rw [take_cons h hf he.2.2.1]
          have hg := giveE_LB (n := min q e.seen) hb (by omega) (by omega)
          obtain ⟨i1, i2⟩ := ih (q - min q e.seen) (giveE e l (min q e.seen)) (by omega) hg.1
          refine ⟨fun x m => ?_, fun x m => ?_⟩
          · rcases List.mem_cons.1 m with rfl | m
            · exact ⟨e, List.mem_cons_self .., e.o.qty, rfl⟩
            · obtain ⟨y, hy, n, e1⟩ := i1 x m
              obtain ⟨z, hz, n2, e2⟩ := giveE_sub hy
              exact ⟨z, hz, n, by rw [e1, e2]; rfl⟩
          · obtain ⟨y, hy, n, e1⟩ := i2 x m
            obtain ⟨z, hz, n2, e2⟩ := giveE_sub hy
            exact ⟨z, hz, n, by rw [e1, e2]; rfl⟩
    · rw [take_le (by omega)]
      exact ⟨(fun _ m => nomatch m), fun x m => ⟨x, m, x.o.qty, rfl⟩⟩
/-- What a match leaves, and tells. -/
structure MSub (o : Ord) (l : List Lv) (last : Int) (m : MR) : Prop where
  ps : ∃ k, m.lvs.map (·.p) = (l.map (·.p)).drop k
  sub : SubL m.lvs l
  fs : ∀ f ∈ m.fs, ∃ lv ∈ l, f.price = lv.p ∧ crosses o lv.p = true ∧ ∃ e ∈ lv.es, ∃ n, f.maker = wq e.o n
  stop : 0 < m.qty → m.self = false → meets o m.lvs = false
  sum : sumL l = sumF m.fs + sumL m.lvs
  qty : m.qty = o.qty - sumF m.fs
  last : m.last = lastP m.fs last
  best : ∀ s, Srt s l → m.fs.Pairwise (fun a b => better s b.price a.price = false) ∧ ∀ f ∈ m.fs, ∀ lv ∈ m.lvs, better s lv.p f.price = false
theorem match_sub : ∀ (l : List Lv) (o : Ord) (last no : Int), (∀ lv ∈ l, lv.Ok) → 0 ≤ o.qty → MSub o l last (matchL o l last no)
  | [], o, last, no, _, hq => ⟨⟨0, rfl⟩, (fun _ m => nomatch m), (fun _ m => nomatch m), (fun _ _ => rfl), rfl, by simp [matchL, sumF], rfl, fun s _ => ⟨.nil, fun _ m => nomatch m⟩⟩
  | lv :: r, o, last, no, hok, hq => by
    have hl := hok lv (by simp)
    have hr : ∀ lv ∈ r, lv.Ok := fun x m => hok x (List.mem_cons_of_mem _ m)
    unfold matchL
    split
    · rename_i hc
      have t := take_is (firm := o.firm) o.qty.toNat o.qty lv.es (Nat.le_refl _) hq hl.1
      have ts := take_sub (firm := o.firm) o.qty.toNat o.qty lv.es (Nat.le_refl _) hl.1
      generalize take o.firm o.qty lv.es = T at *
      have hsum := flls_sum o lv.p no T.1
      have hlast := flls_last o lv.p no last T.1
      have hmem : ∀ f ∈ flls o lv.p no T.1, f.price = lv.p ∧ ∃ e ∈ lv.es, ∃ n, f.maker = wq e.o n := by
        intro f m
        obtain ⟨h1, x, hx, h2, -⟩ := flls_mem m
        obtain ⟨e, he, n, h3⟩ := ts.1 x hx
        exact ⟨h1, e, he, n, by rw [h2, h3]⟩
      have hpw : ∀ s, (flls o lv.p no T.1).Pairwise (fun a b => better s b.price a.price = false) := fun s => List.Pairwise.imp_of_mem (R := fun _ _ => True) (fun {a b} ha hb _ => by rw [(hmem a ha).1, (hmem b hb).1]; exact better_self _ _) (List.pairwise_of_forall fun _ _ => trivial)
      have hhd : ∀ s, Srt s (lv :: r) → ∀ x ∈ r, better s x.p lv.p = false := fun s hs x m => better_not ((List.pairwise_cons.1 hs).1 x.p (List.mem_map_of_mem m))
      have hfs : ∀ f ∈ flls o lv.p no T.1, ∃ lv1 ∈ lv :: r, f.price = lv1.p ∧ crosses o lv1.p = true ∧ ∃ e ∈ lv1.es, ∃ n, f.maker = wq e.o n := by
        intro f m
        obtain ⟨h1, h2⟩ := hmem f m
        exact ⟨lv, List.mem_cons_self .., h1, hc.2, h2⟩
      have hsub : SubL (⟨lv.p, T.2.2⟩ :: r) (lv :: r) := by
        intro x m
        rcases List.mem_cons.1 m with rfl | m
        · exact ⟨lv, List.mem_cons_self .., rfl, ts.2⟩
        · exact ⟨x, List.mem_cons_of_mem _ m, rfl, fun e me => ⟨e, me, e.o.qty, rfl⟩⟩
      have hsub2 : SubL r (lv :: r) := fun x m => hsub x (List.mem_cons_of_mem _ m)
      have hbst : ∀ s, Srt s (lv :: r) → ∀ f ∈ flls o lv.p no T.1, ∀ x ∈ (⟨lv.p, T.2.2⟩ :: r : List Lv), better s x.p f.price = false := by
        intro s hs f mf x mx
        rw [(hmem f mf).1]
        rcases List.mem_cons.1 mx with rfl | mx
        · exact better_self _ _
        · exact hhd s hs x mx
      split
      · split
        · rename_i he
          refine ⟨⟨1, rfl⟩, hsub2, hfs, (fun _ h => by cases h), ?_, by rw [hsum], hlast.symm, fun s hs => ⟨hpw s, fun f mf x mx => hbst s hs f mf x (List.mem_cons_of_mem _ mx)⟩⟩
          have := t.sum
          rw [he] at this
          simp only [sumL, sumE, hsum] at this ⊢; omega
        · refine ⟨⟨0, rfl⟩, hsub, hfs, (fun _ h => by cases h), ?_, by rw [hsum], hlast.symm, fun s hs => ⟨hpw s, hbst s hs⟩⟩
          have := t.sum
          simp only [sumL, hsum] at this ⊢; omega
      · rename_i hself
        split
        · rename_i he
          have ih := match_sub r (wq o (o.qty - sumH T.1)) (if T.1 = [] then last else lv.p) (no + T.1.length) hr (by have := t.le; show 0 ≤ o.qty - _; omega)
          have hwq : (wq o (o.qty - sumH T.1)).qty = o.qty - sumH T.1 := rfl
          generalize matchL (wq o (o.qty - sumH T.1)) r (if T.1 = [] then last else lv.p) (no + T.1.length) = M at *
          obtain ⟨⟨k, i1⟩, i2, i3, i4, i5, i6, i7, i8⟩ := ih
          refine ⟨⟨k + 1, by simpa [MR.pre] using i1⟩, ?_, ?_, i4, ?_, ?_, ?_, ?_⟩
          · intro x m
            obtain ⟨y, hy, h⟩ := i2 x m
            exact ⟨y, List.mem_cons_of_mem _ hy, h⟩
          · intro f m
            rcases List.mem_append.1 m with m | m
            · exact hfs f m
            · obtain ⟨y, hy, h⟩ := i3 f m
              exact ⟨y, List.mem_cons_of_mem _ hy, h⟩
          · have := t.sum
            rw [he] at this
            show _ = sumF (_ ++ _) + sumL M.lvs
            rw [sumF_append, hsum]
            simp only [sumL, sumE] at this ⊢; omega
          · show M.qty = o.qty - sumF (_ ++ _)
            rw [sumF_append, hsum]; omega
          · show M.last = lastP (_ ++ _) last
            rw [lastP_append, hlast]; exact i7
          · intro s hs
            obtain ⟨j1, j2⟩ := i8 s (List.pairwise_cons.1 hs).2
            refine ⟨List.pairwise_append.2 ⟨hpw s, j1, ?_⟩, ?_⟩
            · intro a ha b hb
              obtain ⟨y, hy, h1, -⟩ := i3 b hb
              rw [(hmem a ha).1, h1]; exact hhd s hs y hy
            · intro f mf x mx
              rcases List.mem_append.1 mf with mf | mf
              · obtain ⟨y, hy, h1, -⟩ := i2 x mx
                rw [(hmem f mf).1, h1]; exact hhd s hs y hy
              · exact j2 f mf x mx
        · rename_i he
          refine ⟨⟨0, rfl⟩, hsub, hfs, ?_, ?_, by rw [hsum], hlast.symm, fun s hs => ⟨hpw s, hbst s hs⟩⟩
          · intro h1 _
            have h1 : 0 < o.qty - sumH T.1 := h1
            have := (t.all (by simpa using hself)).resolve_right he
            omega
          · have := t.sum
            simp only [sumL, hsum] at this ⊢; omega
    · rename_i hc
      refine ⟨⟨0, rfl⟩, (fun x m => ⟨x, m, rfl, fun e me => ⟨e, me, e.o.qty, rfl⟩⟩), (fun _ m => nomatch m), ?_, by simp [sumF], by simp [sumF], rfl, fun s _ => ⟨.nil, fun _ m => nomatch m⟩⟩
      intro h _
      have h : 0 < o.qty := h
      show crosses o lv.p = false
      cases hx : crosses o lv.p with
      | false => rfl
      | true => exact absurd ⟨h, hx⟩ hc
/-- A match's trades, in order. -/
theorem match_fls {oth : Int} : ∀ (l : List Lv) (o : Ord) (last no : Int), (∀ lv ∈ l, lv.Ok) → AtS oth l → 0 ≤ o.qty → FlsOk o.firm oth no o.qty (matchL o l last no).fs
  | [], o, last, no, _, _, hq => trivial
  | lv :: r, o, last, no, hok, hat, hq => by
    have hl := hok lv (by simp)
    have hr : ∀ lv ∈ r, lv.Ok := fun x m => hok x (List.mem_cons_of_mem _ m)
    unfold matchL
    split
    · rename_i hc
      have t := take_is (firm := o.firm) o.qty.toNat o.qty lv.es (Nat.le_refl _) hq hl.1
      have ts := take_sub (firm := o.firm) o.qty.toNat o.qty lv.es (Nat.le_refl _) hl.1
      generalize take o.firm o.qty lv.es = T at *
      have hf : FlsOk o.firm oth no o.qty (flls o lv.p no T.1) := by
        refine flls_ok T.1 o no fun h m => ?_
        have h1 := t.hits h m
        obtain ⟨e, he, n, h2⟩ := ts.1 h m
        have h3 := hat lv (by simp) e he
        exact ⟨h1.1, h1.2.2, by rw [h2]; exact h3.1, by rw [h2]; exact h3.2⟩
      split
      · exact hf
      · split
        · have ih := match_fls (oth := oth) r (wq o (o.qty - sumH T.1)) (if T.1 = [] then last else lv.p) (no + T.1.length) hr (fun x m => hat x (List.mem_cons_of_mem _ m)) (by have := t.le; show 0 ≤ o.qty - _; omega)
          refine (flsOk_append _ _ _ _).2 ⟨hf, ?_⟩
          rw [flls_len, flls_sum]; exact ih
        · exact hf
    · trivial
end Go.Proofs.Ytiilndlgfgikbaa

set_option autoImplicit false
set_option linter.unusedSectionVars false
set_option linter.unusedSimpArgs false
set_option linter.unusedVariables false
set_option maxRecDepth 4000
namespace Go.Proofs.Ytiilndlgfgikbaa
open Go Go.SL Go.Proofs
variable [Base]
theorem restK_spec (o : Ord) (l : List Lv) : (∀ lv ∈ l.take (restK o l), better o.side lv.p o.price = true) ∧ ∀ lv, l[restK o l]? = some lv → better o.side lv.p o.price = false := by
  unfold restK
  cases h : l.findIdx? fun lv => !better o.side lv.p o.price with
  | none =>
    rw [List.findIdx?_eq_none_iff] at h
    refine ⟨fun lv m => ?_, fun lv hl => ?_⟩
    · have := h lv (List.mem_of_mem_take m)
      simpa using this
    · simp at hl
  | some k =>
    rw [List.findIdx?_eq_some_iff_getElem] at h
    obtain ⟨hk, h1, h2⟩ := h
    refine ⟨fun lv m => ?_, fun lv hl => ?_⟩
    · obtain ⟨j, hj, e⟩ := List.mem_take_iff_getElem.1 m
      have := h2 j (by simp only [Option.getD_some] at hj; omega)
      rw [e] at this
      simpa using this
    · simp only [Option.getD_some] at hl
      rw [(List.getElem?_eq_some_iff.1 hl).2] at h1
      simpa using h1
/-- Where an order comes to rest. -/
theorem restL_form (o : Ord) (l : List Lv) : ∃ a b, (∀ lv ∈ a, better o.side lv.p o.price = true) ∧
    ((∃ lv, lv.p = o.price ∧ l = a ++ lv :: b ∧ restL o l = a ++ ⟨lv.p, lv.es ++ [⟨o, tip o⟩]⟩ :: b) ∨
    (l = a ++ b ∧ restL o l = a ++ ⟨o.price, [⟨o, tip o⟩]⟩ :: b ∧ ∀ lv, b.head? = some lv → better o.side o.price lv.p = true)) := by
  have hk := restK_le o l
  obtain ⟨s1, s2⟩ := restK_spec o l
  obtain ⟨lv, h0, h1, h2⟩ := restP_get o l
  have hr : restL o l = (restP o l).set (restK o l) ⟨lv.p, lv.es ++ [⟨o, tip o⟩]⟩ := by unfold restL; rw [h0]
  cases hi : restI o l with
  | false =>
    have e : restP o l = l := by unfold restP; rw [if_neg (by rw [hi]; simp)]
    have hl := h1 hi
    refine ⟨l.take (restK o l), l.drop (restK o l + 1), s1, .inl ⟨lv, ?_, split_at hl, ?_⟩⟩
    · unfold restI at hi
      rw [hl] at hi
      simpa using hi
    · rw [hr, e, List.set_eq_take_append_cons_drop, if_pos (List.getElem?_eq_some_iff.1 hl).1]
  | true =>
    have e : restP o l = l.take (restK o l) ++ ⟨o.price, []⟩ :: l.drop (restK o l) := by unfold restP; rw [if_pos hi]
    refine ⟨l.take (restK o l), l.drop (restK o l), s1, .inr ⟨(List.take_append_drop ..).symm, ?_, ?_⟩⟩
    · rw [hr, e, h2 hi, List.set_append_right _ _ (by rw [List.length_take]; omega), List.length_take, Nat.min_eq_left hk, Nat.sub_self]; rfl
    · intro x hx
      rw [List.head?_drop] at hx
      refine better_tot (s2 x hx) ?_
      unfold restI at hi
      rw [hx] at hi
      simpa using hi
theorem restL_sum (o : Ord) (l : List Lv) : sumL (restL o l) = sumL l + o.qty := by
  obtain ⟨a, b, -, h⟩ := restL_form o l
  rcases h with ⟨lv, -, e1, e2⟩ | ⟨e1, e2, -⟩
  · rw [e2]; conv => rhs; rw [e1]
    simp only [sumL_append, sumL, sumE_append, sumE]; omega
  · rw [e2]; conv => rhs; rw [e1]
    simp only [sumL_append, sumL, sumE]; omega
theorem srt_rest {o : Ord} {l : List Lv} (h : Srt o.side l) : Srt o.side (restL o l) := by
  obtain ⟨a, b, ha, h1⟩ := restL_form o l
  rcases h1 with ⟨lv, -, e1, e2⟩ | ⟨e1, e2, hb⟩
  · have e : (restL o l).map (·.p) = l.map (·.p) := by
      rw [e2]; conv => rhs; rw [e1]
      simp
    unfold Srt at h ⊢
    rw [e]; exact h
  · unfold Srt at h ⊢
    rw [e2]
    rw [e1] at h
    rw [List.map_append] at h ⊢
    obtain ⟨p1, p2, p3⟩ := List.pairwise_append.1 h
    have hb2 : ∀ p ∈ b.map (·.p), better o.side o.price p = true := by
      intro p m
      cases b with
      | nil => cases m
      | cons x b =>
        have hx := hb x rfl
        rw [List.map_cons] at m p2
        rcases List.mem_cons.1 m with rfl | m
        · exact hx
        · exact better_trans hx ((List.pairwise_cons.1 p2).1 p m)
    refine List.pairwise_append.2 ⟨p1, List.pairwise_cons.2 ⟨hb2, p2⟩, fun x mx y my => ?_⟩
    rw [List.map_cons] at my
    rcases List.mem_cons.1 my with rfl | my
    · obtain ⟨lv, m, rfl⟩ := List.mem_map.1 mx
      exact ha lv m
    · exact p3 x mx y my
theorem rest_mem {o : Ord} {l : List Lv} {lv : Lv} (h : lv ∈ restL o l) : (lv.p = o.price ∨ ∃ x ∈ l, lv.p = x.p) ∧ ∀ e ∈ lv.es, (e.o = o ∧ lv.p = o.price) ∨ ∃ x ∈ l, lv.p = x.p ∧ e ∈ x.es := by
  obtain ⟨a, b, -, h1⟩ := restL_form o l
  rcases h1 with ⟨x, hx, e1, e2⟩ | ⟨e1, e2, -⟩
  · rw [e2] at h
    have old : ∀ y, y ∈ a ∨ y ∈ b → (y.p = o.price ∨ ∃ x ∈ l, y.p = x.p) ∧ ∀ e ∈ y.es, (e.o = o ∧ y.p = o.price) ∨ ∃ x ∈ l, y.p = x.p ∧ e ∈ x.es := by
      intro y hy
      have : y ∈ l := by rw [e1]; rcases hy with h | h <;> simp [h]
      exact ⟨.inr ⟨y, this, rfl⟩, fun e me => .inr ⟨y, this, rfl, me⟩⟩
    rcases List.mem_append.1 h with h | h
    · exact old lv (.inl h)
    · rcases List.mem_cons.1 h with rfl | h
      · have hm : x ∈ l := by rw [e1]; simp
        refine ⟨.inl hx, fun e me => ?_⟩
        rcases List.mem_append.1 me with me | me
        · exact .inr ⟨x, hm, rfl, me⟩
        · simp only [List.mem_singleton] at me
          subst me; exact .inl ⟨rfl, hx⟩
      · exact old lv (.inr h)
  · rw [e2] at h
    have old : ∀ y, y ∈ a ∨ y ∈ b → (y.p = o.price ∨ ∃ x ∈ l, y.p = x.p) ∧ ∀ e ∈ y.es, (e.o = o ∧ y.p = o.price) ∨ ∃ x ∈ l, y.p = x.p ∧ e ∈ x.es := by
      intro y hy
      have : y ∈ l := by rw [e1]; rcases hy with h | h <;> simp [h]
      exact ⟨.inr ⟨y, this, rfl⟩, fun e me => .inr ⟨y, this, rfl, me⟩⟩
    rcases List.mem_append.1 h with h | h
    · exact old lv (.inl h)
    · rcases List.mem_cons.1 h with rfl | h
      · refine ⟨.inl rfl, fun e me => ?_⟩
        simp only [List.mem_singleton] at me
        subst me; exact .inl ⟨rfl, rfl⟩
      · exact old lv (.inr h)
/-- One side of a book and the other: sorted, at their prices, apart. -/
structure SdOk (s : Int) (mine theirs : List Lv) : Prop where
  s1 : Srt s mine
  a1 : AtS s mine
  s2 : Srt (3 - s) theirs
  a2 : AtS (3 - s) theirs
  ap : ∀ x ∈ mine, ∀ y ∈ theirs, better s y.p x.p = true
theorem SdOk.swap {s : Int} {a b : List Lv} (hs : s = 1 ∨ s = 2) (h : SdOk s a b) : SdOk (3 - s) b a := by
  refine ⟨h.s2, h.a2, by rw [show 3 - (3 - s) = s by omega]; exact h.s1, by rw [show 3 - (3 - s) = s by omega]; exact h.a1, fun x mx y my => ?_⟩
  have := h.ap y my x mx
  unfold better at this ⊢
  rcases hs with rfl | rfl <;> simp_all
theorem srt_drop {s : Int} {l m : List Lv} (h : Srt s l) {k : Nat} (e : m.map (·.p) = (l.map (·.p)).drop k) : Srt s m := by
  unfold Srt SrtP at h ⊢
  rw [e]; exact h.sublist (List.drop_sublist ..)
theorem at_sub {s : Int} {l m : List Lv} (h : AtS s l) (e : SubL m l) : AtS s m := by
  intro x mx y my
  obtain ⟨z, mz, e1, e2⟩ := e x mx
  obtain ⟨w, mw, n, e3⟩ := e2 y my
  have := h z mz w mw
  rw [e3, e1]; exact this
theorem crosses_better {o : Ord} {p : Int} (hk : o.kind ≠ 2) (hs : o.side = 1 ∨ o.side = 2) : crosses o p = !better o.side p o.price := by
  unfold crosses better
  rw [if_neg hk]
  rcases hs with h | h <;> simp [h] <;> rw [Bool.eq_iff_iff] <;> simp
theorem rests_kind {o : Ord} (h : rests o = true) : o.kind = 1 ∨ o.kind = 5 := by
  unfold rests at h; simpa using h
theorem apart_of {o : Ord} {l : List Lv} (hk : o.kind ≠ 2) (hs : o.side = 1 ∨ o.side = 2) (h : Srt (3 - o.side) l) (hm : meets o l = false) : ∀ y ∈ l, better o.side y.p o.price = true := by
  cases l with
  | nil => intro y m; cases m
  | cons x l =>
    have hx : crosses o x.p = false := hm
    rw [crosses_better hk hs] at hx
    have hx : better o.side x.p o.price = true := by simpa using hx
    intro y m
    rcases List.mem_cons.1 m with rfl | m
    · exact hx
    · have := (List.pairwise_cons.1 h).1 y.p (List.mem_map_of_mem m)
      unfold better at this hx ⊢
      rcases hs with h | h <;> simp_all <;> omega
theorem sdOk_match {s : Int} {a b c : List Lv} (h : SdOk s a b) {k : Nat} (e1 : c.map (·.p) = (b.map (·.p)).drop k) (e2 : SubL c b) : SdOk s a c := by
  refine ⟨h.s1, h.a1, srt_drop h.s2 e1, at_sub h.a2 e2, fun x mx y my => ?_⟩
  obtain ⟨z, mz, e, -⟩ := e2 y my
  rw [e]; exact h.ap x mx z mz
theorem sdOk_rest {o : Ord} {a b : List Lv} (h : SdOk o.side a b) (ha : ∀ y ∈ b, better o.side y.p o.price = true) : SdOk o.side (restL o a) b := by
  refine ⟨srt_rest h.s1, fun x mx e me => ?_, h.s2, h.a2, fun x mx y my => ?_⟩
  · rcases (rest_mem mx).2 e me with ⟨rfl, h2⟩ | ⟨z, mz, e1, e2⟩
    · exact ⟨rfl, h2.symm⟩
    · rw [e1]; exact h.a1 z mz e e2
  · rcases (rest_mem mx).1 with e | ⟨z, mz, e⟩
    · rw [e]; exact ha y my
    · rw [e]; exact h.ap z mz y my
/-- A book as it ought to be. -/
def Gd (B : Bk) : Prop := SdOk 1 B.buys B.sells
theorem Gd.side {B : Bk} (h : Gd B) {s : Int} (hs : s = 1 ∨ s = 2) : SdOk s (B.side s) (B.side (3 - s)) := by
  rcases hs with rfl | rfl
  · exact h
  · exact SdOk.swap (.inl rfl) h
theorem Gd.of {B : Bk} {s : Int} (hs : s = 1 ∨ s = 2) (h : SdOk s (B.side s) (B.side (3 - s))) : Gd B := by
  rcases hs with rfl | rfl
  · exact h
  · exact SdOk.swap (.inr rfl) h
theorem empty_Gd : Gd empty := ⟨.nil, (fun _ m => nomatch m), .nil, (fun _ m => nomatch m), fun _ m => nomatch m⟩
theorem put_side {B : Bk} {s : Int} (hs : s = 1 ∨ s = 2) (l : List Lv) : (B.put s l).side s = l := by
  rcases hs with rfl | rfl <;> rfl
theorem put_other {B : Bk} {s : Int} (hs : s = 1 ∨ s = 2) (l : List Lv) : (B.put s l).side (3 - s) = B.side (3 - s) := by
  rcases hs with rfl | rfl <;> rfl
theorem put_tell_side {B : Bk} {s : Int} (l : List Lv) (x y : Int) : (B.tell x y).side s = B.side s := rfl
/-- What an order that is taken does to the two sides. -/
structure AddIs (o : Ord) (B : Bk) (m : MR) : Prop where
  out : (badd o B).1 = ⟨o, m.fs, m.qty, decide (0 < m.qty) && !m.self && rests o, false, m.self, 0⟩
  theirs : (badd o B).2.side (3 - o.side) = m.lvs
  mine : (badd o B).2.side o.side = if (decide (0 < m.qty) && !m.self && rests o) = true then restL (wqs o m.qty (min o.show_ m.qty)) (B.side o.side) else B.side o.side
  last : (badd o B).2.last = m.last
  no : (badd o B).2.no = m.no
theorem add_is {o : Ord} {B : Bk} (hs : o.side = 1 ∨ o.side = 2) (h0 : brefused o B = 0) : AddIs o B (matchL o (B.side (3 - o.side)) B.last B.no) := by
  have e : badd o B = (⟨o, (matchL o (B.side (3 - o.side)) B.last B.no).fs, (matchL o (B.side (3 - o.side)) B.last B.no).qty, decide (0 < (matchL o (B.side (3 - o.side)) B.last B.no).qty) && !(matchL o (B.side (3 - o.side)) B.last B.no).self && rests o, false, (matchL o (B.side (3 - o.side)) B.last B.no).self, 0⟩,
      if (decide (0 < (matchL o (B.side (3 - o.side)) B.last B.no).qty) && !(matchL o (B.side (3 - o.side)) B.last B.no).self && rests o) = true then ((B.put (3 - o.side) (matchL o (B.side (3 - o.side)) B.last B.no).lvs).tell (matchL o (B.side (3 - o.side)) B.last B.no).last (matchL o (B.side (3 - o.side)) B.last B.no).no).put o.side (restL (wqs o (matchL o (B.side (3 - o.side)) B.last B.no).qty (min o.show_ (matchL o (B.side (3 - o.side)) B.last B.no).qty)) (((B.put (3 - o.side) (matchL o (B.side (3 - o.side)) B.last B.no).lvs).tell (matchL o (B.side (3 - o.side)) B.last B.no).last (matchL o (B.side (3 - o.side)) B.last B.no).no).side o.side))
      else (B.put (3 - o.side) (matchL o (B.side (3 - o.side)) B.last B.no).lvs).tell (matchL o (B.side (3 - o.side)) B.last B.no).last (matchL o (B.side (3 - o.side)) B.last B.no).no) := by
    unfold badd
    rw [if_neg (by rw [h0]; simp)]
  rw [show matchL o (B.side (3 - o.side)) B.last B.no = matchL o (B.side (3 - o.side)) B.last B.no from rfl] at e
  generalize matchL o (B.side (3 - o.side)) B.last B.no = m at *
  generalize hr : (decide (0 < m.qty) && !m.self && rests o) = r at *
  refine ⟨by rw [e, hr], ?_, ?_, ?_, ?_⟩
  all_goals rw [e]
  all_goals rcases hs with h | h <;> rw [h] <;> cases r <;> first | rfl | (rw [hr]; rfl)
theorem refused_is {o : Ord} {B : Bk} (h : brefused o B ≠ 0) : badd o B = (⟨o, [], o.qty, false, false, false, brefused o B⟩, B) := by
  unfold badd; rw [if_pos h]
theorem badd_Gd {o : Ord} {B : Bk} (hw : BW B) (hg : Gd B) (hr : rightP o) : Gd (badd o B).2 := by
  by_cases h0 : brefused o B = 0
  · have hs : o.side = 1 ∨ o.side = 2 := by unfold rightP at hr; omega
    have hq : 0 ≤ o.qty := by unfold rightP at hr; omega
    have M := match_sub (B.side (3 - o.side)) o B.last B.no (hw.side _).1 hq
    have A := add_is hs h0
    have S := hg.side hs
    generalize matchL o (B.side (3 - o.side)) B.last B.no = m at *
    obtain ⟨k, hk⟩ := M.ps
    have S2 := sdOk_match S hk M.sub
    refine Gd.of hs ?_
    rw [A.theirs, A.mine]
    split
    · rename_i hc
      simp only [Bool.and_eq_true, decide_eq_true_eq, Bool.not_eq_true'] at hc
      have hk2 : o.kind ≠ 2 := by have := rests_kind hc.2; omega
      have := apart_of (o := o) hk2 hs S2.s2 (M.stop hc.1.1 hc.1.2)
      exact sdOk_rest (o := wqs o m.qty (min o.show_ m.qty)) S2 this
    · exact S2
  · rw [refused_is h0]; exact hg
theorem bfill_Gd (rs : List (List Int)) (k : Nat) : Gd (bfill rs k) :=
  (bfill_ind (I := fun B => BW B ∧ 0 ≤ B.no ∧ Gd B) ⟨empty_BW, (by show (0 : Int) ≤ 0; decide), empty_Gd⟩ (fun r B h => ⟨(badd_BW h.1 h.2.1).1, by have := (badd_BW (o := kO r) h.1 h.2.1).2; omega, badd_Gd h.1 h.2.2 (kO_right r).1⟩) rs k).2.2
end Go.Proofs.Ytiilndlgfgikbaa

set_option autoImplicit false
set_option linter.unusedSectionVars false
set_option linter.unusedSimpArgs false
set_option linter.unusedVariables false
set_option maxRecDepth 4000
namespace Go.Proofs.Ytiilndlgfgikbaa
open Go Go.SL Go.Proofs
theorem orders_mem {l : List Lv} {x : Ord} : x ∈ ordersL l ↔ ∃ lv ∈ l, ∃ e ∈ lv.es, e.o = x := by
  induction l with
  | nil => simp [ordersL]
  | cons y l ih => simp [ordersL, ih]
theorem orders_price {s : Int} {l : List Lv} (h : AtS s l) {x : Ord} (hx : x ∈ ordersL l) : x.side = s ∧ ∃ lv ∈ l, x.price = lv.p := by
  obtain ⟨lv, m, e, me, rfl⟩ := orders_mem.1 hx
  exact ⟨(h lv m e me).1, lv, m, (h lv m e me).2⟩
theorem orders_sorted {s : Int} : ∀ {l : List Lv}, Srt s l → AtS s l → (ordersL l).Pairwise (fun a b => better s b.price a.price = false)
  | [], _, _ => .nil
  | lv :: r, h1, h2 => by
    have hp := List.pairwise_cons.1 h1
    have ha : AtS s r := fun x m => h2 x (List.mem_cons_of_mem _ m)
    refine List.pairwise_append.2 ⟨?_, orders_sorted hp.2 ha, fun x mx y my => ?_⟩
    · refine List.Pairwise.imp_of_mem (R := fun _ _ => True) (fun {x y} hx hy _ => ?_) (List.pairwise_of_forall fun _ _ => trivial)
      obtain ⟨e, me, rfl⟩ := List.mem_map.1 hx
      obtain ⟨f, mf, rfl⟩ := List.mem_map.1 hy
      rw [(h2 lv (List.mem_cons_self ..) e me).2, (h2 lv (List.mem_cons_self ..) f mf).2]; exact better_self _ _
    · obtain ⟨e, me, rfl⟩ := List.mem_map.1 mx
      obtain ⟨-, z, mz, hz⟩ := orders_price ha my
      rw [(h2 lv (List.mem_cons_self ..) e me).2, hz]
      exact better_not (hp.1 z.p (List.mem_map_of_mem mz))
theorem sorted_at {s : Int} {l : List Ord} (h : l.Pairwise (fun a b => better s b.price a.price = false)) {i j : Nat} {x y : Ord} (hx : l[i]? = some x) (hy : l[j]? = some y) (hij : i < j) : better s y.price x.price = false := by
  obtain ⟨hi, rfl⟩ := List.getElem?_eq_some_iff.1 hx
  obtain ⟨hj, rfl⟩ := List.getElem?_eq_some_iff.1 hy
  exact List.pairwise_iff_getElem.1 h i j hi hj hij
theorem gd_apart {B : Bk} (h : Gd B) {x y : Ord} (hx : x ∈ ordersL (B.side 1)) (hy : y ∈ ordersL (B.side 2)) : x.price < y.price := by
  obtain ⟨-, a, ma, ea⟩ := orders_price h.a1 hx
  obtain ⟨-, b, mb, eb⟩ := orders_price (s := 2) h.a2 hy
  have := h.ap a ma b mb
  rw [ea, eb]
  simpa [better] using this
def sumO : List Ord → Int
  | [] => 0
  | o :: r => o.qty + sumO r
theorem sumO_append (l m : List Ord) : sumO (l ++ m) = sumO l + sumO m := by
  induction l with
  | nil => simp [sumO]
  | cons x l ih => simp only [List.cons_append, sumO, ih]; omega
theorem sumO_orders (l : List Lv) : sumO (ordersL l) = sumL l := by
  induction l with
  | nil => rfl
  | cons x l ih =>
    simp only [ordersL, sumO_append, ih, sumL]
    congr 1
    induction x.es with
    | nil => rfl
    | cons e es ih => simp only [List.map_cons, sumO, sumE, ih]
theorem sumO_take {l : List Ord} {i : Nat} {x : Ord} (h : l[i]? = some x) : sumO (l.take (i + 1)) = sumO (l.take i) + x.qty := by
  have hi := (List.getElem?_eq_some_iff.1 h).1
  have hx := (List.getElem?_eq_some_iff.1 h).2
  rw [List.take_succ_eq_append_getElem hi, sumO_append, hx]; simp [sumO]
theorem orders_qty {l : List Lv} (h : ∀ lv ∈ l, lv.Ok) {x : Ord} (hx : x ∈ ordersL l) : 1 ≤ x.qty ∧ x.qty ≤ 1048576 := by
  obtain ⟨lv, m, e, me, rfl⟩ := orders_mem.1 hx
  have := (h lv m).1.2 e me
  omega
theorem sumO_part {l : List Ord} (h : ∀ x ∈ l, 1 ≤ x.qty ∧ x.qty ≤ 1048576) (i : Nat) : 0 ≤ sumO (l.take i) ∧ sumO (l.take i) ≤ 1048576 * (l.length : Nat) := by
  have gen : ∀ m : List Ord, (∀ x ∈ m, 1 ≤ x.qty ∧ x.qty ≤ 1048576) → 0 ≤ sumO m ∧ sumO m ≤ 1048576 * (m.length : Nat) := by
    intro m hm
    induction m with
    | nil => exact ⟨Int.le_refl _, Int.le_refl _⟩
    | cons y m ih =>
      have h1 := ih fun z hz => hm z (List.mem_cons_of_mem _ hz)
      have h2 := hm y (List.mem_cons_self ..)
      simp only [sumO, List.length_cons]; push_cast; omega
  have h1 := gen (l.take i) fun x m => h x (List.mem_of_mem_take m)
  have : (l.take i).length ≤ l.length := by rw [List.length_take]; omega
  omega
end Go.Proofs.Ytiilndlgfgikbaa

set_option autoImplicit false
set_option linter.unusedSectionVars false
set_option linter.unusedSimpArgs false
set_option linter.unusedVariables false
set_option maxRecDepth 4000
set_option maxHeartbeats 16000000
namespace Go.Proofs.Ytiilndlgfgikbaa
open Go Go.SL Go.Proofs
theorem sumF_take {l : List Fl} {i : Nat} {x : Fl} (h : l[i]? = some x) : sumF (l.take (i + 1)) = sumF (l.take i) + x.qty := by
  have hi := (List.getElem?_eq_some_iff.1 h).1
  have hx := (List.getElem?_eq_some_iff.1 h).2
  rw [List.take_succ_eq_append_getElem hi, sumF_append, hx]; simp [sumF]
/-- One trade of a chain. -/
theorem flsOk_at {firm oth no q : Int} {l : List Fl} (h : FlsOk firm oth no q l) {i : Nat} {f : Fl} (hf : l[i]? = some f) : 1 ≤ f.qty ∧ f.maker.firm ≠ firm ∧ f.maker.side = oth ∧ f.no = no + i + 1 ∧ f.price = f.maker.price ∧ f.taker.qty = q - sumF (l.take i) := by
  have hi := (List.getElem?_eq_some_iff.1 hf).1
  have e : l = l.take i ++ f :: l.drop (i + 1) := by rw [← drop_cons hf, List.take_append_drop]
  rw [e] at h
  have h2 := ((flsOk_append _ _ _ _).1 h).2
  rw [List.length_take, Nat.min_eq_left (by omega)] at h2
  exact ⟨h2.1, h2.2.1, h2.2.2.1, h2.2.2.2.1, h2.2.2.2.2.1, h2.2.2.2.2.2.1⟩
theorem flsOk_le {firm oth : Int} : ∀ {l : List Fl} {no q : Int}, FlsOk firm oth no q l → ∀ i, 0 ≤ sumF (l.take i) ∧ sumF (l.take i) ≤ sumF l
  | [], _, _, _, i => by simp [sumF]
  | f :: r, no, q, h, 0 => by
    have := flsOk_le h.2.2.2.2.2.2 r.length
    rw [List.take_length] at this
    have h1 := h.1
    simp only [List.take_zero, sumF]; omega
  | f :: r, no, q, h, i + 1 => by
    have := flsOk_le h.2.2.2.2.2.2 i
    have h1 := h.1
    simp only [List.take_succ_cons, sumF]; omega
variable [Base]
/-- What is so of what comes of an order. -/
structure CountIs (o : Ord) (B : Bk) : Prop where
  chain : FlsOk o.firm (3 - o.side) B.no o.qty (badd o B).1.fs
  num : (badd o B).1.fs.length ≤ 1048576
  got : 0 ≤ sumF (badd o B).1.fs ∧ sumF (badd o B).1.fs ≤ o.qty
  err : (badd o B).1.err ≠ 0 → (badd o B).1.fs = [] ∧ (badd o B).1.left = o.qty ∧ (badd o B).1.rests = false ∧ (badd o B).2 = B
  left : (badd o B).1.left = o.qty - sumF (badd o B).1.fs
  mine : sumO (ordersL ((badd o B).2.side o.side)) = sumO (ordersL (B.side o.side)) + (if (badd o B).1.rests = true then (badd o B).1.left else 0)
  theirs : sumO (ordersL ((badd o B).2.side (3 - o.side))) = sumO (ordersL (B.side (3 - o.side))) - sumF (badd o B).1.fs
  no : (badd o B).2.no = B.no + (badd o B).1.fs.length
theorem count_is {o : Ord} {B : Bk} (hw : BW B) (hg : Gd B) (hr : rightP o) : CountIs o B := by
  have hs : o.side = 1 ∨ o.side = 2 := by unfold rightP at hr; omega
  have hq : 1 ≤ o.qty ∧ o.qty ≤ 1048576 := by unfold rightP at hr; omega
  by_cases h0 : brefused o B = 0
  · have hok := (hw.side (3 - o.side)).1
    have M := match_sub (B.side (3 - o.side)) o B.last B.no hok (by omega)
    have MI := match_is (B.side (3 - o.side)) o B.last B.no hok (by omega)
    have MF := match_fls (oth := 3 - o.side) (B.side (3 - o.side)) o B.last B.no hok (hg.side hs).a2 (by omega)
    have A := add_is hs h0
    generalize matchL o (B.side (3 - o.side)) B.last B.no = m at *
    obtain ⟨a1, a2, a3, a4, a5⟩ := A
    have e1 := M.qty
    have e2 := M.sum
    have e3 := MI.qty
    have e4 := MI.num
    refine ⟨?_, ?_, ?_, ?_, ?_, ?_, ?_, ?_⟩
    · rw [a1]; exact MF
    · rw [a1]; show m.fs.length ≤ _; omega
    · rw [a1]; show 0 ≤ sumF m.fs ∧ sumF m.fs ≤ _; omega
    · rw [a1]; intro h; exact absurd rfl h
    · rw [a1]; exact e1
    · rw [a3, a1]
      dsimp only
      split
      · rw [sumO_orders, sumO_orders, restL_sum]; rfl
      · omega
    · rw [a2, a1, sumO_orders, sumO_orders]; show sumL m.lvs = _ - sumF m.fs; omega
    · rw [a5, a1]; exact MI.no
  · have e := refused_is h0
    refine ⟨?_, ?_, ?_, ?_, ?_, ?_, ?_, ?_⟩
    all_goals rw [e]
    · trivial
    · exact Nat.zero_le _
    · show (0 : Int) ≤ 0 ∧ (0 : Int) ≤ o.qty; omega
    · intro _; exact ⟨rfl, rfl, rfl, rfl⟩
    · show o.qty = o.qty - 0; omega
    · show _ = _ + (if false = true then o.qty else 0); simp
    · simp [sumF]
    · show B.no = B.no + ((0 : Nat) : Int); omega
theorem sp_owhole (F : Heap) (a : Option Addr) (k c : Nat) (l : List Ord) (hl : l.length = k) (hk : k ≤ 65536) (hq : ∀ x ∈ l, 1 ≤ x.qty ∧ x.qty ≤ 1048576) (h1 : SrcIs F a k 9 (rows Ord.cells l)) :
    Sp Try.prog F 26 [.slice a k c] [] (Ret (.int .i64 (sumO l))) := by
  refine sp_of_code Try.func26 rfl rfl ?_
  (refine run_seq ?_; refine run_region ?_; refine xep rfl rfl ?_; refine runL_nil ?_; refine then_normal ?_; refine run_seq ?_; refine run_region ?_; refine xep rfl rfl ?_; refine runL_nil ?_; refine then_normal ?_; (iterate 2 refine run_seq ?_); refine run_region ?_; refine xep rfl rfl ?_; refine xel rfl (ev_len rfl rfl (se rfl)) ?_; refine xep rfl rfl ?_; refine runL_nil ?_; refine then_normal ?_; refine run_block ?_)
  refine run_loopK (σ := Nat) [3, 6, 7, 8] (fun i => [(3, .int .i64 (sumO (l.take i))), (6, .slice a k c), (7, .int .i64 k), (8, .int .i64 i)]) (fun _ => []) (fun i => i ≤ k) (fun i => k - i) 0 (Nat.zero_le _) rfl (fun _ => rfl) ?_
  intro i gi
  have hp := sumO_part hq i
  (refine run_seq ?_; refine run_region ?_; refine xep rfl rfl ?_; refine runL_nil ?_; refine then_normal ?_; refine run_seq ?_)
  (refine run_cond rfl (fun hc => ?_) (fun hc => ?_) <;> (try simp only [z0, z1, z2, z3, z4, z5, z6, z7, z8, z9, Bool.not_true, Bool.not_false, Bool.false_or, Bool.true_and, true_and, and_true, false_or, or_false, reduceCtorEq, Bool.false_eq_true] at hc))
  · obtain ⟨b1, o1, _, _, _, rfl, _⟩ := h1.pos (by omega)
    obtain ⟨x, hx⟩ : ∃ x, l[i]? = some x := ⟨l[i]'(by omega), List.getElem?_eq_getElem _⟩
    have l1 := SrcIs.row oc_len h1 hl hx
    have hst := sumO_take hx
    have hp2 := sumO_part hq (i + 1)
    (refine run_skip ?_; refine then_normal ?_; refine run_seq ?_; refine run_block ?_; refine run_seq ?_; refine run_region ?_; refine xel rfl (ev_indexAddr rfl rfl rfl (se rfl) (by omega) (by omega)) ?_; refine xel rfl (ev_loadAF rfl rfl (ag rfl) (sz rfl) l1 rfl) ?_; refine runL_alloc rfl rfl rfl rfl rfl ze25 (fun _ => ?_); refine runL_store0 rfl rfl rfl rfl rfl (sz rfl) rfl rfl rfl rfl rfl ?_; refine runL_nil ?_; refine then_normal ?_; refine run_region ?_; refine xep rfl rfl ?_; refine xel rfl (ev_fieldAddr rfl rfl (fo rfl)) ?_; refine xel rfl (ev_loadK rfl rfl (sc rfl) (memF (.head _)) rfl) ?_; refine xel rfl (ev_add rfl rfl rfl (by omega)) ?_; refine xep rfl rfl ?_; refine runL_nil ?_; refine in_normal ?_; refine then_normal ?_; refine run_region ?_; refine xel rfl (ev_add rfl rfl rfl (by omega)) ?_; refine xep rfl rfl ?_; refine runL_nil ?_; refine then_normal ?_)
    refine ⟨i + 1, by omega, by omega, ?_, [_], fun _ => rfl⟩
    rw [hst]; rfl
  · have : i = l.length := by omega
    subst this
    rw [List.take_length]
    (refine run_exit ?_; (iterate 2 refine then_exit ?_); refine in_exit ?_; refine then_normal ?_)
    (refine run_seq ?_; refine run_region ?_; (iterate 2 refine xep rfl rfl ?_); refine runL_nil ?_; refine then_normal ?_; refine run_ret ?_)
    exact ⟨_, rfl, rfl⟩
end Go.Proofs.Ytiilndlgfgikbaa

set_option autoImplicit false
set_option linter.unusedSectionVars false
set_option linter.unusedSimpArgs false
set_option linter.unusedVariables false
set_option maxRecDepth 4000
set_option maxHeartbeats 16000000
namespace Go.Proofs.Ytiilndlgfgikbaa
open Go Go.SL Go.Proofs
variable [Base]
structure BestIs (o : Ord) (B : Bk) : Prop where
  num : (badd o B).1.fs.length ≤ 1048576
  cross : ∀ f ∈ (badd o B).1.fs, crosses o f.price = true ∧ f.maker.side = 3 - o.side
  srt : (badd o B).1.fs.Pairwise (fun a b => better (3 - o.side) b.price a.price = false)
  left : ∀ f ∈ (badd o B).1.fs, ∀ x ∈ ordersL ((badd o B).2.side (3 - o.side)), x.side = 3 - o.side ∧ better (3 - o.side) x.price f.price = false
  last : ∀ f, (badd o B).1.fs[(badd o B).1.fs.length - 1]? = some f → (badd o B).2.last = f.price
theorem best_is {o : Ord} {B : Bk} (hw : BW B) (hg : Gd B) (hr : rightP o) : BestIs o B := by
  have hs : o.side = 1 ∨ o.side = 2 := by unfold rightP at hr; omega
  have hq : 1 ≤ o.qty ∧ o.qty ≤ 1048576 := by unfold rightP at hr; omega
  have hnum := (count_is hw hg hr).num
  by_cases h0 : brefused o B = 0
  · have hok := (hw.side (3 - o.side)).1
    have M := match_sub (B.side (3 - o.side)) o B.last B.no hok (by omega)
    have A := add_is hs h0
    have S := hg.side hs
    generalize matchL o (B.side (3 - o.side)) B.last B.no = m at *
    obtain ⟨a1, a2, a3, a4, a5⟩ := A
    have hat := at_sub S.a2 M.sub
    obtain ⟨b1, b2⟩ := M.best (3 - o.side) S.s2
    refine ⟨hnum, ?_, ?_, ?_, ?_⟩
    · rw [a1]; intro f hf
      obtain ⟨lv, ml, e1, e2, e, me, n, e3⟩ := M.fs f hf
      exact ⟨by rw [e1]; exact e2, by rw [e3]; exact (S.a2 lv ml e me).1⟩
    · rw [a1]; exact b1
    · rw [a1, a2]; intro f hf x hx
      obtain ⟨h1, lv, ml, h2⟩ := orders_price hat hx
      exact ⟨h1, by rw [h2]; exact b2 f hf lv ml⟩
    · rw [a1, a4]; intro f hf
      rw [M.last]; exact lastP_get hf
  · have e := refused_is h0
    refine ⟨hnum, ?_, ?_, ?_, ?_⟩
    all_goals rw [e]
    · intro f hf; cases hf
    · exact .nil
    · intro f hf; cases hf
    · intro f hf; simp at hf
theorem fsorted_at {s : Int} {l : List Fl} (h : l.Pairwise (fun a b => better s b.price a.price = false)) {i j : Nat} {x y : Fl} (hx : l[i]? = some x) (hy : l[j]? = some y) (hij : i < j) : better s y.price x.price = false := by
  obtain ⟨hi, rfl⟩ := List.getElem?_eq_some_iff.1 hx
  obtain ⟨hj, rfl⟩ := List.getElem?_eq_some_iff.1 hy
  exact List.pairwise_iff_getElem.1 h i j hi hj hij
end Go.Proofs.Ytiilndlgfgikbaa

set_option autoImplicit false
set_option linter.unusedSectionVars false
set_option linter.unusedSimpArgs false
set_option linter.unusedVariables false
set_option maxRecDepth 4000
set_option maxHeartbeats 16000000
namespace Go.Proofs.Ytiilndlgfgikbaa
open Go Go.SL Go.Proofs
theorem findL_none {t i : Int} : ∀ {l : List Lv}, (∀ lv ∈ l, ∀ e ∈ lv.es, ¬ (e.o.trader = t ∧ e.o.id = i)) ↔ findL t i l = none
  | [] => by simp [findL]
  | x :: l => by
    have ih := findL_none (t := t) (i := i) (l := l)
    unfold findL
    constructor
    · intro h
      have h1 : (x.es.map (·.o)).find? (fun o => decide (o.trader = t) && decide (o.id = i)) = none := by
        rw [List.find?_eq_none]
        intro o ho
        obtain ⟨e, me, rfl⟩ := List.mem_map.1 ho
        have := h x (List.mem_cons_self ..) e me
        simpa using this
      rw [h1]
      have h2 := ih.1 fun lv m => h lv (List.mem_cons_of_mem _ m)
      rw [h2]
    · intro h lv m e me
      split at h
      · cases h
      · rename_i hn
        split at h
        · cases h
        · rename_i hn2
          rcases List.mem_cons.1 m with rfl | m
          · rw [List.find?_eq_none] at hn
            have := hn e.o (List.mem_map_of_mem me)
            simpa using this
          · exact ih.2 hn2 lv m e me
theorem bfind_none {t i : Int} {B : Bk} : (bfind t i B).2 = false ↔ findL t i B.buys = none ∧ findL t i B.sells = none := by
  unfold bfind findB
  cases h1 : findL t i B.buys with
  | some x => simp
  | none =>
    cases h2 : findL t i B.sells with
    | some x => simp
    | none => simp
theorem refused_of {o : Ord} {B : Bk} (h1 : rightP o) (h2 : o.stop = 0) (h3 : (bfind o.trader o.id B).2 = false) (h4 : rests o = true → lenL B.buys + lenL B.sells < 64) (h5 : o.kind ≠ 5) (h6 : o.kind ≠ 4) : brefused o B = 0 := by
  have hr : right o = 0 := by unfold right; rw [if_pos h1]
  unfold brefused
  rw [if_neg (by omega), if_neg (by rw [h3]; simp), if_neg (fun h => by have := h4 h.1; omega), if_neg (fun h => h5 h.1), if_neg (fun h => h6 h.1)]
theorem bk_ext {B : Bk} {x y : List Lv} {p q : Int} (h1 : B.side 1 = x) (h2 : B.side 2 = y) (h3 : B.last = p) (h4 : B.no = q) : B = ⟨x, y, p, q⟩ := by
  obtain ⟨b, s, l, n⟩ := B
  have h1 : b = x := h1
  have h2 : s = y := h2
  subst h1 h2 h3 h4; rfl
def tO (k : Nat) (n : Int) : Ord := ⟨((k : Int).tmod 5), k, ((k : Int).tmod 5), 2, 1, 100, n, 0, 0⟩
def tes : Nat → List Int → List Ent
  | _, [] => []
  | k, n :: r => ⟨tO k n, n⟩ :: tes (k + 1) r
def tB (ns : List Int) : Bk := ⟨[], if ns = [] then [] else [⟨100, tes 0 ns⟩], 0, 0⟩
theorem tes_snoc (n : Int) : ∀ (k : Nat) (l : List Int), tes k (l ++ [n]) = tes k l ++ [⟨tO (k + l.length) n, n⟩]
  | _, [] => rfl
  | k, x :: l => by
    have := tes_snoc n (k + 1) l
    simp only [List.cons_append, tes, this, List.length_cons, List.cons.injEq, true_and]
    rw [show k + 1 + l.length = k + (l.length + 1) by omega]
theorem tes_mem : ∀ {k : Nat} {l : List Int} {e : Ent}, e ∈ tes k l → ∃ j n, k ≤ j ∧ j < k + l.length ∧ e = ⟨tO j n, n⟩
  | _, [], _, h => nomatch h
  | k, x :: l, e, h => by
    rcases List.mem_cons.1 h with rfl | h
    · exact ⟨k, x, Nat.le_refl _, by simp, rfl⟩
    · obtain ⟨j, n, h1, h2, h3⟩ := tes_mem h
      exact ⟨j, n, by omega, by rw [List.length_cons]; omega, h3⟩
theorem tmod5 (k : Nat) : 0 ≤ (k : Int).tmod 5 ∧ (k : Int).tmod 5 ≤ 4 := by
  rw [Int.tmod_eq_emod_of_nonneg (by omega)]; omega
theorem tes_len (k : Nat) (l : List Int) : (tes k l).length = l.length := by
  induction l generalizing k with
  | nil => rfl
  | cons x l ih => simp only [tes, List.length_cons, ih]
theorem tB_find {ns : List Int} {t i : Int} (h : ∀ j : Nat, j < ns.length → ¬ ((j : Int).tmod 5 = t ∧ (j : Int) = i)) : (bfind t i (tB ns)).2 = false := by
  rw [bfind_none]
  refine ⟨rfl, findL_none.1 fun lv m e me => ?_⟩
  unfold tB at m
  dsimp only at m
  split at m
  · cases m
  · simp only [List.mem_singleton] at m
    subst m
    obtain ⟨j, n, h1, h2, rfl⟩ := tes_mem me
    exact h j (by omega)
theorem tB_len (ns : List Int) : lenL (tB ns).buys + lenL (tB ns).sells = ns.length := by
  unfold tB
  split
  · rename_i h; subst h; rfl
  · simp [lenL, tes_len]
variable [Base]
theorem tB_add {ns : List Int} {n : Int} (h : ns.length < 20) (hn : 1 ≤ n ∧ n ≤ 9) : badd (tO ns.length n) (tB ns) = (⟨tO ns.length n, [], n, true, false, false, 0⟩, tB (ns ++ [n])) := by
  have h5 := tmod5 ns.length
  have hr : rightP (tO ns.length n) := by
    unfold rightP tO
    dsimp only
    refine ⟨h5.1, by omega, h5.1, by omega, by omega, by omega, by omega, by omega, by omega, by omega, by omega, by omega, by omega, by omega, by omega, by omega, ?_, ?_, ?_⟩ <;> intros <;> omega
  have h0 : brefused (tO ns.length n) (tB ns) = 0 := by
    refine refused_of hr rfl (tB_find fun j hj hh => ?_) (fun _ => by rw [tB_len]; omega) (by show (1 : Int) ≠ 5; omega) (by show (1 : Int) ≠ 4; omega)
    have : (j : Int) = (ns.length : Int) := hh.2
    omega
  have A := add_is (o := tO ns.length n) (B := tB ns) (.inr rfl) h0
  have hm : matchL (tO ns.length n) ((tB ns).side (3 - (tO ns.length n).side)) (tB ns).last (tB ns).no = ⟨[], n, false, [], 0, 0⟩ := rfl
  rw [hm] at A
  obtain ⟨a1, a2, a3, a4, a5⟩ := A
  have hc : (decide (0 < n) && !false && rests (tO ns.length n)) = true := by rw [decide_eq_true (by omega : 0 < n)]; rfl
  have e2 : (badd (tO ns.length n) (tB ns)).2 = tB (ns ++ [n]) := by
    refine (bk_ext (a2 : (badd (tO ns.length n) (tB ns)).2.side 1 = []) (a3 : (badd (tO ns.length n) (tB ns)).2.side 2 = _) a4 a5).trans ?_
    dsimp only
    rw [if_pos hc]
    have hmn : min (0 : Int) n = 0 := by omega
    have hw : wqs (tO ns.length n) n (min (tO ns.length n).show_ n) = tO ns.length n := by
      show wqs (tO ns.length n) n (min 0 n) = _
      rw [hmn]; rfl
    rw [hw]
    show Bk.mk [] (restL (tO ns.length n) (if ns = [] then [] else [⟨100, tes 0 ns⟩])) 0 0 = Bk.mk [] (if ns ++ [n] = [] then [] else [⟨100, tes 0 (ns ++ [n])⟩]) 0 0
    rw [if_neg (show ¬ ns ++ [n] = [] by simp)]
    rw [tes_snoc, Nat.zero_add]
    split
    · rename_i hs; subst hs; rfl
    · rfl
  have e1 : (badd (tO ns.length n) (tB ns)).1 = ⟨tO ns.length n, [], n, true, false, false, 0⟩ := by
    rw [a1, hc]
  exact Prod.ext e1 e2
/-- What is given of those at one price, in their order. -/
def TimeOk : Int → Nat → List Int → List (Ord × Int) → Prop
  | q, _, ns, [] => q = 0 ∨ ns = []
  | q, k, ns, h :: hs => ∃ n r, ns = n :: r ∧ h.1.id = k ∧ h.2 = min q n ∧ TimeOk (q - h.2) (k + 1) r hs
theorem take_time : ∀ (ns : List Int) (k : Nat) (q : Int), 0 ≤ q → (∀ n ∈ ns, 1 ≤ n) → TimeOk q k ns (take 7 q (tes k ns)).1 ∧ (take 7 q (tes k ns)).2.1 = false
  | [], k, q, hq, _ => by rw [show tes k [] = [] from rfl, take_nil]; exact ⟨.inr rfl, rfl⟩
  | n :: r, k, q, hq, hn => by
    have hn1 := hn n (List.mem_cons_self ..)
    by_cases h0 : 0 < q
    · have h5 := tmod5 k
      have hf : (tO k n).firm ≠ 7 := by show (k : Int).tmod 5 ≠ 7; omega
      show TimeOk q k (n :: r) (take 7 q (⟨tO k n, n⟩ :: tes (k + 1) r)).1 ∧ (take 7 q (⟨tO k n, n⟩ :: tes (k + 1) r)).2.1 = false
      rw [take_cons h0 hf hn1]
      dsimp only
      by_cases hle : n ≤ q
      · have e : min q n = n := by omega
        have eg : giveE ⟨tO k n, n⟩ (tes (k + 1) r) n = tes (k + 1) r := by
          unfold giveE
          rw [if_neg (by dsimp only; omega), if_neg (by show ¬ 0 < n - n; omega)]
        rw [e, eg]
        have ih := take_time r (k + 1) (q - n) (by omega) fun x m => hn x (List.mem_cons_of_mem _ m)
        exact ⟨⟨n, r, rfl, rfl, e.symm, ih.1⟩, ih.2⟩
      · have e : min q n = q := by omega
        rw [e, Int.sub_self, take_le (by omega)]
        exact ⟨⟨n, r, rfl, rfl, e.symm, by show TimeOk (q - q) _ _ _; rw [Int.sub_self]; exact .inl rfl⟩, rfl⟩
    · rw [take_le (by omega)]
      exact ⟨.inl (by omega), rfl⟩
theorem time_at : ∀ {hs : List (Ord × Int)} {q : Int} {k : Nat} {ns : List Int}, TimeOk q k ns hs → ∀ {i : Nat} {h : Ord × Int}, hs[i]? = some h → ∃ n, ns[i]? = some n ∧ h.1.id = ((k + i : Nat) : Int) ∧ h.2 = min (q - sumH (hs.take i)) n
  | [], _, _, _, _, _, _, hi => by simp at hi
  | a :: hs, q, k, ns, ⟨n, r, e, h1, h2, h3⟩, 0, h, hi => by
    simp at hi; subst hi
    exact ⟨n, by rw [e]; rfl, by simpa using h1, by simpa [sumH] using h2⟩
  | a :: hs, q, k, ns, ⟨n, r, e, h1, h2, h3⟩, i + 1, h, hi => by
    obtain ⟨m, m1, m2, m3⟩ := time_at h3 (i := i) (by simpa using hi)
    refine ⟨m, by rw [e]; simpa using m1, by rw [m2]; push_cast; omega, ?_⟩
    rw [m3, List.take_succ_cons]
    simp only [sumH]
    rw [show q - (a.2 + sumH (hs.take i)) = q - a.2 - sumH (hs.take i) by omega]
theorem time_end : ∀ {hs : List (Ord × Int)} {q : Int} {k : Nat} {ns : List Int}, TimeOk q k ns hs → (q - sumH hs = 0 ∨ hs.length = ns.length) ∧ hs.length ≤ ns.length
  | [], q, k, ns, h => by
    rcases h with h | h
    · exact ⟨.inl (by simp only [sumH]; omega), Nat.zero_le _⟩
    · subst h; exact ⟨.inr rfl, Nat.le_refl _⟩
  | a :: hs, q, k, ns, ⟨n, r, e, h1, h2, h3⟩ => by
    subst e
    obtain ⟨m1, m2⟩ := time_end h3
    refine ⟨?_, by simp only [List.length_cons]; omega⟩
    rcases m1 with m | m
    · left; simp only [sumH]; omega
    · right; simp only [List.length_cons, m]
def tQ (q : Int) : Ord := ⟨7, 1, 7, 1, 3, 100, q, 0, 0⟩
/-- What the immediate order comes to. -/
theorem tB_take {ns : List Int} {q : Int} (h : ns.length ≤ 20) (hn : ∀ n ∈ ns, 1 ≤ n) (hq : 1 ≤ q ∧ q ≤ 100) : ∃ hs X2, TimeOk q 0 ns hs ∧ badd (tQ q) (tB ns) = (⟨tQ q, flls (tQ q) 100 0 hs, q - sumH hs, false, false, false, 0⟩, X2) := by
  have hr : rightP (tQ q) := by
    unfold rightP tQ
    dsimp only
    refine ⟨by omega, by omega, by omega, by omega, by omega, by omega, by omega, by omega, by omega, by omega, by omega, by omega, by omega, by omega, by omega, by omega, ?_, ?_, ?_⟩ <;> intros <;> omega
  have h0 : brefused (tQ q) (tB ns) = 0 := by
    refine refused_of hr rfl (tB_find fun j hj hh => ?_) (fun h => by cases h) (by show (3 : Int) ≠ 5; omega) (by show (3 : Int) ≠ 4; omega)
    have := tmod5 j
    have : (j : Int).tmod 5 = 7 := hh.1
    omega
  have A := add_is (o := tQ q) (B := tB ns) (.inl rfl) h0
  have T := take_time ns 0 q (by omega) hn
  have key : ∃ hs, TimeOk q 0 ns hs ∧ (matchL (tQ q) ((tB ns).side (3 - (tQ q).side)) (tB ns).last (tB ns).no).fs = flls (tQ q) 100 0 hs ∧ (matchL (tQ q) ((tB ns).side (3 - (tQ q).side)) (tB ns).last (tB ns).no).qty = q - sumH hs ∧ (matchL (tQ q) ((tB ns).side (3 - (tQ q).side)) (tB ns).last (tB ns).no).self = false := by
    show ∃ hs, TimeOk q 0 ns hs ∧ (matchL (tQ q) (if ns = [] then [] else [⟨100, tes 0 ns⟩]) 0 0).fs = flls (tQ q) 100 0 hs ∧ (matchL (tQ q) (if ns = [] then [] else [⟨100, tes 0 ns⟩]) 0 0).qty = q - sumH hs ∧ (matchL (tQ q) (if ns = [] then [] else [⟨100, tes 0 ns⟩]) 0 0).self = false
    split
    · rename_i hs
      exact ⟨[], .inr hs, rfl, (by show q = q - 0; omega), rfl⟩
    · refine ⟨(take 7 q (tes 0 ns)).1, T.1, ?_⟩
      have hc : (0 < (tQ q).qty ∧ crosses (tQ q) 100 = true) := ⟨by show 0 < q; omega, rfl⟩
      unfold matchL
      rw [if_pos hc]
      have hs : (take (tQ q).firm (tQ q).qty (tes 0 ns)).2.1 = false := T.2
      dsimp only
      rw [if_neg (by rw [hs]; simp)]
      split
      · refine ⟨?_, rfl, rfl⟩
        show flls _ _ _ _ ++ [] = _
        rw [List.append_nil]; rfl
      · exact ⟨rfl, rfl, rfl⟩
  obtain ⟨hs, t1, t2, t3, t4⟩ := key
  refine ⟨hs, (badd (tQ q) (tB ns)).2, t1, Prod.ext ?_ rfl⟩
  rw [A.out, t2, t3, t4]
  simp [rests, tQ]
theorem flls_at {p : Int} : ∀ {hs : List (Ord × Int)} {o : Ord} {no : Int} {i : Nat} {f : Fl}, (flls o p no hs)[i]? = some f → ∃ h, hs[i]? = some h ∧ f.maker = h.1 ∧ f.qty = h.2
  | [], _, _, _, _, h => by simp [flls] at h
  | a :: hs, o, no, 0, f, h => by simp [flls] at h; subst h; exact ⟨a, rfl, rfl, rfl⟩
  | a :: hs, o, no, i + 1, f, h => by
    have h : (flls (wq o (o.qty - a.2)) p (no + 1) hs)[i]? = some f := by simpa [flls] using h
    obtain ⟨x, h1, h2⟩ := flls_at h
    exact ⟨x, by simpa using h1, h2⟩
theorem time_left {hs : List (Ord × Int)} {q : Int} {k : Nat} {ns : List Int} (h : TimeOk q k ns hs) (hq : 0 ≤ q) (hn : ∀ n ∈ ns, 1 ≤ n) : ∀ i, 0 ≤ q - sumH (hs.take i) ∧ q - sumH (hs.take i) ≤ q
  | 0 => by simp only [List.take_zero, sumH]; omega
  | i + 1 => by
    have ih := time_left h hq hn i
    cases hx : hs[i]? with
    | none =>
      have := List.getElem?_eq_none_iff.1 hx
      rw [List.take_of_length_le (by omega)]
      rw [List.take_of_length_le (by omega)] at ih
      exact ih
    | some x =>
      obtain ⟨n, h1, h2, h3⟩ := time_at h hx
      have := hn n (List.mem_of_getElem? h1)
      rw [sumH_take hx]; omega
end Go.Proofs.Ytiilndlgfgikbaa

set_option autoImplicit false
set_option linter.unusedSectionVars false
set_option linter.unusedSimpArgs false
set_option linter.unusedVariables false
set_option maxRecDepth 4000
set_option maxHeartbeats 16000000
namespace Go.Proofs.Ytiilndlgfgikbaa
open Go Go.SL Go.Proofs
theorem put_put {B : Bk} {s : Int} (hs : s = 1 ∨ s = 2) (x y : List Lv) : (B.put s x).put s y = B.put s y := by
  rcases hs with rfl | rfl <;> rfl
theorem put_self {B : Bk} {s : Int} (hs : s = 1 ∨ s = 2) : B.put s (B.side s) = B := by
  rcases hs with rfl | rfl <;> rfl
theorem bk_eq {A B : Bk} {s : Int} (hs : s = 1 ∨ s = 2) (h1 : A.side s = B.side s) (h2 : A.side (3 - s) = B.side (3 - s)) (h3 : A.last = B.last) (h4 : A.no = B.no) : A = B := by
  obtain ⟨a, b, c, d⟩ := A
  obtain ⟨a', b', c', d'⟩ := B
  have h3 : c = c' := h3
  have h4 : d = d' := h4
  rcases hs with rfl | rfl
  · have h1 : a = a' := h1
    have h2 : b = b' := h2
    subst h1 h2 h3 h4; rfl
  · have h1 : b = b' := h1
    have h2 : a = a' := h2
    subst h1 h2 h3 h4; rfl
theorem find_side {t i : Int} {B : Bk} (h : (bfind t i B).2 = false) {s : Int} (hs : s = 1 ∨ s = 2) : ∀ lv ∈ B.side s, ∀ e ∈ lv.es, ¬ (e.o.trader = t ∧ e.o.id = i) := by
  obtain ⟨h1, h2⟩ := bfind_none.1 h
  rcases hs with rfl | rfl
  · exact findL_none.2 h1
  · exact findL_none.2 h2
theorem find_sides {t i : Int} {B : Bk} {s : Int} (hs : s = 1 ∨ s = 2) (h1 : ∀ lv ∈ B.side s, ∀ e ∈ lv.es, ¬ (e.o.trader = t ∧ e.o.id = i)) (h2 : ∀ lv ∈ B.side (3 - s), ∀ e ∈ lv.es, ¬ (e.o.trader = t ∧ e.o.id = i)) : (bfind t i B).2 = false := by
  rw [bfind_none]
  rcases hs with rfl | rfl
  · exact ⟨findL_none.1 h1, findL_none.1 h2⟩
  · exact ⟨findL_none.1 h2, findL_none.1 h1⟩
variable [Base]
/-- What came to rest last is found, and its removal undoes it. -/
theorem rest_undone {o : Ord} {B : Bk} (hs : o.side = 1 ∨ o.side = 2) (hok : ∀ lv ∈ B.side o.side, lv.Ok) (hn : (bfind o.trader o.id B).2 = false) :
    bfind o.trader o.id (B.put o.side (restL o (B.side o.side))) = (o, true) ∧ bremove o.trader o.id (B.put o.side (restL o (B.side o.side))) = (o, true, B) := by
  have hno := find_side hn hs
  have hother := (find_side hn (s := 3 - o.side) (by omega))
  -- where it rests
  have key : ∃ k lv', (restL o (B.side o.side))[k]? = some lv' ∧ (lv'.es.map (·.o)).find? (isO o.trader o.id) = some o ∧ (∀ (j : Nat) y, j < k → (restL o (B.side o.side))[j]? = some y → (y.es.map (·.o)).find? (isO o.trader o.id) = none) ∧
      (lrem o.trader o.id lv'.es).1 = o ∧ (lrem o.trader o.id lv'.es).2.1 = true ∧ (if (lrem o.trader o.id lv'.es).2.2 = [] then (restL o (B.side o.side)).eraseIdx k else (restL o (B.side o.side)).set k ⟨lv'.p, (lrem o.trader o.id lv'.es).2.2⟩) = B.side o.side := by
    obtain ⟨a, b, -, hf⟩ := restL_form o (B.side o.side)
    have hnone : ∀ y : Lv, (∀ e ∈ y.es, ¬ (e.o.trader = o.trader ∧ e.o.id = o.id)) → (y.es.map (·.o)).find? (isO o.trader o.id) = none := by
      intro y hy
      rw [List.find?_eq_none]
      intro x hx
      obtain ⟨e, me, rfl⟩ := List.mem_map.1 hx
      have := hy e me
      simpa [isO] using this
    have hlast : ∀ es : List Ent, (∀ e ∈ es, ¬ (e.o.trader = o.trader ∧ e.o.id = o.id)) → ((es ++ [(⟨o, tip o⟩ : Ent)]).map (fun e => e.o)).find? (isO o.trader o.id) = some o ∧ lrem o.trader o.id (es ++ [(⟨o, tip o⟩ : Ent)]) = (o, true, es) := by
      intro es hes
      constructor
      · rw [List.map_append, List.find?_append, hnone ⟨0, es⟩ hes]
        simp [isO]
      · rw [lrem_some (k := es.length) (x := ⟨o, tip o⟩) (by simp) (by simp [isIt])]
        · simp
        · intro j y hj hy
          rw [List.getElem?_append_left hj] at hy
          have := hes y (List.mem_of_getElem? hy)
          simp only [isIt]
          rw [Bool.and_eq_false_iff]
          by_cases h : y.o.trader = o.trader
          · exact .inr (decide_eq_false fun h2 => this ⟨h, h2⟩)
          · exact .inl (decide_eq_false h)
    rcases hf with ⟨lv, hp, e1, e2⟩ | ⟨e1, e2, -⟩
    · rw [e2]
      have hmem : lv ∈ B.side o.side := by rw [e1]; simp
      obtain ⟨g1, g2⟩ := hlast lv.es (hno lv hmem)
      refine ⟨a.length, ⟨lv.p, lv.es ++ [⟨o, tip o⟩]⟩, by simp, g1, ?_, by rw [g2], by rw [g2], ?_⟩
      · intro j y hj hy
        rw [List.getElem?_append_left hj] at hy
        exact hnone y (hno y (by rw [e1]; exact List.mem_append_left _ (List.mem_of_getElem? hy)))
      · rw [g2, if_neg (hok lv hmem).2, List.set_append_right _ _ (Nat.le_refl _), Nat.sub_self]
        exact e1.symm
    · rw [e2]
      obtain ⟨g1, g2⟩ := hlast [] (fun _ m => nomatch m)
      refine ⟨a.length, ⟨o.price, [⟨o, tip o⟩]⟩, by simp, g1, ?_, ?_, ?_, ?_⟩
      · intro j y hj hy
        rw [List.getElem?_append_left hj] at hy
        exact hnone y (hno y (by rw [e1]; exact List.mem_append_left _ (List.mem_of_getElem? hy)))
      · have g2 : lrem o.trader o.id [⟨o, tip o⟩] = (o, true, []) := g2
        rw [g2]
      · have g2 : lrem o.trader o.id [⟨o, tip o⟩] = (o, true, []) := g2
        rw [g2]
      · have g2 : lrem o.trader o.id [⟨o, tip o⟩] = (o, true, []) := g2
        rw [g2, if_pos rfl, List.eraseIdx_append_of_length_le (Nat.le_refl _), Nat.sub_self]
        exact e1.symm
  obtain ⟨k, lv', k1, k2, k3, k4, k5, k6⟩ := key
  have hfl := findL_here k1 k2 k3
  have hfb : findB o.trader o.id (B.put o.side (restL o (B.side o.side))) = some (o.side, k, o) := by
    unfold findB
    rcases hs with h | h
    · rw [h] at hfl ⊢
      have : findL o.trader o.id (B.put 1 (restL o (B.side 1))).buys = some (k, o) := hfl
      rw [this]
    · rw [h] at hfl hother ⊢
      have h1 : findL o.trader o.id (B.put 2 (restL o (B.side 2))).buys = none := findL_none.1 hother
      have h2 : findL o.trader o.id (B.put 2 (restL o (B.side 2))).sells = some (k, o) := hfl
      rw [h1, h2]
  constructor
  · unfold bfind; rw [hfb]
  · unfold bremove
    rw [hfb]
    dsimp only
    rw [put_side hs, k1]
    dsimp only
    rw [k4, k5, k6, put_put hs, put_self hs]
/-- A match that trades nothing, and meets no firm of its own, leaves all as it was. -/
theorem match_same : ∀ (l : List Lv) (o : Ord) (last no : Int), (∀ lv ∈ l, lv.Ok) → 0 < o.qty → (matchL o l last no).fs = [] → (matchL o l last no).self = false → (matchL o l last no).lvs = l
  | [], o, last, no, _, _, _, _ => rfl
  | lv :: r, o, last, no, hok, hq, h1, h2 => by
    have hl := hok lv (by simp)
    unfold matchL at h1 h2 ⊢
    split
    · rename_i hc
      exfalso
      rw [if_pos hc] at h1 h2
      have t := take_is (firm := o.firm) o.qty.toNat o.qty lv.es (Nat.le_refl _) (by omega) hl.1
      generalize take o.firm o.qty lv.es = T at *
      have hfl := flls_len o lv.p no T.1
      have hpos : 1 ≤ sumE (fun x => x.o.qty) lv.es := by
        obtain ⟨⟨-, hb⟩, hne⟩ := hl
        clear t hfl h1 h2
        generalize lv.es = es0 at hb hne
        cases es0 with
        | nil => exact absurd rfl hne
        | cons e es =>
          have h0 := hb e (List.mem_cons_self ..)
          have : 0 ≤ sumE (fun x => x.o.qty) es := by
            have hb2 : ∀ x ∈ es, 1 ≤ x.o.qty := fun x m => (hb x (List.mem_cons_of_mem _ m)).1
            clear hb h0 hne
            induction es with
            | nil => exact Int.le_refl _
            | cons y es ih =>
              have h1 := ih fun x m => hb2 x (List.mem_cons_of_mem _ m)
              have h2 := hb2 y (List.mem_cons_self ..)
              simp only [sumE]; omega
          simp only [sumE]; omega
      split at h1
      · rename_i hs
        rw [if_pos hs] at h2; cases h2
      · rename_i hs
        have hsf : T.2.1 = false := by simpa using hs
        have hall := t.all hsf
        have hT : T.1 = [] := by
          rw [← List.length_eq_zero_iff, ← hfl]
          split at h1
          · have h1 : flls o lv.p no T.1 ++ _ = [] := h1
            rw [(List.append_eq_nil_iff.1 h1).1]; rfl
          · have h1 : flls o lv.p no T.1 = [] := h1
            rw [h1]; rfl
        have hsum := t.sum
        rw [hT] at hall hsum
        simp only [sumH] at hall hsum
        rcases hall with h | h
        · omega
        · rw [h] at hsum; simp only [sumE] at hsum; omega
    · rfl
def FK (f : Fl) : Ord × Int × Int × Int := (f.maker, f.price, f.qty, f.no)
structure Alike (o o' : Ord) : Prop where
  firm : o'.firm = o.firm
  qty : o'.qty = o.qty
  cr : ∀ p, crosses o' p = crosses o p
theorem flls_alike {p : Int} : ∀ (l : List (Ord × Int)) (o o' : Ord) (no : Int), (flls o' p no l).map FK = (flls o p no l).map FK
  | [], _, _, _ => rfl
  | h :: r, o, o', no => by
    simp only [flls, List.map_cons, flls_alike r (wq o (o.qty - h.2)) (wq o' (o'.qty - h.2)) (no + 1)]; rfl
/-- Orders alike match alike. -/
theorem match_alike : ∀ (l : List Lv) (o o' : Ord) (last no : Int), Alike o o' → (matchL o' l last no).lvs = (matchL o l last no).lvs ∧ (matchL o' l last no).qty = (matchL o l last no).qty ∧ (matchL o' l last no).self = (matchL o l last no).self ∧ (matchL o' l last no).last = (matchL o l last no).last ∧ (matchL o' l last no).no = (matchL o l last no).no ∧ (matchL o' l last no).fs.map FK = (matchL o l last no).fs.map FK
  | [], o, o', last, no, h => ⟨rfl, h.qty, rfl, rfl, rfl, rfl⟩
  | lv :: r, o, o', last, no, h => by
    unfold matchL
    rw [h.firm, h.qty, h.cr]
    split
    · split
      · exact ⟨rfl, rfl, rfl, rfl, rfl, flls_alike _ _ _ _⟩
      · split
        · have ih := match_alike r (wq o (o.qty - sumH (take o.firm o.qty lv.es).1)) (wq o' (o.qty - sumH (take o.firm o.qty lv.es).1)) (if (take o.firm o.qty lv.es).1 = [] then last else lv.p) (no + (take o.firm o.qty lv.es).1.length) ⟨h.firm, rfl, fun p => h.cr p⟩
          obtain ⟨i1, i2, i3, i4, i5, i6⟩ := ih
          refine ⟨i1, i2, i3, i4, i5, ?_⟩
          show (flls o' lv.p no _ ++ _).map FK = (flls o lv.p no _ ++ _).map FK
          rw [List.map_append, List.map_append, i6, flls_alike]
        · exact ⟨rfl, rfl, rfl, rfl, rfl, flls_alike _ _ _ _⟩
    · exact ⟨rfl, rfl, rfl, rfl, rfl, rfl⟩
theorem fillsL_alike : ∀ (l : List Lv) (o o' : Ord), Alike o o' → fillsL o' l = fillsL o l
  | [], _, _, _ => rfl
  | lv :: r, o, o', h => by
    unfold fillsL
    rw [h.firm, h.qty, h.cr, fillsL_alike r (wq o (o.qty - (reachR o.firm lv.es).1)) (wq o' (o.qty - (reachR o.firm lv.es).1)) ⟨h.firm, rfl, fun p => h.cr p⟩]
/-- An order that rests without a trade. -/
theorem back_is {o : Ord} {B : Bk} (hw : BW B) (hr : rightP o) (h1 : (badd o B).1.rests = true) (h2 : (badd o B).1.fs = []) : bfind o.trader o.id (badd o B).2 = (o, true) ∧ bremove o.trader o.id (badd o B).2 = (o, true, B) := by
  have hs : o.side = 1 ∨ o.side = 2 := by unfold rightP at hr; omega
  have hq : 1 ≤ o.qty ∧ o.qty ≤ 1048576 ∧ 0 ≤ o.show_ ∧ o.show_ ≤ o.qty := by unfold rightP at hr; omega
  by_cases h0 : brefused o B = 0
  · have hok := (hw.side (3 - o.side)).1
    have A := add_is hs h0
    have M := match_sub (B.side (3 - o.side)) o B.last B.no hok (by omega)
    have MI := match_is (B.side (3 - o.side)) o B.last B.no hok (by omega)
    have hsame := match_same (B.side (3 - o.side)) o B.last B.no hok (by omega)
    generalize matchL o (B.side (3 - o.side)) B.last B.no = m at *
    obtain ⟨a1, a2, a3, a4, a5⟩ := A
    rw [a1] at h1 h2
    have h1 : (decide (0 < m.qty) && !m.self && rests o) = true := h1
    have h2 : m.fs = [] := h2
    have hself : m.self = false := by
      cases hx : m.self with
      | false => rfl
      | true => rw [hx] at h1; simp at h1
    have hl := hsame h2 hself
    have e1 := M.qty
    have e2 := M.last
    have e3 := MI.no
    rw [h2] at e1 e2 e3
    simp only [sumF, lastP, List.length_nil] at e1 e2 e3
    have ew : wqs o m.qty (min o.show_ m.qty) = o := by
      rw [e1, Int.sub_zero, show min o.show_ o.qty = o.show_ by omega]; rfl
    rw [if_pos h1, ew] at a3
    have eB : (badd o B).2 = B.put o.side (restL o (B.side o.side)) := by
      refine bk_eq hs ?_ ?_ ?_ ?_
      · rw [a3, put_side hs]
      · rw [a2, put_other hs, hl]
      · rw [a4, e2]; rcases hs with h | h <;> rw [h] <;> rfl
      · rw [a5, e3]; rcases hs with h | h <;> rw [h] <;> simp [Bk.put]
    rw [eB]
    exact rest_undone hs (hw.side o.side).1 (refused_zero h0).2.2.1
  · rw [refused_is h0] at h1; cases h1
end Go.Proofs.Ytiilndlgfgikbaa

set_option autoImplicit false
set_option linter.unusedSectionVars false
set_option linter.unusedSimpArgs false
set_option linter.unusedVariables false
set_option maxRecDepth 4000
set_option maxHeartbeats 16000000
namespace Go.Proofs.Ytiilndlgfgikbaa
open Go Go.SL Go.Proofs
def iocO (o : Ord) (k : Int) : Ord := ⟨o.trader, o.id, o.firm, o.side, k, if o.price = 0 then 99 else o.price, o.qty, 0, o.stop⟩
def fokO (o : Ord) (k : Int) : Ord := ⟨o.trader, o.id, o.firm, o.side, k, if o.kind = 2 then 100 else o.price, o.qty, 0, o.stop⟩
theorem ioc_right {o : Ord} (h : rightP o) {k : Int} (hk : k = 1 ∨ k = 3) : rightP (iocO o k) := by
  obtain ⟨h1, h2, h3, h4, h5, h6, h7, h8, h9, h10, h11, h12, h13, h14, h15, h16, h17, h18, h19⟩ := h
  refine ⟨h1, h2, h3, h4, h5, h6, h7, h8, by show 1 ≤ k; omega, by show k ≤ 5; omega, h11, h12, Int.le_refl _, by show (0 : Int) ≤ o.qty; omega, h15, h16, ?_, ?_, .inl rfl⟩
  · intro h; have h : k = 2 := h; omega
  · intro _
    show 1 ≤ (if o.price = 0 then 99 else o.price) ∧ (if o.price = 0 then 99 else o.price) ≤ 1048576
    by_cases hp : o.price = 0
    · rw [if_pos hp]; omega
    · rw [if_neg hp]; exact h18 fun h => hp (h17 h)
theorem fok_right {o : Ord} (h : rightP o) {k : Int} (hk : k = 3 ∨ k = 4) : rightP (fokO o k) := by
  obtain ⟨h1, h2, h3, h4, h5, h6, h7, h8, h9, h10, h11, h12, h13, h14, h15, h16, h17, h18, h19⟩ := h
  refine ⟨h1, h2, h3, h4, h5, h6, h7, h8, by show 1 ≤ k; omega, by show k ≤ 5; omega, h11, h12, Int.le_refl _, by show (0 : Int) ≤ o.qty; omega, h15, h16, ?_, ?_, .inl rfl⟩
  · intro h; have h : k = 2 := h; omega
  · intro _
    show 1 ≤ (if o.kind = 2 then 100 else o.price) ∧ (if o.kind = 2 then 100 else o.price) ≤ 1048576
    by_cases hp : o.kind = 2
    · rw [if_pos hp]; omega
    · rw [if_neg hp]; exact h18 hp
theorem alike_of {o o' : Ord} (h1 : o'.firm = o.firm) (h2 : o'.qty = o.qty) (h3 : o'.side = o.side) (h4 : o'.price = o.price) (h5 : o.kind ≠ 2) (h6 : o'.kind ≠ 2) : Alike o o' :=
  ⟨h1, h2, fun p => by unfold crosses; rw [if_neg h5, if_neg h6, h3, h4]⟩
theorem refused_cases {o : Ord} {B : Bk} (h1 : rightP o) (h2 : o.stop = 0) : brefused o B = (if (bfind o.trader o.id B).2 = true then 5 else if rests o = true ∧ 64 ≤ lenL B.buys + lenL B.sells then 4 else if o.kind = 5 ∧ meets o (B.side (3 - o.side)) = true then 11 else if o.kind = 4 ∧ fillsL o (B.side (3 - o.side)) = false then 12 else 0) := by
  have hr : right o = 0 := by unfold right; rw [if_pos h1]
  unfold brefused
  rw [if_neg (by omega)]
variable [Base]
structure IocIs (o : Ord) (B : Bk) : Prop where
  err : (badd (iocO o 1) B).1.err ≠ 0 → ((badd (iocO o 1) B).1.err = 5 ∧ (badd (iocO o 3) B).1.err = 5) ∨ (badd (iocO o 1) B).1.err = 4
  ok : (badd (iocO o 1) B).1.err = 0 → (badd (iocO o 3) B).1.err = 0 ∧ (badd (iocO o 1) B).1.left = (badd (iocO o 3) B).1.left ∧ (badd (iocO o 1) B).1.self = (badd (iocO o 3) B).1.self ∧ (badd (iocO o 1) B).1.fs.length = (badd (iocO o 3) B).1.fs.length
  rest : (badd (iocO o 1) B).1.err = 0 → (badd (iocO o 1) B).1.rests = true → (bremove o.trader o.id (badd (iocO o 1) B).2).2.2 = (badd (iocO o 3) B).2
  none : (badd (iocO o 1) B).1.err = 0 → (badd (iocO o 1) B).1.rests = false → (badd (iocO o 1) B).2 = (badd (iocO o 3) B).2
theorem ioc_is {o : Ord} {B : Bk} (hw : BW B) (hr : rightP o) (hs0 : o.stop = 0) : IocIs o B := by
  have hs : o.side = 1 ∨ o.side = 2 := by unfold rightP at hr; omega
  have hq : 1 ≤ o.qty ∧ o.qty ≤ 1048576 := by unfold rightP at hr; omega
  have r1 := ioc_right hr (k := 1) (.inl rfl)
  have r3 := ioc_right hr (k := 3) (.inr rfl)
  have e1 := refused_cases (B := B) r1 hs0
  have e3 := refused_cases (B := B) r3 hs0
  have hk1 : ¬ ((iocO o 1).kind = 5) := by show ¬ ((1 : Int) = 5); omega
  have hk2 : ¬ ((iocO o 1).kind = 4) := by show ¬ ((1 : Int) = 4); omega
  have hk3 : ¬ ((iocO o 3).kind = 5) := by show ¬ ((3 : Int) = 5); omega
  have hk4 : ¬ ((iocO o 3).kind = 4) := by show ¬ ((3 : Int) = 4); omega
  have hre : ¬ (rests (iocO o 3) = true) := by show ¬ (false = true); simp
  rw [if_neg (show ¬ ((iocO o 1).kind = 5 ∧ meets (iocO o 1) (B.side (3 - (iocO o 1).side)) = true) from fun h => hk1 h.1), if_neg (show ¬ ((iocO o 1).kind = 4 ∧ fillsL (iocO o 1) (B.side (3 - (iocO o 1).side)) = false) from fun h => hk2 h.1)] at e1
  rw [if_neg (show ¬ (rests (iocO o 3) = true ∧ 64 ≤ lenL B.buys + lenL B.sells) from fun h => hre h.1), if_neg (show ¬ ((iocO o 3).kind = 5 ∧ meets (iocO o 3) (B.side (3 - (iocO o 3).side)) = true) from fun h => hk3 h.1), if_neg (show ¬ ((iocO o 3).kind = 4 ∧ fillsL (iocO o 3) (B.side (3 - (iocO o 3).side)) = false) from fun h => hk4 h.1)] at e3
  change brefused (iocO o 1) B = (if (bfind o.trader o.id B).2 = true then 5 else _) at e1
  change brefused (iocO o 3) B = (if (bfind o.trader o.id B).2 = true then 5 else _) at e3
  by_cases hf : (bfind o.trader o.id B).2 = true
  · rw [if_pos hf] at e1 e3
    have x1 := refused_is (o := iocO o 1) (B := B) (by omega)
    have x3 := refused_is (o := iocO o 3) (B := B) (by omega)
    have z1 : (badd (iocO o 1) B).1.err = 5 := by rw [x1]; exact e1
    have z3 : (badd (iocO o 3) B).1.err = 5 := by rw [x3]; exact e3
    exact ⟨fun _ => .inl ⟨z1, z3⟩, fun h => by omega, fun h => by omega, fun h => by omega⟩
  · rw [if_neg hf] at e1 e3
    by_cases hl : rests (iocO o 1) = true ∧ 64 ≤ lenL B.buys + lenL B.sells
    · rw [if_pos hl] at e1
      have x1 := refused_is (o := iocO o 1) (B := B) (by omega)
      have z1 : (badd (iocO o 1) B).1.err = 4 := by rw [x1]; exact e1
      exact ⟨fun _ => .inr z1, fun h => by omega, fun h => by omega, fun h => by omega⟩
    · rw [if_neg hl] at e1
      have A1 := add_is (o := iocO o 1) (B := B) hs e1
      have A3 := add_is (o := iocO o 3) (B := B) hs e3
      have al := match_alike (B.side (3 - o.side)) (iocO o 1) (iocO o 3) B.last B.no (alike_of rfl rfl rfl rfl (by show (1 : Int) ≠ 2; omega) (by show (3 : Int) ≠ 2; omega))
      have M := match_sub (B.side (3 - o.side)) (iocO o 1) B.last B.no (hw.side _).1 (by show 0 ≤ o.qty; omega)
      change AddIs (iocO o 1) B (matchL (iocO o 1) (B.side (3 - o.side)) B.last B.no) at A1
      change AddIs (iocO o 3) B (matchL (iocO o 3) (B.side (3 - o.side)) B.last B.no) at A3
      generalize matchL (iocO o 1) (B.side (3 - o.side)) B.last B.no = m at *
      generalize matchL (iocO o 3) (B.side (3 - o.side)) B.last B.no = m3 at *
      obtain ⟨l1, l2, l3, l4, l5, l6⟩ := al
      obtain ⟨a1, a2, a3, a4, a5⟩ := A1
      obtain ⟨b1, b2, b3, b4, b5⟩ := A3
      rw [if_neg (by simp [rests, iocO])] at b3
      have hlen : m3.fs.length = m.fs.length := by have := congrArg List.length l6; simpa using this
      refine ⟨fun h => absurd (by rw [a1]) h, fun _ => ⟨by rw [b1], by rw [a1, b1]; exact l2.symm, by rw [a1, b1]; exact l3.symm, by rw [a1, b1]; exact hlen.symm⟩, fun _ hrest => ?_, fun _ hrest => ?_⟩
      · rw [a1] at hrest
        have hrest : (decide (0 < m.qty) && !m.self && rests (iocO o 1)) = true := hrest
        rw [if_pos hrest] at a3
        -- the book without the rest
        have eY : (badd (iocO o 1) B).2 = ((badd (iocO o 3) B).2).put o.side (restL (wqs (iocO o 1) m.qty (min (iocO o 1).show_ m.qty)) ((badd (iocO o 3) B).2.side o.side)) := by
          refine bk_eq hs ?_ ?_ ?_ ?_
          · rw [put_side hs]
            have b3 : (badd (iocO o 3) B).2.side o.side = B.side o.side := b3
            rw [b3]; exact a3
          · rw [put_other hs]
            have a2 : (badd (iocO o 1) B).2.side (3 - o.side) = m.lvs := a2
            have b2 : (badd (iocO o 3) B).2.side (3 - o.side) = m3.lvs := b2
            rw [a2, b2, l1]
          · rw [a4]
            have : ((badd (iocO o 3) B).2.put o.side (restL (wqs (iocO o 1) m.qty (min (iocO o 1).show_ m.qty)) ((badd (iocO o 3) B).2.side o.side))).last = (badd (iocO o 3) B).2.last := by rcases hs with h | h <;> rw [h] <;> rfl
            rw [this, b4, l4]
          · rw [a5]
            have : ((badd (iocO o 3) B).2.put o.side (restL (wqs (iocO o 1) m.qty (min (iocO o 1).show_ m.qty)) ((badd (iocO o 3) B).2.side o.side))).no = (badd (iocO o 3) B).2.no := by rcases hs with h | h <;> rw [h] <;> rfl
            rw [this, b5, l5]
        have hnf : (bfind o.trader o.id B).2 = false := by simpa using hf
        have hno : (bfind o.trader o.id (badd (iocO o 3) B).2).2 = false := by
          refine find_sides hs ?_ ?_
          · have b3 : (badd (iocO o 3) B).2.side o.side = B.side o.side := b3
            rw [b3]; exact find_side hnf hs
          · have b2 : (badd (iocO o 3) B).2.side (3 - o.side) = m3.lvs := b2
            rw [b2, l1]
            intro lv ml e me
            obtain ⟨z, mz, -, h2⟩ := M.sub lv ml
            obtain ⟨w, mw, n, h3⟩ := h2 e me
            rw [h3]
            exact find_side hnf (s := 3 - o.side) (by omega) z mz w mw
        have hok : ∀ lv ∈ (badd (iocO o 3) B).2.side o.side, lv.Ok := by
          have b3 : (badd (iocO o 3) B).2.side o.side = B.side o.side := b3
          rw [b3]; exact (hw.side _).1
        have := (rest_undone (o := wqs (iocO o 1) m.qty (min (iocO o 1).show_ m.qty)) (B := (badd (iocO o 3) B).2) hs hok hno).2
        rw [eY]
        have h9 : bremove o.trader o.id ((badd (iocO o 3) B).2.put o.side (restL (wqs (iocO o 1) m.qty (min (iocO o 1).show_ m.qty)) ((badd (iocO o 3) B).2.side o.side))) = (wqs (iocO o 1) m.qty (min (iocO o 1).show_ m.qty), true, (badd (iocO o 3) B).2) := this
        rw [h9]
      · rw [a1] at hrest
        have hrest : (decide (0 < m.qty) && !m.self && rests (iocO o 1)) = false := hrest
        rw [if_neg (by rw [hrest]; simp)] at a3
        refine bk_eq hs ?_ ?_ ?_ ?_
        · exact (a3 : (badd (iocO o 1) B).2.side o.side = B.side o.side).trans (b3 : (badd (iocO o 3) B).2.side o.side = B.side o.side).symm
        · exact (a2 : (badd (iocO o 1) B).2.side (3 - o.side) = m.lvs).trans (l1.symm.trans (b2 : (badd (iocO o 3) B).2.side (3 - o.side) = m3.lvs).symm)
        · rw [a4, b4, l4]
        · rw [a5, b5, l5]
structure FokIs (o : Ord) (B : Bk) : Prop where
  err : (badd (fokO o 3) B).1.err ≠ 0 → (badd (fokO o 4) B).1.err = (badd (fokO o 3) B).1.err
  part : (badd (fokO o 3) B).1.err = 0 → 0 < (badd (fokO o 3) B).1.left → (badd (fokO o 4) B).1.err = 12 ∧ (badd (fokO o 4) B).1.fs = []
  all : (badd (fokO o 3) B).1.err = 0 → ¬ 0 < (badd (fokO o 3) B).1.left → (badd (fokO o 4) B).1.err = 0 ∧ (badd (fokO o 4) B).1.left = 0 ∧ (badd (fokO o 4) B).1.fs.map FK = (badd (fokO o 3) B).1.fs.map FK ∧ (badd (fokO o 4) B).2 = (badd (fokO o 3) B).2
theorem fok_is {o : Ord} {B : Bk} (hw : BW B) (hr : rightP o) (hs0 : o.stop = 0) : FokIs o B := by
  have hs : o.side = 1 ∨ o.side = 2 := by unfold rightP at hr; omega
  have hq : 1 ≤ o.qty ∧ o.qty ≤ 1048576 := by unfold rightP at hr; omega
  have r3 := fok_right hr (k := 3) (.inl rfl)
  have r4 := fok_right hr (k := 4) (.inr rfl)
  have e3 := refused_cases (B := B) r3 hs0
  have e4 := refused_cases (B := B) r4 hs0
  have hk3 : ¬ ((fokO o 3).kind = 5) := by show ¬ ((3 : Int) = 5); omega
  have hk4 : ¬ ((fokO o 3).kind = 4) := by show ¬ ((3 : Int) = 4); omega
  have hk5 : ¬ ((fokO o 4).kind = 5) := by show ¬ ((4 : Int) = 5); omega
  have hre3 : ¬ (rests (fokO o 3) = true) := by show ¬ (false = true); simp
  have hre4 : ¬ (rests (fokO o 4) = true) := by show ¬ (false = true); simp
  rw [if_neg (show ¬ (rests (fokO o 3) = true ∧ 64 ≤ lenL B.buys + lenL B.sells) from fun h => hre3 h.1), if_neg (show ¬ ((fokO o 3).kind = 5 ∧ meets (fokO o 3) (B.side (3 - (fokO o 3).side)) = true) from fun h => hk3 h.1), if_neg (show ¬ ((fokO o 3).kind = 4 ∧ fillsL (fokO o 3) (B.side (3 - (fokO o 3).side)) = false) from fun h => hk4 h.1)] at e3
  rw [if_neg (show ¬ (rests (fokO o 4) = true ∧ 64 ≤ lenL B.buys + lenL B.sells) from fun h => hre4 h.1), if_neg (show ¬ ((fokO o 4).kind = 5 ∧ meets (fokO o 4) (B.side (3 - (fokO o 4).side)) = true) from fun h => hk5 h.1)] at e4
  change brefused (fokO o 3) B = (if (bfind o.trader o.id B).2 = true then 5 else _) at e3
  change brefused (fokO o 4) B = (if (bfind o.trader o.id B).2 = true then 5 else _) at e4
  by_cases hf : (bfind o.trader o.id B).2 = true
  · rw [if_pos hf] at e3 e4
    have x3 := refused_is (o := fokO o 3) (B := B) (by omega)
    have x4 := refused_is (o := fokO o 4) (B := B) (by omega)
    have z3 : (badd (fokO o 3) B).1.err = 5 := by rw [x3]; exact e3
    have z4 : (badd (fokO o 4) B).1.err = 5 := by rw [x4]; exact e4
    exact ⟨fun _ => by rw [z3, z4], fun h => by omega, fun h => by omega⟩
  · rw [if_neg hf] at e3 e4
    have A3 := add_is (o := fokO o 3) (B := B) hs e3
    have ali : Alike (fokO o 3) (fokO o 4) := alike_of rfl rfl rfl rfl (by show (3 : Int) ≠ 2; omega) (by show (4 : Int) ≠ 2; omega)
    have al := match_alike (B.side (3 - o.side)) (fokO o 3) (fokO o 4) B.last B.no ali
    have fa := fillsL_alike (B.side (3 - o.side)) (fokO o 3) (fokO o 4) ali
    have fi := fills_iff (B.side (3 - o.side)) (fokO o 3) B.last B.no (hw.side _).1 (by show 0 < o.qty; omega)
    have MI := match_is (B.side (3 - o.side)) (fokO o 3) B.last B.no (hw.side _).1 (by show 0 ≤ o.qty; omega)
    change AddIs (fokO o 3) B (matchL (fokO o 3) (B.side (3 - o.side)) B.last B.no) at A3
    change brefused (fokO o 4) B = (if (fokO o 4).kind = 4 ∧ fillsL (fokO o 4) (B.side (3 - o.side)) = false then 12 else 0) at e4
    obtain ⟨b1, b2, b3, b4, b5⟩ := A3
    have hleft : (badd (fokO o 3) B).1.left = (matchL (fokO o 3) (B.side (3 - o.side)) B.last B.no).qty := by rw [b1]
    have herr : (badd (fokO o 3) B).1.err = 0 := by rw [b1]
    have hqn := MI.qty.1
    refine ⟨fun h => absurd herr h, fun _ hl => ?_, fun _ hl => ?_⟩
    · rw [hleft] at hl
      have hfl : fillsL (fokO o 4) (B.side (3 - o.side)) = false := by
        rw [fa]
        cases hx : fillsL (fokO o 3) (B.side (3 - o.side)) with
        | false => rfl
        | true => have := fi.1 hx; omega
      rw [if_pos ⟨rfl, hfl⟩] at e4
      have x4 := refused_is (o := fokO o 4) (B := B) (by omega)
      rw [x4]; exact ⟨e4, rfl⟩
    · rw [hleft] at hl
      have hfl : fillsL (fokO o 4) (B.side (3 - o.side)) = true := by rw [fa]; exact fi.2 (by omega)
      rw [if_neg (fun h => by rw [hfl] at h; cases h.2)] at e4
      have A4 := add_is (o := fokO o 4) (B := B) hs e4
      change AddIs (fokO o 4) B (matchL (fokO o 4) (B.side (3 - o.side)) B.last B.no) at A4
      obtain ⟨a1, a2, a3, a4, a5⟩ := A4
      generalize matchL (fokO o 4) (B.side (3 - o.side)) B.last B.no = m4 at *
      generalize matchL (fokO o 3) (B.side (3 - o.side)) B.last B.no = m3 at *
      obtain ⟨l1, l2, l3, l4, l5, l6⟩ := al
      rw [if_neg (by simp [rests, fokO])] at a3 b3
      refine ⟨by rw [a1], by rw [a1]; show m4.qty = 0; omega, by rw [a1, b1]; exact l6, bk_eq hs ?_ ?_ ?_ ?_⟩
      · exact (a3 : (badd (fokO o 4) B).2.side o.side = B.side o.side).trans (b3 : (badd (fokO o 3) B).2.side o.side = B.side o.side).symm
      · exact (a2 : (badd (fokO o 4) B).2.side (3 - o.side) = m4.lvs).trans (l1.trans (b2 : (badd (fokO o 3) B).2.side (3 - o.side) = m3.lvs).symm)
      · rw [a4, b4, l4]
      · rw [a5, b5, l5]
end Go.Proofs.Ytiilndlgfgikbaa

set_option autoImplicit false
set_option linter.unusedSectionVars false
set_option linter.unusedSimpArgs false
set_option linter.unusedVariables false
set_option maxRecDepth 4000
namespace Go.Proofs.Ytiilndlgfgikbaa
open Go Go.SL Go.Proofs
/-- Quantities by their price. -/
def accP (l : List (Int × Int)) (o : Ord) : List (Int × Int) := putI o.price (getI o.price l + o.qty) l
def sumV : List (Int × Int) → Int
  | [] => 0
  | p :: l => p.2 + sumV l
theorem put_fresh {k v : Int} : ∀ {l : List (Int × Int)}, (∀ p ∈ l, p.1 ≠ k) → putI k v l = l ++ [(k, v)] ∧ getI k l = 0
  | [], _ => ⟨rfl, rfl⟩
  | p :: l, h => by
    have h1 : (k == p.1) = false := by have := h p (List.mem_cons_self ..); simp; omega
    obtain ⟨i1, i2⟩ := put_fresh (k := k) (v := v) (l := l) fun q m => h q (List.mem_cons_of_mem _ m)
    simp only [putI, getI, h1, i1, i2]; simp
theorem put_last {k u v : Int} : ∀ {l : List (Int × Int)}, (∀ p ∈ l, p.1 ≠ k) → putI k v (l ++ [(k, u)]) = l ++ [(k, v)] ∧ getI k (l ++ [(k, u)]) = u
  | [], _ => by simp [putI, getI]
  | p :: l, h => by
    have h1 : (k == p.1) = false := by have := h p (List.mem_cons_self ..); simp; omega
    obtain ⟨i1, i2⟩ := put_last (k := k) (u := u) (v := v) (l := l) fun q m => h q (List.mem_cons_of_mem _ m)
    simp only [List.cons_append, putI, getI, h1, i1, i2]; simp
theorem acc_more {k : Int} {l : List (Int × Int)} (h : ∀ p ∈ l, p.1 ≠ k) : ∀ {os : List Ord} {u : Int}, (∀ o ∈ os, o.price = k) → os.foldl accP (l ++ [(k, u)]) = l ++ [(k, u + sumO os)]
  | [], u, _ => by simp [sumO]
  | o :: os, u, ho => by
    have h1 := ho o (List.mem_cons_self ..)
    obtain ⟨p1, p2⟩ := put_last (k := k) (u := u) (v := u + o.qty) h
    rw [List.foldl_cons]
    have e : accP (l ++ [(k, u)]) o = l ++ [(k, u + o.qty)] := by unfold accP; rw [h1, p2, p1]
    rw [e, acc_more h fun x m => ho x (List.mem_cons_of_mem _ m)]
    simp only [sumO]
    rw [Int.add_assoc]
theorem acc_level {k : Int} {l : List (Int × Int)} (h : ∀ p ∈ l, p.1 ≠ k) {os : List Ord} (hne : os ≠ []) (ho : ∀ o ∈ os, o.price = k) : os.foldl accP l = l ++ [(k, sumO os)] := by
  cases os with
  | nil => exact absurd rfl hne
  | cons o os =>
    have h1 := ho o (List.mem_cons_self ..)
    obtain ⟨p1, p2⟩ := put_fresh (k := k) (v := 0 + o.qty) h
    rw [List.foldl_cons]
    have e : accP l o = l ++ [(k, 0 + o.qty)] := by unfold accP; rw [h1, p2, p1]
    rw [e, acc_more h fun x m => ho x (List.mem_cons_of_mem _ m)]
    simp only [sumO, Int.zero_add]
theorem sumO_es (es : List Ent) : sumO (es.map (·.o)) = sumE (fun x => x.o.qty) es := by
  induction es with
  | nil => rfl
  | cons e es ih => simp only [List.map_cons, sumO, sumE, ih]
def wholes (l : List Lv) : List (Int × Int) := l.map fun lv => (lv.p, sumE (fun x => x.o.qty) lv.es)
theorem better_ne {s a b : Int} (h : better s a b = true) : a ≠ b := by
  intro e; rw [e, better_self] at h; cases h
theorem acc_levels {s : Int} : ∀ {lvs : List Lv} {l : List (Int × Int)}, Srt s lvs → AtS s lvs → (∀ lv ∈ lvs, lv.es ≠ []) → (∀ p ∈ l, ∀ lv ∈ lvs, p.1 ≠ lv.p) → (ordersL lvs).foldl accP l = l ++ wholes lvs
  | [], l, _, _, _, _ => by simp [ordersL, wholes]
  | lv :: r, l, h1, h2, h3, h4 => by
    have hp := List.pairwise_cons.1 h1
    unfold ordersL
    rw [List.foldl_append, acc_level (k := lv.p) (fun p m => h4 p m lv (List.mem_cons_self ..)) (by simpa using h3 lv (List.mem_cons_self ..)) (fun o ho => by
      obtain ⟨e, me, rfl⟩ := List.mem_map.1 ho
      exact (h2 lv (List.mem_cons_self ..) e me).2)]
    rw [acc_levels (s := s) hp.2 (fun x m => h2 x (List.mem_cons_of_mem _ m)) (fun x m => h3 x (List.mem_cons_of_mem _ m)) (fun p m x mx => by
      rcases List.mem_append.1 m with m | m
      · exact h4 p m x (List.mem_cons_of_mem _ mx)
      · simp only [List.mem_singleton] at m
        subst m
        exact better_ne (hp.1 x.p (List.mem_map_of_mem mx)))]
    rw [sumO_es, List.append_assoc]; rfl
theorem wholes_get {s : Int} : ∀ {lvs : List Lv} {i : Nat} {lv : Lv}, Srt s lvs → lvs[i]? = some lv → getI lv.p (wholes lvs) = sumE (fun x => x.o.qty) lv.es
  | [], _, _, _, h => by simp at h
  | x :: r, 0, lv, _, h => by simp at h; subst h; simp [wholes, getI]
  | x :: r, i + 1, lv, h1, h => by
    have h : r[i]? = some lv := by simpa using h
    have hp := List.pairwise_cons.1 h1
    have hne : x.p ≠ lv.p := better_ne (hp.1 lv.p (List.mem_map_of_mem (List.mem_of_getElem? h)))
    have : (lv.p == x.p) = false := by simp; omega
    show (if lv.p == x.p then _ else getI lv.p (wholes r)) = _
    rw [this]
    exact wholes_get (s := s) hp.2 h
theorem sumV_put {k q : Int} : ∀ (l : List (Int × Int)), sumV (putI k (getI k l + q) l) = sumV l + q
  | [] => by simp [putI, getI, sumV]
  | p :: l => by
    cases h : k == p.1 with
    | true => simp only [putI, getI, h, if_true, sumV]; omega
    | false => simp only [putI, getI, h, Bool.false_eq_true, if_false, sumV, sumV_put l]; omega
theorem nonneg_put {k v : Int} (hv : 0 ≤ v) : ∀ {l : List (Int × Int)}, (∀ p ∈ l, 0 ≤ p.2) → ∀ p ∈ putI k v l, 0 ≤ p.2
  | [], _, p, m => by simp [putI] at m; subst m; exact hv
  | x :: l, h, p, m => by
    unfold putI at m
    split at m
    · rcases List.mem_cons.1 m with rfl | m
      · exact hv
      · exact h p (List.mem_cons_of_mem _ m)
    · rcases List.mem_cons.1 m with rfl | m
      · exact h _ (List.mem_cons_self ..)
      · exact nonneg_put hv (fun q mq => h q (List.mem_cons_of_mem _ mq)) p m
theorem getI_le {k : Int} : ∀ {l : List (Int × Int)}, (∀ p ∈ l, 0 ≤ p.2) → 0 ≤ getI k l ∧ getI k l ≤ sumV l ∧ 0 ≤ sumV l
  | [], _ => by simp [getI, sumV]
  | p :: l, h => by
    have h1 := h p (List.mem_cons_self ..)
    have ih := getI_le (k := k) (l := l) fun q m => h q (List.mem_cons_of_mem _ m)
    unfold getI
    simp only [sumV]
    split <;> omega
theorem acc_ok : ∀ {os : List Ord} {l : List (Int × Int)}, (∀ o ∈ os, 1 ≤ o.qty) → (∀ p ∈ l, 0 ≤ p.2) → (∀ p ∈ os.foldl accP l, 0 ≤ p.2) ∧ sumV (os.foldl accP l) = sumV l + sumO os
  | [], l, _, h => ⟨h, by simp [sumO]⟩
  | o :: os, l, ho, h => by
    have h1 := ho o (List.mem_cons_self ..)
    have hg := getI_le (k := o.price) h
    obtain ⟨i1, i2⟩ := acc_ok (os := os) (l := accP l o) (fun x m => ho x (List.mem_cons_of_mem _ m)) (nonneg_put (by omega) h)
    refine ⟨i1, ?_⟩
    rw [List.foldl_cons, i2]
    unfold accP
    rw [sumV_put]; simp only [sumO]; omega
theorem fold_take {l : List Ord} {i : Nat} {x : Ord} (h : l[i]? = some x) : (l.take (i + 1)).foldl accP [] = accP ((l.take i).foldl accP []) x := by
  have hi := (List.getElem?_eq_some_iff.1 h).1
  rw [List.take_succ_eq_append_getElem hi, List.foldl_append, (List.getElem?_eq_some_iff.1 h).2]; rfl
theorem sum_seen {es : List Ent} (h : ∀ x ∈ es, 1 ≤ x.o.qty ∧ x.o.qty ≤ 1048576 ∧ 1 ≤ x.seen ∧ x.seen ≤ x.o.qty) : sumE (fun x => x.seen) es ≤ sumE (fun x => x.o.qty) es ∧ (es ≠ [] → 1 ≤ sumE (fun x => x.seen) es) ∧ 0 ≤ sumE (fun x => x.seen) es := by
  induction es with
  | nil => exact ⟨Int.le_refl _, fun h => absurd rfl h, Int.le_refl _⟩
  | cons e es ih =>
    have h1 := h e (List.mem_cons_self ..)
    have ih := ih fun x m => h x (List.mem_cons_of_mem _ m)
    simp only [sumE]
    refine ⟨by omega, fun _ => by omega, by omega⟩
variable [Base]
/-- What depth tells at a place. -/
theorem depth_at {s : Int} {l : List Lv} (hok : ∀ lv ∈ l, lv.Ok) (h1 : Srt s l) {i : Nat} {x : Ord × Int} (hx : (depthL s l)[i]? = some x) : 1 ≤ x.2 ∧ x.2 ≤ getI x.1.price (wholes l) ∧ ∀ y, 0 < i → (depthL s l)[i - 1]? = some y → better s y.1.price x.1.price = true := by
  unfold depthL at hx ⊢
  rw [List.getElem?_map, Option.map_eq_some_iff] at hx
  obtain ⟨lv, hlv, rfl⟩ := hx
  have hl := hok lv (List.mem_of_getElem? hlv)
  obtain ⟨s1, s2, -⟩ := sum_seen hl.1.2
  refine ⟨s2 hl.2, ?_, fun y hi hy => ?_⟩
  · show _ ≤ getI lv.p (wholes l)
    rw [wholes_get h1 hlv]; exact s1
  · rw [List.getElem?_map, Option.map_eq_some_iff] at hy
    obtain ⟨lw, hlw, rfl⟩ := hy
    show better s lw.p lv.p = true
    obtain ⟨ha, rfl⟩ := List.getElem?_eq_some_iff.1 hlv
    obtain ⟨hb, rfl⟩ := List.getElem?_eq_some_iff.1 hlw
    have := List.pairwise_iff_getElem.1 h1 (i - 1) i (by rw [List.length_map]; exact hb) (by rw [List.length_map]; exact ha) (by omega)
    simpa using this
end Go.Proofs.Ytiilndlgfgikbaa
