/- Contracts of functions of the given program over its translation, each proved by walking its text; used by the laws' rows. It proves no given statement by itself. -/
import Derived.Test.YtfhpoagnfmgfkaaSLBk4
set_option autoImplicit false
set_option linter.unusedSectionVars false
set_option linter.unusedSimpArgs false
set_option linter.unusedVariables false
set_option maxRecDepth 4000
set_option maxHeartbeats 16000000
namespace Go.Proofs.Ytfhpoagnfmgfkaa
open Go Go.SL Go.Proofs
/-- A trade. -/
structure Fl where
  (maker taker : Ord)
  (price qty no : Int)
def fcell (f : Fl) : List Value := [.int .i64 f.maker.trader, .int .i64 f.maker.id, .int .i64 f.maker.firm, .int .i64 f.maker.side, .int .i64 f.maker.kind, .int .i64 f.maker.price, .int .i64 f.maker.qty, .int .i64 f.maker.show_, .int .i64 f.maker.stop,
  .int .i64 f.taker.trader, .int .i64 f.taker.id, .int .i64 f.taker.firm, .int .i64 f.taker.side, .int .i64 f.taker.kind, .int .i64 f.taker.price, .int .i64 f.taker.qty, .int .i64 f.taker.show_, .int .i64 f.taker.stop, .int .i64 f.price, .int .i64 f.qty, .int .i64 f.no]
theorem fcell_len (f : Fl) : (fcell f).length = 21 := rfl
theorem fcell_cells (f : Fl) : allCells (fcell f) = true := rfl
def sumH : List (Ord × Int) → Int
  | [] => 0
  | h :: l => h.2 + sumH l
theorem sumH_append (l m : List (Ord × Int)) : sumH (l ++ m) = sumH l + sumH m := by
  induction l with
  | nil => simp [sumH]
  | cons x l ih => simp only [List.cons_append, sumH, ih]; omega
/-- The trades that hits make. -/
def flls (o : Ord) (p : Int) : Int → List (Ord × Int) → List Fl
  | _, [] => []
  | no, h :: r => ⟨h.1, o, p, h.2, no + 1⟩ :: flls (wq o (o.qty - h.2)) p (no + 1) r
theorem wq_wq (o : Ord) (a b : Int) : wq (wq o a) b = wq o b := rfl
theorem wq_self (o : Ord) : wq o o.qty = o := rfl
theorem flls_len (o : Ord) (p no : Int) (l : List (Ord × Int)) : (flls o p no l).length = l.length := by
  induction l generalizing o no with
  | nil => rfl
  | cons h r ih => simp only [flls, List.length_cons, ih]
theorem flls_snoc (o : Ord) (p no : Int) (l : List (Ord × Int)) (h : Ord × Int) : flls o p no (l ++ [h]) = flls o p no l ++ [⟨h.1, wq o (o.qty - sumH l), p, h.2, no + l.length + 1⟩] := by
  induction l generalizing o no with
  | nil => simp only [List.nil_append, flls, sumH, Int.sub_zero, List.length_nil, Int.natCast_zero, Int.add_zero]; rfl
  | cons a r ih =>
    simp only [List.cons_append, flls, ih, sumH, List.length_cons, wq_wq]
    congr 3
    rw [show (wq o (o.qty - a.2)).qty = o.qty - a.2 from rfl]
    congr 1
    · congr 1; omega
    · push_cast; omega
structure MR where
  fs : List Fl
  qty : Int
  self : Bool
  lvs : List Lv
  last : Int
  no : Int
def MR.pre (out : List Fl) (m : MR) : MR := ⟨out ++ m.fs, m.qty, m.self, m.lvs, m.last, m.no⟩
/-- What a book's side gives to an order. -/
def matchL : Ord → List Lv → Int → Int → MR
  | o, [], last, no => ⟨[], o.qty, false, [], last, no⟩
  | o, lv :: r, last, no =>
    if 0 < o.qty ∧ crosses o lv.p = true then
      if (take o.firm o.qty lv.es).2.1 = true then
        ⟨flls o lv.p no (take o.firm o.qty lv.es).1, o.qty - sumH (take o.firm o.qty lv.es).1, true, (if (take o.firm o.qty lv.es).2.2 = [] then r else ⟨lv.p, (take o.firm o.qty lv.es).2.2⟩ :: r),
          (if (take o.firm o.qty lv.es).1 = [] then last else lv.p), no + (take o.firm o.qty lv.es).1.length⟩
      else if (take o.firm o.qty lv.es).2.2 = [] then
        (matchL (wq o (o.qty - sumH (take o.firm o.qty lv.es).1)) r (if (take o.firm o.qty lv.es).1 = [] then last else lv.p) (no + (take o.firm o.qty lv.es).1.length)).pre (flls o lv.p no (take o.firm o.qty lv.es).1)
      else
        ⟨flls o lv.p no (take o.firm o.qty lv.es).1, o.qty - sumH (take o.firm o.qty lv.es).1, false, ⟨lv.p, (take o.firm o.qty lv.es).2.2⟩ :: r, (if (take o.firm o.qty lv.es).1 = [] then last else lv.p), no + (take o.firm o.qty lv.es).1.length⟩
    else ⟨[], o.qty, false, lv :: r, last, no⟩
/-- What is so of every take. -/
structure TakeIs (firm q : Int) (es : List Ent) (r : List (Ord × Int) × Bool × List Ent) : Prop where
  hits : ∀ h ∈ r.1, 1 ≤ h.2 ∧ h.2 ≤ h.1.qty ∧ h.1.firm ≠ firm
  sum : sumE (fun x => x.o.qty) es = sumH r.1 + sumE (fun x => x.o.qty) r.2.2
  le : 0 ≤ sumH r.1 ∧ sumH r.1 ≤ q
  num : (r.1.length : Int) ≤ sumH r.1
  own : r.2.1 = true → ∃ e l, r.2.2 = e :: l ∧ e.o.firm = firm ∧ sumH r.1 < q
  all : r.2.1 = false → sumH r.1 = q ∨ r.2.2 = []
  lb : LB r.2.2
  len : r.2.2.length ≤ es.length
variable [Base]
theorem take_is {firm : Int} (k : Nat) : ∀ (q : Int) (es : List Ent), q.toNat ≤ k → 0 ≤ q → LB es → TakeIs firm q es (take firm q es) := by
  induction k with
  | zero =>
    intro q es hk hq hb
    have : q = 0 := by omega
    subst this
    rw [take_le (by omega)]
    exact ⟨fun h m => (nomatch m), by simp [sumH], by simp [sumH], by simp [sumH], fun h => (nomatch h), fun _ => .inl rfl, hb, Nat.le_refl _⟩
  | succ k ih =>
    intro q es hk hq hb
    by_cases h0 : 0 < q
    · cases es with
      | nil => rw [take_nil]; exact ⟨fun h m => (nomatch m), by simp [sumH], by simp [sumH]; omega, by simp [sumH], fun h => (nomatch h), fun _ => .inr rfl, hb, Nat.le_refl _⟩
      | cons e l =>
        have he := hb.2 e (by simp)
        by_cases hf : e.o.firm = firm
        · rw [take_own h0 hf]
          exact ⟨fun h m => (nomatch m), by simp [sumH], by simp [sumH]; omega, by simp [sumH], fun _ => ⟨e, l, rfl, hf, by simpa [sumH] using h0⟩, fun h => (nomatch h), hb, Nat.le_refl _⟩
        · rw [take_cons h0 hf he.2.2.1]
          have hg := giveE_LB (n := min q e.seen) hb (by omega) (by omega)
          obtain ⟨i1, i2, i3, i3b, i4, i5, i6, i7⟩ := ih (q - min q e.seen) (giveE e l (min q e.seen)) (by omega) (by omega) hg.1
          rw [giveE_sum (by omega) (by omega)] at i2
          refine ⟨fun h m => ?_, ?_, ?_, ?_, fun h => ?_, fun h => ?_, i6, ?_⟩
          · rcases List.mem_cons.1 m with rfl | m
            · dsimp only; exact ⟨by omega, by omega, hf⟩
            · exact i1 h m
          · simp only [sumE, sumH]; omega
          · simp only [sumH]; omega
          · simp only [sumH, List.length_cons]; push_cast; omega
          · obtain ⟨e2, l2, h1, h2, h3⟩ := i4 h
            exact ⟨e2, l2, h1, h2, by simp only [sumH]; omega⟩
          · rcases i5 h with h1 | h1
            · exact .inl (by simp only [sumH]; omega)
            · exact .inr h1
          · exact Nat.le_trans i7 hg.2
    · have : q = 0 := by omega
      subst this
      rw [take_le (by omega)]
      exact ⟨fun h m => (nomatch m), by simp [sumH], by simp [sumH], by simp [sumH], fun h => (nomatch h), fun _ => .inl rfl, hb, Nat.le_refl _⟩
theorem sumH_take {l : List (Ord × Int)} {i : Nat} {x : Ord × Int} (h : l[i]? = some x) : sumH (l.take (i + 1)) = sumH (l.take i) + x.2 := by
  have hi := (List.getElem?_eq_some_iff.1 h).1
  rw [List.take_succ_eq_append_getElem hi, sumH_append, (List.getElem?_eq_some_iff.1 h).2]; simp [sumH]
theorem sumH_part {l : List (Ord × Int)} (h : ∀ x ∈ l, 1 ≤ x.2) (i : Nat) : 0 ≤ sumH (l.take i) ∧ sumH (l.take i) ≤ sumH l := by
  have pos : ∀ m : List (Ord × Int), (∀ x ∈ m, 1 ≤ x.2) → 0 ≤ sumH m := by
    intro m hm
    induction m with
    | nil => exact Int.le_refl _
    | cons y m ih =>
      have h1 := ih fun z hz => hm z (List.mem_cons_of_mem _ hz)
      have h2 := hm y (List.mem_cons_self ..)
      simp only [sumH]; omega
  have e : sumH l = sumH (l.take i) + sumH (l.drop i) := by rw [← sumH_append, List.take_append_drop]
  have h1 := pos (l.take i) fun x m => h x (List.mem_of_mem_take m)
  have h2 := pos (l.drop i) fun x m => h x (List.mem_of_mem_drop m)
  omega
theorem matchL_zero (o : Ord) (l : List Lv) (last no : Int) (h : ¬ 0 < o.qty) : matchL o l last no = ⟨[], o.qty, false, l, last, no⟩ := by
  cases l with
  | nil => rfl
  | cons lv r => unfold matchL; rw [if_neg (fun h9 => h h9.1)]
end Go.Proofs.Ytfhpoagnfmgfkaa
