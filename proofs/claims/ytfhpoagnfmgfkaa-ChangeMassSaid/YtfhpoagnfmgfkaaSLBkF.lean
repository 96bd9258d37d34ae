/- Contracts of functions of the given program over its translation, each proved by walking its text; used by the laws' rows. It proves no given statement by itself. -/
import Derived.Test.YtfhpoagnfmgfkaaSLBkW
set_option autoImplicit false
set_option linter.unusedSectionVars false
set_option linter.unusedSimpArgs false
set_option linter.unusedVariables false
set_option maxRecDepth 4000
namespace Go.Proofs.Ytfhpoagnfmgfkaa
open Go Go.SL Go.Proofs
/-! The same by fuel: closed sentences are reckoned so. -/
def takeF : Nat → Int → Int → List Ent → List (Ord × Int) × Bool × List Ent
  | 0, _, _, es => ([], false, es)
  | n + 1, firm, q, es =>
    if 0 < q then
      match es with
      | [] => ([], false, [])
      | e :: l =>
        if e.o.firm = firm then ([], true, e :: l)
        else if 0 < min q e.seen then
          ((e.o, min q e.seen) :: (takeF n firm (q - min q e.seen) (giveE e l (min q e.seen))).1, (takeF n firm (q - min q e.seen) (giveE e l (min q e.seen))).2)
        else ([], false, e :: l)
    else ([], false, es)
theorem take_eqF : ∀ (n : Nat) (firm q : Int) (es : List Ent), q.toNat ≤ n → take firm q es = takeF n firm q es
  | 0, firm, q, es, h => by rw [take_le (by omega)]; rfl
  | n + 1, firm, q, es, h => by
    rw [take.eq_def]
    unfold takeF
    split
    · cases es with
      | nil => rfl
      | cons e l =>
        dsimp only
        split
        · rfl
        · split
          · rename_i hn
            rw [take_eqF n _ _ _ (by omega)]
          · rfl
    · rfl
theorem takeF_pos : ∀ (n : Nat) (firm q : Int) (es : List Ent), 0 ≤ sumH (takeF n firm q es).1
  | 0, firm, q, es => by simp [takeF, sumH]
  | n + 1, firm, q, es => by
    unfold takeF
    split
    · cases es with
      | nil => simp [sumH]
      | cons e l =>
        dsimp only
        split
        · simp [sumH]
        · split
          · rename_i hn
            have := takeF_pos n firm (q - min q e.seen) (giveE e l (min q e.seen))
            simp only [sumH]; omega
          · simp [sumH]
    · simp [sumH]
def matchF (n : Nat) : Ord → List Lv → Int → Int → MR
  | o, [], last, no => ⟨[], o.qty, false, [], last, no⟩
  | o, lv :: r, last, no =>
    if 0 < o.qty ∧ crosses o lv.p = true then
      if (takeF n o.firm o.qty lv.es).2.1 = true then
        ⟨flls o lv.p no (takeF n o.firm o.qty lv.es).1, o.qty - sumH (takeF n o.firm o.qty lv.es).1, true, (if (takeF n o.firm o.qty lv.es).2.2.isEmpty = true then r else ⟨lv.p, (takeF n o.firm o.qty lv.es).2.2⟩ :: r),
          (if (takeF n o.firm o.qty lv.es).1.isEmpty = true then last else lv.p), no + (takeF n o.firm o.qty lv.es).1.length⟩
      else if (takeF n o.firm o.qty lv.es).2.2.isEmpty = true then
        (matchF n (wq o (o.qty - sumH (takeF n o.firm o.qty lv.es).1)) r (if (takeF n o.firm o.qty lv.es).1.isEmpty = true then last else lv.p) (no + (takeF n o.firm o.qty lv.es).1.length)).pre (flls o lv.p no (takeF n o.firm o.qty lv.es).1)
      else
        ⟨flls o lv.p no (takeF n o.firm o.qty lv.es).1, o.qty - sumH (takeF n o.firm o.qty lv.es).1, false, ⟨lv.p, (takeF n o.firm o.qty lv.es).2.2⟩ :: r, (if (takeF n o.firm o.qty lv.es).1.isEmpty = true then last else lv.p), no + (takeF n o.firm o.qty lv.es).1.length⟩
    else ⟨[], o.qty, false, lv :: r, last, no⟩
theorem ite_nil {α β : Type} [DecidableEq β] {l : List α} {x y : β} [Decidable (l = [])] : (if l = [] then x else y) = (if l.isEmpty = true then x else y) := by
  cases l <;> simp
theorem match_eqF (n : Nat) : ∀ (l : List Lv) (o : Ord) (last no : Int), o.qty.toNat ≤ n → matchL o l last no = matchF n o l last no
  | [], _, _, _, _ => rfl
  | lv :: r, o, last, no, h => by
    have hp := takeF_pos n o.firm o.qty lv.es
    have ih := match_eqF n r (wq o (o.qty - sumH (takeF n o.firm o.qty lv.es).1)) (if (takeF n o.firm o.qty lv.es).1.isEmpty = true then last else lv.p) (no + (takeF n o.firm o.qty lv.es).1.length) (by show (o.qty - _).toNat ≤ n; omega)
    unfold matchL matchF
    rw [take_eqF n _ _ _ h]
    simp only [← List.isEmpty_iff, ih]
def findF (t i : Int) : List Lv → Option (Nat × Ord) := findL t i
def baddF (n : Nat) (o : Ord) (B : Bk) : Out × Bk :=
  if brefused o B ≠ 0 then (⟨o, [], o.qty, false, false, false, brefused o B⟩, B)
  else
    let m := matchF n o (B.side (3 - o.side)) B.last B.no
    let B1 := (B.put (3 - o.side) m.lvs).tell m.last m.no
    let r := decide (0 < m.qty) && !m.self && rests o
    (⟨o, m.fs, m.qty, r, false, m.self, 0⟩, if r = true then B1.put o.side (restL (wqs o m.qty (min o.show_ m.qty)) (B1.side o.side)) else B1)
theorem badd_eqF (n : Nat) (o : Ord) (B : Bk) (h : o.qty.toNat ≤ n) : badd o B = baddF n o B := by
  unfold badd baddF
  rw [match_eqF n _ _ _ _ h]
def rA : Ord := ⟨1, 1, 1, 2, 1, 10, 5, 0, 0⟩
def rB : Ord := ⟨2, 1, 2, 2, 1, 9, 5, 0, 0⟩
def rC : Ord := ⟨3, 1, 3, 1, 1, 10, 7, 0, 0⟩
def rD : Ord := ⟨3, 2, 3, 1, 4, 10, 9, 0, 0⟩
def rE : Ord := ⟨1, 2, 1, 1, 1, 10, 1, 0, 0⟩
def b1 : Bk := ⟨[], [⟨10, [⟨rA, 5⟩]⟩], 0, 0⟩
def b2 : Bk := ⟨[], [⟨9, [⟨rB, 5⟩]⟩, ⟨10, [⟨rA, 5⟩]⟩], 0, 0⟩
def b3 : Bk := ⟨[], [⟨10, [⟨wq rA 3, 3⟩]⟩], 10, 2⟩
theorem r1e : badd rA empty = (⟨rA, [], 5, true, false, false, 0⟩, b1) := (badd_eqF 16 _ _ (by decide)).trans (by kernel_rfl)
theorem r2e : badd rB b1 = (⟨rB, [], 5, true, false, false, 0⟩, b2) := (badd_eqF 16 _ _ (by decide)).trans (by kernel_rfl)
theorem r3e : badd rC b2 = (⟨rC, [⟨rB, rC, 9, 5, 1⟩, ⟨rA, wq rC 2, 10, 2, 2⟩], 0, false, false, false, 0⟩, b3) := (badd_eqF 16 _ _ (by decide)).trans (by kernel_rfl)
theorem r4e : badd rD b3 = (⟨rD, [], 9, false, false, false, 12⟩, b3) := (badd_eqF 16 _ _ (by decide)).trans (by kernel_rfl)
theorem r5e : badd rE b3 = (⟨rE, [], 1, false, false, true, 0⟩, b3) := (badd_eqF 16 _ _ (by decide)).trans (by kernel_rfl)
end Go.Proofs.Ytfhpoagnfmgfkaa
