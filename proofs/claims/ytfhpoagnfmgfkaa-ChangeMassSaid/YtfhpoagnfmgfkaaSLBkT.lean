/- Contracts of functions of the given program over its translation, each proved by walking its text; used by the laws' rows. It proves no given statement by itself. -/
import Derived.Test.YtfhpoagnfmgfkaaSLSlcI
import Derived.Test.YtfhpoagnfmgfkaaSLOrdB
import Derived.Test.YtfhpoagnfmgfkaaSLLvlDX
import Derived.Test.YtfhpoagnfmgfkaaSLSame
set_option autoImplicit false
set_option linter.unusedSectionVars false
set_option linter.unusedSimpArgs false
set_option linter.unusedVariables false
set_option maxRecDepth 4000
namespace Go.Proofs.Ytfhpoagnfmgfkaa
open Go Go.SL Go.Proofs
/-- A level, a book, by their orders. -/
structure Lv where
  p : Int
  es : List Ent
structure Bk where
  (buys sells : List Lv)
  (last no : Int)
def Bk.side (B : Bk) (s : Int) : List Lv := if s = 1 then B.buys else if s = 2 then B.sells else []
def Bk.put (B : Bk) (s : Int) (l : List Lv) : Bk := if s = 1 then ⟨l, B.sells, B.last, B.no⟩ else ⟨B.buys, l, B.last, B.no⟩
def Bk.tell (B : Bk) (last no : Int) : Bk := ⟨B.buys, B.sells, last, no⟩
def empty : Bk := ⟨[], [], 0, 0⟩
def lenL : List Lv → Nat
  | [] => 0
  | lv :: r => lv.es.length + lenL r
theorem lenL_append (l m : List Lv) : lenL (l ++ m) = lenL l + lenL m := by
  induction l with
  | nil => simp [lenL]
  | cons x l ih => simp only [List.cons_append, lenL, ih]; omega
def ordersL : List Lv → List Ord
  | [] => []
  | lv :: r => lv.es.map (·.o) ++ ordersL r
theorem ordersL_append (l m : List Lv) : ordersL (l ++ m) = ordersL l ++ ordersL m := by
  induction l with
  | nil => rfl
  | cons x l ih => simp only [List.cons_append, ordersL, ih, List.append_assoc]
theorem ordersL_len (l : List Lv) : (ordersL l).length = lenL l := by
  induction l with
  | nil => rfl
  | cons x l ih => simp only [ordersL, lenL, List.length_append, List.length_map, ih]
def depO (s p : Int) : Ord := ⟨0, 0, 0, s, 0, p, 0, 0, 0⟩
def depthL (s : Int) (l : List Lv) : List (Ord × Int) := l.map fun lv => (depO s lv.p, sumE (fun x => x.seen) lv.es)
def findL (t i : Int) : List Lv → Option (Nat × Ord)
  | [] => none
  | lv :: r => match (lv.es.map (·.o)).find? (fun o => decide (o.trader = t) && decide (o.id = i)) with
    | some o => some (0, o)
    | none => match findL t i r with
      | some (k, o) => some (k + 1, o)
      | none => none
def findB (t i : Int) (B : Bk) : Option (Int × Nat × Ord) := match findL t i B.buys with
  | some (k, o) => some (1, k, o)
  | none => match findL t i B.sells with
    | some (k, o) => some (2, k, o)
    | none => none
def Lv.Ok (lv : Lv) : Prop := LB lv.es ∧ lv.es ≠ []
/-- A book that its functions can work on. -/
structure BW (B : Bk) : Prop where
  buys : ∀ lv ∈ B.buys, lv.Ok
  sells : ∀ lv ∈ B.sells, lv.Ok
  len : lenL B.buys + lenL B.sells ≤ 64
theorem lenL_ge {l : List Lv} (h : ∀ lv ∈ l, lv.Ok) : l.length ≤ lenL l := by
  induction l with
  | nil => exact Nat.zero_le _
  | cons x l ih =>
    have h1 := ih fun y m => h y (List.mem_cons_of_mem _ m)
    have h2 := (h x (List.mem_cons_self ..)).2
    have : 0 < x.es.length := List.length_pos_iff.2 h2
    simp only [List.length_cons, lenL]; omega
theorem lenL_mem {l : List Lv} {lv : Lv} (h : lv ∈ l) : lv.es.length ≤ lenL l := by
  induction l with
  | nil => cases h
  | cons x l ih =>
    simp only [lenL]
    rcases List.mem_cons.1 h with rfl | h
    · omega
    · have := ih h; omega
variable [Base]
def LvsH : List Nat → List Lv → Heap → Prop
  | [], [], H => H = []
  | b :: bs, lv :: l, H => ∃ H1 H2, LvH b lv.p lv.es H1 ∧ LvsH bs l H2 ∧ H = H1 ++ H2
  | [], _ :: _, _ => False
  | _ :: _, [], _ => False
def LvsIn (F : Heap) (bs : List Nat) (l : List Lv) : Prop := bs.length = l.length ∧ ∀ (i : Nat) (b : Nat) (lv : Lv), bs[i]? = some b → l[i]? = some lv → LvIn F b lv.p lv.es
theorem LvsH.len : ∀ {bs : List Nat} {l : List Lv} {H : Heap}, LvsH bs l H → bs.length = l.length
  | [], [], _, _ => rfl
  | _ :: bs, _ :: l, _, ⟨_, _, _, h, _⟩ => by simp only [List.length_cons, h.len]
theorem LvsH.in : ∀ {bs : List Nat} {l : List Lv} {H F : Heap}, LvsH bs l H → (∀ x ∈ H, x ∈ F) → LvsIn F bs l
  | [], [], _, _, _, _ => ⟨rfl, fun i b lv h => by simp at h⟩
  | b :: bs, lv :: l, _, F, ⟨H1, H2, h1, h2, rfl⟩, hF => by
    have ih := h2.in (F := F) fun x m => hF x (List.mem_append_right _ m)
    refine ⟨by simp only [List.length_cons, ih.1], fun i b' lv' hb hl => ?_⟩
    cases i with
    | zero =>
      simp only [List.getElem?_cons_zero, Option.some.injEq] at hb hl
      subst hb; subst hl
      exact h1.in fun x m => hF x (List.mem_append_left _ m)
    | succ i =>
      simp only [List.getElem?_cons_succ] at hb hl
      exact ih.2 i b' lv' hb hl
theorem LvsIn.mono {F F' : Heap} {bs : List Nat} {l : List Lv} (h : LvsIn F bs l) (hF : ∀ x ∈ F, x ∈ F') : LvsIn F' bs l := ⟨h.1, fun i b lv hb hl => (h.2 i b lv hb hl).mono hF⟩
/-- One level out of all. -/
theorem LvsH.out : ∀ {bs : List Nat} {l : List Lv} {H : Heap} {k b : Nat} {lv : Lv}, LvsH bs l H → bs[k]? = some b → l[k]? = some lv → ∃ H1 H2, LvH b lv.p lv.es H1 ∧ (∀ x, cnt x H = cnt x (H1 ++ H2)) ∧
    (∀ p es' H1', LvH b p es' H1' → ∃ H', LvsH bs (l.set k ⟨p, es'⟩) H' ∧ ∀ x, cnt x H' = cnt x (H1' ++ H2)) ∧ ∃ H', LvsH (bs.eraseIdx k) (l.eraseIdx k) H' ∧ ∀ x, cnt x H' = cnt x H2
  | _ :: bs, _ :: l, _, 0, b, lv, ⟨H1, H2, h1, h2, rfl⟩, hb, hl => by
    simp only [List.getElem?_cons_zero, Option.some.injEq] at hb hl
    subst hb; subst hl
    exact ⟨H1, H2, h1, fun _ => rfl, fun p es' H1' h => ⟨H1' ++ H2, ⟨H1', H2, h, h2, rfl⟩, fun _ => rfl⟩, H2, h2, fun _ => rfl⟩
  | b0 :: bs, lv0 :: l, _, k + 1, b, lv, ⟨H1, H2, h1, h2, rfl⟩, hb, hl => by
    simp only [List.getElem?_cons_succ] at hb hl
    obtain ⟨G1, G2, g1, gp, gs, G3, ge, gq⟩ := h2.out hb hl
    refine ⟨G1, H1 ++ G2, g1, fun x => ?_, fun p es' H1' h => ?_, H1 ++ G3, ⟨H1, G3, h1, ge, rfl⟩, fun x => ?_⟩
    · rw [cnt_append, gp x, cnt_append, cnt_append, cnt_append]; omega
    · obtain ⟨H', h', hp⟩ := gs p es' H1' h
      refine ⟨H1 ++ H', ⟨H1, H', h1, h', rfl⟩, fun x => ?_⟩
      rw [cnt_append, hp x, cnt_append, cnt_append, cnt_append]; omega
    · rw [cnt_append, cnt_append, gq x]
/-- One level more. -/
theorem LvsH.ins : ∀ {bs : List Nat} {l : List Lv} {H : Heap} (k : Nat) {b : Nat} {lv : Lv} {H1 : Heap}, LvsH bs l H → k ≤ l.length → LvH b lv.p lv.es H1 → ∃ H', LvsH (bs.take k ++ b :: bs.drop k) (l.take k ++ lv :: l.drop k) H' ∧ ∀ x, cnt x H' = cnt x (H1 ++ H)
  | bs, l, H, 0, b, lv, H1, h, _, h1 => ⟨H1 ++ H, ⟨H1, H, h1, h, rfl⟩, fun _ => rfl⟩
  | b0 :: bs, lv0 :: l, _, k + 1, b, lv, H1, ⟨G1, G2, g1, g2, rfl⟩, hk, h1 => by
    obtain ⟨H', h', hp⟩ := g2.ins k (by simpa using hk) h1
    refine ⟨G1 ++ H', ⟨G1, H', g1, h', rfl⟩, fun x => ?_⟩
    rw [cnt_append, hp x, cnt_append, cnt_append, cnt_append]; omega
  | [], [], _, k + 1, _, _, _, _, hk, _ => by simp at hk
def SdH (v : Value) (l : List Lv) (H : Heap) : Prop := ∃ a cap bs A L, v = .slice a l.length cap ∧ OwnS 81 1 (.slice a l.length cap) l.length (rows pc bs) A ∧ LvsH bs l L ∧ H = A ++ L
def SdIn (F : Heap) (v : Value) (l : List Lv) : Prop := ∃ a cap bs, l.length ≤ cap ∧ v = .slice a l.length cap ∧ SrcIs F a l.length 1 (rows pc bs) ∧ LvsIn F bs l
def BkH (b : Nat) (B : Bk) (H : Heap) : Prop := ∃ v0 v1 H0 H1, SdH v0 B.buys H0 ∧ SdH v1 B.sells H1 ∧ H = blk b [v0, v1, .int .i64 B.last, .int .i64 B.no] 84 :: (H0 ++ H1)
def BkIn (F : Heap) (b : Nat) (B : Bk) : Prop := ∃ v0 v1, SdIn F v0 B.buys ∧ SdIn F v1 B.sells ∧ blk b [v0, v1, .int .i64 B.last, .int .i64 B.no] 84 ∈ F
theorem SdH.in {v : Value} {l : List Lv} {H F : Heap} (h : SdH v l H) (hF : ∀ x ∈ H, x ∈ F) : SdIn F v l := by
  obtain ⟨a, cap, bs, A, L, rfl, own, hL, rfl⟩ := h
  have hc : l.length ≤ cap := by
    obtain ⟨_, _, hv, h2⟩ := own.form
    cases hv; exact h2
  exact ⟨a, cap, bs, hc, rfl, own.src fun x m => hF x (List.mem_append_left _ m), hL.in fun x m => hF x (List.mem_append_right _ m)⟩
theorem BkH.in {b : Nat} {B : Bk} {H F : Heap} (h : BkH b B H) (hF : ∀ x ∈ H, x ∈ F) : BkIn F b B := by
  obtain ⟨v0, v1, H0, H1, h0, h1, rfl⟩ := h
  exact ⟨v0, v1, h0.in fun x m => hF x (.tail _ (List.mem_append_left _ m)), h1.in fun x m => hF x (.tail _ (List.mem_append_right _ m)), hF _ (.head _)⟩
theorem SdIn.mono {F F' : Heap} {v : Value} {l : List Lv} (h : SdIn F v l) (hF : ∀ x ∈ F, x ∈ F') : SdIn F' v l := by
  obtain ⟨a, cap, bs, hc, h1, h2, h3⟩ := h
  exact ⟨a, cap, bs, hc, h1, h2.mono hF, h3.mono hF⟩
theorem BkIn.mono {F F' : Heap} {b : Nat} {B : Bk} (h : BkIn F b B) (hF : ∀ x ∈ F, x ∈ F') : BkIn F' b B := by
  obtain ⟨v0, v1, h0, h1, h2⟩ := h
  exact ⟨v0, v1, h0.mono hF, h1.mono hF, hF _ h2⟩
theorem BkIn.up {F A : Heap} {b : Nat} {B : Bk} (h : BkIn F b B) : BkIn (A ++ F) b B := h.mono fun x m => List.mem_append_right _ m
/-- A side's level, by its place. -/
theorem SdIn.level {F : Heap} {a : Option Addr} {n cap : Nat} {l : List Lv} {bs : List Nat} (hs : SrcIs F a l.length 1 (rows pc bs)) (hl : LvsIn F bs l) {i : Nat} (hi : i < l.length) : ∃ b off bi lv, a = some ⟨b, off, none⟩ ∧ l[i]? = some lv ∧ LoadsF F b (off + i * 1) (.pointer (some ⟨bi, 0, none⟩)) ∧ LvIn F bi lv.p lv.es := by
  obtain ⟨b, off, _, _, _, rfl, _⟩ := hs.pos (by omega)
  have hb : i < bs.length := by rw [hl.1]; exact hi
  have h1 : bs[i]? = some bs[i] := List.getElem?_eq_getElem hb
  have h2 : l[i]? = some l[i] := List.getElem?_eq_getElem hi
  have l0 := SrcIs.row pc_len hs hl.1 h1
  exact ⟨b, off, bs[i], l[i], rfl, h2, l0.at 0 _ rfl, hl.2 i _ _ h1 h2⟩
end Go.Proofs.Ytfhpoagnfmgfkaa
