/- The facts on types of this seat's translation, each asked of the program by the kernel. It proves no statement by itself. (Printed by tables.py of this repo.) -/
import Derived.Test.YtfclaleiciodmaaProg
import Derived.Test.YtfclaleiciodmaaSLSlice
set_option autoImplicit false
namespace Go.Proofs.Ytfclaleiciodmaa
open Go Go.SL Go.Proofs
def find2 : List (Nat × Nat × Nat × Nat) → Nat → Nat → Option (Nat × Nat)
  | [], _, _ => none
  | (a, b, c, d) :: r, x, y => bif Nat.beq a x && Nat.beq b y then some (c, d) else find2 r x y
def find1 : List (Nat × Nat) → Nat → Option Nat
  | [], _ => none
  | (a, b) :: r, x => bif Nat.beq a x then some b else find1 r x
def find3 : List (Nat × Nat × Nat) → Nat → Option (Nat × Nat)
  | [], _ => none
  | (a, b, c) :: r, x => bif Nat.beq a x then some (b, c) else find3 r x
def find4 : List (Nat × Nat × Nat × Nat) → Nat → Option (Nat × Nat × Nat)
  | [], _ => none
  | (a, b, c, d) :: r, x => bif Nat.beq a x then some (b, c, d) else find4 r x
def find0 : List Nat → Nat → Bool
  | [], _ => false
  | a :: r, x => bif Nat.beq a x then true else find0 r x
theorem find2_all {f : Nat → Nat → Nat → Nat → Bool} : ∀ {l : List (Nat × Nat × Nat × Nat)}, (l.all fun p => f p.1 p.2.1 p.2.2.1 p.2.2.2) = true → ∀ {x y c d : Nat}, find2 l x y = some (c, d) → f x y c d = true
  | [], _, _, _, _, _, h => by cases h
  | (a, b, c', d') :: r, hl, x, y, c, d, h => by
    simp only [List.all_cons, Bool.and_eq_true] at hl
    unfold find2 at h
    cases e : (Nat.beq a x && Nat.beq b y) with
    | false => rw [e] at h; exact find2_all hl.2 h
    | true =>
      rw [e] at h
      simp only [cond_true, Option.some.injEq, Prod.mk.injEq] at h
      simp only [Bool.and_eq_true] at e
      have e1 := Nat.eq_of_beq_eq_true e.1
      have e2 := Nat.eq_of_beq_eq_true e.2
      rw [← e1, ← e2, ← h.1, ← h.2]; exact hl.1
theorem find1_all {f : Nat → Nat → Bool} : ∀ {l : List (Nat × Nat)}, (l.all fun p => f p.1 p.2) = true → ∀ {x c : Nat}, find1 l x = some c → f x c = true
  | [], _, _, _, h => by cases h
  | (a, b) :: r, hl, x, c, h => by
    simp only [List.all_cons, Bool.and_eq_true] at hl
    unfold find1 at h
    cases e : Nat.beq a x with
    | false => rw [e] at h; exact find1_all hl.2 h
    | true =>
      rw [e] at h
      simp only [cond_true, Option.some.injEq] at h
      have e1 := Nat.eq_of_beq_eq_true e
      rw [← e1, ← h]; exact hl.1
theorem find3_all {f : Nat → Nat → Nat → Bool} : ∀ {l : List (Nat × Nat × Nat)}, (l.all fun p => f p.1 p.2.1 p.2.2) = true → ∀ {x c d : Nat}, find3 l x = some (c, d) → f x c d = true
  | [], _, _, _, _, h => by cases h
  | (a, b, b') :: r, hl, x, c, d, h => by
    simp only [List.all_cons, Bool.and_eq_true] at hl
    unfold find3 at h
    cases e : Nat.beq a x with
    | false => rw [e] at h; exact find3_all hl.2 h
    | true =>
      rw [e] at h
      simp only [cond_true, Option.some.injEq, Prod.mk.injEq] at h
      have e1 := Nat.eq_of_beq_eq_true e
      rw [← e1, ← h.1, ← h.2]; exact hl.1
theorem find4_all {f : Nat → Nat → Nat → Nat → Bool} : ∀ {l : List (Nat × Nat × Nat × Nat)}, (l.all fun p => f p.1 p.2.1 p.2.2.1 p.2.2.2) = true → ∀ {x c d e : Nat}, find4 l x = some (c, d, e) → f x c d e = true
  | [], _, _, _, _, _, h => by cases h
  | (a, b, b', b2) :: r, hl, x, c, d, e', h => by
    simp only [List.all_cons, Bool.and_eq_true] at hl
    unfold find4 at h
    cases e : Nat.beq a x with
    | false => rw [e] at h; exact find4_all hl.2 h
    | true =>
      rw [e] at h
      simp only [cond_true, Option.some.injEq, Prod.mk.injEq] at h
      have e1 := Nat.eq_of_beq_eq_true e
      rw [← e1, ← h.1, ← h.2.1, ← h.2.2]; exact hl.1
theorem find0_all {f : Nat → Bool} : ∀ {l : List Nat}, l.all f = true → ∀ {x : Nat}, find0 l x = true → f x = true
  | [], _, _, h => by cases h
  | a :: r, hl, x, h => by
    simp only [List.all_cons, Bool.and_eq_true] at hl
    unfold find0 at h
    cases e : Nat.beq a x with
    | false => rw [e] at h; exact find0_all hl.2 h
    | true => rw [← Nat.eq_of_beq_eq_true e]; exact hl.1
def fieldL : List (Nat × Nat × Nat × Nat) := [(7, 0, 0, 2), (7, 1, 1, 3), (7, 2, 2, 4), (7, 3, 3, 6), (8, 0, 0, 2), (8, 1, 1, 3), (8, 2, 2, 4), (8, 3, 3, 6), (13, 0, 0, 9), (13, 1, 1, 12), (14, 0, 0, 9), (14, 1, 1, 12), (18, 0, 0, 17), (19, 0, 0, 17), 
    (24, 0, 0, 3), (24, 1, 1, 3), (24, 2, 2, 3), (24, 3, 3, 3), (24, 4, 4, 3), (24, 5, 5, 3), (24, 6, 6, 3), (24, 7, 7, 3), (24, 8, 8, 3), (25, 0, 0, 3), (25, 1, 1, 3), (25, 2, 2, 3), (25, 3, 3, 3), (25, 4, 4, 3), 
    (25, 5, 5, 3), (25, 6, 6, 3), (25, 7, 7, 3), (25, 8, 8, 3), (34, 0, 0, 25), (34, 1, 9, 3), (35, 0, 0, 25), (35, 1, 9, 3), (42, 0, 0, 3), (42, 1, 1, 3), (42, 2, 2, 3), (42, 3, 3, 3), (42, 4, 4, 3), (43, 0, 0, 3), 
    (43, 1, 1, 3), (43, 2, 2, 3), (43, 3, 3, 3), (43, 4, 4, 3), (50, 0, 0, 3), (50, 1, 1, 49), (51, 0, 0, 3), (51, 1, 1, 49), (57, 0, 0, 3), (57, 1, 1, 56), (58, 0, 0, 3), (58, 1, 1, 56), (60, 0, 0, 25), (60, 1, 9, 3), 
    (61, 0, 0, 25), (61, 1, 9, 3), (66, 0, 0, 25), (66, 1, 9, 3), (67, 0, 0, 25), (67, 1, 9, 3), (71, 0, 0, 17), (71, 1, 1, 17), (71, 2, 2, 17), (71, 3, 3, 9), (72, 0, 0, 17), (72, 1, 1, 17), (72, 2, 2, 17), (72, 3, 3, 9), 
    (83, 0, 0, 12), (83, 1, 1, 12), (83, 2, 2, 76), (83, 3, 3, 77), (83, 4, 4, 5), (83, 5, 5, 5), (83, 6, 6, 78), (83, 7, 7, 79), (83, 8, 8, 80), (83, 9, 9, 81), (83, 10, 10, 82), (84, 0, 0, 12), (84, 1, 1, 12), (84, 2, 2, 76), 
    (84, 3, 3, 77), (84, 4, 4, 5), (84, 5, 5, 5), (84, 6, 6, 78), (84, 7, 7, 79), (84, 8, 8, 80), (84, 9, 9, 81), (84, 10, 10, 82)]
theorem fieldL_ok : (fieldL.all fun p => fieldB Try.prog p.1 p.2.1 p.2.2.1 p.2.2.2) = true := by kernel_rfl
theorem fo {s i k t : Nat} (h : find2 fieldL s i = some (k, t)) : fieldB Try.prog s i k t = true := find2_all (f := fieldB Try.prog) fieldL_ok h
def scalL : List Nat := [0, 1, 2, 3, 4, 5, 6, 9, 10, 11, 12, 15, 16, 17, 20, 21, 22, 23, 26, 27, 28, 29, 30, 31, 32, 33, 36, 37, 38, 39, 
    40, 41, 44, 45, 46, 47, 48, 49, 52, 53, 55, 56, 59, 62, 63, 64, 65, 68, 69, 70, 76, 77, 78, 79, 80, 81, 82, 85]
theorem scalL_ok : scalL.all (scalarB Try.prog) = true := by kernel_rfl
theorem sc {t : Nat} (h : find0 scalL t = true) : scalarB Try.prog t = true := find0_all scalL_ok h
def aggL : List Nat := [7, 8, 13, 14, 18, 19, 24, 25, 34, 35, 42, 43, 50, 51, 57, 58, 60, 61, 66, 67, 71, 72, 74, 75, 83, 84, 54, 73]
theorem aggL_ok : aggL.all (aggB Try.prog) = true := by kernel_rfl
theorem ag {t : Nat} (h : find0 aggL t = true) : aggB Try.prog t = true := find0_all aggL_ok h
def sizeL : List (Nat × Nat) := [(0, 1), (1, 1), (2, 1), (3, 1), (4, 1), (5, 1), (6, 1), (7, 4), (8, 4), (9, 1), (10, 1), (11, 1), (12, 1), (13, 2), (14, 2), (15, 1), (16, 1), (17, 1), (18, 1), (19, 1), 
    (20, 1), (21, 1), (22, 1), (23, 1), (24, 9), (25, 9), (26, 1), (27, 1), (28, 1), (29, 1), (30, 1), (31, 1), (32, 1), (33, 1), (34, 10), (35, 10), (36, 1), (37, 1), (38, 1), (39, 1), 
    (40, 1), (41, 1), (42, 5), (43, 5), (44, 1), (45, 1), (46, 1), (47, 1), (48, 1), (49, 1), (50, 2), (51, 2), (52, 1), (53, 1), (54, 2), (55, 1), (56, 1), (57, 2), (58, 2), (59, 1), 
    (60, 10), (61, 10), (62, 1), (63, 1), (64, 1), (65, 1), (66, 10), (67, 10), (68, 1), (69, 1), (70, 1), (71, 4), (72, 4), (73, 0), (74, 0), (75, 0), (76, 1), (77, 1), (78, 1), (79, 1), 
    (80, 1), (81, 1), (82, 1), (83, 11), (84, 11), (85, 1)]
theorem sizeL_ok : (sizeL.all fun p => sizeB Try.prog p.1 p.2) = true := by kernel_rfl
theorem sz {t n : Nat} (h : find1 sizeL t = some n) : sizeB Try.prog t n = true := find1_all (f := sizeB Try.prog) sizeL_ok h
def bytesL : List (Nat × Nat) := [(0, 0), (1, 8), (2, 8), (3, 8), (4, 1), (5, 1), (6, 1), (7, 24), (8, 24), (9, 16), (10, 16), (11, 16), (12, 8), (13, 24), (14, 24), (15, 8), (16, 8), (17, 8), (18, 8), (19, 8), 
    (20, 16), (21, 4), (22, 8), (23, 8), (24, 72), (25, 72), (26, 8), (27, 24), (28, 0), (29, 8), (30, 8), (31, 24), (32, 8), (33, 8), (34, 80), (35, 80), (36, 8), (37, 8), (38, 24), (39, 8), 
    (40, 8), (41, 8), (42, 40), (43, 40), (44, 8), (45, 0), (46, 8), (47, 8), (48, 8), (49, 24), (50, 32), (51, 32), (52, 8), (53, 8), (54, 16), (55, 8), (56, 24), (57, 32), (58, 32), (59, 8), 
    (60, 80), (61, 80), (62, 8), (63, 8), (64, 8), (65, 8), (66, 80), (67, 80), (68, 8), (69, 8), (70, 8), (71, 40), (72, 40), (73, 0), (74, 0), (75, 0), (76, 4), (77, 1), (78, 1), (79, 8), 
    (80, 8), (81, 4), (82, 4), (83, 48), (84, 48), (85, 8)]
theorem bytesL_ok : (bytesL.all fun p => bytesB Try.prog p.1 p.2) = true := by kernel_rfl
theorem byt {t n : Nat} (h : find1 bytesL t = some n) : bytesB Try.prog t n = true := find1_all (f := bytesB Try.prog) bytesL_ok h
def sliceL : List (Nat × Nat × Nat) := [(27, 35, 10), (31, 25, 9), (38, 43, 5), (49, 67, 10), (56, 61, 10)]
theorem sliceL_ok : (sliceL.all fun p => sliceB Try.prog p.1 p.2.1 p.2.2) = true := by kernel_rfl
theorem se {t e n : Nat} (h : find3 sliceL t = some (e, n)) : sliceB Try.prog t e n = true := find3_all (f := sliceB Try.prog) sliceL_ok h
def arrayL : List (Nat × Nat × Nat × Nat) := [(54, 2, 3, 1), (73, 0, 16, 1)]
theorem arrayL_ok : (arrayL.all fun p => arrayB Try.prog p.1 p.2.1 p.2.2.1 p.2.2.2) = true := by kernel_rfl
theorem ar {t l e n : Nat} (h : find4 arrayL t = some (l, e, n)) : arrayB Try.prog t l e n = true := find4_all (f := arrayB Try.prog) arrayL_ok h
def ptrL : List Nat := [15, 16, 17, 22, 48, 64, 80]
theorem ptrL_ok : ptrL.all (ptrB Try.prog) = true := by kernel_rfl
theorem pt {t : Nat} (h : find0 ptrL t = true) : ptrB Try.prog t = true := find0_all ptrL_ok h
def boolL : List Nat := [4]
theorem boolL_ok : boolL.all (boolB Try.prog) = true := by kernel_rfl
theorem bt {t : Nat} (h : find0 boolL t = true) : boolB Try.prog t = true := find0_all boolL_ok h
theorem ze1 : zeroT Try.prog 1 = some [Value.nilFunc] := by kernel_rfl
theorem ze2 : zeroT Try.prog 2 = some [Value.int .i64 0] := by kernel_rfl
theorem ze3 : zeroT Try.prog 3 = some [Value.int .i64 0] := by kernel_rfl
theorem ze4 : zeroT Try.prog 4 = some [Value.bool false] := by kernel_rfl
theorem ze5 : zeroT Try.prog 5 = some [Value.int .u8 0] := by kernel_rfl
theorem ze6 : zeroT Try.prog 6 = some [Value.int .u8 0] := by kernel_rfl
theorem ze7 : zeroT Try.prog 7 = some [Value.int .i64 0, Value.int .i64 0, Value.bool false, Value.int .u8 0] := by kernel_rfl
theorem ze8 : zeroT Try.prog 8 = some [Value.int .i64 0, Value.int .i64 0, Value.bool false, Value.int .u8 0] := by kernel_rfl
theorem ze12 : zeroT Try.prog 12 = some [Value.int .u64 0] := by kernel_rfl
theorem ze15 : zeroT Try.prog 15 = some [Value.pointer none] := by kernel_rfl
theorem ze16 : zeroT Try.prog 16 = some [Value.pointer none] := by kernel_rfl
theorem ze17 : zeroT Try.prog 17 = some [Value.pointer none] := by kernel_rfl
theorem ze18 : zeroT Try.prog 18 = some [Value.pointer none] := by kernel_rfl
theorem ze19 : zeroT Try.prog 19 = some [Value.pointer none] := by kernel_rfl
theorem ze20 : zeroT Try.prog 20 = some [Value.nilIface] := by kernel_rfl
theorem ze21 : zeroT Try.prog 21 = some [Value.int .i32 0] := by kernel_rfl
theorem ze22 : zeroT Try.prog 22 = some [Value.pointer none] := by kernel_rfl
theorem ze23 : zeroT Try.prog 23 = some [Value.nilFunc] := by kernel_rfl
theorem ze24 : zeroT Try.prog 24 = some [Value.int .i64 0, Value.int .i64 0, Value.int .i64 0, Value.int .i64 0, Value.int .i64 0, Value.int .i64 0, Value.int .i64 0, Value.int .i64 0, Value.int .i64 0] := by kernel_rfl
theorem ze25 : zeroT Try.prog 25 = some [Value.int .i64 0, Value.int .i64 0, Value.int .i64 0, Value.int .i64 0, Value.int .i64 0, Value.int .i64 0, Value.int .i64 0, Value.int .i64 0, Value.int .i64 0] := by kernel_rfl
theorem ze26 : zeroT Try.prog 26 = some [Value.nilFunc] := by kernel_rfl
theorem ze27 : zeroT Try.prog 27 = some [Value.slice none 0 0] := by kernel_rfl
theorem ze29 : zeroT Try.prog 29 = some [Value.nilFunc] := by kernel_rfl
theorem ze30 : zeroT Try.prog 30 = some [Value.nilFunc] := by kernel_rfl
theorem ze31 : zeroT Try.prog 31 = some [Value.slice none 0 0] := by kernel_rfl
theorem ze32 : zeroT Try.prog 32 = some [Value.nilFunc] := by kernel_rfl
theorem ze33 : zeroT Try.prog 33 = some [Value.nilFunc] := by kernel_rfl
theorem ze34 : zeroT Try.prog 34 = some [Value.int .i64 0, Value.int .i64 0, Value.int .i64 0, Value.int .i64 0, Value.int .i64 0, Value.int .i64 0, Value.int .i64 0, Value.int .i64 0, Value.int .i64 0, Value.int .i64 0] := by kernel_rfl
theorem ze35 : zeroT Try.prog 35 = some [Value.int .i64 0, Value.int .i64 0, Value.int .i64 0, Value.int .i64 0, Value.int .i64 0, Value.int .i64 0, Value.int .i64 0, Value.int .i64 0, Value.int .i64 0, Value.int .i64 0] := by kernel_rfl
theorem ze36 : zeroT Try.prog 36 = some [Value.nilFunc] := by kernel_rfl
theorem ze37 : zeroT Try.prog 37 = some [Value.nilFunc] := by kernel_rfl
theorem ze38 : zeroT Try.prog 38 = some [Value.slice none 0 0] := by kernel_rfl
theorem ze39 : zeroT Try.prog 39 = some [Value.nilFunc] := by kernel_rfl
theorem ze40 : zeroT Try.prog 40 = some [Value.nilFunc] := by kernel_rfl
theorem ze41 : zeroT Try.prog 41 = some [Value.nilFunc] := by kernel_rfl
theorem ze42 : zeroT Try.prog 42 = some [Value.int .i64 0, Value.int .i64 0, Value.int .i64 0, Value.int .i64 0, Value.int .i64 0] := by kernel_rfl
theorem ze43 : zeroT Try.prog 43 = some [Value.int .i64 0, Value.int .i64 0, Value.int .i64 0, Value.int .i64 0, Value.int .i64 0] := by kernel_rfl
theorem ze44 : zeroT Try.prog 44 = some [Value.nilFunc] := by kernel_rfl
theorem ze46 : zeroT Try.prog 46 = some [Value.nilFunc] := by kernel_rfl
theorem ze47 : zeroT Try.prog 47 = some [Value.nilFunc] := by kernel_rfl
theorem ze48 : zeroT Try.prog 48 = some [Value.pointer none] := by kernel_rfl
theorem ze49 : zeroT Try.prog 49 = some [Value.slice none 0 0] := by kernel_rfl
theorem ze50 : zeroT Try.prog 50 = some [Value.int .i64 0, Value.slice none 0 0] := by kernel_rfl
theorem ze51 : zeroT Try.prog 51 = some [Value.int .i64 0, Value.slice none 0 0] := by kernel_rfl
theorem ze52 : zeroT Try.prog 52 = some [Value.map none] := by kernel_rfl
theorem ze53 : zeroT Try.prog 53 = some [Value.nilFunc] := by kernel_rfl
theorem ze54 : zeroT Try.prog 54 = some [Value.int .i64 0, Value.int .i64 0] := by kernel_rfl
theorem ze55 : zeroT Try.prog 55 = some [Value.nilFunc] := by kernel_rfl
theorem ze56 : zeroT Try.prog 56 = some [Value.slice none 0 0] := by kernel_rfl
theorem ze57 : zeroT Try.prog 57 = some [Value.int .i64 0, Value.slice none 0 0] := by kernel_rfl
theorem ze58 : zeroT Try.prog 58 = some [Value.int .i64 0, Value.slice none 0 0] := by kernel_rfl
theorem ze59 : zeroT Try.prog 59 = some [Value.nilFunc] := by kernel_rfl
theorem ze60 : zeroT Try.prog 60 = some [Value.int .i64 0, Value.int .i64 0, Value.int .i64 0, Value.int .i64 0, Value.int .i64 0, Value.int .i64 0, Value.int .i64 0, Value.int .i64 0, Value.int .i64 0, Value.int .i64 0] := by kernel_rfl
theorem ze61 : zeroT Try.prog 61 = some [Value.int .i64 0, Value.int .i64 0, Value.int .i64 0, Value.int .i64 0, Value.int .i64 0, Value.int .i64 0, Value.int .i64 0, Value.int .i64 0, Value.int .i64 0, Value.int .i64 0] := by kernel_rfl
theorem ze62 : zeroT Try.prog 62 = some [Value.nilFunc] := by kernel_rfl
theorem ze63 : zeroT Try.prog 63 = some [Value.nilFunc] := by kernel_rfl
theorem ze64 : zeroT Try.prog 64 = some [Value.pointer none] := by kernel_rfl
theorem ze65 : zeroT Try.prog 65 = some [Value.nilFunc] := by kernel_rfl
theorem ze66 : zeroT Try.prog 66 = some [Value.int .i64 0, Value.int .i64 0, Value.int .i64 0, Value.int .i64 0, Value.int .i64 0, Value.int .i64 0, Value.int .i64 0, Value.int .i64 0, Value.int .i64 0, Value.int .i64 0] := by kernel_rfl
theorem ze67 : zeroT Try.prog 67 = some [Value.int .i64 0, Value.int .i64 0, Value.int .i64 0, Value.int .i64 0, Value.int .i64 0, Value.int .i64 0, Value.int .i64 0, Value.int .i64 0, Value.int .i64 0, Value.int .i64 0] := by kernel_rfl
theorem ze68 : zeroT Try.prog 68 = some [Value.nilFunc] := by kernel_rfl
theorem ze69 : zeroT Try.prog 69 = some [Value.nilFunc] := by kernel_rfl
theorem ze70 : zeroT Try.prog 70 = some [Value.nilFunc] := by kernel_rfl
theorem ze73 : zeroT Try.prog 73 = some [] := by kernel_rfl
theorem ze74 : zeroT Try.prog 74 = some [] := by kernel_rfl
theorem ze75 : zeroT Try.prog 75 = some [] := by kernel_rfl
theorem ze76 : zeroT Try.prog 76 = some [Value.int .u32 0] := by kernel_rfl
theorem ze77 : zeroT Try.prog 77 = some [Value.int .u8 0] := by kernel_rfl
theorem ze78 : zeroT Try.prog 78 = some [Value.int .u8 0] := by kernel_rfl
theorem ze79 : zeroT Try.prog 79 = some [Value.nilFunc] := by kernel_rfl
theorem ze80 : zeroT Try.prog 80 = some [Value.pointer none] := by kernel_rfl
theorem ze81 : zeroT Try.prog 81 = some [Value.int .i32 0] := by kernel_rfl
theorem ze82 : zeroT Try.prog 82 = some [Value.int .i32 0] := by kernel_rfl
theorem ze83 : zeroT Try.prog 83 = some [Value.int .u64 0, Value.int .u64 0, Value.int .u32 0, Value.int .u8 0, Value.int .u8 0, Value.int .u8 0, Value.int .u8 0, Value.nilFunc, Value.pointer none, Value.int .i32 0, Value.int .i32 0] := by kernel_rfl
theorem ze84 : zeroT Try.prog 84 = some [Value.int .u64 0, Value.int .u64 0, Value.int .u32 0, Value.int .u8 0, Value.int .u8 0, Value.int .u8 0, Value.int .u8 0, Value.nilFunc, Value.pointer none, Value.int .i32 0, Value.int .i32 0] := by kernel_rfl
theorem ze85 : zeroT Try.prog 85 = some [Value.pointer none] := by kernel_rfl
theorem pl7 : PlacesOk Try.prog 7 [(0, 1), (1, 1), (2, 1), (3, 1)] [Value.int .i64 0, Value.int .i64 0, Value.bool false, Value.int .u8 0] := ⟨by kernel_rfl, by kernel_rfl, by kernel_rfl⟩
theorem pl8 : PlacesOk Try.prog 8 [(0, 1), (1, 1), (2, 1), (3, 1)] [Value.int .i64 0, Value.int .i64 0, Value.bool false, Value.int .u8 0] := ⟨by kernel_rfl, by kernel_rfl, by kernel_rfl⟩
theorem pl18 : PlacesOk Try.prog 18 [(0, 1)] [Value.pointer none] := ⟨by kernel_rfl, by kernel_rfl, by kernel_rfl⟩
theorem pl19 : PlacesOk Try.prog 19 [(0, 1)] [Value.pointer none] := ⟨by kernel_rfl, by kernel_rfl, by kernel_rfl⟩
theorem pl24 : PlacesOk Try.prog 24 [(0, 1), (1, 1), (2, 1), (3, 1), (4, 1), (5, 1), (6, 1), (7, 1), (8, 1)] [Value.int .i64 0, Value.int .i64 0, Value.int .i64 0, Value.int .i64 0, Value.int .i64 0, Value.int .i64 0, Value.int .i64 0, Value.int .i64 0, Value.int .i64 0] := ⟨by kernel_rfl, by kernel_rfl, by kernel_rfl⟩
theorem pl25 : PlacesOk Try.prog 25 [(0, 1), (1, 1), (2, 1), (3, 1), (4, 1), (5, 1), (6, 1), (7, 1), (8, 1)] [Value.int .i64 0, Value.int .i64 0, Value.int .i64 0, Value.int .i64 0, Value.int .i64 0, Value.int .i64 0, Value.int .i64 0, Value.int .i64 0, Value.int .i64 0] := ⟨by kernel_rfl, by kernel_rfl, by kernel_rfl⟩
theorem pl34 : PlacesOk Try.prog 34 [(0, 9), (9, 1)] [Value.int .i64 0, Value.int .i64 0, Value.int .i64 0, Value.int .i64 0, Value.int .i64 0, Value.int .i64 0, Value.int .i64 0, Value.int .i64 0, Value.int .i64 0, Value.int .i64 0] := ⟨by kernel_rfl, by kernel_rfl, by kernel_rfl⟩
theorem pl35 : PlacesOk Try.prog 35 [(0, 9), (9, 1)] [Value.int .i64 0, Value.int .i64 0, Value.int .i64 0, Value.int .i64 0, Value.int .i64 0, Value.int .i64 0, Value.int .i64 0, Value.int .i64 0, Value.int .i64 0, Value.int .i64 0] := ⟨by kernel_rfl, by kernel_rfl, by kernel_rfl⟩
theorem pl42 : PlacesOk Try.prog 42 [(0, 1), (1, 1), (2, 1), (3, 1), (4, 1)] [Value.int .i64 0, Value.int .i64 0, Value.int .i64 0, Value.int .i64 0, Value.int .i64 0] := ⟨by kernel_rfl, by kernel_rfl, by kernel_rfl⟩
theorem pl43 : PlacesOk Try.prog 43 [(0, 1), (1, 1), (2, 1), (3, 1), (4, 1)] [Value.int .i64 0, Value.int .i64 0, Value.int .i64 0, Value.int .i64 0, Value.int .i64 0] := ⟨by kernel_rfl, by kernel_rfl, by kernel_rfl⟩
theorem pl50 : PlacesOk Try.prog 50 [(0, 1), (1, 1)] [Value.int .i64 0, Value.slice none 0 0] := ⟨by kernel_rfl, by kernel_rfl, by kernel_rfl⟩
theorem pl51 : PlacesOk Try.prog 51 [(0, 1), (1, 1)] [Value.int .i64 0, Value.slice none 0 0] := ⟨by kernel_rfl, by kernel_rfl, by kernel_rfl⟩
theorem pl57 : PlacesOk Try.prog 57 [(0, 1), (1, 1)] [Value.int .i64 0, Value.slice none 0 0] := ⟨by kernel_rfl, by kernel_rfl, by kernel_rfl⟩
theorem pl58 : PlacesOk Try.prog 58 [(0, 1), (1, 1)] [Value.int .i64 0, Value.slice none 0 0] := ⟨by kernel_rfl, by kernel_rfl, by kernel_rfl⟩
theorem pl60 : PlacesOk Try.prog 60 [(0, 9), (9, 1)] [Value.int .i64 0, Value.int .i64 0, Value.int .i64 0, Value.int .i64 0, Value.int .i64 0, Value.int .i64 0, Value.int .i64 0, Value.int .i64 0, Value.int .i64 0, Value.int .i64 0] := ⟨by kernel_rfl, by kernel_rfl, by kernel_rfl⟩
theorem pl61 : PlacesOk Try.prog 61 [(0, 9), (9, 1)] [Value.int .i64 0, Value.int .i64 0, Value.int .i64 0, Value.int .i64 0, Value.int .i64 0, Value.int .i64 0, Value.int .i64 0, Value.int .i64 0, Value.int .i64 0, Value.int .i64 0] := ⟨by kernel_rfl, by kernel_rfl, by kernel_rfl⟩
theorem pl66 : PlacesOk Try.prog 66 [(0, 9), (9, 1)] [Value.int .i64 0, Value.int .i64 0, Value.int .i64 0, Value.int .i64 0, Value.int .i64 0, Value.int .i64 0, Value.int .i64 0, Value.int .i64 0, Value.int .i64 0, Value.int .i64 0] := ⟨by kernel_rfl, by kernel_rfl, by kernel_rfl⟩
theorem pl67 : PlacesOk Try.prog 67 [(0, 9), (9, 1)] [Value.int .i64 0, Value.int .i64 0, Value.int .i64 0, Value.int .i64 0, Value.int .i64 0, Value.int .i64 0, Value.int .i64 0, Value.int .i64 0, Value.int .i64 0, Value.int .i64 0] := ⟨by kernel_rfl, by kernel_rfl, by kernel_rfl⟩
theorem pl83 : PlacesOk Try.prog 83 [(0, 1), (1, 1), (2, 1), (3, 1), (4, 1), (5, 1), (6, 1), (7, 1), (8, 1), (9, 1), (10, 1)] [Value.int .u64 0, Value.int .u64 0, Value.int .u32 0, Value.int .u8 0, Value.int .u8 0, Value.int .u8 0, Value.int .u8 0, Value.nilFunc, Value.pointer none, Value.int .i32 0, Value.int .i32 0] := ⟨by kernel_rfl, by kernel_rfl, by kernel_rfl⟩
theorem pl84 : PlacesOk Try.prog 84 [(0, 1), (1, 1), (2, 1), (3, 1), (4, 1), (5, 1), (6, 1), (7, 1), (8, 1), (9, 1), (10, 1)] [Value.int .u64 0, Value.int .u64 0, Value.int .u32 0, Value.int .u8 0, Value.int .u8 0, Value.int .u8 0, Value.int .u8 0, Value.nilFunc, Value.pointer none, Value.int .i32 0, Value.int .i32 0] := ⟨by kernel_rfl, by kernel_rfl, by kernel_rfl⟩
def plainL : List Nat := [2, 3, 4, 5, 6, 7, 8, 9, 10, 11, 12, 13, 14, 15, 16, 17, 18, 19, 20, 21, 22, 23, 24, 25, 26, 27, 28, 29, 30, 31, 
    32, 33, 34, 35, 36, 37]
theorem plainL_ok : plainL.all (Program.plainFn Try.prog) = true := by kernel_rfl
theorem pf {f : Nat} (h : find0 plainL f = true) : Program.plainFn Try.prog f = true := find0_all plainL_ok h
theorem mo : Try.prog.follows .mixedOrders = true := by kernel_rfl
end Go.Proofs.Ytfclaleiciodmaa
