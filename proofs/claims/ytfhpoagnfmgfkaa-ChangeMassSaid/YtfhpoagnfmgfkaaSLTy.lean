/- The facts on types of this seat's translation, each asked of the program by the kernel. It proves no statement by itself. (Printed by tables.py of this repo.) -/
import Derived.Test.YtfhpoagnfmgfkaaProg
import Derived.Test.YtfhpoagnfmgfkaaSLSlice
set_option autoImplicit false
namespace Go.Proofs.Ytfhpoagnfmgfkaa
open Go Go.SL Go.Proofs
def find2 : List (Nat × Nat × Nat × Nat) → Nat → Nat → Option (Nat × Nat)
  | [], _, _ => none
  | (a, b, c, d) :: r, x, y => bif Nat.beq a x && Nat.beq b y then some (c, d) else find2 r x y
def find1 : List (Nat × Nat) → Nat → Option Nat
  | [], _ => none
  | (a, b) :: r, x => bif Nat.beq a x then some b else find1 r x
def find3 : List (Nat × Nat × Nat) → Nat → Option (Nat × Nat)
  | [], _ => none
  | (a, b, c) :: r, x => bif Nat.beq a x then some (b, c) else find3 r x
def find4 : List (Nat × Nat × Nat × Nat) → Nat → Option (Nat × Nat × Nat)
  | [], _ => none
  | (a, b, c, d) :: r, x => bif Nat.beq a x then some (b, c, d) else find4 r x
def find0 : List Nat → Nat → Bool
  | [], _ => false
  | a :: r, x => bif Nat.beq a x then true else find0 r x
theorem find2_all {f : Nat → Nat → Nat → Nat → Bool} : ∀ {l : List (Nat × Nat × Nat × Nat)}, (l.all fun p => f p.1 p.2.1 p.2.2.1 p.2.2.2) = true → ∀ {x y c d : Nat}, find2 l x y = some (c, d) → f x y c d = true
  | [], _, _, _, _, _, h => by cases h
  | (a, b, c', d') :: r, hl, x, y, c, d, h => by
    simp only [List.all_cons, Bool.and_eq_true] at hl
    unfold find2 at h
    cases e : (Nat.beq a x && Nat.beq b y) with
    | false => rw [e] at h; exact find2_all hl.2 h
    | true =>
      rw [e] at h
      simp only [cond_true, Option.some.injEq, Prod.mk.injEq] at h
      simp only [Bool.and_eq_true] at e
      have e1 := Nat.eq_of_beq_eq_true e.1
      have e2 := Nat.eq_of_beq_eq_true e.2
      rw [← e1, ← e2, ← h.1, ← h.2]; exact hl.1
theorem find1_all {f : Nat → Nat → Bool} : ∀ {l : List (Nat × Nat)}, (l.all fun p => f p.1 p.2) = true → ∀ {x c : Nat}, find1 l x = some c → f x c = true
  | [], _, _, _, h => by cases h
  | (a, b) :: r, hl, x, c, h => by
    simp only [List.all_cons, Bool.and_eq_true] at hl
    unfold find1 at h
    cases e : Nat.beq a x with
    | false => rw [e] at h; exact find1_all hl.2 h
    | true =>
      rw [e] at h
      simp only [cond_true, Option.some.injEq] at h
      have e1 := Nat.eq_of_beq_eq_true e
      rw [← e1, ← h]; exact hl.1
theorem find3_all {f : Nat → Nat → Nat → Bool} : ∀ {l : List (Nat × Nat × Nat)}, (l.all fun p => f p.1 p.2.1 p.2.2) = true → ∀ {x c d : Nat}, find3 l x = some (c, d) → f x c d = true
  | [], _, _, _, _, h => by cases h
  | (a, b, b') :: r, hl, x, c, d, h => by
    simp only [List.all_cons, Bool.and_eq_true] at hl
    unfold find3 at h
    cases e : Nat.beq a x with
    | false => rw [e] at h; exact find3_all hl.2 h
    | true =>
      rw [e] at h
      simp only [cond_true, Option.some.injEq, Prod.mk.injEq] at h
      have e1 := Nat.eq_of_beq_eq_true e
      rw [← e1, ← h.1, ← h.2]; exact hl.1
theorem find4_all {f : Nat → Nat → Nat → Nat → Bool} : ∀ {l : List (Nat × Nat × Nat × Nat)}, (l.all fun p => f p.1 p.2.1 p.2.2.1 p.2.2.2) = true → ∀ {x c d e : Nat}, find4 l x = some (c, d, e) → f x c d e = true
  | [], _, _, _, _, _, h => by cases h
  | (a, b, b', b2) :: r, hl, x, c, d, e', h => by
    simp only [List.all_cons, Bool.and_eq_true] at hl
    unfold find4 at h
    cases e : Nat.beq a x with
    | false => rw [e] at h; exact find4_all hl.2 h
    | true =>
      rw [e] at h
      simp only [cond_true, Option.some.injEq, Prod.mk.injEq] at h
      have e1 := Nat.eq_of_beq_eq_true e
      rw [← e1, ← h.1, ← h.2.1, ← h.2.2]; exact hl.1
theorem find0_all {f : Nat → Bool} : ∀ {l : List Nat}, l.all f = true → ∀ {x : Nat}, find0 l x = true → f x = true
  | [], _, _, h => by cases h
  | a :: r, hl, x, h => by
    simp only [List.all_cons, Bool.and_eq_true] at hl
    unfold find0 at h
    cases e : Nat.beq a x with
    | false => rw [e] at h; exact find0_all hl.2 h
    | true => rw [← Nat.eq_of_beq_eq_true e]; exact hl.1
def fieldL : List (Nat × Nat × Nat × Nat) := [(7, 0, 0, 2), (7, 1, 1, 3), (7, 2, 2, 4), (7, 3, 3, 6), (8, 0, 0, 2), (8, 1, 1, 3), (8, 2, 2, 4), (8, 3, 3, 6), (13, 0, 0, 9), (13, 1, 1, 12), (14, 0, 0, 9), (14, 1, 1, 12), (18, 0, 0, 17), (19, 0, 0, 17), 
    (23, 0, 0, 3), (23, 1, 1, 3), (23, 2, 2, 3), (23, 3, 3, 3), (23, 4, 4, 3), (23, 5, 5, 3), (23, 6, 6, 3), (23, 7, 7, 3), (23, 8, 8, 3), (24, 0, 0, 3), (24, 1, 1, 3), (24, 2, 2, 3), (24, 3, 3, 3), (24, 4, 4, 3), 
    (24, 5, 5, 3), (24, 6, 6, 3), (24, 7, 7, 3), (24, 8, 8, 3), (25, 0, 0, 24), (25, 1, 9, 3), (26, 0, 0, 24), (26, 1, 9, 3), (50, 0, 0, 24), (50, 1, 9, 49), (50, 2, 10, 3), (50, 3, 11, 4), (50, 4, 12, 4), (50, 5, 13, 4), 
    (50, 6, 14, 38), (51, 0, 0, 24), (51, 1, 9, 49), (51, 2, 10, 3), (51, 3, 11, 4), (51, 4, 12, 4), (51, 5, 13, 4), (51, 6, 14, 38), (60, 0, 0, 24), (60, 1, 9, 24), (60, 2, 18, 3), (60, 3, 19, 3), (60, 4, 20, 3), (61, 0, 0, 24), 
    (61, 1, 9, 24), (61, 2, 18, 3), (61, 3, 19, 3), (61, 4, 20, 3), (63, 0, 0, 3), (63, 1, 1, 3), (63, 2, 2, 3), (63, 3, 3, 3), (63, 4, 4, 3), (63, 5, 5, 3), (63, 6, 6, 3), (64, 0, 0, 3), (64, 1, 1, 3), (64, 2, 2, 3), 
    (64, 3, 3, 3), (64, 4, 4, 3), (64, 5, 5, 3), (64, 6, 6, 3), (66, 0, 0, 47), (66, 1, 1, 33), (67, 0, 0, 47), (67, 1, 1, 33), (83, 0, 0, 82), (83, 1, 2, 3), (83, 2, 3, 3), (84, 0, 0, 82), (84, 1, 2, 3), (84, 2, 3, 3), 
    (95, 0, 0, 3), (95, 1, 1, 94), (96, 0, 0, 3), (96, 1, 1, 94), (97, 0, 0, 24), (97, 1, 9, 3), (98, 0, 0, 24), (98, 1, 9, 3), (122, 0, 0, 17), (122, 1, 1, 17), (122, 2, 2, 17), (122, 3, 3, 9), (123, 0, 0, 17), (123, 1, 1, 17), 
    (123, 2, 2, 17), (123, 3, 3, 9), (134, 0, 0, 12), (134, 1, 1, 12), (134, 2, 2, 127), (134, 3, 3, 128), (134, 4, 4, 5), (134, 5, 5, 5), (134, 6, 6, 129), (134, 7, 7, 130), (134, 8, 8, 131), (134, 9, 9, 132), (134, 10, 10, 133), (135, 0, 0, 12), 
    (135, 1, 1, 12), (135, 2, 2, 127), (135, 3, 3, 128), (135, 4, 4, 5), (135, 5, 5, 5), (135, 6, 6, 129), (135, 7, 7, 130), (135, 8, 8, 131), (135, 9, 9, 132), (135, 10, 10, 133)]
theorem fieldL_ok : (fieldL.all fun p => fieldB Try.prog p.1 p.2.1 p.2.2.1 p.2.2.2) = true := by kernel_rfl
theorem fo {s i k t : Nat} (h : find2 fieldL s i = some (k, t)) : fieldB Try.prog s i k t = true := find2_all (f := fieldB Try.prog) fieldL_ok h
def scalL : List Nat := [0, 1, 2, 3, 4, 5, 6, 9, 10, 11, 12, 15, 16, 17, 20, 21, 22, 27, 28, 29, 30, 31, 32, 33, 34, 35, 36, 37, 38, 39, 
    40, 41, 42, 43, 44, 45, 46, 47, 48, 49, 52, 53, 54, 55, 56, 57, 58, 59, 62, 65, 68, 69, 70, 71, 72, 73, 74, 75, 76, 77, 
    78, 79, 80, 81, 85, 86, 87, 88, 89, 90, 91, 92, 93, 94, 99, 100, 101, 102, 103, 104, 105, 106, 107, 108, 109, 110, 111, 112, 113, 114, 
    115, 116, 117, 118, 119, 120, 121, 127, 128, 129, 130, 131, 132, 133, 136]
theorem scalL_ok : scalL.all (scalarB Try.prog) = true := by kernel_rfl
theorem sc {t : Nat} (h : find0 scalL t = true) : scalarB Try.prog t = true := find0_all scalL_ok h
def aggL : List Nat := [7, 8, 13, 14, 18, 19, 23, 24, 25, 26, 50, 51, 60, 61, 63, 64, 66, 67, 83, 84, 95, 96, 97, 98, 122, 123, 125, 126, 134, 135, 
    82, 124]
theorem aggL_ok : aggL.all (aggB Try.prog) = true := by kernel_rfl
theorem ag {t : Nat} (h : find0 aggL t = true) : aggB Try.prog t = true := find0_all aggL_ok h
def sizeL : List (Nat × Nat) := [(0, 1), (1, 1), (2, 1), (3, 1), (4, 1), (5, 1), (6, 1), (7, 4), (8, 4), (9, 1), (10, 1), (11, 1), (12, 1), (13, 2), (14, 2), (15, 1), (16, 1), (17, 1), (18, 1), (19, 1), 
    (20, 1), (21, 1), (22, 1), (23, 9), (24, 9), (25, 10), (26, 10), (27, 1), (28, 1), (29, 1), (30, 1), (31, 1), (32, 1), (33, 1), (34, 1), (35, 1), (36, 1), (37, 1), (38, 1), (39, 1), 
    (40, 1), (41, 1), (42, 1), (43, 1), (44, 1), (45, 1), (46, 1), (47, 1), (48, 1), (49, 1), (50, 15), (51, 15), (52, 1), (53, 1), (54, 1), (55, 1), (56, 1), (57, 1), (58, 1), (59, 1), 
    (60, 21), (61, 21), (62, 1), (63, 7), (64, 7), (65, 1), (66, 2), (67, 2), (68, 1), (69, 1), (70, 1), (71, 1), (72, 1), (73, 1), (74, 1), (75, 1), (76, 1), (77, 1), (78, 1), (79, 1), 
    (80, 1), (81, 1), (82, 2), (83, 4), (84, 4), (85, 1), (86, 1), (87, 1), (88, 1), (89, 1), (90, 1), (91, 1), (92, 1), (93, 1), (94, 1), (95, 2), (96, 2), (97, 10), (98, 10), (99, 1), 
    (100, 1), (101, 1), (102, 1), (103, 1), (104, 1), (105, 1), (106, 1), (107, 1), (108, 1), (109, 1), (110, 1), (111, 1), (112, 1), (113, 1), (114, 1), (115, 1), (116, 1), (117, 1), (118, 1), (119, 1), 
    (120, 1), (121, 1), (122, 4), (123, 4), (124, 0), (125, 0), (126, 0), (127, 1), (128, 1), (129, 1), (130, 1), (131, 1), (132, 1), (133, 1), (134, 11), (135, 11), (136, 1)]
theorem sizeL_ok : (sizeL.all fun p => sizeB Try.prog p.1 p.2) = true := by kernel_rfl
theorem sz {t n : Nat} (h : find1 sizeL t = some n) : sizeB Try.prog t n = true := find1_all (f := sizeB Try.prog) sizeL_ok h
def bytesL : List (Nat × Nat) := [(0, 0), (1, 8), (2, 8), (3, 8), (4, 1), (5, 1), (6, 1), (7, 24), (8, 24), (9, 16), (10, 16), (11, 16), (12, 8), (13, 24), (14, 24), (15, 8), (16, 8), (17, 8), (18, 8), (19, 8), 
    (20, 16), (21, 4), (22, 8), (23, 72), (24, 72), (25, 80), (26, 80), (27, 24), (28, 8), (29, 8), (30, 24), (31, 8), (32, 8), (33, 24), (34, 8), (35, 0), (36, 8), (37, 24), (38, 8), (39, 0), 
    (40, 8), (41, 8), (42, 8), (43, 8), (44, 8), (45, 8), (46, 8), (47, 8), (48, 8), (49, 24), (50, 120), (51, 120), (52, 8), (53, 8), (54, 8), (55, 8), (56, 8), (57, 8), (58, 8), (59, 8), 
    (60, 168), (61, 168), (62, 8), (63, 56), (64, 56), (65, 8), (66, 32), (67, 32), (68, 8), (69, 8), (70, 8), (71, 8), (72, 8), (73, 8), (74, 8), (75, 8), (76, 8), (77, 8), (78, 8), (79, 8), 
    (80, 24), (81, 8), (82, 48), (83, 64), (84, 64), (85, 8), (86, 24), (87, 8), (88, 0), (89, 8), (90, 8), (91, 8), (92, 8), (93, 8), (94, 24), (95, 32), (96, 32), (97, 80), (98, 80), (99, 8), 
    (100, 8), (101, 8), (102, 0), (103, 8), (104, 8), (105, 8), (106, 8), (107, 8), (108, 0), (109, 8), (110, 8), (111, 8), (112, 8), (113, 8), (114, 0), (115, 8), (116, 8), (117, 8), (118, 8), (119, 8), 
    (120, 8), (121, 8), (122, 40), (123, 40), (124, 0), (125, 0), (126, 0), (127, 4), (128, 1), (129, 1), (130, 8), (131, 8), (132, 4), (133, 4), (134, 48), (135, 48), (136, 8)]
theorem bytesL_ok : (bytesL.all fun p => bytesB Try.prog p.1 p.2) = true := by kernel_rfl
theorem byt {t n : Nat} (h : find1 bytesL t = some n) : bytesB Try.prog t n = true := find1_all (f := bytesB Try.prog) bytesL_ok h
def sliceL : List (Nat × Nat × Nat) := [(27, 26, 10), (30, 64, 7), (33, 24, 9), (37, 51, 15), (49, 61, 21), (80, 81, 1), (86, 33, 1), (94, 98, 10)]
theorem sliceL_ok : (sliceL.all fun p => sliceB Try.prog p.1 p.2.1 p.2.2) = true := by kernel_rfl
theorem se {t e n : Nat} (h : find3 sliceL t = some (e, n)) : sliceB Try.prog t e n = true := find3_all (f := sliceB Try.prog) sliceL_ok h
def arrayL : List (Nat × Nat × Nat × Nat) := [(82, 2, 80, 1), (124, 0, 16, 1)]
theorem arrayL_ok : (arrayL.all fun p => arrayB Try.prog p.1 p.2.1 p.2.2.1 p.2.2.2) = true := by kernel_rfl
theorem ar {t l e n : Nat} (h : find4 arrayL t = some (l, e, n)) : arrayB Try.prog t l e n = true := find4_all (f := arrayB Try.prog) arrayL_ok h
def ptrL : List Nat := [15, 16, 17, 31, 47, 78, 81, 99, 131]
theorem ptrL_ok : ptrL.all (ptrB Try.prog) = true := by kernel_rfl
theorem pt {t : Nat} (h : find0 ptrL t = true) : ptrB Try.prog t = true := find0_all ptrL_ok h
def boolL : List Nat := [4]
theorem boolL_ok : boolL.all (boolB Try.prog) = true := by kernel_rfl
theorem bt {t : Nat} (h : find0 boolL t = true) : boolB Try.prog t = true := find0_all boolL_ok h
theorem ze1 : zeroT Try.prog 1 = some [Value.nilFunc] := by kernel_rfl
theorem ze2 : zeroT Try.prog 2 = some [Value.int .i64 0] := by kernel_rfl
theorem ze3 : zeroT Try.prog 3 = some [Value.int .i64 0] := by kernel_rfl
theorem ze4 : zeroT Try.prog 4 = some [Value.bool false] := by kernel_rfl
theorem ze5 : zeroT Try.prog 5 = some [Value.int .u8 0] := by kernel_rfl
theorem ze6 : zeroT Try.prog 6 = some [Value.int .u8 0] := by kernel_rfl
theorem ze7 : zeroT Try.prog 7 = some [Value.int .i64 0, Value.int .i64 0, Value.bool false, Value.int .u8 0] := by kernel_rfl
theorem ze8 : zeroT Try.prog 8 = some [Value.int .i64 0, Value.int .i64 0, Value.bool false, Value.int .u8 0] := by kernel_rfl
theorem ze12 : zeroT Try.prog 12 = some [Value.int .u64 0] := by kernel_rfl
theorem ze15 : zeroT Try.prog 15 = some [Value.pointer none] := by kernel_rfl
theorem ze16 : zeroT Try.prog 16 = some [Value.pointer none] := by kernel_rfl
theorem ze17 : zeroT Try.prog 17 = some [Value.pointer none] := by kernel_rfl
theorem ze18 : zeroT Try.prog 18 = some [Value.pointer none] := by kernel_rfl
theorem ze19 : zeroT Try.prog 19 = some [Value.pointer none] := by kernel_rfl
theorem ze20 : zeroT Try.prog 20 = some [Value.nilIface] := by kernel_rfl
theorem ze21 : zeroT Try.prog 21 = some [Value.int .i32 0] := by kernel_rfl
theorem ze22 : zeroT Try.prog 22 = some [Value.nilFunc] := by kernel_rfl
theorem ze23 : zeroT Try.prog 23 = some [Value.int .i64 0, Value.int .i64 0, Value.int .i64 0, Value.int .i64 0, Value.int .i64 0, Value.int .i64 0, Value.int .i64 0, Value.int .i64 0, Value.int .i64 0] := by kernel_rfl
theorem ze24 : zeroT Try.prog 24 = some [Value.int .i64 0, Value.int .i64 0, Value.int .i64 0, Value.int .i64 0, Value.int .i64 0, Value.int .i64 0, Value.int .i64 0, Value.int .i64 0, Value.int .i64 0] := by kernel_rfl
theorem ze25 : zeroT Try.prog 25 = some [Value.int .i64 0, Value.int .i64 0, Value.int .i64 0, Value.int .i64 0, Value.int .i64 0, Value.int .i64 0, Value.int .i64 0, Value.int .i64 0, Value.int .i64 0, Value.int .i64 0] := by kernel_rfl
theorem ze26 : zeroT Try.prog 26 = some [Value.int .i64 0, Value.int .i64 0, Value.int .i64 0, Value.int .i64 0, Value.int .i64 0, Value.int .i64 0, Value.int .i64 0, Value.int .i64 0, Value.int .i64 0, Value.int .i64 0] := by kernel_rfl
theorem ze27 : zeroT Try.prog 27 = some [Value.slice none 0 0] := by kernel_rfl
theorem ze28 : zeroT Try.prog 28 = some [Value.nilFunc] := by kernel_rfl
theorem ze29 : zeroT Try.prog 29 = some [Value.nilFunc] := by kernel_rfl
theorem ze30 : zeroT Try.prog 30 = some [Value.slice none 0 0] := by kernel_rfl
theorem ze31 : zeroT Try.prog 31 = some [Value.pointer none] := by kernel_rfl
theorem ze32 : zeroT Try.prog 32 = some [Value.nilFunc] := by kernel_rfl
theorem ze33 : zeroT Try.prog 33 = some [Value.slice none 0 0] := by kernel_rfl
theorem ze34 : zeroT Try.prog 34 = some [Value.nilFunc] := by kernel_rfl
theorem ze36 : zeroT Try.prog 36 = some [Value.nilFunc] := by kernel_rfl
theorem ze37 : zeroT Try.prog 37 = some [Value.slice none 0 0] := by kernel_rfl
theorem ze38 : zeroT Try.prog 38 = some [Value.int .i64 0] := by kernel_rfl
theorem ze40 : zeroT Try.prog 40 = some [Value.nilFunc] := by kernel_rfl
theorem ze41 : zeroT Try.prog 41 = some [Value.nilFunc] := by kernel_rfl
theorem ze42 : zeroT Try.prog 42 = some [Value.nilFunc] := by kernel_rfl
theorem ze43 : zeroT Try.prog 43 = some [Value.nilFunc] := by kernel_rfl
theorem ze44 : zeroT Try.prog 44 = some [Value.nilFunc] := by kernel_rfl
theorem ze45 : zeroT Try.prog 45 = some [Value.nilFunc] := by kernel_rfl
theorem ze46 : zeroT Try.prog 46 = some [Value.nilFunc] := by kernel_rfl
theorem ze47 : zeroT Try.prog 47 = some [Value.pointer none] := by kernel_rfl
theorem ze48 : zeroT Try.prog 48 = some [Value.nilFunc] := by kernel_rfl
theorem ze49 : zeroT Try.prog 49 = some [Value.slice none 0 0] := by kernel_rfl
theorem ze50 : zeroT Try.prog 50 = some [Value.int .i64 0, Value.int .i64 0, Value.int .i64 0, Value.int .i64 0, Value.int .i64 0, Value.int .i64 0, Value.int .i64 0, Value.int .i64 0, Value.int .i64 0, Value.slice none 0 0, Value.int .i64 0, Value.bool false, 
    Value.bool false, Value.bool false, Value.int .i64 0] := by kernel_rfl
theorem ze51 : zeroT Try.prog 51 = some [Value.int .i64 0, Value.int .i64 0, Value.int .i64 0, Value.int .i64 0, Value.int .i64 0, Value.int .i64 0, Value.int .i64 0, Value.int .i64 0, Value.int .i64 0, Value.slice none 0 0, Value.int .i64 0, Value.bool false, 
    Value.bool false, Value.bool false, Value.int .i64 0] := by kernel_rfl
theorem ze52 : zeroT Try.prog 52 = some [Value.nilFunc] := by kernel_rfl
theorem ze53 : zeroT Try.prog 53 = some [Value.nilFunc] := by kernel_rfl
theorem ze54 : zeroT Try.prog 54 = some [Value.int .u64 0] := by kernel_rfl
theorem ze55 : zeroT Try.prog 55 = some [Value.nilFunc] := by kernel_rfl
theorem ze56 : zeroT Try.prog 56 = some [Value.nilFunc] := by kernel_rfl
theorem ze57 : zeroT Try.prog 57 = some [Value.nilFunc] := by kernel_rfl
theorem ze58 : zeroT Try.prog 58 = some [Value.nilFunc] := by kernel_rfl
theorem ze59 : zeroT Try.prog 59 = some [Value.nilFunc] := by kernel_rfl
theorem ze60 : zeroT Try.prog 60 = some [Value.int .i64 0, Value.int .i64 0, Value.int .i64 0, Value.int .i64 0, Value.int .i64 0, Value.int .i64 0, Value.int .i64 0, Value.int .i64 0, Value.int .i64 0, Value.int .i64 0, Value.int .i64 0, Value.int .i64 0, 
    Value.int .i64 0, Value.int .i64 0, Value.int .i64 0, Value.int .i64 0, Value.int .i64 0, Value.int .i64 0, Value.int .i64 0, Value.int .i64 0, Value.int .i64 0] := by kernel_rfl
theorem ze61 : zeroT Try.prog 61 = some [Value.int .i64 0, Value.int .i64 0, Value.int .i64 0, Value.int .i64 0, Value.int .i64 0, Value.int .i64 0, Value.int .i64 0, Value.int .i64 0, Value.int .i64 0, Value.int .i64 0, Value.int .i64 0, Value.int .i64 0, 
    Value.int .i64 0, Value.int .i64 0, Value.int .i64 0, Value.int .i64 0, Value.int .i64 0, Value.int .i64 0, Value.int .i64 0, Value.int .i64 0, Value.int .i64 0] := by kernel_rfl
theorem ze62 : zeroT Try.prog 62 = some [Value.nilFunc] := by kernel_rfl
theorem ze63 : zeroT Try.prog 63 = some [Value.int .i64 0, Value.int .i64 0, Value.int .i64 0, Value.int .i64 0, Value.int .i64 0, Value.int .i64 0, Value.int .i64 0] := by kernel_rfl
theorem ze64 : zeroT Try.prog 64 = some [Value.int .i64 0, Value.int .i64 0, Value.int .i64 0, Value.int .i64 0, Value.int .i64 0, Value.int .i64 0, Value.int .i64 0] := by kernel_rfl
theorem ze65 : zeroT Try.prog 65 = some [Value.nilFunc] := by kernel_rfl
theorem ze66 : zeroT Try.prog 66 = some [Value.pointer none, Value.slice none 0 0] := by kernel_rfl
theorem ze67 : zeroT Try.prog 67 = some [Value.pointer none, Value.slice none 0 0] := by kernel_rfl
theorem ze68 : zeroT Try.prog 68 = some [Value.nilFunc] := by kernel_rfl
theorem ze69 : zeroT Try.prog 69 = some [Value.nilFunc] := by kernel_rfl
theorem ze70 : zeroT Try.prog 70 = some [Value.nilFunc] := by kernel_rfl
theorem ze71 : zeroT Try.prog 71 = some [Value.nilFunc] := by kernel_rfl
theorem ze72 : zeroT Try.prog 72 = some [Value.nilFunc] := by kernel_rfl
theorem ze73 : zeroT Try.prog 73 = some [Value.nilFunc] := by kernel_rfl
theorem ze74 : zeroT Try.prog 74 = some [Value.nilFunc] := by kernel_rfl
theorem ze75 : zeroT Try.prog 75 = some [Value.nilFunc] := by kernel_rfl
theorem ze76 : zeroT Try.prog 76 = some [Value.nilFunc] := by kernel_rfl
theorem ze77 : zeroT Try.prog 77 = some [Value.nilFunc] := by kernel_rfl
theorem ze78 : zeroT Try.prog 78 = some [Value.pointer none] := by kernel_rfl
theorem ze79 : zeroT Try.prog 79 = some [Value.nilFunc] := by kernel_rfl
theorem ze80 : zeroT Try.prog 80 = some [Value.slice none 0 0] := by kernel_rfl
theorem ze81 : zeroT Try.prog 81 = some [Value.pointer none] := by kernel_rfl
theorem ze82 : zeroT Try.prog 82 = some [Value.slice none 0 0, Value.slice none 0 0] := by kernel_rfl
theorem ze83 : zeroT Try.prog 83 = some [Value.slice none 0 0, Value.slice none 0 0, Value.int .i64 0, Value.int .i64 0] := by kernel_rfl
theorem ze84 : zeroT Try.prog 84 = some [Value.slice none 0 0, Value.slice none 0 0, Value.int .i64 0, Value.int .i64 0] := by kernel_rfl
theorem ze85 : zeroT Try.prog 85 = some [Value.int .u64 0] := by kernel_rfl
theorem ze86 : zeroT Try.prog 86 = some [Value.slice none 0 0] := by kernel_rfl
theorem ze87 : zeroT Try.prog 87 = some [Value.nilFunc] := by kernel_rfl
theorem ze89 : zeroT Try.prog 89 = some [Value.nilFunc] := by kernel_rfl
theorem ze90 : zeroT Try.prog 90 = some [Value.nilFunc] := by kernel_rfl
theorem ze91 : zeroT Try.prog 91 = some [Value.nilFunc] := by kernel_rfl
theorem ze92 : zeroT Try.prog 92 = some [Value.nilFunc] := by kernel_rfl
theorem ze93 : zeroT Try.prog 93 = some [Value.nilFunc] := by kernel_rfl
theorem ze94 : zeroT Try.prog 94 = some [Value.slice none 0 0] := by kernel_rfl
theorem ze95 : zeroT Try.prog 95 = some [Value.int .i64 0, Value.slice none 0 0] := by kernel_rfl
theorem ze96 : zeroT Try.prog 96 = some [Value.int .i64 0, Value.slice none 0 0] := by kernel_rfl
theorem ze97 : zeroT Try.prog 97 = some [Value.int .i64 0, Value.int .i64 0, Value.int .i64 0, Value.int .i64 0, Value.int .i64 0, Value.int .i64 0, Value.int .i64 0, Value.int .i64 0, Value.int .i64 0, Value.int .i64 0] := by kernel_rfl
theorem ze98 : zeroT Try.prog 98 = some [Value.int .i64 0, Value.int .i64 0, Value.int .i64 0, Value.int .i64 0, Value.int .i64 0, Value.int .i64 0, Value.int .i64 0, Value.int .i64 0, Value.int .i64 0, Value.int .i64 0] := by kernel_rfl
theorem ze99 : zeroT Try.prog 99 = some [Value.pointer none] := by kernel_rfl
theorem ze100 : zeroT Try.prog 100 = some [Value.nilFunc] := by kernel_rfl
theorem ze101 : zeroT Try.prog 101 = some [Value.nilFunc] := by kernel_rfl
theorem ze103 : zeroT Try.prog 103 = some [Value.nilFunc] := by kernel_rfl
theorem ze104 : zeroT Try.prog 104 = some [Value.nilFunc] := by kernel_rfl
theorem ze105 : zeroT Try.prog 105 = some [Value.nilFunc] := by kernel_rfl
theorem ze106 : zeroT Try.prog 106 = some [Value.nilFunc] := by kernel_rfl
theorem ze107 : zeroT Try.prog 107 = some [Value.nilFunc] := by kernel_rfl
theorem ze109 : zeroT Try.prog 109 = some [Value.nilFunc] := by kernel_rfl
theorem ze110 : zeroT Try.prog 110 = some [Value.nilFunc] := by kernel_rfl
theorem ze111 : zeroT Try.prog 111 = some [Value.nilFunc] := by kernel_rfl
theorem ze112 : zeroT Try.prog 112 = some [Value.nilFunc] := by kernel_rfl
theorem ze113 : zeroT Try.prog 113 = some [Value.nilFunc] := by kernel_rfl
theorem ze115 : zeroT Try.prog 115 = some [Value.nilFunc] := by kernel_rfl
theorem ze116 : zeroT Try.prog 116 = some [Value.nilFunc] := by kernel_rfl
theorem ze117 : zeroT Try.prog 117 = some [Value.nilFunc] := by kernel_rfl
theorem ze118 : zeroT Try.prog 118 = some [Value.nilFunc] := by kernel_rfl
theorem ze119 : zeroT Try.prog 119 = some [Value.nilFunc] := by kernel_rfl
theorem ze120 : zeroT Try.prog 120 = some [Value.nilFunc] := by kernel_rfl
theorem ze121 : zeroT Try.prog 121 = some [Value.nilFunc] := by kernel_rfl
theorem ze124 : zeroT Try.prog 124 = some [] := by kernel_rfl
theorem ze125 : zeroT Try.prog 125 = some [] := by kernel_rfl
theorem ze126 : zeroT Try.prog 126 = some [] := by kernel_rfl
theorem ze127 : zeroT Try.prog 127 = some [Value.int .u32 0] := by kernel_rfl
theorem ze128 : zeroT Try.prog 128 = some [Value.int .u8 0] := by kernel_rfl
theorem ze129 : zeroT Try.prog 129 = some [Value.int .u8 0] := by kernel_rfl
theorem ze130 : zeroT Try.prog 130 = some [Value.nilFunc] := by kernel_rfl
theorem ze131 : zeroT Try.prog 131 = some [Value.pointer none] := by kernel_rfl
theorem ze132 : zeroT Try.prog 132 = some [Value.int .i32 0] := by kernel_rfl
theorem ze133 : zeroT Try.prog 133 = some [Value.int .i32 0] := by kernel_rfl
theorem ze134 : zeroT Try.prog 134 = some [Value.int .u64 0, Value.int .u64 0, Value.int .u32 0, Value.int .u8 0, Value.int .u8 0, Value.int .u8 0, Value.int .u8 0, Value.nilFunc, Value.pointer none, Value.int .i32 0, Value.int .i32 0] := by kernel_rfl
theorem ze135 : zeroT Try.prog 135 = some [Value.int .u64 0, Value.int .u64 0, Value.int .u32 0, Value.int .u8 0, Value.int .u8 0, Value.int .u8 0, Value.int .u8 0, Value.nilFunc, Value.pointer none, Value.int .i32 0, Value.int .i32 0] := by kernel_rfl
theorem ze136 : zeroT Try.prog 136 = some [Value.pointer none] := by kernel_rfl
theorem pl7 : PlacesOk Try.prog 7 [(0, 1), (1, 1), (2, 1), (3, 1)] [Value.int .i64 0, Value.int .i64 0, Value.bool false, Value.int .u8 0] := ⟨by kernel_rfl, by kernel_rfl, by kernel_rfl⟩
theorem pl8 : PlacesOk Try.prog 8 [(0, 1), (1, 1), (2, 1), (3, 1)] [Value.int .i64 0, Value.int .i64 0, Value.bool false, Value.int .u8 0] := ⟨by kernel_rfl, by kernel_rfl, by kernel_rfl⟩
theorem pl18 : PlacesOk Try.prog 18 [(0, 1)] [Value.pointer none] := ⟨by kernel_rfl, by kernel_rfl, by kernel_rfl⟩
theorem pl19 : PlacesOk Try.prog 19 [(0, 1)] [Value.pointer none] := ⟨by kernel_rfl, by kernel_rfl, by kernel_rfl⟩
theorem pl23 : PlacesOk Try.prog 23 [(0, 1), (1, 1), (2, 1), (3, 1), (4, 1), (5, 1), (6, 1), (7, 1), (8, 1)] [Value.int .i64 0, Value.int .i64 0, Value.int .i64 0, Value.int .i64 0, Value.int .i64 0, Value.int .i64 0, Value.int .i64 0, Value.int .i64 0, Value.int .i64 0] := ⟨by kernel_rfl, by kernel_rfl, by kernel_rfl⟩
theorem pl24 : PlacesOk Try.prog 24 [(0, 1), (1, 1), (2, 1), (3, 1), (4, 1), (5, 1), (6, 1), (7, 1), (8, 1)] [Value.int .i64 0, Value.int .i64 0, Value.int .i64 0, Value.int .i64 0, Value.int .i64 0, Value.int .i64 0, Value.int .i64 0, Value.int .i64 0, Value.int .i64 0] := ⟨by kernel_rfl, by kernel_rfl, by kernel_rfl⟩
theorem pl25 : PlacesOk Try.prog 25 [(0, 9), (9, 1)] [Value.int .i64 0, Value.int .i64 0, Value.int .i64 0, Value.int .i64 0, Value.int .i64 0, Value.int .i64 0, Value.int .i64 0, Value.int .i64 0, Value.int .i64 0, Value.int .i64 0] := ⟨by kernel_rfl, by kernel_rfl, by kernel_rfl⟩
theorem pl26 : PlacesOk Try.prog 26 [(0, 9), (9, 1)] [Value.int .i64 0, Value.int .i64 0, Value.int .i64 0, Value.int .i64 0, Value.int .i64 0, Value.int .i64 0, Value.int .i64 0, Value.int .i64 0, Value.int .i64 0, Value.int .i64 0] := ⟨by kernel_rfl, by kernel_rfl, by kernel_rfl⟩
theorem pl50 : PlacesOk Try.prog 50 [(0, 9), (9, 1), (10, 1), (11, 1), (12, 1), (13, 1), (14, 1)] [Value.int .i64 0, Value.int .i64 0, Value.int .i64 0, Value.int .i64 0, Value.int .i64 0, Value.int .i64 0, Value.int .i64 0, Value.int .i64 0, Value.int .i64 0, Value.slice none 0 0, Value.int .i64 0, Value.bool false, 
    Value.bool false, Value.bool false, Value.int .i64 0] := ⟨by kernel_rfl, by kernel_rfl, by kernel_rfl⟩
theorem pl51 : PlacesOk Try.prog 51 [(0, 9), (9, 1), (10, 1), (11, 1), (12, 1), (13, 1), (14, 1)] [Value.int .i64 0, Value.int .i64 0, Value.int .i64 0, Value.int .i64 0, Value.int .i64 0, Value.int .i64 0, Value.int .i64 0, Value.int .i64 0, Value.int .i64 0, Value.slice none 0 0, Value.int .i64 0, Value.bool false, 
    Value.bool false, Value.bool false, Value.int .i64 0] := ⟨by kernel_rfl, by kernel_rfl, by kernel_rfl⟩
theorem pl60 : PlacesOk Try.prog 60 [(0, 9), (9, 9), (18, 1), (19, 1), (20, 1)] [Value.int .i64 0, Value.int .i64 0, Value.int .i64 0, Value.int .i64 0, Value.int .i64 0, Value.int .i64 0, Value.int .i64 0, Value.int .i64 0, Value.int .i64 0, Value.int .i64 0, Value.int .i64 0, Value.int .i64 0, 
    Value.int .i64 0, Value.int .i64 0, Value.int .i64 0, Value.int .i64 0, Value.int .i64 0, Value.int .i64 0, Value.int .i64 0, Value.int .i64 0, Value.int .i64 0] := ⟨by kernel_rfl, by kernel_rfl, by kernel_rfl⟩
theorem pl61 : PlacesOk Try.prog 61 [(0, 9), (9, 9), (18, 1), (19, 1), (20, 1)] [Value.int .i64 0, Value.int .i64 0, Value.int .i64 0, Value.int .i64 0, Value.int .i64 0, Value.int .i64 0, Value.int .i64 0, Value.int .i64 0, Value.int .i64 0, Value.int .i64 0, Value.int .i64 0, Value.int .i64 0, 
    Value.int .i64 0, Value.int .i64 0, Value.int .i64 0, Value.int .i64 0, Value.int .i64 0, Value.int .i64 0, Value.int .i64 0, Value.int .i64 0, Value.int .i64 0] := ⟨by kernel_rfl, by kernel_rfl, by kernel_rfl⟩
theorem pl63 : PlacesOk Try.prog 63 [(0, 1), (1, 1), (2, 1), (3, 1), (4, 1), (5, 1), (6, 1)] [Value.int .i64 0, Value.int .i64 0, Value.int .i64 0, Value.int .i64 0, Value.int .i64 0, Value.int .i64 0, Value.int .i64 0] := ⟨by kernel_rfl, by kernel_rfl, by kernel_rfl⟩
theorem pl64 : PlacesOk Try.prog 64 [(0, 1), (1, 1), (2, 1), (3, 1), (4, 1), (5, 1), (6, 1)] [Value.int .i64 0, Value.int .i64 0, Value.int .i64 0, Value.int .i64 0, Value.int .i64 0, Value.int .i64 0, Value.int .i64 0] := ⟨by kernel_rfl, by kernel_rfl, by kernel_rfl⟩
theorem pl66 : PlacesOk Try.prog 66 [(0, 1), (1, 1)] [Value.pointer none, Value.slice none 0 0] := ⟨by kernel_rfl, by kernel_rfl, by kernel_rfl⟩
theorem pl67 : PlacesOk Try.prog 67 [(0, 1), (1, 1)] [Value.pointer none, Value.slice none 0 0] := ⟨by kernel_rfl, by kernel_rfl, by kernel_rfl⟩
theorem pl83 : PlacesOk Try.prog 83 [(0, 2), (2, 1), (3, 1)] [Value.slice none 0 0, Value.slice none 0 0, Value.int .i64 0, Value.int .i64 0] := ⟨by kernel_rfl, by kernel_rfl, by kernel_rfl⟩
theorem pl84 : PlacesOk Try.prog 84 [(0, 2), (2, 1), (3, 1)] [Value.slice none 0 0, Value.slice none 0 0, Value.int .i64 0, Value.int .i64 0] := ⟨by kernel_rfl, by kernel_rfl, by kernel_rfl⟩
theorem pl95 : PlacesOk Try.prog 95 [(0, 1), (1, 1)] [Value.int .i64 0, Value.slice none 0 0] := ⟨by kernel_rfl, by kernel_rfl, by kernel_rfl⟩
theorem pl96 : PlacesOk Try.prog 96 [(0, 1), (1, 1)] [Value.int .i64 0, Value.slice none 0 0] := ⟨by kernel_rfl, by kernel_rfl, by kernel_rfl⟩
theorem pl97 : PlacesOk Try.prog 97 [(0, 9), (9, 1)] [Value.int .i64 0, Value.int .i64 0, Value.int .i64 0, Value.int .i64 0, Value.int .i64 0, Value.int .i64 0, Value.int .i64 0, Value.int .i64 0, Value.int .i64 0, Value.int .i64 0] := ⟨by kernel_rfl, by kernel_rfl, by kernel_rfl⟩
theorem pl98 : PlacesOk Try.prog 98 [(0, 9), (9, 1)] [Value.int .i64 0, Value.int .i64 0, Value.int .i64 0, Value.int .i64 0, Value.int .i64 0, Value.int .i64 0, Value.int .i64 0, Value.int .i64 0, Value.int .i64 0, Value.int .i64 0] := ⟨by kernel_rfl, by kernel_rfl, by kernel_rfl⟩
theorem pl134 : PlacesOk Try.prog 134 [(0, 1), (1, 1), (2, 1), (3, 1), (4, 1), (5, 1), (6, 1), (7, 1), (8, 1), (9, 1), (10, 1)] [Value.int .u64 0, Value.int .u64 0, Value.int .u32 0, Value.int .u8 0, Value.int .u8 0, Value.int .u8 0, Value.int .u8 0, Value.nilFunc, Value.pointer none, Value.int .i32 0, Value.int .i32 0] := ⟨by kernel_rfl, by kernel_rfl, by kernel_rfl⟩
theorem pl135 : PlacesOk Try.prog 135 [(0, 1), (1, 1), (2, 1), (3, 1), (4, 1), (5, 1), (6, 1), (7, 1), (8, 1), (9, 1), (10, 1)] [Value.int .u64 0, Value.int .u64 0, Value.int .u32 0, Value.int .u8 0, Value.int .u8 0, Value.int .u8 0, Value.int .u8 0, Value.nilFunc, Value.pointer none, Value.int .i32 0, Value.int .i32 0] := ⟨by kernel_rfl, by kernel_rfl, by kernel_rfl⟩
def plainL : List Nat := [2, 3, 4, 5, 6, 7, 8, 9, 10, 11, 12, 13, 14, 15, 16, 17, 18, 19, 20, 21, 22, 23, 24, 25, 26, 27, 28, 29, 30, 31, 
    32, 33, 34, 35, 36, 37, 38, 39, 40, 41, 42, 43, 44, 45, 46, 47, 48, 49, 50, 51, 52, 53, 54, 55, 56, 57, 58, 59, 60, 61, 
    62, 63, 64, 65, 66, 67, 68, 69, 70, 71, 72, 73, 74, 75, 76, 77, 78, 79, 80, 81, 82, 83, 85, 86, 87, 88, 89]
theorem plainL_ok : plainL.all (Program.plainFn Try.prog) = true := by kernel_rfl
theorem pf {f : Nat} (h : find0 plainL f = true) : Program.plainFn Try.prog f = true := find0_all plainL_ok h
theorem mo : Try.prog.follows .mixedOrders = true := by kernel_rfl
end Go.Proofs.Ytfhpoagnfmgfkaa
