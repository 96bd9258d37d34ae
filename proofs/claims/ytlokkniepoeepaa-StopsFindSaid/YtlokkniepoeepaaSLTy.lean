/- The facts on types of this seat's translation, each asked of the program by the kernel. It proves no statement by itself. (Printed by tables.py of this repo.) -/
import Derived.Test.YtlokkniepoeepaaProg
import Derived.Test.YtlokkniepoeepaaSLSlice
set_option autoImplicit false
namespace Go.Proofs.Ytlokkniepoeepaa
open Go Go.SL Go.Proofs
def find2 : List (Nat × Nat × Nat × Nat) → Nat → Nat → Option (Nat × Nat)
  | [], _, _ => none
  | (a, b, c, d) :: r, x, y => bif Nat.beq a x && Nat.beq b y then some (c, d) else find2 r x y
def find1 : List (Nat × Nat) → Nat → Option Nat
  | [], _ => none
  | (a, b) :: r, x => bif Nat.beq a x then some b else find1 r x
def find3 : List (Nat × Nat × Nat) → Nat → Option (Nat × Nat)
  | [], _ => none
  | (a, b, c) :: r, x => bif Nat.beq a x then some (b, c) else find3 r x
def find4 : List (Nat × Nat × Nat × Nat) → Nat → Option (Nat × Nat × Nat)
  | [], _ => none
  | (a, b, c, d) :: r, x => bif Nat.beq a x then some (b, c, d) else find4 r x
def find0 : List Nat → Nat → Bool
  | [], _ => false
  | a :: r, x => bif Nat.beq a x then true else find0 r x
theorem find2_all {f : Nat → Nat → Nat → Nat → Bool} : ∀ {l : List (Nat × Nat × Nat × Nat)}, (l.all fun p => f p.1 p.2.1 p.2.2.1 p.2.2.2) = true → ∀ {x y c d : Nat}, find2 l x y = some (c, d) → f x y c d = true
  | [], _, _, _, _, _, h => by cases h
  | (a, b, c', d') :: r, hl, x, y, c, d, h => by
    simp only [List.all_cons, Bool.and_eq_true] at hl
    unfold find2 at h
    cases e : (Nat.beq a x && Nat.beq b y) with
    | false => rw [e] at h; exact find2_all hl.2 h
    | true =>
      rw [e] at h
      simp only [cond_true, Option.some.injEq, Prod.mk.injEq] at h
      simp only [Bool.and_eq_true] at e
      have e1 := Nat.eq_of_beq_eq_true e.1
      have e2 := Nat.eq_of_beq_eq_true e.2
      rw [← e1, ← e2, ← h.1, ← h.2]; exact hl.1
theorem find1_all {f : Nat → Nat → Bool} : ∀ {l : List (Nat × Nat)}, (l.all fun p => f p.1 p.2) = true → ∀ {x c : Nat}, find1 l x = some c → f x c = true
  | [], _, _, _, h => by cases h
  | (a, b) :: r, hl, x, c, h => by
    simp only [List.all_cons, Bool.and_eq_true] at hl
    unfold find1 at h
    cases e : Nat.beq a x with
    | false => rw [e] at h; exact find1_all hl.2 h
    | true =>
      rw [e] at h
      simp only [cond_true, Option.some.injEq] at h
      have e1 := Nat.eq_of_beq_eq_true e
      rw [← e1, ← h]; exact hl.1
theorem find3_all {f : Nat → Nat → Nat → Bool} : ∀ {l : List (Nat × Nat × Nat)}, (l.all fun p => f p.1 p.2.1 p.2.2) = true → ∀ {x c d : Nat}, find3 l x = some (c, d) → f x c d = true
  | [], _, _, _, _, h => by cases h
  | (a, b, b') :: r, hl, x, c, d, h => by
    simp only [List.all_cons, Bool.and_eq_true] at hl
    unfold find3 at h
    cases e : Nat.beq a x with
    | false => rw [e] at h; exact find3_all hl.2 h
    | true =>
      rw [e] at h
      simp only [cond_true, Option.some.injEq, Prod.mk.injEq] at h
      have e1 := Nat.eq_of_beq_eq_true e
      rw [← e1, ← h.1, ← h.2]; exact hl.1
theorem find4_all {f : Nat → Nat → Nat → Nat → Bool} : ∀ {l : List (Nat × Nat × Nat × Nat)}, (l.all fun p => f p.1 p.2.1 p.2.2.1 p.2.2.2) = true → ∀ {x c d e : Nat}, find4 l x = some (c, d, e) → f x c d e = true
  | [], _, _, _, _, _, h => by cases h
  | (a, b, b', b2) :: r, hl, x, c, d, e', h => by
    simp only [List.all_cons, Bool.and_eq_true] at hl
    unfold find4 at h
    cases e : Nat.beq a x with
    | false => rw [e] at h; exact find4_all hl.2 h
    | true =>
      rw [e] at h
      simp only [cond_true, Option.some.injEq, Prod.mk.injEq] at h
      have e1 := Nat.eq_of_beq_eq_true e
      rw [← e1, ← h.1, ← h.2.1, ← h.2.2]; exact hl.1
theorem find0_all {f : Nat → Bool} : ∀ {l : List Nat}, l.all f = true → ∀ {x : Nat}, find0 l x = true → f x = true
  | [], _, _, h => by cases h
  | a :: r, hl, x, h => by
    simp only [List.all_cons, Bool.and_eq_true] at hl
    unfold find0 at h
    cases e : Nat.beq a x with
    | false => rw [e] at h; exact find0_all hl.2 h
    | true => rw [← Nat.eq_of_beq_eq_true e]; exact hl.1
def fieldL : List (Nat × Nat × Nat × Nat) := [(7, 0, 0, 2), (7, 1, 1, 3), (7, 2, 2, 4), (7, 3, 3, 6), (8, 0, 0, 2), (8, 1, 1, 3), (8, 2, 2, 4), (8, 3, 3, 6), (13, 0, 0, 9), (13, 1, 1, 12), (14, 0, 0, 9), (14, 1, 1, 12), (18, 0, 0, 17), (19, 0, 0, 17), 
    (26, 0, 0, 3), (26, 1, 1, 3), (26, 2, 2, 3), (26, 3, 3, 3), (26, 4, 4, 3), (26, 5, 5, 3), (26, 6, 6, 3), (26, 7, 7, 3), (26, 8, 8, 3), (27, 0, 0, 3), (27, 1, 1, 3), (27, 2, 2, 3), (27, 3, 3, 3), (27, 4, 4, 3), 
    (27, 5, 5, 3), (27, 6, 6, 3), (27, 7, 7, 3), (27, 8, 8, 3), (31, 0, 0, 27), (31, 1, 9, 29), (31, 2, 10, 3), (31, 3, 11, 4), (31, 4, 12, 4), (31, 5, 13, 4), (31, 6, 14, 30), (32, 0, 0, 27), (32, 1, 9, 29), (32, 2, 10, 3), 
    (32, 3, 11, 4), (32, 4, 12, 4), (32, 5, 13, 4), (32, 6, 14, 30), (33, 0, 0, 27), (33, 1, 9, 27), (33, 2, 18, 3), (33, 3, 19, 3), (33, 4, 20, 3), (34, 0, 0, 27), (34, 1, 9, 27), (34, 2, 18, 3), (34, 3, 19, 3), (34, 4, 20, 3), 
    (45, 0, 0, 3), (45, 1, 1, 3), (45, 2, 2, 3), (45, 3, 3, 3), (45, 4, 4, 3), (45, 5, 5, 3), (45, 6, 6, 3), (46, 0, 0, 3), (46, 1, 1, 3), (46, 2, 2, 3), (46, 3, 3, 3), (46, 4, 4, 3), (46, 5, 5, 3), (46, 6, 6, 3), 
    (57, 0, 0, 42), (57, 1, 1, 35), (58, 0, 0, 42), (58, 1, 1, 35), (64, 0, 0, 63), (64, 1, 2, 3), (64, 2, 3, 3), (65, 0, 0, 63), (65, 1, 2, 3), (65, 2, 3, 3), (82, 0, 0, 27), (82, 1, 9, 3), (83, 0, 0, 27), (83, 1, 9, 3), 
    (91, 0, 0, 3), (91, 1, 1, 90), (92, 0, 0, 3), (92, 1, 1, 90), (93, 0, 0, 27), (93, 1, 9, 3), (94, 0, 0, 27), (94, 1, 9, 3), (112, 0, 0, 17), (112, 1, 1, 17), (112, 2, 2, 17), (112, 3, 3, 9), (113, 0, 0, 17), (113, 1, 1, 17), 
    (113, 2, 2, 17), (113, 3, 3, 9), (124, 0, 0, 12), (124, 1, 1, 12), (124, 2, 2, 117), (124, 3, 3, 118), (124, 4, 4, 5), (124, 5, 5, 5), (124, 6, 6, 119), (124, 7, 7, 120), (124, 8, 8, 121), (124, 9, 9, 122), (124, 10, 10, 123), (125, 0, 0, 12), 
    (125, 1, 1, 12), (125, 2, 2, 117), (125, 3, 3, 118), (125, 4, 4, 5), (125, 5, 5, 5), (125, 6, 6, 119), (125, 7, 7, 120), (125, 8, 8, 121), (125, 9, 9, 122), (125, 10, 10, 123)]
theorem fieldL_ok : (fieldL.all fun p => fieldB Try.prog p.1 p.2.1 p.2.2.1 p.2.2.2) = true := by kernel_rfl
theorem fo {s i k t : Nat} (h : find2 fieldL s i = some (k, t)) : fieldB Try.prog s i k t = true := find2_all (f := fieldB Try.prog) fieldL_ok h
def scalL : List Nat := [0, 1, 2, 3, 4, 5, 6, 9, 10, 11, 12, 15, 16, 17, 20, 21, 22, 23, 24, 25, 28, 29, 30, 35, 36, 37, 38, 39, 40, 41, 
    42, 43, 44, 47, 48, 49, 50, 51, 52, 53, 54, 55, 56, 59, 60, 61, 62, 66, 67, 68, 69, 70, 71, 72, 73, 74, 75, 76, 77, 78, 
    79, 80, 81, 84, 85, 86, 87, 88, 89, 90, 95, 96, 97, 98, 99, 100, 101, 102, 103, 104, 105, 106, 107, 108, 109, 110, 111, 117, 118, 119, 
    120, 121, 122, 123, 126]
theorem scalL_ok : scalL.all (scalarB Try.prog) = true := by kernel_rfl
theorem sc {t : Nat} (h : find0 scalL t = true) : scalarB Try.prog t = true := find0_all scalL_ok h
def aggL : List Nat := [7, 8, 13, 14, 18, 19, 26, 27, 31, 32, 33, 34, 45, 46, 57, 58, 64, 65, 82, 83, 91, 92, 93, 94, 112, 113, 115, 116, 124, 125, 
    63, 114]
theorem aggL_ok : aggL.all (aggB Try.prog) = true := by kernel_rfl
theorem ag {t : Nat} (h : find0 aggL t = true) : aggB Try.prog t = true := find0_all aggL_ok h
def sizeL : List (Nat × Nat) := [(0, 1), (1, 1), (2, 1), (3, 1), (4, 1), (5, 1), (6, 1), (7, 4), (8, 4), (9, 1), (10, 1), (11, 1), (12, 1), (13, 2), (14, 2), (15, 1), (16, 1), (17, 1), (18, 1), (19, 1), 
    (20, 1), (21, 1), (22, 1), (23, 1), (24, 1), (25, 1), (26, 9), (27, 9), (28, 1), (29, 1), (30, 1), (31, 15), (32, 15), (33, 21), (34, 21), (35, 1), (36, 1), (37, 1), (38, 1), (39, 1), 
    (40, 1), (41, 1), (42, 1), (43, 1), (44, 1), (45, 7), (46, 7), (47, 1), (48, 1), (49, 1), (50, 1), (51, 1), (52, 1), (53, 1), (54, 1), (55, 1), (56, 1), (57, 2), (58, 2), (59, 1), 
    (60, 1), (61, 1), (62, 1), (63, 2), (64, 4), (65, 4), (66, 1), (67, 1), (68, 1), (69, 1), (70, 1), (71, 1), (72, 1), (73, 1), (74, 1), (75, 1), (76, 1), (77, 1), (78, 1), (79, 1), 
    (80, 1), (81, 1), (82, 10), (83, 10), (84, 1), (85, 1), (86, 1), (87, 1), (88, 1), (89, 1), (90, 1), (91, 2), (92, 2), (93, 10), (94, 10), (95, 1), (96, 1), (97, 1), (98, 1), (99, 1), 
    (100, 1), (101, 1), (102, 1), (103, 1), (104, 1), (105, 1), (106, 1), (107, 1), (108, 1), (109, 1), (110, 1), (111, 1), (112, 4), (113, 4), (114, 0), (115, 0), (116, 0), (117, 1), (118, 1), (119, 1), 
    (120, 1), (121, 1), (122, 1), (123, 1), (124, 11), (125, 11), (126, 1)]
theorem sizeL_ok : (sizeL.all fun p => sizeB Try.prog p.1 p.2) = true := by kernel_rfl
theorem sz {t n : Nat} (h : find1 sizeL t = some n) : sizeB Try.prog t n = true := find1_all (f := sizeB Try.prog) sizeL_ok h
def bytesL : List (Nat × Nat) := [(0, 0), (1, 8), (2, 8), (3, 8), (4, 1), (5, 1), (6, 1), (7, 24), (8, 24), (9, 16), (10, 16), (11, 16), (12, 8), (13, 24), (14, 24), (15, 8), (16, 8), (17, 8), (18, 8), (19, 8), 
    (20, 16), (21, 4), (22, 8), (23, 8), (24, 24), (25, 8), (26, 72), (27, 72), (28, 8), (29, 24), (30, 8), (31, 120), (32, 120), (33, 168), (34, 168), (35, 24), (36, 8), (37, 8), (38, 24), (39, 8), 
    (40, 8), (41, 24), (42, 8), (43, 8), (44, 8), (45, 56), (46, 56), (47, 8), (48, 8), (49, 8), (50, 8), (51, 8), (52, 8), (53, 8), (54, 0), (55, 8), (56, 8), (57, 32), (58, 32), (59, 8), 
    (60, 8), (61, 8), (62, 24), (63, 48), (64, 64), (65, 64), (66, 0), (67, 8), (68, 8), (69, 8), (70, 8), (71, 8), (72, 8), (73, 8), (74, 8), (75, 8), (76, 8), (77, 8), (78, 8), (79, 24), 
    (80, 0), (81, 8), (82, 80), (83, 80), (84, 8), (85, 8), (86, 8), (87, 8), (88, 8), (89, 8), (90, 24), (91, 32), (92, 32), (93, 80), (94, 80), (95, 24), (96, 8), (97, 0), (98, 8), (99, 0), 
    (100, 8), (101, 8), (102, 8), (103, 8), (104, 8), (105, 8), (106, 8), (107, 8), (108, 8), (109, 8), (110, 8), (111, 8), (112, 40), (113, 40), (114, 0), (115, 0), (116, 0), (117, 4), (118, 1), (119, 1), 
    (120, 8), (121, 8), (122, 4), (123, 4), (124, 48), (125, 48), (126, 8)]
theorem bytesL_ok : (bytesL.all fun p => bytesB Try.prog p.1 p.2) = true := by kernel_rfl
theorem byt {t n : Nat} (h : find1 bytesL t = some n) : bytesB Try.prog t n = true := find1_all (f := bytesB Try.prog) bytesL_ok h
def sliceL : List (Nat × Nat × Nat) := [(24, 32, 15), (29, 34, 21), (35, 27, 9), (38, 3, 1), (41, 46, 7), (62, 73, 1), (79, 83, 10), (90, 94, 10), (95, 35, 1)]
theorem sliceL_ok : (sliceL.all fun p => sliceB Try.prog p.1 p.2.1 p.2.2) = true := by kernel_rfl
theorem se {t e n : Nat} (h : find3 sliceL t = some (e, n)) : sliceB Try.prog t e n = true := find3_all (f := sliceB Try.prog) sliceL_ok h
def arrayL : List (Nat × Nat × Nat × Nat) := [(63, 2, 62, 1), (114, 0, 16, 1)]
theorem arrayL_ok : (arrayL.all fun p => arrayB Try.prog p.1 p.2.1 p.2.2.1 p.2.2.2) = true := by kernel_rfl
theorem ar {t l e n : Nat} (h : find4 arrayL t = some (l, e, n)) : arrayB Try.prog t l e n = true := find4_all (f := arrayB Try.prog) arrayL_ok h
def ptrL : List Nat := [15, 16, 17, 22, 42, 71, 73, 107, 121]
theorem ptrL_ok : ptrL.all (ptrB Try.prog) = true := by kernel_rfl
theorem pt {t : Nat} (h : find0 ptrL t = true) : ptrB Try.prog t = true := find0_all ptrL_ok h
def boolL : List Nat := [4]
theorem boolL_ok : boolL.all (boolB Try.prog) = true := by kernel_rfl
theorem bt {t : Nat} (h : find0 boolL t = true) : boolB Try.prog t = true := find0_all boolL_ok h
theorem ze1 : zeroT Try.prog 1 = some [Value.nilFunc] := by kernel_rfl
theorem ze2 : zeroT Try.prog 2 = some [Value.int .i64 0] := by kernel_rfl
theorem ze3 : zeroT Try.prog 3 = some [Value.int .i64 0] := by kernel_rfl
theorem ze4 : zeroT Try.prog 4 = some [Value.bool false] := by kernel_rfl
theorem ze5 : zeroT Try.prog 5 = some [Value.int .u8 0] := by kernel_rfl
theorem ze6 : zeroT Try.prog 6 = some [Value.int .u8 0] := by kernel_rfl
theorem ze7 : zeroT Try.prog 7 = some [Value.int .i64 0, Value.int .i64 0, Value.bool false, Value.int .u8 0] := by kernel_rfl
theorem ze8 : zeroT Try.prog 8 = some [Value.int .i64 0, Value.int .i64 0, Value.bool false, Value.int .u8 0] := by kernel_rfl
theorem ze12 : zeroT Try.prog 12 = some [Value.int .u64 0] := by kernel_rfl
theorem ze15 : zeroT Try.prog 15 = some [Value.pointer none] := by kernel_rfl
theorem ze16 : zeroT Try.prog 16 = some [Value.pointer none] := by kernel_rfl
theorem ze17 : zeroT Try.prog 17 = some [Value.pointer none] := by kernel_rfl
theorem ze18 : zeroT Try.prog 18 = some [Value.pointer none] := by kernel_rfl
theorem ze19 : zeroT Try.prog 19 = some [Value.pointer none] := by kernel_rfl
theorem ze20 : zeroT Try.prog 20 = some [Value.nilIface] := by kernel_rfl
theorem ze21 : zeroT Try.prog 21 = some [Value.int .i32 0] := by kernel_rfl
theorem ze22 : zeroT Try.prog 22 = some [Value.pointer none] := by kernel_rfl
theorem ze23 : zeroT Try.prog 23 = some [Value.nilFunc] := by kernel_rfl
theorem ze24 : zeroT Try.prog 24 = some [Value.slice none 0 0] := by kernel_rfl
theorem ze25 : zeroT Try.prog 25 = some [Value.nilFunc] := by kernel_rfl
theorem ze26 : zeroT Try.prog 26 = some [Value.int .i64 0, Value.int .i64 0, Value.int .i64 0, Value.int .i64 0, Value.int .i64 0, Value.int .i64 0, Value.int .i64 0, Value.int .i64 0, Value.int .i64 0] := by kernel_rfl
theorem ze27 : zeroT Try.prog 27 = some [Value.int .i64 0, Value.int .i64 0, Value.int .i64 0, Value.int .i64 0, Value.int .i64 0, Value.int .i64 0, Value.int .i64 0, Value.int .i64 0, Value.int .i64 0] := by kernel_rfl
theorem ze28 : zeroT Try.prog 28 = some [Value.nilFunc] := by kernel_rfl
theorem ze29 : zeroT Try.prog 29 = some [Value.slice none 0 0] := by kernel_rfl
theorem ze30 : zeroT Try.prog 30 = some [Value.int .i64 0] := by kernel_rfl
theorem ze31 : zeroT Try.prog 31 = some [Value.int .i64 0, Value.int .i64 0, Value.int .i64 0, Value.int .i64 0, Value.int .i64 0, Value.int .i64 0, Value.int .i64 0, Value.int .i64 0, Value.int .i64 0, Value.slice none 0 0, Value.int .i64 0, Value.bool false, 
    Value.bool false, Value.bool false, Value.int .i64 0] := by kernel_rfl
theorem ze32 : zeroT Try.prog 32 = some [Value.int .i64 0, Value.int .i64 0, Value.int .i64 0, Value.int .i64 0, Value.int .i64 0, Value.int .i64 0, Value.int .i64 0, Value.int .i64 0, Value.int .i64 0, Value.slice none 0 0, Value.int .i64 0, Value.bool false, 
    Value.bool false, Value.bool false, Value.int .i64 0] := by kernel_rfl
theorem ze33 : zeroT Try.prog 33 = some [Value.int .i64 0, Value.int .i64 0, Value.int .i64 0, Value.int .i64 0, Value.int .i64 0, Value.int .i64 0, Value.int .i64 0, Value.int .i64 0, Value.int .i64 0, Value.int .i64 0, Value.int .i64 0, Value.int .i64 0, 
    Value.int .i64 0, Value.int .i64 0, Value.int .i64 0, Value.int .i64 0, Value.int .i64 0, Value.int .i64 0, Value.int .i64 0, Value.int .i64 0, Value.int .i64 0] := by kernel_rfl
theorem ze34 : zeroT Try.prog 34 = some [Value.int .i64 0, Value.int .i64 0, Value.int .i64 0, Value.int .i64 0, Value.int .i64 0, Value.int .i64 0, Value.int .i64 0, Value.int .i64 0, Value.int .i64 0, Value.int .i64 0, Value.int .i64 0, Value.int .i64 0, 
    Value.int .i64 0, Value.int .i64 0, Value.int .i64 0, Value.int .i64 0, Value.int .i64 0, Value.int .i64 0, Value.int .i64 0, Value.int .i64 0, Value.int .i64 0] := by kernel_rfl
theorem ze35 : zeroT Try.prog 35 = some [Value.slice none 0 0] := by kernel_rfl
theorem ze36 : zeroT Try.prog 36 = some [Value.nilFunc] := by kernel_rfl
theorem ze37 : zeroT Try.prog 37 = some [Value.nilFunc] := by kernel_rfl
theorem ze38 : zeroT Try.prog 38 = some [Value.slice none 0 0] := by kernel_rfl
theorem ze39 : zeroT Try.prog 39 = some [Value.nilFunc] := by kernel_rfl
theorem ze40 : zeroT Try.prog 40 = some [Value.nilFunc] := by kernel_rfl
theorem ze41 : zeroT Try.prog 41 = some [Value.slice none 0 0] := by kernel_rfl
theorem ze42 : zeroT Try.prog 42 = some [Value.pointer none] := by kernel_rfl
theorem ze43 : zeroT Try.prog 43 = some [Value.nilFunc] := by kernel_rfl
theorem ze44 : zeroT Try.prog 44 = some [Value.nilFunc] := by kernel_rfl
theorem ze45 : zeroT Try.prog 45 = some [Value.int .i64 0, Value.int .i64 0, Value.int .i64 0, Value.int .i64 0, Value.int .i64 0, Value.int .i64 0, Value.int .i64 0] := by kernel_rfl
theorem ze46 : zeroT Try.prog 46 = some [Value.int .i64 0, Value.int .i64 0, Value.int .i64 0, Value.int .i64 0, Value.int .i64 0, Value.int .i64 0, Value.int .i64 0] := by kernel_rfl
theorem ze47 : zeroT Try.prog 47 = some [Value.nilFunc] := by kernel_rfl
theorem ze48 : zeroT Try.prog 48 = some [Value.nilFunc] := by kernel_rfl
theorem ze49 : zeroT Try.prog 49 = some [Value.nilFunc] := by kernel_rfl
theorem ze50 : zeroT Try.prog 50 = some [Value.nilFunc] := by kernel_rfl
theorem ze51 : zeroT Try.prog 51 = some [Value.nilFunc] := by kernel_rfl
theorem ze52 : zeroT Try.prog 52 = some [Value.nilFunc] := by kernel_rfl
theorem ze53 : zeroT Try.prog 53 = some [Value.nilFunc] := by kernel_rfl
theorem ze55 : zeroT Try.prog 55 = some [Value.nilFunc] := by kernel_rfl
theorem ze56 : zeroT Try.prog 56 = some [Value.nilFunc] := by kernel_rfl
theorem ze57 : zeroT Try.prog 57 = some [Value.pointer none, Value.slice none 0 0] := by kernel_rfl
theorem ze58 : zeroT Try.prog 58 = some [Value.pointer none, Value.slice none 0 0] := by kernel_rfl
theorem ze59 : zeroT Try.prog 59 = some [Value.nilFunc] := by kernel_rfl
theorem ze60 : zeroT Try.prog 60 = some [Value.nilFunc] := by kernel_rfl
theorem ze61 : zeroT Try.prog 61 = some [Value.nilFunc] := by kernel_rfl
theorem ze62 : zeroT Try.prog 62 = some [Value.slice none 0 0] := by kernel_rfl
theorem ze63 : zeroT Try.prog 63 = some [Value.slice none 0 0, Value.slice none 0 0] := by kernel_rfl
theorem ze64 : zeroT Try.prog 64 = some [Value.slice none 0 0, Value.slice none 0 0, Value.int .i64 0, Value.int .i64 0] := by kernel_rfl
theorem ze65 : zeroT Try.prog 65 = some [Value.slice none 0 0, Value.slice none 0 0, Value.int .i64 0, Value.int .i64 0] := by kernel_rfl
theorem ze67 : zeroT Try.prog 67 = some [Value.nilFunc] := by kernel_rfl
theorem ze68 : zeroT Try.prog 68 = some [Value.nilFunc] := by kernel_rfl
theorem ze69 : zeroT Try.prog 69 = some [Value.nilFunc] := by kernel_rfl
theorem ze70 : zeroT Try.prog 70 = some [Value.nilFunc] := by kernel_rfl
theorem ze71 : zeroT Try.prog 71 = some [Value.pointer none] := by kernel_rfl
theorem ze72 : zeroT Try.prog 72 = some [Value.nilFunc] := by kernel_rfl
theorem ze73 : zeroT Try.prog 73 = some [Value.pointer none] := by kernel_rfl
theorem ze74 : zeroT Try.prog 74 = some [Value.nilFunc] := by kernel_rfl
theorem ze75 : zeroT Try.prog 75 = some [Value.nilFunc] := by kernel_rfl
theorem ze76 : zeroT Try.prog 76 = some [Value.nilFunc] := by kernel_rfl
theorem ze77 : zeroT Try.prog 77 = some [Value.nilFunc] := by kernel_rfl
theorem ze78 : zeroT Try.prog 78 = some [Value.nilFunc] := by kernel_rfl
theorem ze79 : zeroT Try.prog 79 = some [Value.slice none 0 0] := by kernel_rfl
theorem ze81 : zeroT Try.prog 81 = some [Value.nilFunc] := by kernel_rfl
theorem ze82 : zeroT Try.prog 82 = some [Value.int .i64 0, Value.int .i64 0, Value.int .i64 0, Value.int .i64 0, Value.int .i64 0, Value.int .i64 0, Value.int .i64 0, Value.int .i64 0, Value.int .i64 0, Value.int .i64 0] := by kernel_rfl
theorem ze83 : zeroT Try.prog 83 = some [Value.int .i64 0, Value.int .i64 0, Value.int .i64 0, Value.int .i64 0, Value.int .i64 0, Value.int .i64 0, Value.int .i64 0, Value.int .i64 0, Value.int .i64 0, Value.int .i64 0] := by kernel_rfl
theorem ze84 : zeroT Try.prog 84 = some [Value.nilFunc] := by kernel_rfl
theorem ze85 : zeroT Try.prog 85 = some [Value.nilFunc] := by kernel_rfl
theorem ze86 : zeroT Try.prog 86 = some [Value.nilFunc] := by kernel_rfl
theorem ze87 : zeroT Try.prog 87 = some [Value.nilFunc] := by kernel_rfl
theorem ze88 : zeroT Try.prog 88 = some [Value.nilFunc] := by kernel_rfl
theorem ze89 : zeroT Try.prog 89 = some [Value.nilFunc] := by kernel_rfl
theorem ze90 : zeroT Try.prog 90 = some [Value.slice none 0 0] := by kernel_rfl
theorem ze91 : zeroT Try.prog 91 = some [Value.int .i64 0, Value.slice none 0 0] := by kernel_rfl
theorem ze92 : zeroT Try.prog 92 = some [Value.int .i64 0, Value.slice none 0 0] := by kernel_rfl
theorem ze93 : zeroT Try.prog 93 = some [Value.int .i64 0, Value.int .i64 0, Value.int .i64 0, Value.int .i64 0, Value.int .i64 0, Value.int .i64 0, Value.int .i64 0, Value.int .i64 0, Value.int .i64 0, Value.int .i64 0] := by kernel_rfl
theorem ze94 : zeroT Try.prog 94 = some [Value.int .i64 0, Value.int .i64 0, Value.int .i64 0, Value.int .i64 0, Value.int .i64 0, Value.int .i64 0, Value.int .i64 0, Value.int .i64 0, Value.int .i64 0, Value.int .i64 0] := by kernel_rfl
theorem ze95 : zeroT Try.prog 95 = some [Value.slice none 0 0] := by kernel_rfl
theorem ze96 : zeroT Try.prog 96 = some [Value.nilFunc] := by kernel_rfl
theorem ze98 : zeroT Try.prog 98 = some [Value.nilFunc] := by kernel_rfl
theorem ze100 : zeroT Try.prog 100 = some [Value.nilFunc] := by kernel_rfl
theorem ze101 : zeroT Try.prog 101 = some [Value.nilFunc] := by kernel_rfl
theorem ze102 : zeroT Try.prog 102 = some [Value.nilFunc] := by kernel_rfl
theorem ze103 : zeroT Try.prog 103 = some [Value.nilFunc] := by kernel_rfl
theorem ze104 : zeroT Try.prog 104 = some [Value.nilFunc] := by kernel_rfl
theorem ze105 : zeroT Try.prog 105 = some [Value.nilFunc] := by kernel_rfl
theorem ze106 : zeroT Try.prog 106 = some [Value.nilFunc] := by kernel_rfl
theorem ze107 : zeroT Try.prog 107 = some [Value.pointer none] := by kernel_rfl
theorem ze108 : zeroT Try.prog 108 = some [Value.nilFunc] := by kernel_rfl
theorem ze109 : zeroT Try.prog 109 = some [Value.nilFunc] := by kernel_rfl
theorem ze110 : zeroT Try.prog 110 = some [Value.nilFunc] := by kernel_rfl
theorem ze111 : zeroT Try.prog 111 = some [Value.nilFunc] := by kernel_rfl
theorem ze114 : zeroT Try.prog 114 = some [] := by kernel_rfl
theorem ze115 : zeroT Try.prog 115 = some [] := by kernel_rfl
theorem ze116 : zeroT Try.prog 116 = some [] := by kernel_rfl
theorem ze117 : zeroT Try.prog 117 = some [Value.int .u32 0] := by kernel_rfl
theorem ze118 : zeroT Try.prog 118 = some [Value.int .u8 0] := by kernel_rfl
theorem ze119 : zeroT Try.prog 119 = some [Value.int .u8 0] := by kernel_rfl
theorem ze120 : zeroT Try.prog 120 = some [Value.nilFunc] := by kernel_rfl
theorem ze121 : zeroT Try.prog 121 = some [Value.pointer none] := by kernel_rfl
theorem ze122 : zeroT Try.prog 122 = some [Value.int .i32 0] := by kernel_rfl
theorem ze123 : zeroT Try.prog 123 = some [Value.int .i32 0] := by kernel_rfl
theorem ze124 : zeroT Try.prog 124 = some [Value.int .u64 0, Value.int .u64 0, Value.int .u32 0, Value.int .u8 0, Value.int .u8 0, Value.int .u8 0, Value.int .u8 0, Value.nilFunc, Value.pointer none, Value.int .i32 0, Value.int .i32 0] := by kernel_rfl
theorem ze125 : zeroT Try.prog 125 = some [Value.int .u64 0, Value.int .u64 0, Value.int .u32 0, Value.int .u8 0, Value.int .u8 0, Value.int .u8 0, Value.int .u8 0, Value.nilFunc, Value.pointer none, Value.int .i32 0, Value.int .i32 0] := by kernel_rfl
theorem ze126 : zeroT Try.prog 126 = some [Value.pointer none] := by kernel_rfl
theorem pl7 : PlacesOk Try.prog 7 [(0, 1), (1, 1), (2, 1), (3, 1)] [Value.int .i64 0, Value.int .i64 0, Value.bool false, Value.int .u8 0] := ⟨by kernel_rfl, by kernel_rfl, by kernel_rfl⟩
theorem pl8 : PlacesOk Try.prog 8 [(0, 1), (1, 1), (2, 1), (3, 1)] [Value.int .i64 0, Value.int .i64 0, Value.bool false, Value.int .u8 0] := ⟨by kernel_rfl, by kernel_rfl, by kernel_rfl⟩
theorem pl18 : PlacesOk Try.prog 18 [(0, 1)] [Value.pointer none] := ⟨by kernel_rfl, by kernel_rfl, by kernel_rfl⟩
theorem pl19 : PlacesOk Try.prog 19 [(0, 1)] [Value.pointer none] := ⟨by kernel_rfl, by kernel_rfl, by kernel_rfl⟩
theorem pl26 : PlacesOk Try.prog 26 [(0, 1), (1, 1), (2, 1), (3, 1), (4, 1), (5, 1), (6, 1), (7, 1), (8, 1)] [Value.int .i64 0, Value.int .i64 0, Value.int .i64 0, Value.int .i64 0, Value.int .i64 0, Value.int .i64 0, Value.int .i64 0, Value.int .i64 0, Value.int .i64 0] := ⟨by kernel_rfl, by kernel_rfl, by kernel_rfl⟩
theorem pl27 : PlacesOk Try.prog 27 [(0, 1), (1, 1), (2, 1), (3, 1), (4, 1), (5, 1), (6, 1), (7, 1), (8, 1)] [Value.int .i64 0, Value.int .i64 0, Value.int .i64 0, Value.int .i64 0, Value.int .i64 0, Value.int .i64 0, Value.int .i64 0, Value.int .i64 0, Value.int .i64 0] := ⟨by kernel_rfl, by kernel_rfl, by kernel_rfl⟩
theorem pl31 : PlacesOk Try.prog 31 [(0, 9), (9, 1), (10, 1), (11, 1), (12, 1), (13, 1), (14, 1)] [Value.int .i64 0, Value.int .i64 0, Value.int .i64 0, Value.int .i64 0, Value.int .i64 0, Value.int .i64 0, Value.int .i64 0, Value.int .i64 0, Value.int .i64 0, Value.slice none 0 0, Value.int .i64 0, Value.bool false, 
    Value.bool false, Value.bool false, Value.int .i64 0] := ⟨by kernel_rfl, by kernel_rfl, by kernel_rfl⟩
theorem pl32 : PlacesOk Try.prog 32 [(0, 9), (9, 1), (10, 1), (11, 1), (12, 1), (13, 1), (14, 1)] [Value.int .i64 0, Value.int .i64 0, Value.int .i64 0, Value.int .i64 0, Value.int .i64 0, Value.int .i64 0, Value.int .i64 0, Value.int .i64 0, Value.int .i64 0, Value.slice none 0 0, Value.int .i64 0, Value.bool false, 
    Value.bool false, Value.bool false, Value.int .i64 0] := ⟨by kernel_rfl, by kernel_rfl, by kernel_rfl⟩
theorem pl33 : PlacesOk Try.prog 33 [(0, 9), (9, 9), (18, 1), (19, 1), (20, 1)] [Value.int .i64 0, Value.int .i64 0, Value.int .i64 0, Value.int .i64 0, Value.int .i64 0, Value.int .i64 0, Value.int .i64 0, Value.int .i64 0, Value.int .i64 0, Value.int .i64 0, Value.int .i64 0, Value.int .i64 0, 
    Value.int .i64 0, Value.int .i64 0, Value.int .i64 0, Value.int .i64 0, Value.int .i64 0, Value.int .i64 0, Value.int .i64 0, Value.int .i64 0, Value.int .i64 0] := ⟨by kernel_rfl, by kernel_rfl, by kernel_rfl⟩
theorem pl34 : PlacesOk Try.prog 34 [(0, 9), (9, 9), (18, 1), (19, 1), (20, 1)] [Value.int .i64 0, Value.int .i64 0, Value.int .i64 0, Value.int .i64 0, Value.int .i64 0, Value.int .i64 0, Value.int .i64 0, Value.int .i64 0, Value.int .i64 0, Value.int .i64 0, Value.int .i64 0, Value.int .i64 0, 
    Value.int .i64 0, Value.int .i64 0, Value.int .i64 0, Value.int .i64 0, Value.int .i64 0, Value.int .i64 0, Value.int .i64 0, Value.int .i64 0, Value.int .i64 0] := ⟨by kernel_rfl, by kernel_rfl, by kernel_rfl⟩
theorem pl45 : PlacesOk Try.prog 45 [(0, 1), (1, 1), (2, 1), (3, 1), (4, 1), (5, 1), (6, 1)] [Value.int .i64 0, Value.int .i64 0, Value.int .i64 0, Value.int .i64 0, Value.int .i64 0, Value.int .i64 0, Value.int .i64 0] := ⟨by kernel_rfl, by kernel_rfl, by kernel_rfl⟩
theorem pl46 : PlacesOk Try.prog 46 [(0, 1), (1, 1), (2, 1), (3, 1), (4, 1), (5, 1), (6, 1)] [Value.int .i64 0, Value.int .i64 0, Value.int .i64 0, Value.int .i64 0, Value.int .i64 0, Value.int .i64 0, Value.int .i64 0] := ⟨by kernel_rfl, by kernel_rfl, by kernel_rfl⟩
theorem pl57 : PlacesOk Try.prog 57 [(0, 1), (1, 1)] [Value.pointer none, Value.slice none 0 0] := ⟨by kernel_rfl, by kernel_rfl, by kernel_rfl⟩
theorem pl58 : PlacesOk Try.prog 58 [(0, 1), (1, 1)] [Value.pointer none, Value.slice none 0 0] := ⟨by kernel_rfl, by kernel_rfl, by kernel_rfl⟩
theorem pl64 : PlacesOk Try.prog 64 [(0, 2), (2, 1), (3, 1)] [Value.slice none 0 0, Value.slice none 0 0, Value.int .i64 0, Value.int .i64 0] := ⟨by kernel_rfl, by kernel_rfl, by kernel_rfl⟩
theorem pl65 : PlacesOk Try.prog 65 [(0, 2), (2, 1), (3, 1)] [Value.slice none 0 0, Value.slice none 0 0, Value.int .i64 0, Value.int .i64 0] := ⟨by kernel_rfl, by kernel_rfl, by kernel_rfl⟩
theorem pl82 : PlacesOk Try.prog 82 [(0, 9), (9, 1)] [Value.int .i64 0, Value.int .i64 0, Value.int .i64 0, Value.int .i64 0, Value.int .i64 0, Value.int .i64 0, Value.int .i64 0, Value.int .i64 0, Value.int .i64 0, Value.int .i64 0] := ⟨by kernel_rfl, by kernel_rfl, by kernel_rfl⟩
theorem pl83 : PlacesOk Try.prog 83 [(0, 9), (9, 1)] [Value.int .i64 0, Value.int .i64 0, Value.int .i64 0, Value.int .i64 0, Value.int .i64 0, Value.int .i64 0, Value.int .i64 0, Value.int .i64 0, Value.int .i64 0, Value.int .i64 0] := ⟨by kernel_rfl, by kernel_rfl, by kernel_rfl⟩
theorem pl91 : PlacesOk Try.prog 91 [(0, 1), (1, 1)] [Value.int .i64 0, Value.slice none 0 0] := ⟨by kernel_rfl, by kernel_rfl, by kernel_rfl⟩
theorem pl92 : PlacesOk Try.prog 92 [(0, 1), (1, 1)] [Value.int .i64 0, Value.slice none 0 0] := ⟨by kernel_rfl, by kernel_rfl, by kernel_rfl⟩
theorem pl93 : PlacesOk Try.prog 93 [(0, 9), (9, 1)] [Value.int .i64 0, Value.int .i64 0, Value.int .i64 0, Value.int .i64 0, Value.int .i64 0, Value.int .i64 0, Value.int .i64 0, Value.int .i64 0, Value.int .i64 0, Value.int .i64 0] := ⟨by kernel_rfl, by kernel_rfl, by kernel_rfl⟩
theorem pl94 : PlacesOk Try.prog 94 [(0, 9), (9, 1)] [Value.int .i64 0, Value.int .i64 0, Value.int .i64 0, Value.int .i64 0, Value.int .i64 0, Value.int .i64 0, Value.int .i64 0, Value.int .i64 0, Value.int .i64 0, Value.int .i64 0] := ⟨by kernel_rfl, by kernel_rfl, by kernel_rfl⟩
theorem pl124 : PlacesOk Try.prog 124 [(0, 1), (1, 1), (2, 1), (3, 1), (4, 1), (5, 1), (6, 1), (7, 1), (8, 1), (9, 1), (10, 1)] [Value.int .u64 0, Value.int .u64 0, Value.int .u32 0, Value.int .u8 0, Value.int .u8 0, Value.int .u8 0, Value.int .u8 0, Value.nilFunc, Value.pointer none, Value.int .i32 0, Value.int .i32 0] := ⟨by kernel_rfl, by kernel_rfl, by kernel_rfl⟩
theorem pl125 : PlacesOk Try.prog 125 [(0, 1), (1, 1), (2, 1), (3, 1), (4, 1), (5, 1), (6, 1), (7, 1), (8, 1), (9, 1), (10, 1)] [Value.int .u64 0, Value.int .u64 0, Value.int .u32 0, Value.int .u8 0, Value.int .u8 0, Value.int .u8 0, Value.int .u8 0, Value.nilFunc, Value.pointer none, Value.int .i32 0, Value.int .i32 0] := ⟨by kernel_rfl, by kernel_rfl, by kernel_rfl⟩
def plainL : List Nat := [2, 3, 4, 5, 6, 7, 8, 9, 10, 11, 12, 13, 14, 15, 16, 17, 18, 19, 20, 21, 22, 23, 24, 25, 26, 27, 28, 29, 30, 31, 
    32, 33, 34, 35, 36, 37, 38, 39, 40, 41, 42, 43, 44, 45, 46, 47, 48, 49, 50, 51, 52, 53, 54, 55, 56, 57, 58, 59, 60, 61, 
    62, 63, 64, 65, 66, 67, 68, 70, 71, 72, 73, 74, 75, 76, 77, 78]
theorem plainL_ok : plainL.all (Program.plainFn Try.prog) = true := by kernel_rfl
theorem pf {f : Nat} (h : find0 plainL f = true) : Program.plainFn Try.prog f = true := find0_all plainL_ok h
theorem mo : Try.prog.follows .mixedOrders = true := by kernel_rfl
end Go.Proofs.Ytlokkniepoeepaa
