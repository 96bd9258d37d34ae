/- The facts on types of this seat's translation, each asked of the program by the kernel. It proves no statement by itself. (Printed by tables.py of this repo.) -/
import Derived.Test.YtiilndlgfgikbaaProg
import Derived.Test.YtiilndlgfgikbaaSLSlice
set_option autoImplicit false
namespace Go.Proofs.Ytiilndlgfgikbaa
open Go Go.SL Go.Proofs
def find2 : List (Nat × Nat × Nat × Nat) → Nat → Nat → Option (Nat × Nat)
  | [], _, _ => none
  | (a, b, c, d) :: r, x, y => bif Nat.beq a x && Nat.beq b y then some (c, d) else find2 r x y
def find1 : List (Nat × Nat) → Nat → Option Nat
  | [], _ => none
  | (a, b) :: r, x => bif Nat.beq a x then some b else find1 r x
def find3 : List (Nat × Nat × Nat) → Nat → Option (Nat × Nat)
  | [], _ => none
  | (a, b, c) :: r, x => bif Nat.beq a x then some (b, c) else find3 r x
def find4 : List (Nat × Nat × Nat × Nat) → Nat → Option (Nat × Nat × Nat)
  | [], _ => none
  | (a, b, c, d) :: r, x => bif Nat.beq a x then some (b, c, d) else find4 r x
def find0 : List Nat → Nat → Bool
  | [], _ => false
  | a :: r, x => bif Nat.beq a x then true else find0 r x
theorem find2_all {f : Nat → Nat → Nat → Nat → Bool} : ∀ {l : List (Nat × Nat × Nat × Nat)}, (l.all fun p => f p.1 p.2.1 p.2.2.1 p.2.2.2) = true → ∀ {x y c d : Nat}, find2 l x y = some (c, d) → f x y c d = true
  | [], _, _, _, _, _, h => by cases h
  | (a, b, c', d') :: r, hl, x, y, c, d, h => by
    simp only [List.all_cons, Bool.and_eq_true] at hl
    unfold find2 at h
    cases e : (Nat.beq a x && Nat.beq b y) with
    | false => rw [e] at h; exact find2_all hl.2 h
    | true =>
      rw [e] at h
      simp only [cond_true, Option.some.injEq, Prod.mk.injEq] at h
      simp only [Bool.and_eq_true] at e
      have e1 := Nat.eq_of_beq_eq_true e.1
      have e2 := Nat.eq_of_beq_eq_true e.2
      rw [← e1, ← e2, ← h.1, ← h.2]; exact hl.1
theorem find1_all {f : Nat → Nat → Bool} : ∀ {l : List (Nat × Nat)}, (l.all fun p => f p.1 p.2) = true → ∀ {x c : Nat}, find1 l x = some c → f x c = true
  | [], _, _, _, h => by cases h
  | (a, b) :: r, hl, x, c, h => by
    simp only [List.all_cons, Bool.and_eq_true] at hl
    unfold find1 at h
    cases e : Nat.beq a x with
    | false => rw [e] at h; exact find1_all hl.2 h
    | true =>
      rw [e] at h
      simp only [cond_true, Option.some.injEq] at h
      have e1 := Nat.eq_of_beq_eq_true e
      rw [← e1, ← h]; exact hl.1
theorem find3_all {f : Nat → Nat → Nat → Bool} : ∀ {l : List (Nat × Nat × Nat)}, (l.all fun p => f p.1 p.2.1 p.2.2) = true → ∀ {x c d : Nat}, find3 l x = some (c, d) → f x c d = true
  | [], _, _, _, _, h => by cases h
  | (a, b, b') :: r, hl, x, c, d, h => by
    simp only [List.all_cons, Bool.and_eq_true] at hl
    unfold find3 at h
    cases e : Nat.beq a x with
    | false => rw [e] at h; exact find3_all hl.2 h
    | true =>
      rw [e] at h
      simp only [cond_true, Option.some.injEq, Prod.mk.injEq] at h
      have e1 := Nat.eq_of_beq_eq_true e
      rw [← e1, ← h.1, ← h.2]; exact hl.1
theorem find4_all {f : Nat → Nat → Nat → Nat → Bool} : ∀ {l : List (Nat × Nat × Nat × Nat)}, (l.all fun p => f p.1 p.2.1 p.2.2.1 p.2.2.2) = true → ∀ {x c d e : Nat}, find4 l x = some (c, d, e) → f x c d e = true
  | [], _, _, _, _, _, h => by cases h
  | (a, b, b', b2) :: r, hl, x, c, d, e', h => by
    simp only [List.all_cons, Bool.and_eq_true] at hl
    unfold find4 at h
    cases e : Nat.beq a x with
    | false => rw [e] at h; exact find4_all hl.2 h
    | true =>
      rw [e] at h
      simp only [cond_true, Option.some.injEq, Prod.mk.injEq] at h
      have e1 := Nat.eq_of_beq_eq_true e
      rw [← e1, ← h.1, ← h.2.1, ← h.2.2]; exact hl.1
theorem find0_all {f : Nat → Bool} : ∀ {l : List Nat}, l.all f = true → ∀ {x : Nat}, find0 l x = true → f x = true
  | [], _, _, h => by cases h
  | a :: r, hl, x, h => by
    simp only [List.all_cons, Bool.and_eq_true] at hl
    unfold find0 at h
    cases e : Nat.beq a x with
    | false => rw [e] at h; exact find0_all hl.2 h
    | true => rw [← Nat.eq_of_beq_eq_true e]; exact hl.1
def fieldL : List (Nat × Nat × Nat × Nat) := [(7, 0, 0, 2), (7, 1, 1, 3), (7, 2, 2, 4), (7, 3, 3, 6), (8, 0, 0, 2), (8, 1, 1, 3), (8, 2, 2, 4), (8, 3, 3, 6), (13, 0, 0, 9), (13, 1, 1, 12), (14, 0, 0, 9), (14, 1, 1, 12), (18, 0, 0, 17), (19, 0, 0, 17), 
    (24, 0, 0, 3), (24, 1, 1, 3), (24, 2, 2, 3), (24, 3, 3, 3), (24, 4, 4, 3), (24, 5, 5, 3), (24, 6, 6, 3), (24, 7, 7, 3), (24, 8, 8, 3), (25, 0, 0, 3), (25, 1, 1, 3), (25, 2, 2, 3), (25, 3, 3, 3), (25, 4, 4, 3), 
    (25, 5, 5, 3), (25, 6, 6, 3), (25, 7, 7, 3), (25, 8, 8, 3), (28, 0, 0, 25), (28, 1, 9, 26), (28, 2, 10, 3), (28, 3, 11, 4), (28, 4, 12, 4), (28, 5, 13, 4), (28, 6, 14, 27), (29, 0, 0, 25), (29, 1, 9, 26), (29, 2, 10, 3), 
    (29, 3, 11, 4), (29, 4, 12, 4), (29, 5, 13, 4), (29, 6, 14, 27), (35, 0, 0, 25), (35, 1, 9, 25), (35, 2, 18, 3), (35, 3, 19, 3), (35, 4, 20, 3), (36, 0, 0, 25), (36, 1, 9, 25), (36, 2, 18, 3), (36, 3, 19, 3), (36, 4, 20, 3), 
    (38, 0, 0, 25), (38, 1, 9, 3), (39, 0, 0, 25), (39, 1, 9, 3), (42, 0, 0, 3), (42, 1, 1, 3), (42, 2, 2, 3), (42, 3, 3, 3), (42, 4, 4, 3), (42, 5, 5, 3), (42, 6, 6, 3), (43, 0, 0, 3), (43, 1, 1, 3), (43, 2, 2, 3), 
    (43, 3, 3, 3), (43, 4, 4, 3), (43, 5, 5, 3), (43, 6, 6, 3), (62, 0, 0, 61), (62, 1, 2, 3), (62, 2, 3, 3), (63, 0, 0, 61), (63, 1, 2, 3), (63, 2, 3, 3), (84, 0, 0, 3), (84, 1, 1, 83), (85, 0, 0, 3), (85, 1, 1, 83), 
    (86, 0, 0, 25), (86, 1, 9, 3), (87, 0, 0, 25), (87, 1, 9, 3), (102, 0, 0, 17), (102, 1, 1, 17), (102, 2, 2, 17), (102, 3, 3, 9), (103, 0, 0, 17), (103, 1, 1, 17), (103, 2, 2, 17), (103, 3, 3, 9), (114, 0, 0, 12), (114, 1, 1, 12), 
    (114, 2, 2, 107), (114, 3, 3, 108), (114, 4, 4, 5), (114, 5, 5, 5), (114, 6, 6, 109), (114, 7, 7, 110), (114, 8, 8, 111), (114, 9, 9, 112), (114, 10, 10, 113), (115, 0, 0, 12), (115, 1, 1, 12), (115, 2, 2, 107), (115, 3, 3, 108), (115, 4, 4, 5), 
    (115, 5, 5, 5), (115, 6, 6, 109), (115, 7, 7, 110), (115, 8, 8, 111), (115, 9, 9, 112), (115, 10, 10, 113)]
theorem fieldL_ok : (fieldL.all fun p => fieldB Try.prog p.1 p.2.1 p.2.2.1 p.2.2.2) = true := by kernel_rfl
theorem fo {s i k t : Nat} (h : find2 fieldL s i = some (k, t)) : fieldB Try.prog s i k t = true := find2_all (f := fieldB Try.prog) fieldL_ok h
def scalL : List Nat := [0, 1, 2, 3, 4, 5, 6, 9, 10, 11, 12, 15, 16, 17, 20, 21, 22, 23, 26, 27, 30, 31, 32, 33, 34, 37, 40, 41, 44, 45, 
    46, 47, 48, 49, 50, 51, 52, 53, 54, 55, 56, 57, 58, 59, 60, 64, 65, 66, 67, 68, 69, 70, 71, 72, 73, 74, 75, 76, 77, 78, 
    79, 80, 81, 82, 83, 88, 89, 90, 91, 92, 93, 94, 95, 96, 97, 98, 99, 100, 101, 107, 108, 109, 110, 111, 112, 113, 116]
theorem scalL_ok : scalL.all (scalarB Try.prog) = true := by kernel_rfl
theorem sc {t : Nat} (h : find0 scalL t = true) : scalarB Try.prog t = true := find0_all scalL_ok h
def aggL : List Nat := [7, 8, 13, 14, 18, 19, 24, 25, 28, 29, 35, 36, 38, 39, 42, 43, 62, 63, 84, 85, 86, 87, 102, 103, 105, 106, 114, 115, 61, 104]
theorem aggL_ok : aggL.all (aggB Try.prog) = true := by kernel_rfl
theorem ag {t : Nat} (h : find0 aggL t = true) : aggB Try.prog t = true := find0_all aggL_ok h
def sizeL : List (Nat × Nat) := [(0, 1), (1, 1), (2, 1), (3, 1), (4, 1), (5, 1), (6, 1), (7, 4), (8, 4), (9, 1), (10, 1), (11, 1), (12, 1), (13, 2), (14, 2), (15, 1), (16, 1), (17, 1), (18, 1), (19, 1), 
    (20, 1), (21, 1), (22, 1), (23, 1), (24, 9), (25, 9), (26, 1), (27, 1), (28, 15), (29, 15), (30, 1), (31, 1), (32, 1), (33, 1), (34, 1), (35, 21), (36, 21), (37, 1), (38, 10), (39, 10), 
    (40, 1), (41, 1), (42, 7), (43, 7), (44, 1), (45, 1), (46, 1), (47, 1), (48, 1), (49, 1), (50, 1), (51, 1), (52, 1), (53, 1), (54, 1), (55, 1), (56, 1), (57, 1), (58, 1), (59, 1), 
    (60, 1), (61, 2), (62, 4), (63, 4), (64, 1), (65, 1), (66, 1), (67, 1), (68, 1), (69, 1), (70, 1), (71, 1), (72, 1), (73, 1), (74, 1), (75, 1), (76, 1), (77, 1), (78, 1), (79, 1), 
    (80, 1), (81, 1), (82, 1), (83, 1), (84, 2), (85, 2), (86, 10), (87, 10), (88, 1), (89, 1), (90, 1), (91, 1), (92, 1), (93, 1), (94, 1), (95, 1), (96, 1), (97, 1), (98, 1), (99, 1), 
    (100, 1), (101, 1), (102, 4), (103, 4), (104, 0), (105, 0), (106, 0), (107, 1), (108, 1), (109, 1), (110, 1), (111, 1), (112, 1), (113, 1), (114, 11), (115, 11), (116, 1)]
theorem sizeL_ok : (sizeL.all fun p => sizeB Try.prog p.1 p.2) = true := by kernel_rfl
theorem sz {t n : Nat} (h : find1 sizeL t = some n) : sizeB Try.prog t n = true := find1_all (f := sizeB Try.prog) sizeL_ok h
def bytesL : List (Nat × Nat) := [(0, 0), (1, 8), (2, 8), (3, 8), (4, 1), (5, 1), (6, 1), (7, 24), (8, 24), (9, 16), (10, 16), (11, 16), (12, 8), (13, 24), (14, 24), (15, 8), (16, 8), (17, 8), (18, 8), (19, 8), 
    (20, 16), (21, 4), (22, 8), (23, 8), (24, 72), (25, 72), (26, 24), (27, 8), (28, 120), (29, 120), (30, 8), (31, 8), (32, 24), (33, 8), (34, 8), (35, 168), (36, 168), (37, 8), (38, 80), (39, 80), 
    (40, 8), (41, 24), (42, 56), (43, 56), (44, 8), (45, 8), (46, 0), (47, 8), (48, 8), (49, 24), (50, 8), (51, 8), (52, 24), (53, 8), (54, 8), (55, 8), (56, 8), (57, 8), (58, 8), (59, 8), 
    (60, 24), (61, 48), (62, 64), (63, 64), (64, 8), (65, 0), (66, 8), (67, 8), (68, 8), (69, 8), (70, 8), (71, 8), (72, 0), (73, 8), (74, 8), (75, 8), (76, 8), (77, 0), (78, 8), (79, 8), 
    (80, 8), (81, 8), (82, 8), (83, 24), (84, 32), (85, 32), (86, 80), (87, 80), (88, 8), (89, 8), (90, 8), (91, 0), (92, 8), (93, 8), (94, 8), (95, 8), (96, 8), (97, 8), (98, 8), (99, 8), 
    (100, 8), (101, 8), (102, 40), (103, 40), (104, 0), (105, 0), (106, 0), (107, 4), (108, 1), (109, 1), (110, 8), (111, 8), (112, 4), (113, 4), (114, 48), (115, 48), (116, 8)]
theorem bytesL_ok : (bytesL.all fun p => bytesB Try.prog p.1 p.2) = true := by kernel_rfl
theorem byt {t n : Nat} (h : find1 bytesL t = some n) : bytesB Try.prog t n = true := find1_all (f := bytesB Try.prog) bytesL_ok h
def sliceL : List (Nat × Nat × Nat) := [(26, 36, 21), (32, 39, 10), (41, 43, 7), (49, 3, 1), (52, 25, 9), (60, 71, 1), (83, 87, 10)]
theorem sliceL_ok : (sliceL.all fun p => sliceB Try.prog p.1 p.2.1 p.2.2) = true := by kernel_rfl
theorem se {t e n : Nat} (h : find3 sliceL t = some (e, n)) : sliceB Try.prog t e n = true := find3_all (f := sliceB Try.prog) sliceL_ok h
def arrayL : List (Nat × Nat × Nat × Nat) := [(61, 2, 60, 1), (104, 0, 16, 1)]
theorem arrayL_ok : (arrayL.all fun p => arrayB Try.prog p.1 p.2.1 p.2.2.1 p.2.2.2) = true := by kernel_rfl
theorem ar {t l e n : Nat} (h : find4 arrayL t = some (l, e, n)) : arrayB Try.prog t l e n = true := find4_all (f := arrayB Try.prog) arrayL_ok h
def ptrL : List Nat := [15, 16, 17, 22, 69, 71, 99, 111]
theorem ptrL_ok : ptrL.all (ptrB Try.prog) = true := by kernel_rfl
theorem pt {t : Nat} (h : find0 ptrL t = true) : ptrB Try.prog t = true := find0_all ptrL_ok h
def boolL : List Nat := [4]
theorem boolL_ok : boolL.all (boolB Try.prog) = true := by kernel_rfl
theorem bt {t : Nat} (h : find0 boolL t = true) : boolB Try.prog t = true := find0_all boolL_ok h
theorem ze1 : zeroT Try.prog 1 = some [Value.nilFunc] := by kernel_rfl
theorem ze2 : zeroT Try.prog 2 = some [Value.int .i64 0] := by kernel_rfl
theorem ze3 : zeroT Try.prog 3 = some [Value.int .i64 0] := by kernel_rfl
theorem ze4 : zeroT Try.prog 4 = some [Value.bool false] := by kernel_rfl
theorem ze5 : zeroT Try.prog 5 = some [Value.int .u8 0] := by kernel_rfl
theorem ze6 : zeroT Try.prog 6 = some [Value.int .u8 0] := by kernel_rfl
theorem ze7 : zeroT Try.prog 7 = some [Value.int .i64 0, Value.int .i64 0, Value.bool false, Value.int .u8 0] := by kernel_rfl
theorem ze8 : zeroT Try.prog 8 = some [Value.int .i64 0, Value.int .i64 0, Value.bool false, Value.int .u8 0] := by kernel_rfl
theorem ze12 : zeroT Try.prog 12 = some [Value.int .u64 0] := by kernel_rfl
theorem ze15 : zeroT Try.prog 15 = some [Value.pointer none] := by kernel_rfl
theorem ze16 : zeroT Try.prog 16 = some [Value.pointer none] := by kernel_rfl
theorem ze17 : zeroT Try.prog 17 = some [Value.pointer none] := by kernel_rfl
theorem ze18 : zeroT Try.prog 18 = some [Value.pointer none] := by kernel_rfl
theorem ze19 : zeroT Try.prog 19 = some [Value.pointer none] := by kernel_rfl
theorem ze20 : zeroT Try.prog 20 = some [Value.nilIface] := by kernel_rfl
theorem ze21 : zeroT Try.prog 21 = some [Value.int .i32 0] := by kernel_rfl
theorem ze22 : zeroT Try.prog 22 = some [Value.pointer none] := by kernel_rfl
theorem ze23 : zeroT Try.prog 23 = some [Value.nilFunc] := by kernel_rfl
theorem ze24 : zeroT Try.prog 24 = some [Value.int .i64 0, Value.int .i64 0, Value.int .i64 0, Value.int .i64 0, Value.int .i64 0, Value.int .i64 0, Value.int .i64 0, Value.int .i64 0, Value.int .i64 0] := by kernel_rfl
theorem ze25 : zeroT Try.prog 25 = some [Value.int .i64 0, Value.int .i64 0, Value.int .i64 0, Value.int .i64 0, Value.int .i64 0, Value.int .i64 0, Value.int .i64 0, Value.int .i64 0, Value.int .i64 0] := by kernel_rfl
theorem ze26 : zeroT Try.prog 26 = some [Value.slice none 0 0] := by kernel_rfl
theorem ze27 : zeroT Try.prog 27 = some [Value.int .i64 0] := by kernel_rfl
theorem ze28 : zeroT Try.prog 28 = some [Value.int .i64 0, Value.int .i64 0, Value.int .i64 0, Value.int .i64 0, Value.int .i64 0, Value.int .i64 0, Value.int .i64 0, Value.int .i64 0, Value.int .i64 0, Value.slice none 0 0, Value.int .i64 0, Value.bool false, 
    Value.bool false, Value.bool false, Value.int .i64 0] := by kernel_rfl
theorem ze29 : zeroT Try.prog 29 = some [Value.int .i64 0, Value.int .i64 0, Value.int .i64 0, Value.int .i64 0, Value.int .i64 0, Value.int .i64 0, Value.int .i64 0, Value.int .i64 0, Value.int .i64 0, Value.slice none 0 0, Value.int .i64 0, Value.bool false, 
    Value.bool false, Value.bool false, Value.int .i64 0] := by kernel_rfl
theorem ze30 : zeroT Try.prog 30 = some [Value.nilFunc] := by kernel_rfl
theorem ze31 : zeroT Try.prog 31 = some [Value.nilFunc] := by kernel_rfl
theorem ze32 : zeroT Try.prog 32 = some [Value.slice none 0 0] := by kernel_rfl
theorem ze33 : zeroT Try.prog 33 = some [Value.nilFunc] := by kernel_rfl
theorem ze34 : zeroT Try.prog 34 = some [Value.nilFunc] := by kernel_rfl
theorem ze35 : zeroT Try.prog 35 = some [Value.int .i64 0, Value.int .i64 0, Value.int .i64 0, Value.int .i64 0, Value.int .i64 0, Value.int .i64 0, Value.int .i64 0, Value.int .i64 0, Value.int .i64 0, Value.int .i64 0, Value.int .i64 0, Value.int .i64 0, 
    Value.int .i64 0, Value.int .i64 0, Value.int .i64 0, Value.int .i64 0, Value.int .i64 0, Value.int .i64 0, Value.int .i64 0, Value.int .i64 0, Value.int .i64 0] := by kernel_rfl
theorem ze36 : zeroT Try.prog 36 = some [Value.int .i64 0, Value.int .i64 0, Value.int .i64 0, Value.int .i64 0, Value.int .i64 0, Value.int .i64 0, Value.int .i64 0, Value.int .i64 0, Value.int .i64 0, Value.int .i64 0, Value.int .i64 0, Value.int .i64 0, 
    Value.int .i64 0, Value.int .i64 0, Value.int .i64 0, Value.int .i64 0, Value.int .i64 0, Value.int .i64 0, Value.int .i64 0, Value.int .i64 0, Value.int .i64 0] := by kernel_rfl
theorem ze37 : zeroT Try.prog 37 = some [Value.nilFunc] := by kernel_rfl
theorem ze38 : zeroT Try.prog 38 = some [Value.int .i64 0, Value.int .i64 0, Value.int .i64 0, Value.int .i64 0, Value.int .i64 0, Value.int .i64 0, Value.int .i64 0, Value.int .i64 0, Value.int .i64 0, Value.int .i64 0] := by kernel_rfl
theorem ze39 : zeroT Try.prog 39 = some [Value.int .i64 0, Value.int .i64 0, Value.int .i64 0, Value.int .i64 0, Value.int .i64 0, Value.int .i64 0, Value.int .i64 0, Value.int .i64 0, Value.int .i64 0, Value.int .i64 0] := by kernel_rfl
theorem ze40 : zeroT Try.prog 40 = some [Value.nilFunc] := by kernel_rfl
theorem ze41 : zeroT Try.prog 41 = some [Value.slice none 0 0] := by kernel_rfl
theorem ze42 : zeroT Try.prog 42 = some [Value.int .i64 0, Value.int .i64 0, Value.int .i64 0, Value.int .i64 0, Value.int .i64 0, Value.int .i64 0, Value.int .i64 0] := by kernel_rfl
theorem ze43 : zeroT Try.prog 43 = some [Value.int .i64 0, Value.int .i64 0, Value.int .i64 0, Value.int .i64 0, Value.int .i64 0, Value.int .i64 0, Value.int .i64 0] := by kernel_rfl
theorem ze44 : zeroT Try.prog 44 = some [Value.nilFunc] := by kernel_rfl
theorem ze45 : zeroT Try.prog 45 = some [Value.nilFunc] := by kernel_rfl
theorem ze47 : zeroT Try.prog 47 = some [Value.nilFunc] := by kernel_rfl
theorem ze48 : zeroT Try.prog 48 = some [Value.nilFunc] := by kernel_rfl
theorem ze49 : zeroT Try.prog 49 = some [Value.slice none 0 0] := by kernel_rfl
theorem ze50 : zeroT Try.prog 50 = some [Value.nilFunc] := by kernel_rfl
theorem ze51 : zeroT Try.prog 51 = some [Value.nilFunc] := by kernel_rfl
theorem ze52 : zeroT Try.prog 52 = some [Value.slice none 0 0] := by kernel_rfl
theorem ze53 : zeroT Try.prog 53 = some [Value.nilFunc] := by kernel_rfl
theorem ze54 : zeroT Try.prog 54 = some [Value.nilFunc] := by kernel_rfl
theorem ze55 : zeroT Try.prog 55 = some [Value.nilFunc] := by kernel_rfl
theorem ze56 : zeroT Try.prog 56 = some [Value.nilFunc] := by kernel_rfl
theorem ze57 : zeroT Try.prog 57 = some [Value.nilFunc] := by kernel_rfl
theorem ze58 : zeroT Try.prog 58 = some [Value.nilFunc] := by kernel_rfl
theorem ze59 : zeroT Try.prog 59 = some [Value.map none] := by kernel_rfl
theorem ze60 : zeroT Try.prog 60 = some [Value.slice none 0 0] := by kernel_rfl
theorem ze61 : zeroT Try.prog 61 = some [Value.slice none 0 0, Value.slice none 0 0] := by kernel_rfl
theorem ze62 : zeroT Try.prog 62 = some [Value.slice none 0 0, Value.slice none 0 0, Value.int .i64 0, Value.int .i64 0] := by kernel_rfl
theorem ze63 : zeroT Try.prog 63 = some [Value.slice none 0 0, Value.slice none 0 0, Value.int .i64 0, Value.int .i64 0] := by kernel_rfl
theorem ze64 : zeroT Try.prog 64 = some [Value.nilFunc] := by kernel_rfl
theorem ze66 : zeroT Try.prog 66 = some [Value.nilFunc] := by kernel_rfl
theorem ze67 : zeroT Try.prog 67 = some [Value.nilFunc] := by kernel_rfl
theorem ze68 : zeroT Try.prog 68 = some [Value.nilFunc] := by kernel_rfl
theorem ze69 : zeroT Try.prog 69 = some [Value.pointer none] := by kernel_rfl
theorem ze70 : zeroT Try.prog 70 = some [Value.nilFunc] := by kernel_rfl
theorem ze71 : zeroT Try.prog 71 = some [Value.pointer none] := by kernel_rfl
theorem ze73 : zeroT Try.prog 73 = some [Value.nilFunc] := by kernel_rfl
theorem ze74 : zeroT Try.prog 74 = some [Value.nilFunc] := by kernel_rfl
theorem ze75 : zeroT Try.prog 75 = some [Value.nilFunc] := by kernel_rfl
theorem ze76 : zeroT Try.prog 76 = some [Value.nilFunc] := by kernel_rfl
theorem ze78 : zeroT Try.prog 78 = some [Value.nilFunc] := by kernel_rfl
theorem ze79 : zeroT Try.prog 79 = some [Value.nilFunc] := by kernel_rfl
theorem ze80 : zeroT Try.prog 80 = some [Value.nilFunc] := by kernel_rfl
theorem ze81 : zeroT Try.prog 81 = some [Value.nilFunc] := by kernel_rfl
theorem ze82 : zeroT Try.prog 82 = some [Value.nilFunc] := by kernel_rfl
theorem ze83 : zeroT Try.prog 83 = some [Value.slice none 0 0] := by kernel_rfl
theorem ze84 : zeroT Try.prog 84 = some [Value.int .i64 0, Value.slice none 0 0] := by kernel_rfl
theorem ze85 : zeroT Try.prog 85 = some [Value.int .i64 0, Value.slice none 0 0] := by kernel_rfl
theorem ze86 : zeroT Try.prog 86 = some [Value.int .i64 0, Value.int .i64 0, Value.int .i64 0, Value.int .i64 0, Value.int .i64 0, Value.int .i64 0, Value.int .i64 0, Value.int .i64 0, Value.int .i64 0, Value.int .i64 0] := by kernel_rfl
theorem ze87 : zeroT Try.prog 87 = some [Value.int .i64 0, Value.int .i64 0, Value.int .i64 0, Value.int .i64 0, Value.int .i64 0, Value.int .i64 0, Value.int .i64 0, Value.int .i64 0, Value.int .i64 0, Value.int .i64 0] := by kernel_rfl
theorem ze88 : zeroT Try.prog 88 = some [Value.nilFunc] := by kernel_rfl
theorem ze89 : zeroT Try.prog 89 = some [Value.nilFunc] := by kernel_rfl
theorem ze90 : zeroT Try.prog 90 = some [Value.nilFunc] := by kernel_rfl
theorem ze92 : zeroT Try.prog 92 = some [Value.nilFunc] := by kernel_rfl
theorem ze93 : zeroT Try.prog 93 = some [Value.nilFunc] := by kernel_rfl
theorem ze94 : zeroT Try.prog 94 = some [Value.nilFunc] := by kernel_rfl
theorem ze95 : zeroT Try.prog 95 = some [Value.nilFunc] := by kernel_rfl
theorem ze96 : zeroT Try.prog 96 = some [Value.nilFunc] := by kernel_rfl
theorem ze97 : zeroT Try.prog 97 = some [Value.nilFunc] := by kernel_rfl
theorem ze98 : zeroT Try.prog 98 = some [Value.nilFunc] := by kernel_rfl
theorem ze99 : zeroT Try.prog 99 = some [Value.pointer none] := by kernel_rfl
theorem ze100 : zeroT Try.prog 100 = some [Value.nilFunc] := by kernel_rfl
theorem ze101 : zeroT Try.prog 101 = some [Value.nilFunc] := by kernel_rfl
theorem ze104 : zeroT Try.prog 104 = some [] := by kernel_rfl
theorem ze105 : zeroT Try.prog 105 = some [] := by kernel_rfl
theorem ze106 : zeroT Try.prog 106 = some [] := by kernel_rfl
theorem ze107 : zeroT Try.prog 107 = some [Value.int .u32 0] := by kernel_rfl
theorem ze108 : zeroT Try.prog 108 = some [Value.int .u8 0] := by kernel_rfl
theorem ze109 : zeroT Try.prog 109 = some [Value.int .u8 0] := by kernel_rfl
theorem ze110 : zeroT Try.prog 110 = some [Value.nilFunc] := by kernel_rfl
theorem ze111 : zeroT Try.prog 111 = some [Value.pointer none] := by kernel_rfl
theorem ze112 : zeroT Try.prog 112 = some [Value.int .i32 0] := by kernel_rfl
theorem ze113 : zeroT Try.prog 113 = some [Value.int .i32 0] := by kernel_rfl
theorem ze114 : zeroT Try.prog 114 = some [Value.int .u64 0, Value.int .u64 0, Value.int .u32 0, Value.int .u8 0, Value.int .u8 0, Value.int .u8 0, Value.int .u8 0, Value.nilFunc, Value.pointer none, Value.int .i32 0, Value.int .i32 0] := by kernel_rfl
theorem ze115 : zeroT Try.prog 115 = some [Value.int .u64 0, Value.int .u64 0, Value.int .u32 0, Value.int .u8 0, Value.int .u8 0, Value.int .u8 0, Value.int .u8 0, Value.nilFunc, Value.pointer none, Value.int .i32 0, Value.int .i32 0] := by kernel_rfl
theorem ze116 : zeroT Try.prog 116 = some [Value.pointer none] := by kernel_rfl
theorem pl7 : PlacesOk Try.prog 7 [(0, 1), (1, 1), (2, 1), (3, 1)] [Value.int .i64 0, Value.int .i64 0, Value.bool false, Value.int .u8 0] := ⟨by kernel_rfl, by kernel_rfl, by kernel_rfl⟩
theorem pl8 : PlacesOk Try.prog 8 [(0, 1), (1, 1), (2, 1), (3, 1)] [Value.int .i64 0, Value.int .i64 0, Value.bool false, Value.int .u8 0] := ⟨by kernel_rfl, by kernel_rfl, by kernel_rfl⟩
theorem pl18 : PlacesOk Try.prog 18 [(0, 1)] [Value.pointer none] := ⟨by kernel_rfl, by kernel_rfl, by kernel_rfl⟩
theorem pl19 : PlacesOk Try.prog 19 [(0, 1)] [Value.pointer none] := ⟨by kernel_rfl, by kernel_rfl, by kernel_rfl⟩
theorem pl24 : PlacesOk Try.prog 24 [(0, 1), (1, 1), (2, 1), (3, 1), (4, 1), (5, 1), (6, 1), (7, 1), (8, 1)] [Value.int .i64 0, Value.int .i64 0, Value.int .i64 0, Value.int .i64 0, Value.int .i64 0, Value.int .i64 0, Value.int .i64 0, Value.int .i64 0, Value.int .i64 0] := ⟨by kernel_rfl, by kernel_rfl, by kernel_rfl⟩
theorem pl25 : PlacesOk Try.prog 25 [(0, 1), (1, 1), (2, 1), (3, 1), (4, 1), (5, 1), (6, 1), (7, 1), (8, 1)] [Value.int .i64 0, Value.int .i64 0, Value.int .i64 0, Value.int .i64 0, Value.int .i64 0, Value.int .i64 0, Value.int .i64 0, Value.int .i64 0, Value.int .i64 0] := ⟨by kernel_rfl, by kernel_rfl, by kernel_rfl⟩
theorem pl28 : PlacesOk Try.prog 28 [(0, 9), (9, 1), (10, 1), (11, 1), (12, 1), (13, 1), (14, 1)] [Value.int .i64 0, Value.int .i64 0, Value.int .i64 0, Value.int .i64 0, Value.int .i64 0, Value.int .i64 0, Value.int .i64 0, Value.int .i64 0, Value.int .i64 0, Value.slice none 0 0, Value.int .i64 0, Value.bool false, 
    Value.bool false, Value.bool false, Value.int .i64 0] := ⟨by kernel_rfl, by kernel_rfl, by kernel_rfl⟩
theorem pl29 : PlacesOk Try.prog 29 [(0, 9), (9, 1), (10, 1), (11, 1), (12, 1), (13, 1), (14, 1)] [Value.int .i64 0, Value.int .i64 0, Value.int .i64 0, Value.int .i64 0, Value.int .i64 0, Value.int .i64 0, Value.int .i64 0, Value.int .i64 0, Value.int .i64 0, Value.slice none 0 0, Value.int .i64 0, Value.bool false, 
    Value.bool false, Value.bool false, Value.int .i64 0] := ⟨by kernel_rfl, by kernel_rfl, by kernel_rfl⟩
theorem pl35 : PlacesOk Try.prog 35 [(0, 9), (9, 9), (18, 1), (19, 1), (20, 1)] [Value.int .i64 0, Value.int .i64 0, Value.int .i64 0, Value.int .i64 0, Value.int .i64 0, Value.int .i64 0, Value.int .i64 0, Value.int .i64 0, Value.int .i64 0, Value.int .i64 0, Value.int .i64 0, Value.int .i64 0, 
    Value.int .i64 0, Value.int .i64 0, Value.int .i64 0, Value.int .i64 0, Value.int .i64 0, Value.int .i64 0, Value.int .i64 0, Value.int .i64 0, Value.int .i64 0] := ⟨by kernel_rfl, by kernel_rfl, by kernel_rfl⟩
theorem pl36 : PlacesOk Try.prog 36 [(0, 9), (9, 9), (18, 1), (19, 1), (20, 1)] [Value.int .i64 0, Value.int .i64 0, Value.int .i64 0, Value.int .i64 0, Value.int .i64 0, Value.int .i64 0, Value.int .i64 0, Value.int .i64 0, Value.int .i64 0, Value.int .i64 0, Value.int .i64 0, Value.int .i64 0, 
    Value.int .i64 0, Value.int .i64 0, Value.int .i64 0, Value.int .i64 0, Value.int .i64 0, Value.int .i64 0, Value.int .i64 0, Value.int .i64 0, Value.int .i64 0] := ⟨by kernel_rfl, by kernel_rfl, by kernel_rfl⟩
theorem pl38 : PlacesOk Try.prog 38 [(0, 9), (9, 1)] [Value.int .i64 0, Value.int .i64 0, Value.int .i64 0, Value.int .i64 0, Value.int .i64 0, Value.int .i64 0, Value.int .i64 0, Value.int .i64 0, Value.int .i64 0, Value.int .i64 0] := ⟨by kernel_rfl, by kernel_rfl, by kernel_rfl⟩
theorem pl39 : PlacesOk Try.prog 39 [(0, 9), (9, 1)] [Value.int .i64 0, Value.int .i64 0, Value.int .i64 0, Value.int .i64 0, Value.int .i64 0, Value.int .i64 0, Value.int .i64 0, Value.int .i64 0, Value.int .i64 0, Value.int .i64 0] := ⟨by kernel_rfl, by kernel_rfl, by kernel_rfl⟩
theorem pl42 : PlacesOk Try.prog 42 [(0, 1), (1, 1), (2, 1), (3, 1), (4, 1), (5, 1), (6, 1)] [Value.int .i64 0, Value.int .i64 0, Value.int .i64 0, Value.int .i64 0, Value.int .i64 0, Value.int .i64 0, Value.int .i64 0] := ⟨by kernel_rfl, by kernel_rfl, by kernel_rfl⟩
theorem pl43 : PlacesOk Try.prog 43 [(0, 1), (1, 1), (2, 1), (3, 1), (4, 1), (5, 1), (6, 1)] [Value.int .i64 0, Value.int .i64 0, Value.int .i64 0, Value.int .i64 0, Value.int .i64 0, Value.int .i64 0, Value.int .i64 0] := ⟨by kernel_rfl, by kernel_rfl, by kernel_rfl⟩
theorem pl62 : PlacesOk Try.prog 62 [(0, 2), (2, 1), (3, 1)] [Value.slice none 0 0, Value.slice none 0 0, Value.int .i64 0, Value.int .i64 0] := ⟨by kernel_rfl, by kernel_rfl, by kernel_rfl⟩
theorem pl63 : PlacesOk Try.prog 63 [(0, 2), (2, 1), (3, 1)] [Value.slice none 0 0, Value.slice none 0 0, Value.int .i64 0, Value.int .i64 0] := ⟨by kernel_rfl, by kernel_rfl, by kernel_rfl⟩
theorem pl84 : PlacesOk Try.prog 84 [(0, 1), (1, 1)] [Value.int .i64 0, Value.slice none 0 0] := ⟨by kernel_rfl, by kernel_rfl, by kernel_rfl⟩
theorem pl85 : PlacesOk Try.prog 85 [(0, 1), (1, 1)] [Value.int .i64 0, Value.slice none 0 0] := ⟨by kernel_rfl, by kernel_rfl, by kernel_rfl⟩
theorem pl86 : PlacesOk Try.prog 86 [(0, 9), (9, 1)] [Value.int .i64 0, Value.int .i64 0, Value.int .i64 0, Value.int .i64 0, Value.int .i64 0, Value.int .i64 0, Value.int .i64 0, Value.int .i64 0, Value.int .i64 0, Value.int .i64 0] := ⟨by kernel_rfl, by kernel_rfl, by kernel_rfl⟩
theorem pl87 : PlacesOk Try.prog 87 [(0, 9), (9, 1)] [Value.int .i64 0, Value.int .i64 0, Value.int .i64 0, Value.int .i64 0, Value.int .i64 0, Value.int .i64 0, Value.int .i64 0, Value.int .i64 0, Value.int .i64 0, Value.int .i64 0] := ⟨by kernel_rfl, by kernel_rfl, by kernel_rfl⟩
theorem pl114 : PlacesOk Try.prog 114 [(0, 1), (1, 1), (2, 1), (3, 1), (4, 1), (5, 1), (6, 1), (7, 1), (8, 1), (9, 1), (10, 1)] [Value.int .u64 0, Value.int .u64 0, Value.int .u32 0, Value.int .u8 0, Value.int .u8 0, Value.int .u8 0, Value.int .u8 0, Value.nilFunc, Value.pointer none, Value.int .i32 0, Value.int .i32 0] := ⟨by kernel_rfl, by kernel_rfl, by kernel_rfl⟩
theorem pl115 : PlacesOk Try.prog 115 [(0, 1), (1, 1), (2, 1), (3, 1), (4, 1), (5, 1), (6, 1), (7, 1), (8, 1), (9, 1), (10, 1)] [Value.int .u64 0, Value.int .u64 0, Value.int .u32 0, Value.int .u8 0, Value.int .u8 0, Value.int .u8 0, Value.int .u8 0, Value.nilFunc, Value.pointer none, Value.int .i32 0, Value.int .i32 0] := ⟨by kernel_rfl, by kernel_rfl, by kernel_rfl⟩
def plainL : List Nat := [2, 3, 4, 5, 6, 7, 8, 9, 10, 11, 12, 13, 14, 15, 16, 17, 18, 19, 20, 21, 22, 23, 24, 25, 26, 27, 28, 29, 30, 31, 
    32, 33, 34, 35, 36, 37, 38, 39, 40, 41, 42, 43, 44, 45, 46, 47, 48, 49, 50, 51, 52, 53, 54, 55, 56, 57, 59, 60, 61, 62, 
    63, 64, 65]
theorem plainL_ok : plainL.all (Program.plainFn Try.prog) = true := by kernel_rfl
theorem pf {f : Nat} (h : find0 plainL f = true) : Program.plainFn Try.prog f = true := find0_all plainL_ok h
theorem mo : Try.prog.follows .mixedOrders = true := by kernel_rfl
end Go.Proofs.Ytiilndlgfgikbaa
