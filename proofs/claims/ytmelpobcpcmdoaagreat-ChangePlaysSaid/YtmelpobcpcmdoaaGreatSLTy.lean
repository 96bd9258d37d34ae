/- The facts on types of this seat's translation, each asked of the program by the kernel. It proves no statement by itself. (Printed by tables.py of this repo.) -/
import Derived.Test.YtmelpobcpcmdoaaGreatProg
import Derived.Test.YtmelpobcpcmdoaaGreatSLSlice
set_option autoImplicit false
namespace Go.Proofs.YtmelpobcpcmdoaaGreat
open Go Go.SL Go.Proofs
def find2 : List (Nat × Nat × Nat × Nat) → Nat → Nat → Option (Nat × Nat)
  | [], _, _ => none
  | (a, b, c, d) :: r, x, y => bif Nat.beq a x && Nat.beq b y then some (c, d) else find2 r x y
def find1 : List (Nat × Nat) → Nat → Option Nat
  | [], _ => none
  | (a, b) :: r, x => bif Nat.beq a x then some b else find1 r x
def find3 : List (Nat × Nat × Nat) → Nat → Option (Nat × Nat)
  | [], _ => none
  | (a, b, c) :: r, x => bif Nat.beq a x then some (b, c) else find3 r x
def find4 : List (Nat × Nat × Nat × Nat) → Nat → Option (Nat × Nat × Nat)
  | [], _ => none
  | (a, b, c, d) :: r, x => bif Nat.beq a x then some (b, c, d) else find4 r x
def find0 : List Nat → Nat → Bool
  | [], _ => false
  | a :: r, x => bif Nat.beq a x then true else find0 r x
theorem find2_all {f : Nat → Nat → Nat → Nat → Bool} : ∀ {l : List (Nat × Nat × Nat × Nat)}, (l.all fun p => f p.1 p.2.1 p.2.2.1 p.2.2.2) = true → ∀ {x y c d : Nat}, find2 l x y = some (c, d) → f x y c d = true
  | [], _, _, _, _, _, h => by cases h
  | (a, b, c', d') :: r, hl, x, y, c, d, h => by
    simp only [List.all_cons, Bool.and_eq_true] at hl
    unfold find2 at h
    cases e : (Nat.beq a x && Nat.beq b y) with
    | false => rw [e] at h; exact find2_all hl.2 h
    | true =>
      rw [e] at h
      simp only [cond_true, Option.some.injEq, Prod.mk.injEq] at h
      simp only [Bool.and_eq_true] at e
      have e1 := Nat.eq_of_beq_eq_true e.1
      have e2 := Nat.eq_of_beq_eq_true e.2
      rw [← e1, ← e2, ← h.1, ← h.2]; exact hl.1
theorem find1_all {f : Nat → Nat → Bool} : ∀ {l : List (Nat × Nat)}, (l.all fun p => f p.1 p.2) = true → ∀ {x c : Nat}, find1 l x = some c → f x c = true
  | [], _, _, _, h => by cases h
  | (a, b) :: r, hl, x, c, h => by
    simp only [List.all_cons, Bool.and_eq_true] at hl
    unfold find1 at h
    cases e : Nat.beq a x with
    | false => rw [e] at h; exact find1_all hl.2 h
    | true =>
      rw [e] at h
      simp only [cond_true, Option.some.injEq] at h
      have e1 := Nat.eq_of_beq_eq_true e
      rw [← e1, ← h]; exact hl.1
theorem find3_all {f : Nat → Nat → Nat → Bool} : ∀ {l : List (Nat × Nat × Nat)}, (l.all fun p => f p.1 p.2.1 p.2.2) = true → ∀ {x c d : Nat}, find3 l x = some (c, d) → f x c d = true
  | [], _, _, _, _, h => by cases h
  | (a, b, b') :: r, hl, x, c, d, h => by
    simp only [List.all_cons, Bool.and_eq_true] at hl
    unfold find3 at h
    cases e : Nat.beq a x with
    | false => rw [e] at h; exact find3_all hl.2 h
    | true =>
      rw [e] at h
      simp only [cond_true, Option.some.injEq, Prod.mk.injEq] at h
      have e1 := Nat.eq_of_beq_eq_true e
      rw [← e1, ← h.1, ← h.2]; exact hl.1
theorem find4_all {f : Nat → Nat → Nat → Nat → Bool} : ∀ {l : List (Nat × Nat × Nat × Nat)}, (l.all fun p => f p.1 p.2.1 p.2.2.1 p.2.2.2) = true → ∀ {x c d e : Nat}, find4 l x = some (c, d, e) → f x c d e = true
  | [], _, _, _, _, _, h => by cases h
  | (a, b, b', b2) :: r, hl, x, c, d, e', h => by
    simp only [List.all_cons, Bool.and_eq_true] at hl
    unfold find4 at h
    cases e : Nat.beq a x with
    | false => rw [e] at h; exact find4_all hl.2 h
    | true =>
      rw [e] at h
      simp only [cond_true, Option.some.injEq, Prod.mk.injEq] at h
      have e1 := Nat.eq_of_beq_eq_true e
      rw [← e1, ← h.1, ← h.2.1, ← h.2.2]; exact hl.1
theorem find0_all {f : Nat → Bool} : ∀ {l : List Nat}, l.all f = true → ∀ {x : Nat}, find0 l x = true → f x = true
  | [], _, _, h => by cases h
  | a :: r, hl, x, h => by
    simp only [List.all_cons, Bool.and_eq_true] at hl
    unfold find0 at h
    cases e : Nat.beq a x with
    | false => rw [e] at h; exact find0_all hl.2 h
    | true => rw [← Nat.eq_of_beq_eq_true e]; exact hl.1
def fieldL : List (Nat × Nat × Nat × Nat) := [(7, 0, 0, 2), (7, 1, 1, 3), (7, 2, 2, 4), (7, 3, 3, 6), (8, 0, 0, 2), (8, 1, 1, 3), (8, 2, 2, 4), (8, 3, 3, 6), (13, 0, 0, 9), (13, 1, 1, 12), (14, 0, 0, 9), (14, 1, 1, 12), (18, 0, 0, 17), (19, 0, 0, 17), 
    (27, 0, 0, 3), (27, 1, 1, 3), (27, 2, 2, 3), (27, 3, 3, 3), (27, 4, 4, 3), (27, 5, 5, 3), (27, 6, 6, 3), (28, 0, 0, 3), (28, 1, 1, 3), (28, 2, 2, 3), (28, 3, 3, 3), (28, 4, 4, 3), (28, 5, 5, 3), (28, 6, 6, 3), 
    (29, 0, 0, 3), (29, 1, 1, 3), (29, 2, 2, 3), (29, 3, 3, 3), (29, 4, 4, 3), (29, 5, 5, 28), (30, 0, 0, 3), (30, 1, 1, 3), (30, 2, 2, 3), (30, 3, 3, 3), (30, 4, 4, 3), (30, 5, 5, 28), (34, 0, 0, 3), (34, 1, 1, 3), 
    (34, 2, 2, 3), (34, 3, 3, 3), (34, 4, 4, 3), (34, 5, 5, 3), (34, 6, 6, 3), (34, 7, 7, 3), (34, 8, 8, 3), (35, 0, 0, 3), (35, 1, 1, 3), (35, 2, 2, 3), (35, 3, 3, 3), (35, 4, 4, 3), (35, 5, 5, 3), (35, 6, 6, 3), 
    (35, 7, 7, 3), (35, 8, 8, 3), (54, 0, 0, 52), (54, 1, 1, 43), (55, 0, 0, 52), (55, 1, 1, 43), (59, 0, 0, 58), (59, 1, 3, 3), (59, 2, 4, 3), (60, 0, 0, 58), (60, 1, 3, 3), (60, 2, 4, 3), (61, 0, 0, 56), (61, 1, 1, 43), 
    (62, 0, 0, 56), (62, 1, 1, 43), (65, 0, 0, 35), (65, 1, 9, 64), (65, 2, 10, 3), (65, 3, 11, 4), (65, 4, 12, 4), (65, 5, 13, 4), (65, 6, 14, 37), (66, 0, 0, 35), (66, 1, 9, 64), (66, 2, 10, 3), (66, 3, 11, 4), (66, 4, 12, 4), 
    (66, 5, 13, 4), (66, 6, 14, 37), (83, 0, 0, 35), (83, 1, 9, 3), (84, 0, 0, 35), (84, 1, 9, 3), (89, 0, 0, 88), (89, 1, 2, 3), (89, 2, 3, 3), (90, 0, 0, 88), (90, 1, 2, 3), (90, 2, 3, 3), (92, 0, 0, 35), (92, 1, 9, 35), 
    (92, 2, 18, 3), (92, 3, 19, 3), (92, 4, 20, 3), (93, 0, 0, 35), (93, 1, 9, 35), (93, 2, 18, 3), (93, 3, 19, 3), (93, 4, 20, 3), (99, 0, 0, 3), (99, 1, 1, 98), (100, 0, 0, 3), (100, 1, 1, 98), (101, 0, 0, 35), (101, 1, 9, 3), 
    (102, 0, 0, 35), (102, 1, 9, 3), (117, 0, 0, 35), (117, 1, 9, 3), (118, 0, 0, 35), (118, 1, 9, 3), (120, 0, 0, 3), (120, 1, 1, 119), (121, 0, 0, 3), (121, 1, 1, 119), (140, 0, 0, 17), (140, 1, 1, 17), (140, 2, 2, 17), (140, 3, 3, 9), 
    (141, 0, 0, 17), (141, 1, 1, 17), (141, 2, 2, 17), (141, 3, 3, 9), (152, 0, 0, 12), (152, 1, 1, 12), (152, 2, 2, 145), (152, 3, 3, 146), (152, 4, 4, 5), (152, 5, 5, 5), (152, 6, 6, 147), (152, 7, 7, 148), (152, 8, 8, 149), (152, 9, 9, 150), 
    (152, 10, 10, 151), (153, 0, 0, 12), (153, 1, 1, 12), (153, 2, 2, 145), (153, 3, 3, 146), (153, 4, 4, 5), (153, 5, 5, 5), (153, 6, 6, 147), (153, 7, 7, 148), (153, 8, 8, 149), (153, 9, 9, 150), (153, 10, 10, 151)]
theorem fieldL_ok : (fieldL.all fun p => fieldB Tryz.prog p.1 p.2.1 p.2.2.1 p.2.2.2) = true := by kernel_rfl
theorem fo {s i k t : Nat} (h : find2 fieldL s i = some (k, t)) : fieldB Tryz.prog s i k t = true := find2_all (f := fieldB Tryz.prog) fieldL_ok h
def scalL : List Nat := [0, 1, 2, 3, 4, 5, 6, 9, 10, 11, 12, 15, 16, 17, 20, 21, 22, 23, 24, 25, 26, 31, 32, 33, 36, 37, 38, 39, 40, 41, 
    42, 43, 44, 45, 46, 47, 48, 49, 50, 51, 52, 53, 56, 57, 63, 64, 67, 68, 69, 70, 71, 72, 73, 74, 75, 76, 77, 78, 79, 80, 
    81, 82, 85, 86, 87, 91, 94, 95, 96, 97, 98, 103, 104, 105, 106, 107, 108, 109, 110, 111, 112, 113, 114, 115, 116, 119, 122, 123, 124, 125, 
    126, 127, 128, 129, 130, 131, 132, 133, 134, 135, 136, 137, 138, 139, 145, 146, 147, 148, 149, 150, 151, 154]
theorem scalL_ok : scalL.all (scalarB Tryz.prog) = true := by kernel_rfl
theorem sc {t : Nat} (h : find0 scalL t = true) : scalarB Tryz.prog t = true := find0_all scalL_ok h
def aggL : List Nat := [7, 8, 13, 14, 18, 19, 27, 28, 29, 30, 34, 35, 54, 55, 59, 60, 61, 62, 65, 66, 83, 84, 89, 90, 92, 93, 99, 100, 101, 102, 
    117, 118, 120, 121, 140, 141, 143, 144, 152, 153, 58, 88, 142]
theorem aggL_ok : aggL.all (aggB Tryz.prog) = true := by kernel_rfl
theorem ag {t : Nat} (h : find0 aggL t = true) : aggB Tryz.prog t = true := find0_all aggL_ok h
def sizeL : List (Nat × Nat) := [(0, 1), (1, 1), (2, 1), (3, 1), (4, 1), (5, 1), (6, 1), (7, 4), (8, 4), (9, 1), (10, 1), (11, 1), (12, 1), (13, 2), (14, 2), (15, 1), (16, 1), (17, 1), (18, 1), (19, 1), 
    (20, 1), (21, 1), (22, 1), (23, 1), (24, 1), (25, 1), (26, 1), (27, 7), (28, 7), (29, 12), (30, 12), (31, 1), (32, 1), (33, 1), (34, 9), (35, 9), (36, 1), (37, 1), (38, 1), (39, 1), 
    (40, 1), (41, 1), (42, 1), (43, 1), (44, 1), (45, 1), (46, 1), (47, 1), (48, 1), (49, 1), (50, 1), (51, 1), (52, 1), (53, 1), (54, 2), (55, 2), (56, 1), (57, 1), (58, 3), (59, 5), 
    (60, 5), (61, 2), (62, 2), (63, 1), (64, 1), (65, 15), (66, 15), (67, 1), (68, 1), (69, 1), (70, 1), (71, 1), (72, 1), (73, 1), (74, 1), (75, 1), (76, 1), (77, 1), (78, 1), (79, 1), 
    (80, 1), (81, 1), (82, 1), (83, 10), (84, 10), (85, 1), (86, 1), (87, 1), (88, 2), (89, 4), (90, 4), (91, 1), (92, 21), (93, 21), (94, 1), (95, 1), (96, 1), (97, 1), (98, 1), (99, 2), 
    (100, 2), (101, 10), (102, 10), (103, 1), (104, 1), (105, 1), (106, 1), (107, 1), (108, 1), (109, 1), (110, 1), (111, 1), (112, 1), (113, 1), (114, 1), (115, 1), (116, 1), (117, 10), (118, 10), (119, 1), 
    (120, 2), (121, 2), (122, 1), (123, 1), (124, 1), (125, 1), (126, 1), (127, 1), (128, 1), (129, 1), (130, 1), (131, 1), (132, 1), (133, 1), (134, 1), (135, 1), (136, 1), (137, 1), (138, 1), (139, 1), 
    (140, 4), (141, 4), (142, 0), (143, 0), (144, 0), (145, 1), (146, 1), (147, 1), (148, 1), (149, 1), (150, 1), (151, 1), (152, 11), (153, 11), (154, 1)]
theorem sizeL_ok : (sizeL.all fun p => sizeB Tryz.prog p.1 p.2) = true := by kernel_rfl
theorem sz {t n : Nat} (h : find1 sizeL t = some n) : sizeB Tryz.prog t n = true := find1_all (f := sizeB Tryz.prog) sizeL_ok h
def bytesL : List (Nat × Nat) := [(0, 0), (1, 8), (2, 8), (3, 8), (4, 1), (5, 1), (6, 1), (7, 24), (8, 24), (9, 16), (10, 16), (11, 16), (12, 8), (13, 24), (14, 24), (15, 8), (16, 8), (17, 8), (18, 8), (19, 8), 
    (20, 16), (21, 4), (22, 24), (23, 8), (24, 8), (25, 8), (26, 8), (27, 56), (28, 56), (29, 96), (30, 96), (31, 8), (32, 24), (33, 8), (34, 72), (35, 72), (36, 8), (37, 8), (38, 0), (39, 8), 
    (40, 0), (41, 8), (42, 8), (43, 24), (44, 8), (45, 8), (46, 8), (47, 8), (48, 8), (49, 8), (50, 8), (51, 8), (52, 8), (53, 8), (54, 32), (55, 32), (56, 8), (57, 24), (58, 72), (59, 88), 
    (60, 88), (61, 32), (62, 32), (63, 8), (64, 24), (65, 120), (66, 120), (67, 8), (68, 8), (69, 8), (70, 8), (71, 8), (72, 8), (73, 0), (74, 8), (75, 8), (76, 8), (77, 8), (78, 8), (79, 8), 
    (80, 8), (81, 8), (82, 8), (83, 80), (84, 80), (85, 24), (86, 8), (87, 24), (88, 48), (89, 64), (90, 64), (91, 8), (92, 168), (93, 168), (94, 8), (95, 8), (96, 8), (97, 8), (98, 24), (99, 32), 
    (100, 32), (101, 80), (102, 80), (103, 0), (104, 8), (105, 8), (106, 8), (107, 8), (108, 0), (109, 8), (110, 8), (111, 24), (112, 8), (113, 8), (114, 8), (115, 0), (116, 8), (117, 80), (118, 80), (119, 24), 
    (120, 32), (121, 32), (122, 8), (123, 8), (124, 8), (125, 8), (126, 8), (127, 8), (128, 8), (129, 8), (130, 8), (131, 8), (132, 8), (133, 0), (134, 8), (135, 8), (136, 8), (137, 8), (138, 8), (139, 8), 
    (140, 40), (141, 40), (142, 0), (143, 0), (144, 0), (145, 4), (146, 1), (147, 1), (148, 8), (149, 8), (150, 4), (151, 4), (152, 48), (153, 48), (154, 8)]
theorem bytesL_ok : (bytesL.all fun p => bytesB Tryz.prog p.1 p.2) = true := by kernel_rfl
theorem byt {t n : Nat} (h : find1 bytesL t = some n) : bytesB Tryz.prog t n = true := find1_all (f := bytesB Tryz.prog) bytesL_ok h
def sliceL : List (Nat × Nat × Nat) := [(22, 30, 12), (32, 66, 15), (43, 35, 9), (57, 97, 1), (64, 93, 21), (85, 84, 10), (87, 110, 1), (98, 102, 10), (111, 43, 1), (119, 118, 10)]
theorem sliceL_ok : (sliceL.all fun p => sliceB Tryz.prog p.1 p.2.1 p.2.2) = true := by kernel_rfl
theorem se {t e n : Nat} (h : find3 sliceL t = some (e, n)) : sliceB Tryz.prog t e n = true := find3_all (f := sliceB Tryz.prog) sliceL_ok h
def arrayL : List (Nat × Nat × Nat × Nat) := [(58, 3, 57, 1), (88, 2, 87, 1), (142, 0, 16, 1)]
theorem arrayL_ok : (arrayL.all fun p => arrayB Tryz.prog p.1 p.2.1 p.2.2.1 p.2.2.2) = true := by kernel_rfl
theorem ar {t l e n : Nat} (h : find4 arrayL t = some (l, e, n)) : arrayB Tryz.prog t l e n = true := find4_all (f := arrayB Tryz.prog) arrayL_ok h
def ptrL : List Nat := [15, 16, 17, 23, 25, 52, 56, 97, 107, 110, 122, 149]
theorem ptrL_ok : ptrL.all (ptrB Tryz.prog) = true := by kernel_rfl
theorem pt {t : Nat} (h : find0 ptrL t = true) : ptrB Tryz.prog t = true := find0_all ptrL_ok h
def boolL : List Nat := [4]
theorem boolL_ok : boolL.all (boolB Tryz.prog) = true := by kernel_rfl
theorem bt {t : Nat} (h : find0 boolL t = true) : boolB Tryz.prog t = true := find0_all boolL_ok h
theorem ze1 : zeroT Tryz.prog 1 = some [Value.nilFunc] := by kernel_rfl
theorem ze2 : zeroT Tryz.prog 2 = some [Value.int .i64 0] := by kernel_rfl
theorem ze3 : zeroT Tryz.prog 3 = some [Value.int .i64 0] := by kernel_rfl
theorem ze4 : zeroT Tryz.prog 4 = some [Value.bool false] := by kernel_rfl
theorem ze5 : zeroT Tryz.prog 5 = some [Value.int .u8 0] := by kernel_rfl
theorem ze6 : zeroT Tryz.prog 6 = some [Value.int .u8 0] := by kernel_rfl
theorem ze7 : zeroT Tryz.prog 7 = some [Value.int .i64 0, Value.int .i64 0, Value.bool false, Value.int .u8 0] := by kernel_rfl
theorem ze8 : zeroT Tryz.prog 8 = some [Value.int .i64 0, Value.int .i64 0, Value.bool false, Value.int .u8 0] := by kernel_rfl
theorem ze12 : zeroT Tryz.prog 12 = some [Value.int .u64 0] := by kernel_rfl
theorem ze15 : zeroT Tryz.prog 15 = some [Value.pointer none] := by kernel_rfl
theorem ze16 : zeroT Tryz.prog 16 = some [Value.pointer none] := by kernel_rfl
theorem ze17 : zeroT Tryz.prog 17 = some [Value.pointer none] := by kernel_rfl
theorem ze18 : zeroT Tryz.prog 18 = some [Value.pointer none] := by kernel_rfl
theorem ze19 : zeroT Tryz.prog 19 = some [Value.pointer none] := by kernel_rfl
theorem ze20 : zeroT Tryz.prog 20 = some [Value.nilIface] := by kernel_rfl
theorem ze21 : zeroT Tryz.prog 21 = some [Value.int .i32 0] := by kernel_rfl
theorem ze22 : zeroT Tryz.prog 22 = some [Value.slice none 0 0] := by kernel_rfl
theorem ze23 : zeroT Tryz.prog 23 = some [Value.pointer none] := by kernel_rfl
theorem ze24 : zeroT Tryz.prog 24 = some [Value.nilFunc] := by kernel_rfl
theorem ze25 : zeroT Tryz.prog 25 = some [Value.pointer none] := by kernel_rfl
theorem ze26 : zeroT Tryz.prog 26 = some [Value.nilFunc] := by kernel_rfl
theorem ze27 : zeroT Tryz.prog 27 = some [Value.int .i64 0, Value.int .i64 0, Value.int .i64 0, Value.int .i64 0, Value.int .i64 0, Value.int .i64 0, Value.int .i64 0] := by kernel_rfl
theorem ze28 : zeroT Tryz.prog 28 = some [Value.int .i64 0, Value.int .i64 0, Value.int .i64 0, Value.int .i64 0, Value.int .i64 0, Value.int .i64 0, Value.int .i64 0] := by kernel_rfl
theorem ze29 : zeroT Tryz.prog 29 = some [Value.int .i64 0, Value.int .i64 0, Value.int .i64 0, Value.int .i64 0, Value.int .i64 0, Value.int .i64 0, Value.int .i64 0, Value.int .i64 0, Value.int .i64 0, Value.int .i64 0, Value.int .i64 0, Value.int .i64 0] := by kernel_rfl
theorem ze30 : zeroT Tryz.prog 30 = some [Value.int .i64 0, Value.int .i64 0, Value.int .i64 0, Value.int .i64 0, Value.int .i64 0, Value.int .i64 0, Value.int .i64 0, Value.int .i64 0, Value.int .i64 0, Value.int .i64 0, Value.int .i64 0, Value.int .i64 0] := by kernel_rfl
theorem ze31 : zeroT Tryz.prog 31 = some [Value.nilFunc] := by kernel_rfl
theorem ze32 : zeroT Tryz.prog 32 = some [Value.slice none 0 0] := by kernel_rfl
theorem ze33 : zeroT Tryz.prog 33 = some [Value.nilFunc] := by kernel_rfl
theorem ze34 : zeroT Tryz.prog 34 = some [Value.int .i64 0, Value.int .i64 0, Value.int .i64 0, Value.int .i64 0, Value.int .i64 0, Value.int .i64 0, Value.int .i64 0, Value.int .i64 0, Value.int .i64 0] := by kernel_rfl
theorem ze35 : zeroT Tryz.prog 35 = some [Value.int .i64 0, Value.int .i64 0, Value.int .i64 0, Value.int .i64 0, Value.int .i64 0, Value.int .i64 0, Value.int .i64 0, Value.int .i64 0, Value.int .i64 0] := by kernel_rfl
theorem ze36 : zeroT Tryz.prog 36 = some [Value.nilFunc] := by kernel_rfl
theorem ze37 : zeroT Tryz.prog 37 = some [Value.int .i64 0] := by kernel_rfl
theorem ze39 : zeroT Tryz.prog 39 = some [Value.nilFunc] := by kernel_rfl
theorem ze41 : zeroT Tryz.prog 41 = some [Value.nilFunc] := by kernel_rfl
theorem ze42 : zeroT Tryz.prog 42 = some [Value.nilFunc] := by kernel_rfl
theorem ze43 : zeroT Tryz.prog 43 = some [Value.slice none 0 0] := by kernel_rfl
theorem ze44 : zeroT Tryz.prog 44 = some [Value.nilFunc] := by kernel_rfl
theorem ze45 : zeroT Tryz.prog 45 = some [Value.int .u64 0] := by kernel_rfl
theorem ze46 : zeroT Tryz.prog 46 = some [Value.nilFunc] := by kernel_rfl
theorem ze47 : zeroT Tryz.prog 47 = some [Value.nilFunc] := by kernel_rfl
theorem ze48 : zeroT Tryz.prog 48 = some [Value.nilFunc] := by kernel_rfl
theorem ze49 : zeroT Tryz.prog 49 = some [Value.nilFunc] := by kernel_rfl
theorem ze50 : zeroT Tryz.prog 50 = some [Value.nilFunc] := by kernel_rfl
theorem ze51 : zeroT Tryz.prog 51 = some [Value.nilFunc] := by kernel_rfl
theorem ze52 : zeroT Tryz.prog 52 = some [Value.pointer none] := by kernel_rfl
theorem ze53 : zeroT Tryz.prog 53 = some [Value.nilFunc] := by kernel_rfl
theorem ze54 : zeroT Tryz.prog 54 = some [Value.pointer none, Value.slice none 0 0] := by kernel_rfl
theorem ze55 : zeroT Tryz.prog 55 = some [Value.pointer none, Value.slice none 0 0] := by kernel_rfl
theorem ze56 : zeroT Tryz.prog 56 = some [Value.pointer none] := by kernel_rfl
theorem ze57 : zeroT Tryz.prog 57 = some [Value.slice none 0 0] := by kernel_rfl
theorem ze58 : zeroT Tryz.prog 58 = some [Value.slice none 0 0, Value.slice none 0 0, Value.slice none 0 0] := by kernel_rfl
theorem ze59 : zeroT Tryz.prog 59 = some [Value.slice none 0 0, Value.slice none 0 0, Value.slice none 0 0, Value.int .i64 0, Value.int .i64 0] := by kernel_rfl
theorem ze60 : zeroT Tryz.prog 60 = some [Value.slice none 0 0, Value.slice none 0 0, Value.slice none 0 0, Value.int .i64 0, Value.int .i64 0] := by kernel_rfl
theorem ze61 : zeroT Tryz.prog 61 = some [Value.pointer none, Value.slice none 0 0] := by kernel_rfl
theorem ze62 : zeroT Tryz.prog 62 = some [Value.pointer none, Value.slice none 0 0] := by kernel_rfl
theorem ze63 : zeroT Tryz.prog 63 = some [Value.nilFunc] := by kernel_rfl
theorem ze64 : zeroT Tryz.prog 64 = some [Value.slice none 0 0] := by kernel_rfl
theorem ze65 : zeroT Tryz.prog 65 = some [Value.int .i64 0, Value.int .i64 0, Value.int .i64 0, Value.int .i64 0, Value.int .i64 0, Value.int .i64 0, Value.int .i64 0, Value.int .i64 0, Value.int .i64 0, Value.slice none 0 0, Value.int .i64 0, Value.bool false, 
    Value.bool false, Value.bool false, Value.int .i64 0] := by kernel_rfl
theorem ze66 : zeroT Tryz.prog 66 = some [Value.int .i64 0, Value.int .i64 0, Value.int .i64 0, Value.int .i64 0, Value.int .i64 0, Value.int .i64 0, Value.int .i64 0, Value.int .i64 0, Value.int .i64 0, Value.slice none 0 0, Value.int .i64 0, Value.bool false, 
    Value.bool false, Value.bool false, Value.int .i64 0] := by kernel_rfl
theorem ze67 : zeroT Tryz.prog 67 = some [Value.nilFunc] := by kernel_rfl
theorem ze68 : zeroT Tryz.prog 68 = some [Value.nilFunc] := by kernel_rfl
theorem ze69 : zeroT Tryz.prog 69 = some [Value.nilFunc] := by kernel_rfl
theorem ze70 : zeroT Tryz.prog 70 = some [Value.nilFunc] := by kernel_rfl
theorem ze71 : zeroT Tryz.prog 71 = some [Value.nilFunc] := by kernel_rfl
theorem ze72 : zeroT Tryz.prog 72 = some [Value.nilFunc] := by kernel_rfl
theorem ze74 : zeroT Tryz.prog 74 = some [Value.nilFunc] := by kernel_rfl
theorem ze75 : zeroT Tryz.prog 75 = some [Value.nilFunc] := by kernel_rfl
theorem ze76 : zeroT Tryz.prog 76 = some [Value.nilFunc] := by kernel_rfl
theorem ze77 : zeroT Tryz.prog 77 = some [Value.nilFunc] := by kernel_rfl
theorem ze78 : zeroT Tryz.prog 78 = some [Value.nilFunc] := by kernel_rfl
theorem ze79 : zeroT Tryz.prog 79 = some [Value.int .u64 0] := by kernel_rfl
theorem ze80 : zeroT Tryz.prog 80 = some [Value.nilFunc] := by kernel_rfl
theorem ze81 : zeroT Tryz.prog 81 = some [Value.nilFunc] := by kernel_rfl
theorem ze82 : zeroT Tryz.prog 82 = some [Value.nilFunc] := by kernel_rfl
theorem ze83 : zeroT Tryz.prog 83 = some [Value.int .i64 0, Value.int .i64 0, Value.int .i64 0, Value.int .i64 0, Value.int .i64 0, Value.int .i64 0, Value.int .i64 0, Value.int .i64 0, Value.int .i64 0, Value.int .i64 0] := by kernel_rfl
theorem ze84 : zeroT Tryz.prog 84 = some [Value.int .i64 0, Value.int .i64 0, Value.int .i64 0, Value.int .i64 0, Value.int .i64 0, Value.int .i64 0, Value.int .i64 0, Value.int .i64 0, Value.int .i64 0, Value.int .i64 0] := by kernel_rfl
theorem ze85 : zeroT Tryz.prog 85 = some [Value.slice none 0 0] := by kernel_rfl
theorem ze86 : zeroT Tryz.prog 86 = some [Value.nilFunc] := by kernel_rfl
theorem ze87 : zeroT Tryz.prog 87 = some [Value.slice none 0 0] := by kernel_rfl
theorem ze88 : zeroT Tryz.prog 88 = some [Value.slice none 0 0, Value.slice none 0 0] := by kernel_rfl
theorem ze89 : zeroT Tryz.prog 89 = some [Value.slice none 0 0, Value.slice none 0 0, Value.int .i64 0, Value.int .i64 0] := by kernel_rfl
theorem ze90 : zeroT Tryz.prog 90 = some [Value.slice none 0 0, Value.slice none 0 0, Value.int .i64 0, Value.int .i64 0] := by kernel_rfl
theorem ze91 : zeroT Tryz.prog 91 = some [Value.nilFunc] := by kernel_rfl
theorem ze92 : zeroT Tryz.prog 92 = some [Value.int .i64 0, Value.int .i64 0, Value.int .i64 0, Value.int .i64 0, Value.int .i64 0, Value.int .i64 0, Value.int .i64 0, Value.int .i64 0, Value.int .i64 0, Value.int .i64 0, Value.int .i64 0, Value.int .i64 0, 
    Value.int .i64 0, Value.int .i64 0, Value.int .i64 0, Value.int .i64 0, Value.int .i64 0, Value.int .i64 0, Value.int .i64 0, Value.int .i64 0, Value.int .i64 0] := by kernel_rfl
theorem ze93 : zeroT Tryz.prog 93 = some [Value.int .i64 0, Value.int .i64 0, Value.int .i64 0, Value.int .i64 0, Value.int .i64 0, Value.int .i64 0, Value.int .i64 0, Value.int .i64 0, Value.int .i64 0, Value.int .i64 0, Value.int .i64 0, Value.int .i64 0, 
    Value.int .i64 0, Value.int .i64 0, Value.int .i64 0, Value.int .i64 0, Value.int .i64 0, Value.int .i64 0, Value.int .i64 0, Value.int .i64 0, Value.int .i64 0] := by kernel_rfl
theorem ze94 : zeroT Tryz.prog 94 = some [Value.nilFunc] := by kernel_rfl
theorem ze95 : zeroT Tryz.prog 95 = some [Value.nilFunc] := by kernel_rfl
theorem ze96 : zeroT Tryz.prog 96 = some [Value.nilFunc] := by kernel_rfl
theorem ze97 : zeroT Tryz.prog 97 = some [Value.pointer none] := by kernel_rfl
theorem ze98 : zeroT Tryz.prog 98 = some [Value.slice none 0 0] := by kernel_rfl
theorem ze99 : zeroT Tryz.prog 99 = some [Value.int .i64 0, Value.slice none 0 0] := by kernel_rfl
theorem ze100 : zeroT Tryz.prog 100 = some [Value.int .i64 0, Value.slice none 0 0] := by kernel_rfl
theorem ze101 : zeroT Tryz.prog 101 = some [Value.int .i64 0, Value.int .i64 0, Value.int .i64 0, Value.int .i64 0, Value.int .i64 0, Value.int .i64 0, Value.int .i64 0, Value.int .i64 0, Value.int .i64 0, Value.int .i64 0] := by kernel_rfl
theorem ze102 : zeroT Tryz.prog 102 = some [Value.int .i64 0, Value.int .i64 0, Value.int .i64 0, Value.int .i64 0, Value.int .i64 0, Value.int .i64 0, Value.int .i64 0, Value.int .i64 0, Value.int .i64 0, Value.int .i64 0] := by kernel_rfl
theorem ze104 : zeroT Tryz.prog 104 = some [Value.nilFunc] := by kernel_rfl
theorem ze105 : zeroT Tryz.prog 105 = some [Value.nilFunc] := by kernel_rfl
theorem ze106 : zeroT Tryz.prog 106 = some [Value.nilFunc] := by kernel_rfl
theorem ze107 : zeroT Tryz.prog 107 = some [Value.pointer none] := by kernel_rfl
theorem ze109 : zeroT Tryz.prog 109 = some [Value.nilFunc] := by kernel_rfl
theorem ze110 : zeroT Tryz.prog 110 = some [Value.pointer none] := by kernel_rfl
theorem ze111 : zeroT Tryz.prog 111 = some [Value.slice none 0 0] := by kernel_rfl
theorem ze112 : zeroT Tryz.prog 112 = some [Value.nilFunc] := by kernel_rfl
theorem ze113 : zeroT Tryz.prog 113 = some [Value.nilFunc] := by kernel_rfl
theorem ze114 : zeroT Tryz.prog 114 = some [Value.nilFunc] := by kernel_rfl
theorem ze116 : zeroT Tryz.prog 116 = some [Value.nilFunc] := by kernel_rfl
theorem ze117 : zeroT Tryz.prog 117 = some [Value.int .i64 0, Value.int .i64 0, Value.int .i64 0, Value.int .i64 0, Value.int .i64 0, Value.int .i64 0, Value.int .i64 0, Value.int .i64 0, Value.int .i64 0, Value.int .i64 0] := by kernel_rfl
theorem ze118 : zeroT Tryz.prog 118 = some [Value.int .i64 0, Value.int .i64 0, Value.int .i64 0, Value.int .i64 0, Value.int .i64 0, Value.int .i64 0, Value.int .i64 0, Value.int .i64 0, Value.int .i64 0, Value.int .i64 0] := by kernel_rfl
theorem ze119 : zeroT Tryz.prog 119 = some [Value.slice none 0 0] := by kernel_rfl
theorem ze120 : zeroT Tryz.prog 120 = some [Value.int .i64 0, Value.slice none 0 0] := by kernel_rfl
theorem ze121 : zeroT Tryz.prog 121 = some [Value.int .i64 0, Value.slice none 0 0] := by kernel_rfl
theorem ze122 : zeroT Tryz.prog 122 = some [Value.pointer none] := by kernel_rfl
theorem ze123 : zeroT Tryz.prog 123 = some [Value.nilFunc] := by kernel_rfl
theorem ze124 : zeroT Tryz.prog 124 = some [Value.nilFunc] := by kernel_rfl
theorem ze125 : zeroT Tryz.prog 125 = some [Value.nilFunc] := by kernel_rfl
theorem ze126 : zeroT Tryz.prog 126 = some [Value.nilFunc] := by kernel_rfl
theorem ze127 : zeroT Tryz.prog 127 = some [Value.nilFunc] := by kernel_rfl
theorem ze128 : zeroT Tryz.prog 128 = some [Value.nilFunc] := by kernel_rfl
theorem ze129 : zeroT Tryz.prog 129 = some [Value.nilFunc] := by kernel_rfl
theorem ze130 : zeroT Tryz.prog 130 = some [Value.nilFunc] := by kernel_rfl
theorem ze131 : zeroT Tryz.prog 131 = some [Value.nilFunc] := by kernel_rfl
theorem ze132 : zeroT Tryz.prog 132 = some [Value.nilFunc] := by kernel_rfl
theorem ze134 : zeroT Tryz.prog 134 = some [Value.nilFunc] := by kernel_rfl
theorem ze135 : zeroT Tryz.prog 135 = some [Value.nilFunc] := by kernel_rfl
theorem ze136 : zeroT Tryz.prog 136 = some [Value.nilFunc] := by kernel_rfl
theorem ze137 : zeroT Tryz.prog 137 = some [Value.nilFunc] := by kernel_rfl
theorem ze138 : zeroT Tryz.prog 138 = some [Value.nilFunc] := by kernel_rfl
theorem ze139 : zeroT Tryz.prog 139 = some [Value.nilFunc] := by kernel_rfl
theorem ze142 : zeroT Tryz.prog 142 = some [] := by kernel_rfl
theorem ze143 : zeroT Tryz.prog 143 = some [] := by kernel_rfl
theorem ze144 : zeroT Tryz.prog 144 = some [] := by kernel_rfl
theorem ze145 : zeroT Tryz.prog 145 = some [Value.int .u32 0] := by kernel_rfl
theorem ze146 : zeroT Tryz.prog 146 = some [Value.int .u8 0] := by kernel_rfl
theorem ze147 : zeroT Tryz.prog 147 = some [Value.int .u8 0] := by kernel_rfl
theorem ze148 : zeroT Tryz.prog 148 = some [Value.nilFunc] := by kernel_rfl
theorem ze149 : zeroT Tryz.prog 149 = some [Value.pointer none] := by kernel_rfl
theorem ze150 : zeroT Tryz.prog 150 = some [Value.int .i32 0] := by kernel_rfl
theorem ze151 : zeroT Tryz.prog 151 = some [Value.int .i32 0] := by kernel_rfl
theorem ze152 : zeroT Tryz.prog 152 = some [Value.int .u64 0, Value.int .u64 0, Value.int .u32 0, Value.int .u8 0, Value.int .u8 0, Value.int .u8 0, Value.int .u8 0, Value.nilFunc, Value.pointer none, Value.int .i32 0, Value.int .i32 0] := by kernel_rfl
theorem ze153 : zeroT Tryz.prog 153 = some [Value.int .u64 0, Value.int .u64 0, Value.int .u32 0, Value.int .u8 0, Value.int .u8 0, Value.int .u8 0, Value.int .u8 0, Value.nilFunc, Value.pointer none, Value.int .i32 0, Value.int .i32 0] := by kernel_rfl
theorem ze154 : zeroT Tryz.prog 154 = some [Value.pointer none] := by kernel_rfl
theorem pl7 : PlacesOk Tryz.prog 7 [(0, 1), (1, 1), (2, 1), (3, 1)] [Value.int .i64 0, Value.int .i64 0, Value.bool false, Value.int .u8 0] := ⟨by kernel_rfl, by kernel_rfl, by kernel_rfl⟩
theorem pl8 : PlacesOk Tryz.prog 8 [(0, 1), (1, 1), (2, 1), (3, 1)] [Value.int .i64 0, Value.int .i64 0, Value.bool false, Value.int .u8 0] := ⟨by kernel_rfl, by kernel_rfl, by kernel_rfl⟩
theorem pl18 : PlacesOk Tryz.prog 18 [(0, 1)] [Value.pointer none] := ⟨by kernel_rfl, by kernel_rfl, by kernel_rfl⟩
theorem pl19 : PlacesOk Tryz.prog 19 [(0, 1)] [Value.pointer none] := ⟨by kernel_rfl, by kernel_rfl, by kernel_rfl⟩
theorem pl27 : PlacesOk Tryz.prog 27 [(0, 1), (1, 1), (2, 1), (3, 1), (4, 1), (5, 1), (6, 1)] [Value.int .i64 0, Value.int .i64 0, Value.int .i64 0, Value.int .i64 0, Value.int .i64 0, Value.int .i64 0, Value.int .i64 0] := ⟨by kernel_rfl, by kernel_rfl, by kernel_rfl⟩
theorem pl28 : PlacesOk Tryz.prog 28 [(0, 1), (1, 1), (2, 1), (3, 1), (4, 1), (5, 1), (6, 1)] [Value.int .i64 0, Value.int .i64 0, Value.int .i64 0, Value.int .i64 0, Value.int .i64 0, Value.int .i64 0, Value.int .i64 0] := ⟨by kernel_rfl, by kernel_rfl, by kernel_rfl⟩
theorem pl29 : PlacesOk Tryz.prog 29 [(0, 1), (1, 1), (2, 1), (3, 1), (4, 1), (5, 7)] [Value.int .i64 0, Value.int .i64 0, Value.int .i64 0, Value.int .i64 0, Value.int .i64 0, Value.int .i64 0, Value.int .i64 0, Value.int .i64 0, Value.int .i64 0, Value.int .i64 0, Value.int .i64 0, Value.int .i64 0] := ⟨by kernel_rfl, by kernel_rfl, by kernel_rfl⟩
theorem pl30 : PlacesOk Tryz.prog 30 [(0, 1), (1, 1), (2, 1), (3, 1), (4, 1), (5, 7)] [Value.int .i64 0, Value.int .i64 0, Value.int .i64 0, Value.int .i64 0, Value.int .i64 0, Value.int .i64 0, Value.int .i64 0, Value.int .i64 0, Value.int .i64 0, Value.int .i64 0, Value.int .i64 0, Value.int .i64 0] := ⟨by kernel_rfl, by kernel_rfl, by kernel_rfl⟩
theorem pl34 : PlacesOk Tryz.prog 34 [(0, 1), (1, 1), (2, 1), (3, 1), (4, 1), (5, 1), (6, 1), (7, 1), (8, 1)] [Value.int .i64 0, Value.int .i64 0, Value.int .i64 0, Value.int .i64 0, Value.int .i64 0, Value.int .i64 0, Value.int .i64 0, Value.int .i64 0, Value.int .i64 0] := ⟨by kernel_rfl, by kernel_rfl, by kernel_rfl⟩
theorem pl35 : PlacesOk Tryz.prog 35 [(0, 1), (1, 1), (2, 1), (3, 1), (4, 1), (5, 1), (6, 1), (7, 1), (8, 1)] [Value.int .i64 0, Value.int .i64 0, Value.int .i64 0, Value.int .i64 0, Value.int .i64 0, Value.int .i64 0, Value.int .i64 0, Value.int .i64 0, Value.int .i64 0] := ⟨by kernel_rfl, by kernel_rfl, by kernel_rfl⟩
theorem pl54 : PlacesOk Tryz.prog 54 [(0, 1), (1, 1)] [Value.pointer none, Value.slice none 0 0] := ⟨by kernel_rfl, by kernel_rfl, by kernel_rfl⟩
theorem pl55 : PlacesOk Tryz.prog 55 [(0, 1), (1, 1)] [Value.pointer none, Value.slice none 0 0] := ⟨by kernel_rfl, by kernel_rfl, by kernel_rfl⟩
theorem pl59 : PlacesOk Tryz.prog 59 [(0, 3), (3, 1), (4, 1)] [Value.slice none 0 0, Value.slice none 0 0, Value.slice none 0 0, Value.int .i64 0, Value.int .i64 0] := ⟨by kernel_rfl, by kernel_rfl, by kernel_rfl⟩
theorem pl60 : PlacesOk Tryz.prog 60 [(0, 3), (3, 1), (4, 1)] [Value.slice none 0 0, Value.slice none 0 0, Value.slice none 0 0, Value.int .i64 0, Value.int .i64 0] := ⟨by kernel_rfl, by kernel_rfl, by kernel_rfl⟩
theorem pl61 : PlacesOk Tryz.prog 61 [(0, 1), (1, 1)] [Value.pointer none, Value.slice none 0 0] := ⟨by kernel_rfl, by kernel_rfl, by kernel_rfl⟩
theorem pl62 : PlacesOk Tryz.prog 62 [(0, 1), (1, 1)] [Value.pointer none, Value.slice none 0 0] := ⟨by kernel_rfl, by kernel_rfl, by kernel_rfl⟩
theorem pl65 : PlacesOk Tryz.prog 65 [(0, 9), (9, 1), (10, 1), (11, 1), (12, 1), (13, 1), (14, 1)] [Value.int .i64 0, Value.int .i64 0, Value.int .i64 0, Value.int .i64 0, Value.int .i64 0, Value.int .i64 0, Value.int .i64 0, Value.int .i64 0, Value.int .i64 0, Value.slice none 0 0, Value.int .i64 0, Value.bool false, 
    Value.bool false, Value.bool false, Value.int .i64 0] := ⟨by kernel_rfl, by kernel_rfl, by kernel_rfl⟩
theorem pl66 : PlacesOk Tryz.prog 66 [(0, 9), (9, 1), (10, 1), (11, 1), (12, 1), (13, 1), (14, 1)] [Value.int .i64 0, Value.int .i64 0, Value.int .i64 0, Value.int .i64 0, Value.int .i64 0, Value.int .i64 0, Value.int .i64 0, Value.int .i64 0, Value.int .i64 0, Value.slice none 0 0, Value.int .i64 0, Value.bool false, 
    Value.bool false, Value.bool false, Value.int .i64 0] := ⟨by kernel_rfl, by kernel_rfl, by kernel_rfl⟩
theorem pl83 : PlacesOk Tryz.prog 83 [(0, 9), (9, 1)] [Value.int .i64 0, Value.int .i64 0, Value.int .i64 0, Value.int .i64 0, Value.int .i64 0, Value.int .i64 0, Value.int .i64 0, Value.int .i64 0, Value.int .i64 0, Value.int .i64 0] := ⟨by kernel_rfl, by kernel_rfl, by kernel_rfl⟩
theorem pl84 : PlacesOk Tryz.prog 84 [(0, 9), (9, 1)] [Value.int .i64 0, Value.int .i64 0, Value.int .i64 0, Value.int .i64 0, Value.int .i64 0, Value.int .i64 0, Value.int .i64 0, Value.int .i64 0, Value.int .i64 0, Value.int .i64 0] := ⟨by kernel_rfl, by kernel_rfl, by kernel_rfl⟩
theorem pl89 : PlacesOk Tryz.prog 89 [(0, 2), (2, 1), (3, 1)] [Value.slice none 0 0, Value.slice none 0 0, Value.int .i64 0, Value.int .i64 0] := ⟨by kernel_rfl, by kernel_rfl, by kernel_rfl⟩
theorem pl90 : PlacesOk Tryz.prog 90 [(0, 2), (2, 1), (3, 1)] [Value.slice none 0 0, Value.slice none 0 0, Value.int .i64 0, Value.int .i64 0] := ⟨by kernel_rfl, by kernel_rfl, by kernel_rfl⟩
theorem pl92 : PlacesOk Tryz.prog 92 [(0, 9), (9, 9), (18, 1), (19, 1), (20, 1)] [Value.int .i64 0, Value.int .i64 0, Value.int .i64 0, Value.int .i64 0, Value.int .i64 0, Value.int .i64 0, Value.int .i64 0, Value.int .i64 0, Value.int .i64 0, Value.int .i64 0, Value.int .i64 0, Value.int .i64 0, 
    Value.int .i64 0, Value.int .i64 0, Value.int .i64 0, Value.int .i64 0, Value.int .i64 0, Value.int .i64 0, Value.int .i64 0, Value.int .i64 0, Value.int .i64 0] := ⟨by kernel_rfl, by kernel_rfl, by kernel_rfl⟩
theorem pl93 : PlacesOk Tryz.prog 93 [(0, 9), (9, 9), (18, 1), (19, 1), (20, 1)] [Value.int .i64 0, Value.int .i64 0, Value.int .i64 0, Value.int .i64 0, Value.int .i64 0, Value.int .i64 0, Value.int .i64 0, Value.int .i64 0, Value.int .i64 0, Value.int .i64 0, Value.int .i64 0, Value.int .i64 0, 
    Value.int .i64 0, Value.int .i64 0, Value.int .i64 0, Value.int .i64 0, Value.int .i64 0, Value.int .i64 0, Value.int .i64 0, Value.int .i64 0, Value.int .i64 0] := ⟨by kernel_rfl, by kernel_rfl, by kernel_rfl⟩
theorem pl99 : PlacesOk Tryz.prog 99 [(0, 1), (1, 1)] [Value.int .i64 0, Value.slice none 0 0] := ⟨by kernel_rfl, by kernel_rfl, by kernel_rfl⟩
theorem pl100 : PlacesOk Tryz.prog 100 [(0, 1), (1, 1)] [Value.int .i64 0, Value.slice none 0 0] := ⟨by kernel_rfl, by kernel_rfl, by kernel_rfl⟩
theorem pl101 : PlacesOk Tryz.prog 101 [(0, 9), (9, 1)] [Value.int .i64 0, Value.int .i64 0, Value.int .i64 0, Value.int .i64 0, Value.int .i64 0, Value.int .i64 0, Value.int .i64 0, Value.int .i64 0, Value.int .i64 0, Value.int .i64 0] := ⟨by kernel_rfl, by kernel_rfl, by kernel_rfl⟩
theorem pl102 : PlacesOk Tryz.prog 102 [(0, 9), (9, 1)] [Value.int .i64 0, Value.int .i64 0, Value.int .i64 0, Value.int .i64 0, Value.int .i64 0, Value.int .i64 0, Value.int .i64 0, Value.int .i64 0, Value.int .i64 0, Value.int .i64 0] := ⟨by kernel_rfl, by kernel_rfl, by kernel_rfl⟩
theorem pl117 : PlacesOk Tryz.prog 117 [(0, 9), (9, 1)] [Value.int .i64 0, Value.int .i64 0, Value.int .i64 0, Value.int .i64 0, Value.int .i64 0, Value.int .i64 0, Value.int .i64 0, Value.int .i64 0, Value.int .i64 0, Value.int .i64 0] := ⟨by kernel_rfl, by kernel_rfl, by kernel_rfl⟩
theorem pl118 : PlacesOk Tryz.prog 118 [(0, 9), (9, 1)] [Value.int .i64 0, Value.int .i64 0, Value.int .i64 0, Value.int .i64 0, Value.int .i64 0, Value.int .i64 0, Value.int .i64 0, Value.int .i64 0, Value.int .i64 0, Value.int .i64 0] := ⟨by kernel_rfl, by kernel_rfl, by kernel_rfl⟩
theorem pl120 : PlacesOk Tryz.prog 120 [(0, 1), (1, 1)] [Value.int .i64 0, Value.slice none 0 0] := ⟨by kernel_rfl, by kernel_rfl, by kernel_rfl⟩
theorem pl121 : PlacesOk Tryz.prog 121 [(0, 1), (1, 1)] [Value.int .i64 0, Value.slice none 0 0] := ⟨by kernel_rfl, by kernel_rfl, by kernel_rfl⟩
theorem pl152 : PlacesOk Tryz.prog 152 [(0, 1), (1, 1), (2, 1), (3, 1), (4, 1), (5, 1), (6, 1), (7, 1), (8, 1), (9, 1), (10, 1)] [Value.int .u64 0, Value.int .u64 0, Value.int .u32 0, Value.int .u8 0, Value.int .u8 0, Value.int .u8 0, Value.int .u8 0, Value.nilFunc, Value.pointer none, Value.int .i32 0, Value.int .i32 0] := ⟨by kernel_rfl, by kernel_rfl, by kernel_rfl⟩
theorem pl153 : PlacesOk Tryz.prog 153 [(0, 1), (1, 1), (2, 1), (3, 1), (4, 1), (5, 1), (6, 1), (7, 1), (8, 1), (9, 1), (10, 1)] [Value.int .u64 0, Value.int .u64 0, Value.int .u32 0, Value.int .u8 0, Value.int .u8 0, Value.int .u8 0, Value.int .u8 0, Value.nilFunc, Value.pointer none, Value.int .i32 0, Value.int .i32 0] := ⟨by kernel_rfl, by kernel_rfl, by kernel_rfl⟩
def plainL : List Nat := [2, 3, 4, 5, 6, 7, 8, 9, 10, 11, 12, 13, 14, 15, 16, 17, 18, 19, 20, 21, 22, 23, 24, 25, 26, 27, 28, 29, 30, 31, 
    32, 33, 34, 35, 36, 37, 38, 39, 40, 41, 42, 43, 44, 45, 46, 47, 48, 49, 50, 51, 52, 53, 54, 55, 56, 57, 58, 59, 60, 61, 
    62, 63, 64, 65, 66, 67, 68, 69, 70, 71, 72, 73, 74, 75, 76, 77, 78, 79, 80, 81, 82, 83, 84, 85, 86, 87, 88, 89, 90, 91, 
    92, 93, 94, 95, 96, 97, 98, 99, 100, 101, 102, 103, 104, 105, 106, 108, 109, 110, 111, 112]
theorem plainL_ok : plainL.all (Program.plainFn Tryz.prog) = true := by kernel_rfl
theorem pf {f : Nat} (h : find0 plainL f = true) : Program.plainFn Tryz.prog f = true := find0_all plainL_ok h
theorem mo : Tryz.prog.follows .mixedOrders = true := by kernel_rfl
end Go.Proofs.YtmelpobcpcmdoaaGreat
