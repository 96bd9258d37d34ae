/- The facts on types of this seat's translation, each asked of the program by the kernel. It proves no statement by itself. (Printed by tables.py of this repo.) -/
import Derived.Test.YtnpcmcijlgklfaaProg
import Derived.Test.YtnpcmcijlgklfaaSLSlice
set_option autoImplicit false
namespace Go.Proofs.Ytnpcmcijlgklfaa
open Go Go.SL Go.Proofs
def find2 : List (Nat × Nat × Nat × Nat) → Nat → Nat → Option (Nat × Nat)
  | [], _, _ => none
  | (a, b, c, d) :: r, x, y => bif Nat.beq a x && Nat.beq b y then some (c, d) else find2 r x y
def find1 : List (Nat × Nat) → Nat → Option Nat
  | [], _ => none
  | (a, b) :: r, x => bif Nat.beq a x then some b else find1 r x
def find3 : List (Nat × Nat × Nat) → Nat → Option (Nat × Nat)
  | [], _ => none
  | (a, b, c) :: r, x => bif Nat.beq a x then some (b, c) else find3 r x
def find4 : List (Nat × Nat × Nat × Nat) → Nat → Option (Nat × Nat × Nat)
  | [], _ => none
  | (a, b, c, d) :: r, x => bif Nat.beq a x then some (b, c, d) else find4 r x
def find0 : List Nat → Nat → Bool
  | [], _ => false
  | a :: r, x => bif Nat.beq a x then true else find0 r x
theorem find2_all {f : Nat → Nat → Nat → Nat → Bool} : ∀ {l : List (Nat × Nat × Nat × Nat)}, (l.all fun p => f p.1 p.2.1 p.2.2.1 p.2.2.2) = true → ∀ {x y c d : Nat}, find2 l x y = some (c, d) → f x y c d = true
  | [], _, _, _, _, _, h => by cases h
  | (a, b, c', d') :: r, hl, x, y, c, d, h => by
    simp only [List.all_cons, Bool.and_eq_true] at hl
    unfold find2 at h
    cases e : (Nat.beq a x && Nat.beq b y) with
    | false => rw [e] at h; exact find2_all hl.2 h
    | true =>
      rw [e] at h
      simp only [cond_true, Option.some.injEq, Prod.mk.injEq] at h
      simp only [Bool.and_eq_true] at e
      have e1 := Nat.eq_of_beq_eq_true e.1
      have e2 := Nat.eq_of_beq_eq_true e.2
      rw [← e1, ← e2, ← h.1, ← h.2]; exact hl.1
theorem find1_all {f : Nat → Nat → Bool} : ∀ {l : List (Nat × Nat)}, (l.all fun p => f p.1 p.2) = true → ∀ {x c : Nat}, find1 l x = some c → f x c = true
  | [], _, _, _, h => by cases h
  | (a, b) :: r, hl, x, c, h => by
    simp only [List.all_cons, Bool.and_eq_true] at hl
    unfold find1 at h
    cases e : Nat.beq a x with
    | false => rw [e] at h; exact find1_all hl.2 h
    | true =>
      rw [e] at h
      simp only [cond_true, Option.some.injEq] at h
      have e1 := Nat.eq_of_beq_eq_true e
      rw [← e1, ← h]; exact hl.1
theorem find3_all {f : Nat → Nat → Nat → Bool} : ∀ {l : List (Nat × Nat × Nat)}, (l.all fun p => f p.1 p.2.1 p.2.2) = true → ∀ {x c d : Nat}, find3 l x = some (c, d) → f x c d = true
  | [], _, _, _, _, h => by cases h
  | (a, b, b') :: r, hl, x, c, d, h => by
    simp only [List.all_cons, Bool.and_eq_true] at hl
    unfold find3 at h
    cases e : Nat.beq a x with
    | false => rw [e] at h; exact find3_all hl.2 h
    | true =>
      rw [e] at h
      simp only [cond_true, Option.some.injEq, Prod.mk.injEq] at h
      have e1 := Nat.eq_of_beq_eq_true e
      rw [← e1, ← h.1, ← h.2]; exact hl.1
theorem find4_all {f : Nat → Nat → Nat → Nat → Bool} : ∀ {l : List (Nat × Nat × Nat × Nat)}, (l.all fun p => f p.1 p.2.1 p.2.2.1 p.2.2.2) = true → ∀ {x c d e : Nat}, find4 l x = some (c, d, e) → f x c d e = true
  | [], _, _, _, _, _, h => by cases h
  | (a, b, b', b2) :: r, hl, x, c, d, e', h => by
    simp only [List.all_cons, Bool.and_eq_true] at hl
    unfold find4 at h
    cases e : Nat.beq a x with
    | false => rw [e] at h; exact find4_all hl.2 h
    | true =>
      rw [e] at h
      simp only [cond_true, Option.some.injEq, Prod.mk.injEq] at h
      have e1 := Nat.eq_of_beq_eq_true e
      rw [← e1, ← h.1, ← h.2.1, ← h.2.2]; exact hl.1
theorem find0_all {f : Nat → Bool} : ∀ {l : List Nat}, l.all f = true → ∀ {x : Nat}, find0 l x = true → f x = true
  | [], _, _, h => by cases h
  | a :: r, hl, x, h => by
    simp only [List.all_cons, Bool.and_eq_true] at hl
    unfold find0 at h
    cases e : Nat.beq a x with
    | false => rw [e] at h; exact find0_all hl.2 h
    | true => rw [← Nat.eq_of_beq_eq_true e]; exact hl.1
def fieldL : List (Nat × Nat × Nat × Nat) := [(7, 0, 0, 2), (7, 1, 1, 3), (7, 2, 2, 4), (7, 3, 3, 6), (8, 0, 0, 2), (8, 1, 1, 3), (8, 2, 2, 4), (8, 3, 3, 6), (13, 0, 0, 9), (13, 1, 1, 12), (14, 0, 0, 9), (14, 1, 1, 12), (18, 0, 0, 17), (19, 0, 0, 17), 
    (35, 0, 0, 3), (35, 1, 1, 3), (35, 2, 2, 3), (35, 3, 3, 3), (35, 4, 4, 3), (35, 5, 5, 3), (35, 6, 6, 3), (35, 7, 7, 3), (35, 8, 8, 3), (36, 0, 0, 3), (36, 1, 1, 3), (36, 2, 2, 3), (36, 3, 3, 3), (36, 4, 4, 3), 
    (36, 5, 5, 3), (36, 6, 6, 3), (36, 7, 7, 3), (36, 8, 8, 3), (48, 0, 0, 3), (48, 1, 1, 3), (48, 2, 2, 3), (48, 3, 3, 3), (49, 0, 0, 3), (49, 1, 1, 3), (49, 2, 2, 3), (49, 3, 3, 3), (52, 0, 0, 51), (52, 1, 8, 51), 
    (53, 0, 0, 51), (53, 1, 8, 51), (55, 0, 0, 50), (55, 1, 128, 54), (56, 0, 0, 50), (56, 1, 128, 54), (57, 0, 0, 3), (57, 1, 1, 3), (57, 2, 2, 3), (57, 3, 3, 3), (57, 4, 4, 3), (58, 0, 0, 3), (58, 1, 1, 3), (58, 2, 2, 3), 
    (58, 3, 3, 3), (58, 4, 4, 3), (75, 0, 0, 74), (75, 1, 256, 74), (76, 0, 0, 74), (76, 1, 256, 74), (79, 0, 0, 3), (79, 1, 1, 3), (79, 2, 2, 3), (79, 3, 3, 3), (79, 4, 4, 3), (81, 0, 0, 17), (81, 1, 1, 17), (81, 2, 2, 17), 
    (81, 3, 3, 9), (82, 0, 0, 17), (82, 1, 1, 17), (82, 2, 2, 17), (82, 3, 3, 9), (94, 0, 0, 12), (94, 1, 1, 12), (94, 2, 2, 87), (94, 3, 3, 88), (94, 4, 4, 5), (94, 5, 5, 5), (94, 6, 6, 89), (94, 7, 7, 90), (94, 8, 8, 91), 
    (94, 9, 9, 92), (94, 10, 10, 93), (95, 0, 0, 12), (95, 1, 1, 12), (95, 2, 2, 87), (95, 3, 3, 88), (95, 4, 4, 5), (95, 5, 5, 5), (95, 6, 6, 89), (95, 7, 7, 90), (95, 8, 8, 91), (95, 9, 9, 92), (95, 10, 10, 93)]
theorem fieldL_ok : (fieldL.all fun p => fieldB Try.prog p.1 p.2.1 p.2.2.1 p.2.2.2) = true := by kernel_rfl
theorem fo {s i k t : Nat} (h : find2 fieldL s i = some (k, t)) : fieldB Try.prog s i k t = true := find2_all (f := fieldB Try.prog) fieldL_ok h
def scalL : List Nat := [0, 1, 2, 3, 4, 5, 6, 9, 10, 11, 12, 15, 16, 17, 20, 21, 22, 23, 24, 25, 26, 27, 28, 29, 30, 31, 32, 33, 34, 37, 
    38, 39, 40, 41, 42, 43, 44, 45, 46, 47, 59, 60, 61, 62, 63, 64, 65, 66, 67, 68, 69, 70, 71, 72, 73, 77, 78, 80, 86, 87, 
    88, 89, 90, 91, 92, 93, 96]
theorem scalL_ok : scalL.all (scalarB Try.prog) = true := by kernel_rfl
theorem sc {t : Nat} (h : find0 scalL t = true) : scalarB Try.prog t = true := find0_all scalL_ok h
def aggL : List Nat := [7, 8, 13, 14, 18, 19, 35, 36, 48, 49, 52, 53, 55, 56, 57, 58, 75, 76, 79, 81, 82, 84, 85, 94, 95, 50, 51, 54, 74, 83]
theorem aggL_ok : aggL.all (aggB Try.prog) = true := by kernel_rfl
theorem ag {t : Nat} (h : find0 aggL t = true) : aggB Try.prog t = true := find0_all aggL_ok h
def sizeL : List (Nat × Nat) := [(0, 1), (1, 1), (2, 1), (3, 1), (4, 1), (5, 1), (6, 1), (7, 4), (8, 4), (9, 1), (10, 1), (11, 1), (12, 1), (13, 2), (14, 2), (15, 1), (16, 1), (17, 1), (18, 1), (19, 1), 
    (20, 1), (21, 1), (22, 1), (23, 1), (24, 1), (25, 1), (26, 1), (27, 1), (28, 1), (29, 1), (30, 1), (31, 1), (32, 1), (33, 1), (34, 1), (35, 9), (36, 9), (37, 1), (38, 1), (39, 1), 
    (40, 1), (41, 1), (42, 1), (43, 1), (44, 1), (45, 1), (46, 1), (47, 1), (48, 4), (49, 4), (50, 128), (51, 8), (52, 16), (53, 16), (54, 512), (55, 640), (56, 640), (57, 5), (58, 5), (59, 1), 
    (60, 1), (61, 1), (62, 1), (63, 1), (64, 1), (65, 1), (66, 1), (67, 1), (68, 1), (69, 1), (70, 1), (71, 1), (72, 1), (73, 1), (74, 256), (75, 512), (76, 512), (77, 1), (78, 1), (79, 5), 
    (80, 1), (81, 4), (82, 4), (83, 0), (84, 0), (85, 0), (86, 1), (87, 1), (88, 1), (89, 1), (90, 1), (91, 1), (92, 1), (93, 1), (94, 11), (95, 11), (96, 1)]
theorem sizeL_ok : (sizeL.all fun p => sizeB Try.prog p.1 p.2) = true := by kernel_rfl
theorem sz {t n : Nat} (h : find1 sizeL t = some n) : sizeB Try.prog t n = true := find1_all (f := sizeB Try.prog) sizeL_ok h
def bytesL : List (Nat × Nat) := [(0, 0), (1, 8), (2, 8), (3, 8), (4, 1), (5, 1), (6, 1), (7, 24), (8, 24), (9, 16), (10, 16), (11, 16), (12, 8), (13, 24), (14, 24), (15, 8), (16, 8), (17, 8), (18, 8), (19, 8), 
    (20, 16), (21, 4), (22, 8), (23, 0), (24, 8), (25, 8), (26, 8), (27, 24), (28, 0), (29, 8), (30, 8), (31, 8), (32, 8), (33, 8), (34, 8), (35, 72), (36, 72), (37, 8), (38, 8), (39, 8), 
    (40, 8), (41, 8), (42, 8), (43, 8), (44, 8), (45, 8), (46, 24), (47, 8), (48, 32), (49, 32), (50, 1024), (51, 64), (52, 128), (53, 128), (54, 4096), (55, 5120), (56, 5120), (57, 40), (58, 40), (59, 8), 
    (60, 8), (61, 8), (62, 8), (63, 8), (64, 8), (65, 8), (66, 8), (67, 8), (68, 24), (69, 0), (70, 8), (71, 8), (72, 8), (73, 8), (74, 2048), (75, 4096), (76, 4096), (77, 8), (78, 8), (79, 40), 
    (80, 8), (81, 40), (82, 40), (83, 0), (84, 0), (85, 0), (86, 8), (87, 4), (88, 1), (89, 1), (90, 8), (91, 8), (92, 4), (93, 4), (94, 48), (95, 48), (96, 8)]
theorem bytesL_ok : (bytesL.all fun p => bytesB Try.prog p.1 p.2) = true := by kernel_rfl
theorem byt {t n : Nat} (h : find1 bytesL t = some n) : bytesB Try.prog t n = true := find1_all (f := bytesB Try.prog) bytesL_ok h
def sliceL : List (Nat × Nat × Nat) := [(27, 3, 1), (46, 58, 5), (68, 79, 5)]
theorem sliceL_ok : (sliceL.all fun p => sliceB Try.prog p.1 p.2.1 p.2.2) = true := by kernel_rfl
theorem se {t e n : Nat} (h : find3 sliceL t = some (e, n)) : sliceB Try.prog t e n = true := find3_all (f := sliceB Try.prog) sliceL_ok h
def arrayL : List (Nat × Nat × Nat × Nat) := [(50, 32, 49, 4), (51, 8, 3, 1), (54, 32, 53, 16), (74, 32, 51, 8), (83, 0, 16, 1)]
theorem arrayL_ok : (arrayL.all fun p => arrayB Try.prog p.1 p.2.1 p.2.2.1 p.2.2.2) = true := by kernel_rfl
theorem ar {t l e n : Nat} (h : find4 arrayL t = some (l, e, n)) : arrayB Try.prog t l e n = true := find4_all (f := arrayB Try.prog) arrayL_ok h
def ptrL : List Nat := [15, 16, 17, 41, 47, 78, 91]
theorem ptrL_ok : ptrL.all (ptrB Try.prog) = true := by kernel_rfl
theorem pt {t : Nat} (h : find0 ptrL t = true) : ptrB Try.prog t = true := find0_all ptrL_ok h
def boolL : List Nat := [4]
theorem boolL_ok : boolL.all (boolB Try.prog) = true := by kernel_rfl
theorem bt {t : Nat} (h : find0 boolL t = true) : boolB Try.prog t = true := find0_all boolL_ok h
theorem ze1 : zeroT Try.prog 1 = some [Value.nilFunc] := by kernel_rfl
theorem ze2 : zeroT Try.prog 2 = some [Value.int .i64 0] := by kernel_rfl
theorem ze3 : zeroT Try.prog 3 = some [Value.int .i64 0] := by kernel_rfl
theorem ze4 : zeroT Try.prog 4 = some [Value.bool false] := by kernel_rfl
theorem ze5 : zeroT Try.prog 5 = some [Value.int .u8 0] := by kernel_rfl
theorem ze6 : zeroT Try.prog 6 = some [Value.int .u8 0] := by kernel_rfl
theorem ze7 : zeroT Try.prog 7 = some [Value.int .i64 0, Value.int .i64 0, Value.bool false, Value.int .u8 0] := by kernel_rfl
theorem ze8 : zeroT Try.prog 8 = some [Value.int .i64 0, Value.int .i64 0, Value.bool false, Value.int .u8 0] := by kernel_rfl
theorem ze12 : zeroT Try.prog 12 = some [Value.int .u64 0] := by kernel_rfl
theorem ze15 : zeroT Try.prog 15 = some [Value.pointer none] := by kernel_rfl
theorem ze16 : zeroT Try.prog 16 = some [Value.pointer none] := by kernel_rfl
theorem ze17 : zeroT Try.prog 17 = some [Value.pointer none] := by kernel_rfl
theorem ze18 : zeroT Try.prog 18 = some [Value.pointer none] := by kernel_rfl
theorem ze19 : zeroT Try.prog 19 = some [Value.pointer none] := by kernel_rfl
theorem ze20 : zeroT Try.prog 20 = some [Value.nilIface] := by kernel_rfl
theorem ze21 : zeroT Try.prog 21 = some [Value.int .i32 0] := by kernel_rfl
theorem ze22 : zeroT Try.prog 22 = some [Value.int .i64 0] := by kernel_rfl
theorem ze24 : zeroT Try.prog 24 = some [Value.nilFunc] := by kernel_rfl
theorem ze25 : zeroT Try.prog 25 = some [Value.nilFunc] := by kernel_rfl
theorem ze26 : zeroT Try.prog 26 = some [Value.nilFunc] := by kernel_rfl
theorem ze27 : zeroT Try.prog 27 = some [Value.slice none 0 0] := by kernel_rfl
theorem ze29 : zeroT Try.prog 29 = some [Value.nilFunc] := by kernel_rfl
theorem ze30 : zeroT Try.prog 30 = some [Value.nilFunc] := by kernel_rfl
theorem ze31 : zeroT Try.prog 31 = some [Value.nilFunc] := by kernel_rfl
theorem ze32 : zeroT Try.prog 32 = some [Value.nilFunc] := by kernel_rfl
theorem ze33 : zeroT Try.prog 33 = some [Value.nilFunc] := by kernel_rfl
theorem ze34 : zeroT Try.prog 34 = some [Value.nilFunc] := by kernel_rfl
theorem ze35 : zeroT Try.prog 35 = some [Value.int .i64 0, Value.int .i64 0, Value.int .i64 0, Value.int .i64 0, Value.int .i64 0, Value.int .i64 0, Value.int .i64 0, Value.int .i64 0, Value.int .i64 0] := by kernel_rfl
theorem ze36 : zeroT Try.prog 36 = some [Value.int .i64 0, Value.int .i64 0, Value.int .i64 0, Value.int .i64 0, Value.int .i64 0, Value.int .i64 0, Value.int .i64 0, Value.int .i64 0, Value.int .i64 0] := by kernel_rfl
theorem ze37 : zeroT Try.prog 37 = some [Value.nilFunc] := by kernel_rfl
theorem ze38 : zeroT Try.prog 38 = some [Value.nilFunc] := by kernel_rfl
theorem ze39 : zeroT Try.prog 39 = some [Value.nilFunc] := by kernel_rfl
theorem ze40 : zeroT Try.prog 40 = some [Value.nilFunc] := by kernel_rfl
theorem ze41 : zeroT Try.prog 41 = some [Value.pointer none] := by kernel_rfl
theorem ze42 : zeroT Try.prog 42 = some [Value.nilFunc] := by kernel_rfl
theorem ze43 : zeroT Try.prog 43 = some [Value.nilFunc] := by kernel_rfl
theorem ze44 : zeroT Try.prog 44 = some [Value.nilFunc] := by kernel_rfl
theorem ze45 : zeroT Try.prog 45 = some [Value.nilFunc] := by kernel_rfl
theorem ze46 : zeroT Try.prog 46 = some [Value.slice none 0 0] := by kernel_rfl
theorem ze47 : zeroT Try.prog 47 = some [Value.pointer none] := by kernel_rfl
theorem ze48 : zeroT Try.prog 48 = some [Value.int .i64 0, Value.int .i64 0, Value.int .i64 0, Value.int .i64 0] := by kernel_rfl
theorem ze49 : zeroT Try.prog 49 = some [Value.int .i64 0, Value.int .i64 0, Value.int .i64 0, Value.int .i64 0] := by kernel_rfl
theorem ze51 : zeroT Try.prog 51 = some [Value.int .i64 0, Value.int .i64 0, Value.int .i64 0, Value.int .i64 0, Value.int .i64 0, Value.int .i64 0, Value.int .i64 0, Value.int .i64 0] := by kernel_rfl
theorem ze52 : zeroT Try.prog 52 = some [Value.int .i64 0, Value.int .i64 0, Value.int .i64 0, Value.int .i64 0, Value.int .i64 0, Value.int .i64 0, Value.int .i64 0, Value.int .i64 0, Value.int .i64 0, Value.int .i64 0, Value.int .i64 0, Value.int .i64 0, 
    Value.int .i64 0, Value.int .i64 0, Value.int .i64 0, Value.int .i64 0] := by kernel_rfl
theorem ze53 : zeroT Try.prog 53 = some [Value.int .i64 0, Value.int .i64 0, Value.int .i64 0, Value.int .i64 0, Value.int .i64 0, Value.int .i64 0, Value.int .i64 0, Value.int .i64 0, Value.int .i64 0, Value.int .i64 0, Value.int .i64 0, Value.int .i64 0, 
    Value.int .i64 0, Value.int .i64 0, Value.int .i64 0, Value.int .i64 0] := by kernel_rfl
theorem ze57 : zeroT Try.prog 57 = some [Value.int .i64 0, Value.int .i64 0, Value.int .i64 0, Value.int .i64 0, Value.int .i64 0] := by kernel_rfl
theorem ze58 : zeroT Try.prog 58 = some [Value.int .i64 0, Value.int .i64 0, Value.int .i64 0, Value.int .i64 0, Value.int .i64 0] := by kernel_rfl
theorem ze59 : zeroT Try.prog 59 = some [Value.nilFunc] := by kernel_rfl
theorem ze60 : zeroT Try.prog 60 = some [Value.nilFunc] := by kernel_rfl
theorem ze61 : zeroT Try.prog 61 = some [Value.nilFunc] := by kernel_rfl
theorem ze62 : zeroT Try.prog 62 = some [Value.nilFunc] := by kernel_rfl
theorem ze63 : zeroT Try.prog 63 = some [Value.nilFunc] := by kernel_rfl
theorem ze64 : zeroT Try.prog 64 = some [Value.nilFunc] := by kernel_rfl
theorem ze65 : zeroT Try.prog 65 = some [Value.nilFunc] := by kernel_rfl
theorem ze66 : zeroT Try.prog 66 = some [Value.nilFunc] := by kernel_rfl
theorem ze67 : zeroT Try.prog 67 = some [Value.nilFunc] := by kernel_rfl
theorem ze68 : zeroT Try.prog 68 = some [Value.slice none 0 0] := by kernel_rfl
theorem ze70 : zeroT Try.prog 70 = some [Value.nilFunc] := by kernel_rfl
theorem ze71 : zeroT Try.prog 71 = some [Value.nilFunc] := by kernel_rfl
theorem ze72 : zeroT Try.prog 72 = some [Value.nilFunc] := by kernel_rfl
theorem ze73 : zeroT Try.prog 73 = some [Value.nilFunc] := by kernel_rfl
theorem ze77 : zeroT Try.prog 77 = some [Value.nilFunc] := by kernel_rfl
theorem ze78 : zeroT Try.prog 78 = some [Value.pointer none] := by kernel_rfl
theorem ze79 : zeroT Try.prog 79 = some [Value.int .i64 0, Value.int .i64 0, Value.int .i64 0, Value.int .i64 0, Value.int .i64 0] := by kernel_rfl
theorem ze80 : zeroT Try.prog 80 = some [Value.nilFunc] := by kernel_rfl
theorem ze83 : zeroT Try.prog 83 = some [] := by kernel_rfl
theorem ze84 : zeroT Try.prog 84 = some [] := by kernel_rfl
theorem ze85 : zeroT Try.prog 85 = some [] := by kernel_rfl
theorem ze86 : zeroT Try.prog 86 = some [Value.nilFunc] := by kernel_rfl
theorem ze87 : zeroT Try.prog 87 = some [Value.int .u32 0] := by kernel_rfl
theorem ze88 : zeroT Try.prog 88 = some [Value.int .u8 0] := by kernel_rfl
theorem ze89 : zeroT Try.prog 89 = some [Value.int .u8 0] := by kernel_rfl
theorem ze90 : zeroT Try.prog 90 = some [Value.nilFunc] := by kernel_rfl
theorem ze91 : zeroT Try.prog 91 = some [Value.pointer none] := by kernel_rfl
theorem ze92 : zeroT Try.prog 92 = some [Value.int .i32 0] := by kernel_rfl
theorem ze93 : zeroT Try.prog 93 = some [Value.int .i32 0] := by kernel_rfl
theorem ze94 : zeroT Try.prog 94 = some [Value.int .u64 0, Value.int .u64 0, Value.int .u32 0, Value.int .u8 0, Value.int .u8 0, Value.int .u8 0, Value.int .u8 0, Value.nilFunc, Value.pointer none, Value.int .i32 0, Value.int .i32 0] := by kernel_rfl
theorem ze95 : zeroT Try.prog 95 = some [Value.int .u64 0, Value.int .u64 0, Value.int .u32 0, Value.int .u8 0, Value.int .u8 0, Value.int .u8 0, Value.int .u8 0, Value.nilFunc, Value.pointer none, Value.int .i32 0, Value.int .i32 0] := by kernel_rfl
theorem ze96 : zeroT Try.prog 96 = some [Value.pointer none] := by kernel_rfl
theorem pl7 : PlacesOk Try.prog 7 [(0, 1), (1, 1), (2, 1), (3, 1)] [Value.int .i64 0, Value.int .i64 0, Value.bool false, Value.int .u8 0] := ⟨by kernel_rfl, by kernel_rfl, by kernel_rfl⟩
theorem pl8 : PlacesOk Try.prog 8 [(0, 1), (1, 1), (2, 1), (3, 1)] [Value.int .i64 0, Value.int .i64 0, Value.bool false, Value.int .u8 0] := ⟨by kernel_rfl, by kernel_rfl, by kernel_rfl⟩
theorem pl18 : PlacesOk Try.prog 18 [(0, 1)] [Value.pointer none] := ⟨by kernel_rfl, by kernel_rfl, by kernel_rfl⟩
theorem pl19 : PlacesOk Try.prog 19 [(0, 1)] [Value.pointer none] := ⟨by kernel_rfl, by kernel_rfl, by kernel_rfl⟩
theorem pl35 : PlacesOk Try.prog 35 [(0, 1), (1, 1), (2, 1), (3, 1), (4, 1), (5, 1), (6, 1), (7, 1), (8, 1)] [Value.int .i64 0, Value.int .i64 0, Value.int .i64 0, Value.int .i64 0, Value.int .i64 0, Value.int .i64 0, Value.int .i64 0, Value.int .i64 0, Value.int .i64 0] := ⟨by kernel_rfl, by kernel_rfl, by kernel_rfl⟩
theorem pl36 : PlacesOk Try.prog 36 [(0, 1), (1, 1), (2, 1), (3, 1), (4, 1), (5, 1), (6, 1), (7, 1), (8, 1)] [Value.int .i64 0, Value.int .i64 0, Value.int .i64 0, Value.int .i64 0, Value.int .i64 0, Value.int .i64 0, Value.int .i64 0, Value.int .i64 0, Value.int .i64 0] := ⟨by kernel_rfl, by kernel_rfl, by kernel_rfl⟩
theorem pl48 : PlacesOk Try.prog 48 [(0, 1), (1, 1), (2, 1), (3, 1)] [Value.int .i64 0, Value.int .i64 0, Value.int .i64 0, Value.int .i64 0] := ⟨by kernel_rfl, by kernel_rfl, by kernel_rfl⟩
theorem pl49 : PlacesOk Try.prog 49 [(0, 1), (1, 1), (2, 1), (3, 1)] [Value.int .i64 0, Value.int .i64 0, Value.int .i64 0, Value.int .i64 0] := ⟨by kernel_rfl, by kernel_rfl, by kernel_rfl⟩
theorem pl52 : PlacesOk Try.prog 52 [(0, 8), (8, 8)] [Value.int .i64 0, Value.int .i64 0, Value.int .i64 0, Value.int .i64 0, Value.int .i64 0, Value.int .i64 0, Value.int .i64 0, Value.int .i64 0, Value.int .i64 0, Value.int .i64 0, Value.int .i64 0, Value.int .i64 0, 
    Value.int .i64 0, Value.int .i64 0, Value.int .i64 0, Value.int .i64 0] := ⟨by kernel_rfl, by kernel_rfl, by kernel_rfl⟩
theorem pl53 : PlacesOk Try.prog 53 [(0, 8), (8, 8)] [Value.int .i64 0, Value.int .i64 0, Value.int .i64 0, Value.int .i64 0, Value.int .i64 0, Value.int .i64 0, Value.int .i64 0, Value.int .i64 0, Value.int .i64 0, Value.int .i64 0, Value.int .i64 0, Value.int .i64 0, 
    Value.int .i64 0, Value.int .i64 0, Value.int .i64 0, Value.int .i64 0] := ⟨by kernel_rfl, by kernel_rfl, by kernel_rfl⟩
theorem pl57 : PlacesOk Try.prog 57 [(0, 1), (1, 1), (2, 1), (3, 1), (4, 1)] [Value.int .i64 0, Value.int .i64 0, Value.int .i64 0, Value.int .i64 0, Value.int .i64 0] := ⟨by kernel_rfl, by kernel_rfl, by kernel_rfl⟩
theorem pl58 : PlacesOk Try.prog 58 [(0, 1), (1, 1), (2, 1), (3, 1), (4, 1)] [Value.int .i64 0, Value.int .i64 0, Value.int .i64 0, Value.int .i64 0, Value.int .i64 0] := ⟨by kernel_rfl, by kernel_rfl, by kernel_rfl⟩
theorem pl79 : PlacesOk Try.prog 79 [(0, 1), (1, 1), (2, 1), (3, 1), (4, 1)] [Value.int .i64 0, Value.int .i64 0, Value.int .i64 0, Value.int .i64 0, Value.int .i64 0] := ⟨by kernel_rfl, by kernel_rfl, by kernel_rfl⟩
theorem pl94 : PlacesOk Try.prog 94 [(0, 1), (1, 1), (2, 1), (3, 1), (4, 1), (5, 1), (6, 1), (7, 1), (8, 1), (9, 1), (10, 1)] [Value.int .u64 0, Value.int .u64 0, Value.int .u32 0, Value.int .u8 0, Value.int .u8 0, Value.int .u8 0, Value.int .u8 0, Value.nilFunc, Value.pointer none, Value.int .i32 0, Value.int .i32 0] := ⟨by kernel_rfl, by kernel_rfl, by kernel_rfl⟩
theorem pl95 : PlacesOk Try.prog 95 [(0, 1), (1, 1), (2, 1), (3, 1), (4, 1), (5, 1), (6, 1), (7, 1), (8, 1), (9, 1), (10, 1)] [Value.int .u64 0, Value.int .u64 0, Value.int .u32 0, Value.int .u8 0, Value.int .u8 0, Value.int .u8 0, Value.int .u8 0, Value.nilFunc, Value.pointer none, Value.int .i32 0, Value.int .i32 0] := ⟨by kernel_rfl, by kernel_rfl, by kernel_rfl⟩
def plainL : List Nat := [2, 3, 4, 5, 6, 7, 8, 9, 10, 11, 12, 13, 14, 15, 16, 17, 18, 19, 20, 21, 22, 23, 24, 25, 26, 27, 28, 29, 30, 31, 
    32, 33, 34, 35, 36, 37, 38, 39, 40, 41, 42, 43, 44, 45, 46, 47, 48, 49, 50, 51, 52, 53, 54, 55, 56, 57, 58, 59, 60, 61, 
    62]
theorem plainL_ok : plainL.all (Program.plainFn Try.prog) = true := by kernel_rfl
theorem pf {f : Nat} (h : find0 plainL f = true) : Program.plainFn Try.prog f = true := find0_all plainL_ok h
theorem mo : Try.prog.follows .mixedOrders = true := by kernel_rfl
end Go.Proofs.Ytnpcmcijlgklfaa
