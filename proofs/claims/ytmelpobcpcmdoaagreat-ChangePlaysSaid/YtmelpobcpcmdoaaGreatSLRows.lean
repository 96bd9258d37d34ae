/- The separation layer, rows: slices of structs, row by row. It proves no statement by itself. -/
import Derived.Test.YtmelpobcpcmdoaaGreatSLMore2
set_option autoImplicit false
set_option linter.unusedSimpArgs false
set_option linter.unusedSectionVars false
set_option linter.unusedVariables false
namespace Go.SL
variable [Base]
section
variable {α : Type} {f : α → List Value} {n : Nat}
def rows (f : α → List Value) : List α → List Value
  | [] => []
  | x :: l => f x ++ rows f l
theorem rows_append (l m : List α) : rows f (l ++ m) = rows f l ++ rows f m := by
  induction l with
  | nil => rfl
  | cons x l ih => simp only [List.cons_append, rows, ih, List.append_assoc]
theorem rows_len (hf : ∀ x, (f x).length = n) (l : List α) : (rows f l).length = l.length * n := by
  induction l with
  | nil => simp [rows]
  | cons x l ih => simp only [rows, List.length_append, List.length_cons, ih, hf]; rw [Nat.add_mul]; omega
theorem rows_take (hf : ∀ x, (f x).length = n) (l : List α) {i : Nat} (hi : i ≤ l.length) : (rows f l).take (i * n) = rows f (l.take i) := by
  have h : rows f l = rows f (l.take i) ++ rows f (l.drop i) := by rw [← rows_append, List.take_append_drop]
  rw [h]
  apply List.take_left'
  rw [rows_len hf, List.length_take, Nat.min_eq_left hi]
theorem rows_drop (hf : ∀ x, (f x).length = n) (l : List α) {i : Nat} (hi : i ≤ l.length) : (rows f l).drop (i * n) = rows f (l.drop i) := by
  have h : rows f l = rows f (l.take i) ++ rows f (l.drop i) := by rw [← rows_append, List.take_append_drop]
  conv => lhs; rw [h]
  apply List.drop_left'
  rw [rows_len hf, List.length_take, Nat.min_eq_left hi]
theorem rows_cells (hc : ∀ x, allCells (f x) = true) (l : List α) : allCells (rows f l) = true := by
  refine allCells_of fun v m => ?_
  induction l with
  | nil => cases m
  | cons x l ih =>
    rcases List.mem_append.1 m with m | m
    · exact allCells_spec (hc x) v m
    · exact ih m
theorem rows_split {l : List α} {i : Nat} {x : α} (h : l[i]? = some x) : rows f l = rows f (l.take i) ++ f x ++ rows f (l.drop (i + 1)) := by
  have hi := (List.getElem?_eq_some_iff.1 h).1
  have : l = l.take i ++ x :: l.drop (i + 1) := by
    have h2 := (List.getElem?_eq_some_iff.1 h).2
    rw [← h2, ← List.drop_eq_getElem_cons hi, List.take_append_drop]
  conv => lhs; rw [this]
  rw [rows_append, List.append_assoc]; rfl
theorem rows_at (hf : ∀ x, (f x).length = n) {l : List α} {i : Nat} {x : α} (h : l[i]? = some x) (rest : List Value) : RowAt (rows f l ++ rest) (i * n) (f x) := by
  have hi := (List.getElem?_eq_some_iff.1 h).1
  rw [rows_split h, List.append_assoc]
  refine RowAt.split ?_
  rw [rows_len hf, List.length_take, Nat.min_eq_left (Nat.le_of_lt hi)]
theorem rows_set (hf : ∀ x, (f x).length = n) {l : List α} {i k : Nat} {x y : α} {v : Value} (h : l[i]? = some x) (hk : k < n) (hy : f y = (f x).set k v) (rest : List Value) : (rows f l ++ rest).set (i * n + k) v = rows f (l.set i y) ++ rest := by
  have hi := (List.getElem?_eq_some_iff.1 h).1
  have hlen : (rows f (l.take i)).length = i * n := by rw [rows_len hf, List.length_take, Nat.min_eq_left (Nat.le_of_lt hi)]
  have h2 : (l.set i y)[i]? = some y := List.getElem?_set_self hi
  rw [rows_split h, rows_split h2, List.take_set_of_le (Nat.le_refl i), List.drop_set_of_lt (Nat.lt_succ_self i), hy]
  rw [List.append_assoc, List.append_assoc, List.set_append_right _ _ (by omega), hlen, Nat.add_sub_cancel_left, List.set_append_left _ _ (by rw [hf]; exact hk)]
  simp only [List.append_assoc]
end
theorem OwnS.form {e : TypeId} {n : Nat} {v : Value} {k : Nat} {cl : List Value} {A : Heap} (h : OwnS e n v k cl A) : ∃ a cap, v = .slice a k cap ∧ k ≤ cap := by
  rcases h with ⟨rfl, rfl, _, _⟩ | ⟨b, rest, cap, rfl, _, _, _, h⟩
  · exact ⟨_, _, rfl, Nat.le_refl _⟩
  · exact ⟨_, _, rfl, h⟩
theorem OwnS.snoc {α : Type} {f : α → List Value} {e : TypeId} {n : Nat} {v : Value} {k : Nat} {l : List α} {x : α} {A : Heap} (h : OwnS e n v (k + 1) (rows f l ++ f x) A) (hk : l.length = k) : OwnS e n v (l ++ [x]).length (rows f (l ++ [x])) A := by
  subst hk
  rw [rows_append, List.length_append]
  show OwnS e n v (l.length + 1) (rows f l ++ (f x ++ [])) A
  rw [List.append_nil]; exact h
theorem OwnS.at {e : TypeId} {n : Nat} {v : Value} {k : Nat} {cl : List Value} {A : Heap} (h : OwnS e n v k cl A) : ∃ a cap, v = .slice a k cap ∧ OwnS e n (.slice a k cap) k cl A := by
  obtain ⟨a, cap, rfl, _⟩ := h.form
  exact ⟨a, cap, rfl, h⟩
theorem OwnS.pos {e : TypeId} {n : Nat} {v : Value} {k : Nat} {cl : List Value} {A : Heap} (h : OwnS e n v k cl A) (hk : 0 < k) : ∃ b rest cap, v = .slice (some ⟨b, 0, none⟩) k cap ∧ A = [blk b (cl ++ rest) e] ∧ cl.length = k * n ∧ k * n + rest.length = cap * n ∧ k ≤ cap := by
  rcases h with ⟨rfl, rfl, _, _⟩ | h
  · omega
  · exact h
theorem OwnS.len {e : TypeId} {n : Nat} {v : Value} {k : Nat} {cl : List Value} {A : Heap} (h : OwnS e n v k cl A) : cl.length = k * n := by
  rcases h with ⟨rfl, rfl, rfl, _⟩ | ⟨b, rest, cap, rfl, _, h, _, _⟩
  · simp
  · exact h
theorem OwnS.src {e : TypeId} {n k cap : Nat} {a : Option Addr} {cl : List Value} {A H : Heap} (h : OwnS e n (.slice a k cap) k cl A) (hA : ∀ x ∈ A, x ∈ H) : SrcIs H a k n cl := by
  refine ⟨h.len, ?_⟩
  rcases h with ⟨h1, rfl, rfl, _⟩ | ⟨b, rest, cap', h1, rfl, h2, h3, h4⟩
  · exact .inl rfl
  · cases h1
    refine .inr ⟨b, 0, cl ++ rest, e, (0, 0), rfl, hA _ (by simp), ?_, ?_⟩
    · rw [List.length_append, h2]; omega
    · rw [List.drop_zero, ← h2, List.take_left]
theorem SrcIs.mono {H H' : Heap} {a : Option Addr} {m n : Nat} {sl : List Value} (h : SrcIs H a m n sl) (hH : ∀ x ∈ H, x ∈ H') : SrcIs H' a m n sl := by
  refine ⟨h.1, ?_⟩
  rcases h.2 with h0 | ⟨b, off, c, e, fz, h1, h2, h3, h4⟩
  · exact .inl h0
  · exact .inr ⟨b, off, c, e, fz, h1, hH _ h2, h3, h4⟩
theorem SrcIs.up {H A : Heap} {a : Option Addr} {m n : Nat} {sl : List Value} (h : SrcIs H a m n sl) : SrcIs (A ++ H) a m n sl := h.mono fun x m => List.mem_append_right _ m
theorem SrcIs.pos {H : Heap} {a : Option Addr} {m n : Nat} {sl : List Value} (h : SrcIs H a m n sl) (hm : 0 < m) : ∃ b off c e fz, a = some ⟨b, off, Option.none⟩ ∧ (b, Obj.cells ⟨c⟩ e fz) ∈ H ∧ off + m * n ≤ c.length ∧ (c.drop off).take (m * n) = sl := by
  rcases h.2 with h0 | h
  · omega
  · exact h
/-- One row of what is read. -/
theorem SrcIs.row {α : Type} {f : α → List Value} {n : Nat} (hf : ∀ x, (f x).length = n) {H : Heap} {b off : Nat} {m : Nat} {l : List α} (h : SrcIs H (some ⟨b, off, Option.none⟩) m n (rows f l)) (hl : l.length = m) {i : Nat} {x : α} (hi : l[i]? = some x) : AggF H b (off + i * n) (f x) := by
  have hlt := (List.getElem?_eq_some_iff.1 hi).1
  rcases h.2 with h0 | ⟨b', off', c, e, fz, h1, h2, h3, h4⟩
  · omega
  · cases h1
    have hr := rows_at hf hi []
    rw [List.append_nil, ← h4] at hr
    refine ⟨c, e, fz, h2, ?_, ?_⟩
    · rw [hf]
      have : (i + 1) * n ≤ m * n := Nat.mul_le_mul_right _ (by omega)
      rw [Nat.add_mul] at this; omega
    · obtain ⟨h5, h6⟩ := hr
      rw [List.drop_take, List.take_take, List.drop_drop] at h6
      rw [Nat.min_eq_left] at h6
      · exact h6
      · rw [List.length_take] at h5
        have := Nat.min_le_left (m * n) (c.drop off).length
        omega
theorem cutA_ne {b off cap l n : Nat} (h : cap ≠ l) : cutA (some ⟨b, off, none⟩) cap l n = some ⟨b, off + l * n, none⟩ := by
  unfold cutA
  rw [if_neg h]
  show some (Addr.add ⟨b, off, none⟩ (l * n)) = _
  unfold Addr.add
  split
  · rename_i h0; rw [h0]; rfl
  · rfl
theorem allCells_drop {l : List Value} (h : allCells l = true) (k : Nat) : allCells (l.drop k) = true := allCells_of fun v m => allCells_spec h v (List.mem_of_mem_drop m)
end Go.SL
