/- The separation layer, closing: from what is told of a law's call to the given row; opening arguments that are numbers, structs of numbers, slices of these. It proves no statement by itself. -/
import Derived.Test.YtmelpobcpcmdoaaGreatSLMem
import Derived.Deep.Slices
import Derived.Deep.Fields
import Derived.ProofKit
import Derived.OpenShut
import Derived.ChangeOld
import Derived.Below
import Derived.Carry
import Derived.SizedLaws
set_option autoImplicit false
namespace Go.SL
open Go.ChangeShapes Go.WideShapes Go.RowKit Go.Deep

def InI (z : Int) : Prop := -9223372036854775808 ≤ z ∧ z ≤ 9223372036854775807
theorem InI.of_wf {z : Int} (h : (Lit.int .i64 z).wf = true) : InI z := by
  simp only [Lit.wf, Bool.and_eq_true, decide_eq_true_eq] at h
  exact h

/-- A type of n numbers: an int, or a struct of ints. -/
def flatB (P : Program) (t n : Nat) : Bool :=
  match P.underlying t with
  | some (.int .i64) => Nat.beq n 1 && Nat.beq (P.cellsOf t) 1
  | some (.struct fs) => Nat.beq fs.size n && Nat.beq (P.cellsOf t) n && (List.range n).all (fun i => match fs[i]? with
    | some f => Nat.beq f.offset i && Nat.beq (P.cellsOf f.type) 1 && (match P.underlying f.type with | some (.int .i64) => true | _ => false)
    | none => false)
  | _ => false

def ints (zs : List Int) : List Value := zs.map (Value.int .i64)
theorem ints_len (zs : List Int) : (ints zs).length = zs.length := by simp [ints]

section
variable {H : Type} {enc : TypeId × Value → H} {P : Program} {w : World} {base : Nat} {spare : Nat → Bool} {held : Bool}

theorem flatB_cells {t n : Nat} (h : flatB P t n = true) : P.cellsOf t = n := by
  unfold flatB at h
  split at h
  · simp only [Bool.and_eq_true] at h
    have h1 := Nat.eq_of_beq_eq_true h.1
    have h2 := Nat.eq_of_beq_eq_true h.2
    omega
  · simp only [Bool.and_eq_true] at h
    exact Nat.eq_of_beq_eq_true h.1.2
  · cases h

theorem trod_flat {t n fuel : Nat} {cs : List Value} {x : DataW H × List MemPlace} (hf : flatB P t n = true) (h : DataW.trod enc P w base spare held fuel t cs = some x) :
    ∃ zs : List Int, zs.length = n ∧ cs = ints zs ∧ ∀ z ∈ zs, InI z := by
  unfold flatB at hf
  split at hf
  · rename_i hu
    simp only [Bool.and_eq_true] at hf
    have h1 := Nat.eq_of_beq_eq_true hf.1
    obtain ⟨z, rfl, _, hw⟩ := DataW.trod_int hu h
    exact ⟨[z], by simp [h1], rfl, fun y m => by simp only [List.mem_singleton] at m; subst m; exact .of_wf hw⟩
  · rename_i fs hu
    simp only [Bool.and_eq_true] at hf
    have hn := Nat.eq_of_beq_eq_true hf.1.1
    have hc := Nat.eq_of_beq_eq_true hf.1.2
    obtain ⟨ys, n', _, _, hlen, _, hg⟩ := DataW.trod_struct hu h
    have hlen : cs.length = n := by omega
    have key : ∀ i, i < n → ∃ z, cs[i]? = some (.int .i64 z) ∧ InI z := by
      intro i hi
      have := List.all_eq_true.1 hf.2 i (List.mem_range.2 hi)
      split at this
      · rename_i f hfi
        simp only [Bool.and_eq_true] at this
        have ho := Nat.eq_of_beq_eq_true this.1.1
        have hk := Nat.eq_of_beq_eq_true this.1.2
        have h3 := this.2
        split at h3
        · rename_i hfu
          have h4 := hg i f hfi
          rw [ho, hk] at h4
          cases hy : ys[i]? with
          | none => rw [hy] at h4; have := (List.getElem?_eq_none_iff.1 hy); have hl2 : i < fs.size := by omega
                    simp_all
          | some y =>
            rw [hy] at h4
            obtain ⟨z, hz, _, hw⟩ := DataW.trod_int hfu h4
            refine ⟨z, ?_, .of_wf hw⟩
            have : ((cs.drop i).take 1)[0]? = some (Value.int .i64 z) := by rw [hz]; rfl
            rw [List.getElem?_take_of_lt (by omega), List.getElem?_drop] at this
            simpa using this
        · cases h3
      · cases this
    refine ⟨cs.map fun v => match v with | .int _ z => z | _ => 0, by simp [hlen], ?_, ?_⟩
    · apply List.ext_getElem?
      intro i
      by_cases hi : i < n
      · obtain ⟨z, hz, _⟩ := key i hi
        simp [ints, hz]
      · rw [List.getElem?_eq_none (by omega), List.getElem?_eq_none (by simp [ints]; omega)]
    · intro z m
      obtain ⟨v, hv, rfl⟩ := List.mem_map.1 m
      obtain ⟨i, hi, hv⟩ := List.getElem_of_mem hv
      obtain ⟨z, hz, hw⟩ := key i (by omega)
      rw [List.getElem?_eq_getElem hi, hv] at hz
      simp only [Option.some.injEq] at hz
      subst hz; exact hw
  · cases hf

/-- A struct of numbers, by value. -/
theorem open_flat {r : Reach} {b0 t n : Nat} {fs : Array Field} {v : Value} {d : DataW H} {p : List MemPlace} (hu : P.underlying t = some (.struct fs)) (hf : flatB P t n = true) (hv : Value.okWide P w r b0 t v) (h : DataW.Trod enc P w base spare held t v d p) :
    ∃ zs : List Int, zs.length = n ∧ v = .agg ⟨ints zs⟩ ∧ ∀ z ∈ zs, InI z := by
  obtain ⟨cs, rfl, _⟩ := okWide_struct hu hv
  obtain ⟨fuel, hh⟩ := h
  obtain ⟨zs, h1, h2, h3⟩ := trod_flat hf hh
  obtain ⟨l⟩ := cs
  exact ⟨zs, h1, by rw [← h2]; rfl, h3⟩

/-- The rows of a slice of numbers, or of structs of numbers, as they lie in memory. -/
def RowsAt (w : World) (a : Option Addr) (len n : Nat) (rows : List (List Int)) : Prop :=
  rows.length = len ∧ (∀ r ∈ rows, r.length = n ∧ ∀ z ∈ r, InI z) ∧
    (len = 0 ∨ ∃ b off c e fz, a = some ⟨b, off, none⟩ ∧ w.heap[b]? = some (Obj.cells ⟨c⟩ e fz) ∧ ∀ (i : Nat) (r : List Int), rows[i]? = some r → off + i * n + n ≤ c.length ∧ (c.drop (off + i * n)).take n = ints r)

theorem open_rowsG {t e n : Nat} {a : Option Addr} {len cap : Nat} {d : DataW H} {p : List MemPlace} (ht : P.underlying t = some (.slice e)) (hC : P.cellsOf e = n)
    (hF : ∀ (fuel : Nat) (cs : List Value) (x : DataW H × List MemPlace), DataW.trod enc P w base spare held fuel e cs = some x → ∃ zs : List Int, zs.length = n ∧ cs = ints zs ∧ ∀ z ∈ zs, InI z) (hn : 0 < n) (h : DataW.Trod enc P w base spare held t (.slice a len cap) d p) :
    ∃ rows, RowsAt w a len n rows ∧ len ≤ cap ∧ cap ≤ 9223372036854775807 := by
  obtain ⟨fuel, hh⟩ := h
  rcases open_slice ht hh with ⟨hcs, _⟩ | ⟨x, l, c, m, n', D, Pl, hcs, hb, hl, hm, hmm, _, hi⟩
  · simp [Value.cells] at hcs
    obtain ⟨rfl, rfl, rfl⟩ := hcs
    exact ⟨[], ⟨rfl, fun _ m => (by cases m), .inl rfl⟩, Nat.le_refl _, by omega⟩
  · simp [Value.cells] at hcs
    obtain ⟨rfl, rfl, rfl⟩ := hcs
    rw [hC] at hi
    have hlm : len ≤ m := by rw [hmm]; split <;> omega
    -- one row
    have row : ∀ i, i < len → ∃ r : List Int, r.length = n ∧ (∀ z ∈ r, InI z) ∧ ∀ j, j < n → w.cell? (x.add (i * n + j)) = (ints r)[j]? := by
      intro i hil
      obtain ⟨cs', hc, ht'⟩ := hi i (by omega)
      obtain ⟨zs, h1, rfl, h3⟩ := hF _ _ _ ht'
      obtain ⟨_, hcl, hat⟩ := World.cells?_some hc
      refine ⟨zs, h1, h3, fun j hj => ?_⟩
      rw [← hat j hj, ← Go.Deep.add_add]
    have rowsEx : ∀ k, k ≤ len → ∃ rows : List (List Int), rows.length = k ∧ (∀ r ∈ rows, r.length = n ∧ ∀ z ∈ r, InI z) ∧ ∀ i r, rows[i]? = some r → ∀ j, j < n → w.cell? (x.add (i * n + j)) = (ints r)[j]? := by
      intro k
      induction k with
      | zero => intro _; exact ⟨[], rfl, fun _ m => (by cases m), fun i r h => (by simp at h)⟩
      | succ k ih =>
        intro hk
        obtain ⟨rows, h1, h2, h3⟩ := ih (by omega)
        obtain ⟨r, r1, r2, r3⟩ := row k (by omega)
        refine ⟨rows ++ [r], by simp [h1], ?_, ?_⟩
        · intro r' m
          rcases List.mem_append.1 m with m | m
          · exact h2 r' m
          · simp only [List.mem_singleton] at m; subst m; exact ⟨r1, r2⟩
        · intro i r' hir
          by_cases hik : i < k
          · rw [List.getElem?_append_left (by omega)] at hir
            exact h3 i r' hir
          · rw [List.getElem?_append_right (by omega)] at hir
            have : i = k := by
              have := (List.getElem?_eq_some_iff.1 hir).1
              simp at this; omega
            subst this
            rw [h1, Nat.sub_self] at hir
            simp only [List.getElem?_cons_zero, Option.some.injEq] at hir
            subst hir; exact r3
    obtain ⟨rows, h1, h2, h3⟩ := rowsEx len (Nat.le_refl _)
    refine ⟨rows, ⟨h1, h2, ?_⟩, hl, by unfold maxLen at hm; omega⟩
    by_cases h0 : len = 0
    · exact .inl h0
    · refine .inr ?_
      -- the block: by its first cell
      have hfirst : ∃ r, rows[0]? = some r := ⟨rows[0]'(by omega), List.getElem?_eq_getElem (by omega)⟩
      obtain ⟨r0, hr0⟩ := hfirst
      have hc0 := h3 0 r0 hr0 0 hn
      have hr0n := (h2 r0 (List.mem_of_getElem? hr0)).1
      have hz0 : ∃ v, (ints r0)[0]? = some v := ⟨(ints r0)[0]'(by rw [ints_len]; omega), List.getElem?_eq_getElem (by rw [ints_len]; omega)⟩
      obtain ⟨v0, hv0⟩ := hz0
      rw [hv0] at hc0
      have hx0 : x.add (0 * n + 0) = x := by simp [Addr.add]
      rw [hx0] at hc0
      obtain ⟨b, off, spot⟩ := x
      unfold World.cell? at hc0
      cases hb' : w.heap[b]? with
      | none => rw [show (⟨b, off, spot⟩ : Addr).block = b from rfl, hb'] at hc0; cases hc0
      | some ob =>
        cases ob <;> rw [show (⟨b, off, spot⟩ : Addr).block = b from rfl, hb'] at hc0 <;> simp only [reduceCtorEq] at hc0
        rename_i c ety fz
        cases spot with
        | some s => simp at hc0
        | none =>
          obtain ⟨c⟩ := c
          refine ⟨b, off, c, ety, fz, rfl, hb', fun i r hir => ?_⟩
          have hrl := (h2 r (List.mem_of_getElem? hir)).1
          have hcell : ∀ j, j < n → c[off + (i * n + j)]? = (ints r)[j]? := by
            intro j hj
            have := h3 i r hir j hj
            have ea : Addr.add ⟨b, off, none⟩ (i * n + j) = ⟨b, off + (i * n + j), none⟩ := by
              unfold Addr.add; split
              · rename_i h0; rw [h0]; rfl
              · rfl
            rw [ea] at this
            unfold World.cell? at this
            simp only [hb'] at this
            simpa using this
          have hlast := hcell (n - 1) (by omega)
          have hv1 : (ints r)[n - 1]? = some ((ints r)[n - 1]'(by rw [ints_len]; omega)) := List.getElem?_eq_getElem (by rw [ints_len]; omega)
          rw [hv1] at hlast
          have hlt := (List.getElem?_eq_some_iff.1 hlast).1
          refine ⟨by omega, ?_⟩
          apply List.ext_getElem?
          intro j
          by_cases hj : j < n
          · rw [List.getElem?_take_of_lt hj, List.getElem?_drop, ← hcell j hj]
            congr 1; omega
          · rw [List.getElem?_eq_none (by simp; omega), List.getElem?_eq_none (by rw [ints_len]; omega)]
theorem open_rows {t e n : Nat} {a : Option Addr} {len cap : Nat} {d : DataW H} {p : List MemPlace} (ht : P.underlying t = some (.slice e)) (hf : flatB P e n = true) (hn : 0 < n) (h : DataW.Trod enc P w base spare held t (.slice a len cap) d p) :
    ∃ rows, RowsAt w a len n rows ∧ len ≤ cap ∧ cap ≤ 9223372036854775807 := open_rowsG ht (flatB_cells hf) (fun _ _ _ hx => trod_flat hf hx) hn h
/-- Numbers alone, in structs of structs. -/
def flatN (P : Program) : Nat → Nat → Nat → Bool
  | 0, _, _ => false
  | k + 1, t, n => match P.underlying t with
    | some (.int .i64) => Nat.beq n 1 && Nat.beq (P.cellsOf t) 1
    | some (.struct fs) => Nat.beq (P.cellsOf t) n && (List.range n).all (fun i => (List.range fs.size).any fun j => match fs[j]? with
      | some f => Nat.ble f.offset i && Nat.blt i (f.offset + P.cellsOf f.type) && flatN P k f.type (P.cellsOf f.type)
      | none => false)
    | _ => false
theorem flatN_cells : ∀ {k t n : Nat}, flatN P k t n = true → P.cellsOf t = n
  | k + 1, t, n, h => by
    unfold flatN at h
    split at h
    · simp only [Bool.and_eq_true] at h
      have h1 := Nat.eq_of_beq_eq_true h.1
      have h2 := Nat.eq_of_beq_eq_true h.2
      omega
    · simp only [Bool.and_eq_true] at h
      exact Nat.eq_of_beq_eq_true h.1
    · cases h
theorem trod_flatN : ∀ {k t n fuel : Nat} {cs : List Value} {x : DataW H × List MemPlace}, flatN P k t n = true → DataW.trod enc P w base spare held fuel t cs = some x → ∃ zs : List Int, zs.length = n ∧ cs = ints zs ∧ ∀ z ∈ zs, InI z
  | k + 1, t, n, fuel, cs, x, hf, h => by
    unfold flatN at hf
    split at hf
    · rename_i hu
      simp only [Bool.and_eq_true] at hf
      have h1 := Nat.eq_of_beq_eq_true hf.1
      obtain ⟨z, rfl, _, hw⟩ := DataW.trod_int hu h
      exact ⟨[z], by simp [h1], rfl, fun y m => by simp only [List.mem_singleton] at m; subst m; exact .of_wf hw⟩
    · rename_i fs hu
      simp only [Bool.and_eq_true] at hf
      have hc := Nat.eq_of_beq_eq_true hf.1
      obtain ⟨ys, n', _, hys, hlen, _, hg⟩ := DataW.trod_struct hu h
      have hlen : cs.length = n := by omega
      have key : ∀ i, i < n → ∃ z, cs[i]? = some (.int .i64 z) ∧ InI z := by
        intro i hi
        have h2 := List.all_eq_true.1 hf.2 i (List.mem_range.2 hi)
        obtain ⟨j, hj, h3⟩ := List.any_eq_true.1 h2
        have hj := List.mem_range.1 hj
        split at h3
        · rename_i f hfj
          simp only [Bool.and_eq_true] at h3
          have ho := Nat.le_of_ble_eq_true h3.1.1
          have hk := h3.1.2
          rw [Nat.blt_eq] at hk
          have h4 := hg j f hfj
          cases hy : ys[j]? with
          | none => rw [hy] at h4; have := (List.getElem?_eq_none_iff.1 hy); have hl2 : j < fs.size := hj
                    simp_all
          | some y =>
            rw [hy] at h4
            obtain ⟨zs, e1, e2, e3⟩ := trod_flatN h3.2 h4
            have e4 : ((cs.drop f.offset).take (P.cellsOf f.type))[i - f.offset]? = (ints zs)[i - f.offset]? := by rw [e2]
            rw [List.getElem?_take_of_lt (by omega), List.getElem?_drop, show f.offset + (i - f.offset) = i by omega] at e4
            have hz : i - f.offset < zs.length := by omega
            refine ⟨zs[i - f.offset], ?_, e3 _ (List.getElem_mem hz)⟩
            rw [e4]
            simp [ints, hz]
        · cases h3
      refine ⟨cs.map fun v => match v with | .int _ z => z | _ => 0, by simp [hlen], ?_, ?_⟩
      · apply List.ext_getElem?
        intro i
        by_cases hi : i < n
        · obtain ⟨z, hz, _⟩ := key i hi
          simp [ints, hz]
        · rw [List.getElem?_eq_none (by omega), List.getElem?_eq_none (by simp [ints]; omega)]
      · intro z m
        obtain ⟨v, hv, rfl⟩ := List.mem_map.1 m
        obtain ⟨i, hi, hv⟩ := List.getElem_of_mem hv
        obtain ⟨z, hz, hw⟩ := key i (by omega)
        rw [List.getElem?_eq_getElem hi, hv] at hz
        simp only [Option.some.injEq] at hz
        subst hz; exact hw
    · cases hf
theorem open_rowsN {t e n : Nat} (k : Nat) {a : Option Addr} {len cap : Nat} {d : DataW H} {p : List MemPlace} (ht : P.underlying t = some (.slice e)) (hf : flatN P k e n = true) (hn : 0 < n) (h : DataW.Trod enc P w base spare held t (.slice a len cap) d p) :
    ∃ rows, RowsAt w a len n rows ∧ len ≤ cap ∧ cap ≤ 9223372036854775807 := open_rowsG ht (flatN_cells hf) (fun _ _ _ hx => trod_flatN hf hx) hn h
end

/-- All that the outermost call found. -/
def allF (W : World) : Heap := W.heap.toList.zipIdx.map fun p => (p.2, p.1)

theorem allF_mem {W : World} {b : Nat} {o : Obj} (h : W.heap[b]? = some o) : (b, o) ∈ allF W := by
  unfold allF
  refine List.mem_map.2 ⟨(o, b), ?_, rfl⟩
  rw [List.mem_zipIdx_iff_getElem?]
  simpa using h

theorem allF_sat (W : World) : @Sat ⟨W⟩ W (allF W) := by
  letI : Base := ⟨W⟩
  show Sat W (allF W)
  refine ⟨⟨rfl, rfl, rfl, Nat.le_refl _⟩, ?_, ?_⟩
  · have e : (allF W).map Prod.fst = List.range' 0 W.heap.toList.length := by
      unfold allF
      rw [List.map_map]
      have : (Prod.fst ∘ fun (p : Obj × Nat) => (p.2, p.1)) = Prod.snd := by funext p; rfl
      rw [this, List.zipIdx_map_snd]
    rw [e]; exact List.nodup_range'
  · intro p m
    obtain ⟨q, hq, rfl⟩ := List.mem_map.1 m
    rw [List.mem_zipIdx_iff_getElem?] at hq
    simpa using hq

/-- From what is told of the call to what the row asks. -/
theorem calls_of_sp {P : Program} {f : FuncId} {args : List Value} (W : World) {r : Value}
    (s : ∀ [Base], ∀ F : Heap, (∀ b o, W.heap[b]? = some o → (b, o) ∈ F) → Sp P F f args [] (fun v _ => v = r)) :
    Calls P f args.toArray W fun e W' => e = .returned r ∧ Below W.heap.size W W' := by
  letI : Base := ⟨W⟩
  have := (s (allF W) (fun b o h => allF_mem h)).go W (by simpa using allF_sat W)
  refine this.mono ?_
  rintro e W' ⟨v, h', rfl, rfl, hs⟩
  refine ⟨rfl, hs.kept.os, hs.kept.tape, hs.kept.output, hs.kept.size, fun k hk => ?_⟩
  have h1 : W.heap[k]? = some (W.heap[k]'hk) := Array.getElem?_eq_getElem hk
  rw [h1]
  exact hs.all _ (List.mem_append_right _ (allF_mem h1))

/-- The same rows, told of a frame. -/
def RowsF (F : Heap) (a : Option Addr) (len n : Nat) (rows : List (List Int)) : Prop :=
  rows.length = len ∧ (∀ r ∈ rows, r.length = n ∧ ∀ z ∈ r, InI z) ∧
    (len = 0 ∨ ∃ b off c e fz, a = some ⟨b, off, none⟩ ∧ (b, Obj.cells ⟨c⟩ e fz) ∈ F ∧ ∀ (i : Nat) (r : List Int), rows[i]? = some r → off + i * n + n ≤ c.length ∧ (c.drop (off + i * n)).take n = ints r)
theorem RowsAt.rowsF {W : World} {F : Heap} {a : Option Addr} {len n : Nat} {rows : List (List Int)} (hF : ∀ b o, W.heap[b]? = some o → (b, o) ∈ F) (h : RowsAt W a len n rows) : RowsF F a len n rows := by
  obtain ⟨h1, h2, h3⟩ := h
  refine ⟨h1, h2, ?_⟩
  rcases h3 with h3 | ⟨b, off, c, e, fz, ha, hb, hc⟩
  · exact .inl h3
  · exact .inr ⟨b, off, c, e, fz, ha, hF _ _ hb, hc⟩
theorem RowsF.mono {F F' : Heap} {a : Option Addr} {len n : Nat} {rows : List (List Int)} (h : RowsF F a len n rows) (hF : ∀ x ∈ F, x ∈ F') : RowsF F' a len n rows := by
  obtain ⟨h1, h2, h3⟩ := h
  refine ⟨h1, h2, ?_⟩
  rcases h3 with h3 | ⟨b, off, c, e, fz, ha, hb, hc⟩
  · exact .inl h3
  · exact .inr ⟨b, off, c, e, fz, ha, hF _ hb, hc⟩

/-- A slice of numbers, told of a frame. -/
def IntsF (F : Heap) (a : Option Addr) (len : Nat) (zs : List Int) : Prop :=
  zs.length = len ∧ (∀ z ∈ zs, InI z) ∧
    (len = 0 ∨ ∃ b off c e fz, a = some ⟨b, off, none⟩ ∧ (b, Obj.cells ⟨c⟩ e fz) ∈ F ∧ ∀ (i : Nat) (z : Int), zs[i]? = some z → c[off + i]? = some (.int .i64 z))
theorem IntsF.mono {F F' : Heap} {a : Option Addr} {len : Nat} {zs : List Int} (h : IntsF F a len zs) (hF : ∀ x ∈ F, x ∈ F') : IntsF F' a len zs := by
  obtain ⟨h1, h2, h3⟩ := h
  refine ⟨h1, h2, ?_⟩
  rcases h3 with h3 | ⟨b, off, c, e, fz, ha, hb, hc⟩
  · exact .inl h3
  · exact .inr ⟨b, off, c, e, fz, ha, hF _ hb, hc⟩
theorem RowsF.toInts {F : Heap} {a : Option Addr} {len : Nat} {rows : List (List Int)} (h : RowsF F a len 1 rows) : ∃ zs, IntsF F a len zs := by
  obtain ⟨h1, h2, h3⟩ := h
  have hr : ∀ (i : Nat) (r : List Int), rows[i]? = some r → r = [r.headD 0] := by
    intro i r hir
    have := (h2 r (List.mem_of_getElem? hir)).1
    match r, this with
    | [z], _ => rfl
  refine ⟨rows.map (·.headD 0), by simp [h1], ?_, ?_⟩
  · intro z m
    obtain ⟨r, hm, rfl⟩ := List.mem_map.1 m
    have := h2 r hm
    match r, this with
    | [z], this => exact this.2 z (by simp)
  · rcases h3 with h3 | ⟨b, off, c, e, fz, ha, hb, hc⟩
    · exact .inl h3
    · refine .inr ⟨b, off, c, e, fz, ha, hb, fun i z hz => ?_⟩
      rw [List.getElem?_map] at hz
      cases hir : rows[i]? with
      | none => rw [hir] at hz; cases hz
      | some r =>
        rw [hir] at hz
        simp only [Option.map_some, Option.some.injEq] at hz
        have h5 := hc i r hir
        have h6 := hr i r hir
        rw [Nat.mul_one] at h5
        have h7 : ((c.drop (off + i)).take 1)[0]? = (ints r)[0]? := by rw [h5.2]
        rw [h6, hz] at h7
        rw [List.getElem?_take_of_lt (by omega), List.getElem?_drop] at h7
        simpa [ints] using h7
theorem memR {h F : Heap} {x : Nat × Obj} (m : x ∈ F) : x ∈ h ++ F := List.mem_append_right _ m
end Go.SL
