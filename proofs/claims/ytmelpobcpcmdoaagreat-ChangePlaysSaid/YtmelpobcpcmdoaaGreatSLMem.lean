/- The separation layer, memory: loads, stores, addresses, new blocks. It proves no statement by itself. -/
import Derived.Test.YtmelpobcpcmdoaaGreatSLOps
set_option autoImplicit false
namespace Go.SL
variable [Base]

/-! ### What the table of types says -/
def scalarB (P : Program) (t : TypeId) : Bool :=
  match P.underlying t with
  | some (.struct _) | some (.array _ _) => false
  | some _ => true
  | none => false
def aggB (P : Program) (t : TypeId) : Bool :=
  match P.underlying t with
  | some (.struct _) | some (.array _ _) => true
  | _ => false
def sizeT (P : Program) (t : TypeId) : Option Nat := (P.info? t).map (·.size)
def sizeB (P : Program) (t : TypeId) (n : Nat) : Bool := match sizeT P t with | some m => Nat.beq m n | none => false
/-- The place of a field, and its type. -/
def fieldB (P : Program) (s : TypeId) (i off : Nat) (t : TypeId) : Bool :=
  match P.underlying s with
  | some (.struct fs) => match fs[i]? with
    | some f => Nat.beq f.offset off && Nat.beq f.type t && (match sizeT P t with | some m => !(Nat.beq m 0) | none => false)
    | none => false
  | _ => false
def sliceB (P : Program) (t e n : Nat) : Bool :=
  match P.underlying t with
  | some (.slice e') => Nat.beq e e' && sizeB P e n
  | _ => false
def arrayB (P : Program) (t len e n : Nat) : Bool :=
  match P.underlying t with
  | some (.array len' e') => Nat.beq len len' && Nat.beq e e' && sizeB P e n
  | _ => false

section
variable {P : Program}
omit [Base] in
theorem run_underlying {t : TypeId} {d : TypeDesc} (h : P.underlying t = some d) (w : World) : (underlying t).run P w = .ok d w := by
  unfold underlying
  simp [h]
omit [Base] in
theorem run_sizeOf {t : TypeId} {n : Nat} (h : sizeB P t n = true) (w : World) : (sizeOf t).run P w = .ok n w := by
  unfold sizeB sizeT at h
  unfold sizeOf typeInfo
  cases hi : P.info? t with
  | none => rw [hi] at h; cases h
  | some i =>
    rw [hi] at h
    simp only [Option.map_some] at h
    have := Nat.eq_of_beq_eq_true h
    simp [hi, this]
omit [Base] in
theorem run_isAgg_scalar {t : TypeId} (h : scalarB P t = true) (w : World) : (isAgg t).run P w = .ok false w := by
  unfold scalarB at h
  unfold isAgg underlying
  cases hu : P.underlying t with
  | none => rw [hu] at h; cases h
  | some d => rw [hu] at h; cases d <;> simp_all
omit [Base] in
theorem run_isAgg_agg {t : TypeId} (h : aggB P t = true) (w : World) : (isAgg t).run P w = .ok true w := by
  unfold aggB at h
  unfold isAgg underlying
  cases hu : P.underlying t with
  | none => rw [hu] at h; cases h
  | some d => rw [hu] at h; cases d <;> simp_all
omit [Base] in
theorem fieldB_spec {s i off t : Nat} (h : fieldB P s i off t = true) : ∃ fs f, P.underlying s = some (.struct fs) ∧ fs[i]? = some f ∧ f.offset = off ∧ f.type = t ∧ ∃ n, n ≠ 0 ∧ sizeB P t n = true := by
  unfold fieldB at h
  split at h
  · rename_i fs hu
    split at h
    · rename_i f hf
      simp only [Bool.and_eq_true] at h
      refine ⟨fs, f, hu, hf, Nat.eq_of_beq_eq_true h.1.1, Nat.eq_of_beq_eq_true h.1.2, ?_⟩
      have h2 := h.2
      split at h2
      · rename_i m hm
        refine ⟨m, ⟨fun e => (by subst e; cases h2), ?_⟩⟩
        unfold sizeB; rw [hm]; exact Nat.beq_refl m
      · cases h2
    · cases h
  · cases h
omit [Base] in
theorem sliceB_spec {t e n : Nat} (h : sliceB P t e n = true) : P.underlying t = some (.slice e) ∧ sizeB P e n = true := by
  unfold sliceB at h
  split at h
  · rename_i e' hu
    simp only [Bool.and_eq_true] at h
    have := Nat.eq_of_beq_eq_true h.1
    subst this
    exact ⟨hu, h.2⟩
  · cases h
omit [Base] in
theorem arrayB_spec {t len e n : Nat} (h : arrayB P t len e n = true) : P.underlying t = some (.array len e) ∧ sizeB P e n = true := by
  unfold arrayB at h
  split at h
  · rename_i l' e' hu
    simp only [Bool.and_eq_true] at h
    have h1 := Nat.eq_of_beq_eq_true h.1.1
    have h2 := Nat.eq_of_beq_eq_true h.1.2
    subst h1; subst h2
    exact ⟨hu, h.2⟩
  · cases h
end

/-! ### Pieces of literal lists, made whole -/
def takeK : Nat → List Value → (List Value → Option (List Value)) → Option (List Value)
  | 0, _, k => k []
  | _ + 1, [], _ => none
  | n + 1, x :: r, k => takeK n r fun t => k (x :: t)
def subK : Nat → Nat → List Value → Option (List Value)
  | 0, n, l => takeK n l some
  | _ + 1, _, [] => none
  | k + 1, n, _ :: r => subK k n r
def nthK : Nat → List Value → Option Value
  | _, [] => none
  | 0, x :: _ => some x
  | n + 1, _ :: r => nthK n r
def setK : List Value → Nat → Value → (List Value → Option (List Value)) → Option (List Value)
  | [], _, _, _ => none
  | _ :: r, 0, v, k => k (v :: r)
  | x :: r, n + 1, v, k => setK r n v fun t => k (x :: t)
def overK : List Value → Nat → List Value → Option (List Value)
  | c, _, [] => some c
  | c, n, v :: r => match setK c n v some with
    | some c' => overK c' (n + 1) r
    | none => none

omit [Base] in
theorem takeK_spec : ∀ (n : Nat) (l : List Value) (k : List Value → Option (List Value)) (r : List Value), takeK n l k = some r → n ≤ l.length ∧ k (l.take n) = some r
  | 0, l, k, r, h => ⟨Nat.zero_le _, by simpa [takeK] using h⟩
  | n + 1, [], k, r, h => by cases h
  | n + 1, x :: l, k, r, h => by
    have := takeK_spec n l _ r h
    exact ⟨by simp; exact this.1, by simpa using this.2⟩
omit [Base] in
theorem subK_spec : ∀ (off n : Nat) (l r : List Value), subK off n l = some r → off + n ≤ l.length ∧ (l.drop off).take n = r
  | 0, n, l, r, h => by
    have := takeK_spec n l some r h
    exact ⟨by omega, by simpa using this.2⟩
  | k + 1, n, [], r, h => by cases h
  | k + 1, n, x :: l, r, h => by
    have := subK_spec k n l r h
    exact ⟨by simp; omega, by simpa using this.2⟩
omit [Base] in
theorem nthK_spec : ∀ (n : Nat) (l : List Value) (v : Value), nthK n l = some v → l[n]? = some v
  | _, [], v, h => by simp [nthK] at h
  | 0, x :: _, v, h => by simpa [nthK] using h
  | n + 1, x :: r, v, h => by simpa using nthK_spec n r v h
omit [Base] in
theorem setK_spec : ∀ (l : List Value) (n : Nat) (v : Value) (k : List Value → Option (List Value)) (r : List Value), setK l n v k = some r → n < l.length ∧ k (l.set n v) = some r
  | [], n, v, k, r, h => by cases h
  | x :: l, 0, v, k, r, h => ⟨by simp, by simpa [setK] using h⟩
  | x :: l, n + 1, v, k, r, h => by
    have := setK_spec l n v _ r h
    exact ⟨by simp; exact this.1, by simpa using this.2⟩

/-- Cells laid over a list from a place on. -/
def over : List Value → Nat → List Value → List Value
  | c, _, [] => c
  | c, n, v :: r => over (c.set n v) (n + 1) r
omit [Base] in
theorem overK_spec : ∀ (l c : List Value) (n : Nat) (r : List Value), overK c n l = some r → (n + l.length ≤ c.length ∨ l = []) ∧ over c n l = r
  | [], c, n, r, h => ⟨.inr rfl, by simpa [overK, over] using h⟩
  | v :: l, c, n, r, h => by
    unfold overK at h
    split at h
    · rename_i c' hc
      have h1 := setK_spec c n v some c' hc
      have h2 := overK_spec l c' (n + 1) r h
      simp only [Option.some.injEq] at h1
      have hl : c'.length = c.length := by rw [← h1.2]; simp
      refine ⟨.inl ?_, ?_⟩
      · rcases h2.1 with h3 | h3
        · simp; omega
        · subst h3; simp; omega
      · rw [over, h1.2]; exact h2.2
    · cases h

def isCell : Value → Bool
  | .agg _ | .tuple _ => false
  | _ => true
def allCells : List Value → Bool
  | [] => true
  | v :: r => isCell v && allCells r
omit [Base] in
theorem isCell_eq (v : Value) : isCell v = v.oneCell' := by cases v <;> rfl
omit [Base] in
theorem allCells_spec {l : List Value} (h : allCells l = true) : ∀ v ∈ l, v.oneCell' = true := by
  induction l with
  | nil => intro v m; cases m
  | cons x r ih =>
    simp only [allCells, Bool.and_eq_true] at h
    intro v m
    rcases List.mem_cons.1 m with rfl | m
    · rw [← isCell_eq]; exact h.1
    · exact ih h.2 v m
omit [Base] in
theorem allCells_of {l : List Value} (h : ∀ v ∈ l, v.oneCell' = true) : allCells l = true := by
  induction l with
  | nil => rfl
  | cons x r ih =>
    simp only [allCells, Bool.and_eq_true]
    exact ⟨by rw [isCell_eq]; exact h x (List.mem_cons_self ..), ih fun v m => h v (List.mem_cons_of_mem _ m)⟩
/-- The cells of a value. -/
def cellsV : Value → List Value
  | .agg ⟨l⟩ => l
  | v => [v]
omit [Base] in
theorem cellsV_eq (v : Value) : v.cells = ⟨cellsV v⟩ := by cases v <;> rfl

/-- A block of cells of the program's own. -/
abbrev blk (b : Nat) (c : List Value) (e : TypeId) : Nat × Obj := (b, Obj.cells ⟨c⟩ e (0, 0))

section
variable {P : Program} {F : Heap} {N : Nat}

theorem Sat.at {w : World} {h : Heap} {b : Nat} {o : Obj} (s : Sat w h) (m : (b, o) ∈ h) : w.heap[b]? = some o := s.all _ m

omit [Base] in
theorem memF {h F : Heap} {x : Nat × Obj} (m : x ∈ h) : x ∈ h ++ F := List.mem_append_left _ m

/-! #### Addresses -/
theorem ev_fieldAddr {fr : Slots} {cs : Conds} {h : Heap} {o : Oper} {s i b off k t : Nat} {x : Operand} (ho : o.op = .fieldAddr s x i) (hx : evO fr x = some (.pointer (some ⟨b, off, none⟩))) (hf : fieldB P s i k t = true) :
    Ev P F N fr cs h o (.pointer (some ⟨b, off + k, none⟩)) := by
  obtain ⟨fs, f, hu, hfi, hoff, hty, n, hn, hsz⟩ := fieldB_spec hf
  refine Ev.of_run fun a hfa w _ => ?_
  subst hoff; subst hty
  have e : Addr.add ⟨b, off, none⟩ f.offset = ⟨b, off + f.offset, none⟩ := by
    unfold Addr.add; split
    · rename_i h0; rw [h0]; rfl
    · rfl
  simp only [execOp, ho, hfa.ev hx, Instr.fieldAt, Instr.sureAddr, fieldPlace, Sem.run_bind, run_underlying hu, Result.andThen_ok, hfi, Sem.run_pure, run_sizeOf hsz, if_neg hn, e]

theorem ev_indexAddr {fr : Slots} {cs : Conds} {h : Heap} {o : Oper} {t b off len cap e n : Nat} {k : IntKind} {i : Int} {x ix : Operand} (ho : o.op = .indexAddr t x ix) (hx : evO fr x = some (.slice (some ⟨b, off, none⟩) len cap)) (hi : evO fr ix = some (.int k i))
    (ht : sliceB P t e n = true) (h0 : 0 ≤ i) (h1 : i < len) : Ev P F N fr cs h o (.pointer (some ⟨b, off + i.toNat * n, none⟩)) := by
  obtain ⟨hu, hsz⟩ := sliceB_spec ht
  refine Ev.of_run fun a hfa w _ => ?_
  have ea : Addr.add ⟨b, off, none⟩ (i.toNat * n) = ⟨b, off + i.toNat * n, none⟩ := by
    unfold Addr.add; split
    · rename_i h0; rw [h0]; rfl
    · rfl
  simp only [execOp, ho, hfa.ev hx, hfa.ev hi, Instr.indexAt, asIntOf, Sem.run_bind, run_underlying hu, Result.andThen_ok, Sem.run_pure, run_sizeOf hsz, h0, h1, and_self, if_true, ea]

theorem ev_indexAddrA {fr : Slots} {cs : Conds} {h : Heap} {o : Oper} {t b off len e n : Nat} {k : IntKind} {i : Int} {x ix : Operand} (ho : o.op = .indexAddr t x ix) (hx : evO fr x = some (.pointer (some ⟨b, off, none⟩))) (hi : evO fr ix = some (.int k i))
    (ht : arrayB P t len e n = true) (h0 : 0 ≤ i) (h1 : i < len) : Ev P F N fr cs h o (.pointer (some ⟨b, off + i.toNat * n, none⟩)) := by
  obtain ⟨hu, hsz⟩ := arrayB_spec ht
  refine Ev.of_run fun a hfa w _ => ?_
  have ea : Addr.add ⟨b, off, none⟩ (i.toNat * n) = ⟨b, off + i.toNat * n, none⟩ := by
    unfold Addr.add; split
    · rename_i h0; rw [h0]; rfl
    · rfl
  simp only [execOp, ho, hfa.ev hx, hfa.ev hi, Instr.indexAt, Instr.sureAddr, asIntOf, Sem.run_bind, run_underlying hu, Result.andThen_ok, Sem.run_pure, run_sizeOf hsz, h0, h1, and_self, if_true, ea]

/-! #### Loads -/
theorem cell_at {w : World} {h : Heap} {b off : Nat} {c : List Value} {e : TypeId} {fz : Nat × Nat} (s : Sat w h) (m : (b, Obj.cells ⟨c⟩ e fz) ∈ h) : w.cell? ⟨b, off, none⟩ = c[off]? := by
  rw [s.cell m]; simp

theorem ev_load {fr : Slots} {cs : Conds} {h : Heap} {o : Oper} {t b off : Nat} {c : List Value} {e : TypeId} {fz : Nat × Nat} {x : Operand} {v : Value} (ho : o.op = .load t x) (hx : evO fr x = some (.pointer (some ⟨b, off, none⟩)))
    (ht : scalarB P t = true) (m : (b, Obj.cells ⟨c⟩ e fz) ∈ h ++ F) (hv : c[off]? = some v) : Ev P F N fr cs h o v := by
  refine Ev.of_run fun a hfa w hs => ?_
  have hc := cell_at (off := off) hs m
  rw [hv] at hc
  simp only [execOp, ho, hfa.ev hx, Instr.loadAt, Instr.sureAddr, loadVar, Sem.run_bind, Sem.run_pure, Result.andThen_ok, run_isAgg_scalar ht, Bool.false_eq_true, if_false, run_load, hc]

theorem ev_loadK {fr : Slots} {cs : Conds} {h : Heap} {o : Oper} {t b off : Nat} {c : List Value} {e : TypeId} {fz : Nat × Nat} {x : Operand} {v : Value} (ho : o.op = .load t x) (hx : evO fr x = some (.pointer (some ⟨b, off, none⟩)))
    (ht : scalarB P t = true) (m : (b, Obj.cells ⟨c⟩ e fz) ∈ h ++ F) (hv : nthK off c = some v) : Ev P F N fr cs h o v :=
  ev_load ho hx ht m (nthK_spec _ _ _ hv)

theorem ev_loadA {fr : Slots} {cs : Conds} {h : Heap} {o : Oper} {t b off n : Nat} {c l : List Value} {e : TypeId} {fz : Nat × Nat} {x : Operand} (ho : o.op = .load t x) (hx : evO fr x = some (.pointer (some ⟨b, off, none⟩)))
    (ht : aggB P t = true) (hsz : sizeB P t n = true) (m : (b, Obj.cells ⟨c⟩ e fz) ∈ h ++ F) (hl : off + n ≤ c.length) (hv : (c.drop off).take n = l) : Ev P F N fr cs h o (.agg ⟨l⟩) := by
  refine Ev.of_run fun a hfa w hs => ?_
  have hlen : l.length = n := by rw [← hv]; simp; omega
  have hr : (loadCells ⟨b, off, none⟩ n).run P w = .ok ⟨l⟩ w := by
    rw [← hlen]
    refine run_loadCells_list (w := w) (P := P) ⟨b, off, none⟩ l fun j v hj => ?_
    have e : Addr.add ⟨b, off, none⟩ j = ⟨b, off + j, none⟩ := by
      unfold Addr.add; split
      · rename_i h0; rw [h0]; rfl
      · rfl
    rw [e, cell_at (off := off + j) hs m, ← hj, ← hv]
    have : j < n := by
      have := (List.getElem?_eq_some_iff.1 hj).1; omega
    rw [List.getElem?_take_of_lt this, List.getElem?_drop]
  simp only [execOp, ho, hfa.ev hx, Instr.loadAt, Instr.sureAddr, loadVar, Sem.run_bind, Sem.run_pure, Result.andThen_ok, run_isAgg_agg ht, if_true, run_sizeOf hsz, hr]

theorem ev_loadAK {fr : Slots} {cs : Conds} {h : Heap} {o : Oper} {t b off n : Nat} {c l : List Value} {e : TypeId} {fz : Nat × Nat} {x : Operand} (ho : o.op = .load t x) (hx : evO fr x = some (.pointer (some ⟨b, off, none⟩)))
    (ht : aggB P t = true) (hsz : sizeB P t n = true) (m : (b, Obj.cells ⟨c⟩ e fz) ∈ h ++ F) (hv : subK off n c = some l) : Ev P F N fr cs h o (.agg ⟨l⟩) :=
  ev_loadA ho hx ht hsz m (subK_spec _ _ _ _ hv).1 (subK_spec _ _ _ _ hv).2

/-! #### Fields and elements of values -/
theorem ev_indexV {fr : Slots} {cs : Conds} {h : Heap} {o : Oper} {t len e n : Nat} {k : IntKind} {i : Int} {l : List Value} {x ix : Operand} {v : Value} (ho : o.op = .index t x ix) (hx : evO fr x = some (.agg ⟨l⟩)) (hi : evO fr ix = some (.int k i))
    (ht : arrayB P t len e n = true) (hsc : scalarB P e = true) (h0 : 0 ≤ i) (h1 : i < len) (hv : l[i.toNat * n]? = some v) : Ev P F N fr cs h o v := by
  obtain ⟨hu, hsz⟩ := arrayB_spec ht
  refine Ev.of_run fun a hfa w _ => ?_
  simp only [execOp, ho, hfa.ev hx, hfa.ev hi, Instr.index, asIntOf, part, Sem.run_bind, run_underlying hu, Result.andThen_ok, Sem.run_pure, run_sizeOf hsz, h0, h1, and_self, if_true, run_isAgg_scalar hsc, Bool.false_eq_true, if_false]
  simp [hv]
/-! #### Lengths -/
theorem ev_len {fr : Slots} {cs : Conds} {h : Heap} {o : Oper} {t e n : Nat} {x : Operand} {a : Option Addr} {len cap : Nat} (ho : o.op = .call ⟨.builtin .len, #[x], #[t]⟩) (hx : evO fr x = some (.slice a len cap)) (ht : sliceB P t e n = true) :
    Ev P F N fr cs h o (.int .i64 len) := by
  obtain ⟨hu, _⟩ := sliceB_spec ht
  refine Ev.of_run fun ac hfa w _ => ?_
  simp only [execOp, ho, resolve, invoke, builtin, Builtin.len_, Sem.run_bind, Sem.run_pure, Result.andThen_ok]
  simp [hfa.ev hx, run_underlying hu, goInt]
theorem ev_min {fr : Slots} {cs : Conds} {h : Heap} {o : Oper} {ts : Array TypeId} {x y : Operand} {a b : Int} (ho : o.op = .call ⟨.builtin .min, #[x, y], ts⟩) (hx : evO fr x = some (.int .i64 a)) (hy : evO fr y = some (.int .i64 b)) :
    Ev P F N fr cs h o (.int .i64 (min a b)) := by
  refine Ev.of_run fun ac hfa w _ => ?_
  have e : (if b < a then b else a) = min a b := by
    by_cases h : b < a
    · rw [if_pos h]; omega
    · rw [if_neg h]; omega
  simp [execOp, ho, resolve, invoke, builtin, Builtin.min_, Builtin.min2, hfa.ev hx, hfa.ev hy, e]
theorem ev_max {fr : Slots} {cs : Conds} {h : Heap} {o : Oper} {ts : Array TypeId} {x y : Operand} {a b : Int} (ho : o.op = .call ⟨.builtin .max, #[x, y], ts⟩) (hx : evO fr x = some (.int .i64 a)) (hy : evO fr y = some (.int .i64 b)) :
    Ev P F N fr cs h o (.int .i64 (max a b)) := by
  refine Ev.of_run fun ac hfa w _ => ?_
  have e : (if a < b then b else a) = max a b := by
    by_cases h : a < b
    · rw [if_pos h]; omega
    · rw [if_neg h]; omega
  simp [execOp, ho, resolve, invoke, builtin, Builtin.max_, Builtin.max2, hfa.ev hx, hfa.ev hy, e]

/-! #### Values of several parts -/
def placesT (P : Program) (t : TypeId) : Option (List (Nat × Nat)) :=
  match P.underlying t with
  | some (.struct fs) => fs.toList.mapM fun f => (sizeT P f.type).map fun n => (f.offset, n)
  | _ => none
def zeroT (P : Program) (t : TypeId) : Option (List Value) := (P.info? t).bind fun i => i.zero.map cellsV

def partsK (fr : Slots) (pl : List (Nat × Nat)) : List Value → List (Nat × Operand) → Option (List Value)
  | c, [] => some c
  | c, (i, x) :: r => match evO fr x with
    | some v => match pl[i]? with
      | some (off, n) => bif Nat.beq (cellsV v).length n then
          match overK c off (cellsV v) with
          | some c' => partsK fr pl c' r
          | none => none
        else none
      | none => none
    | none => none

omit [Base] in
theorem fold_over : ∀ (l : List Value) (c : List Value) (off j : Nat), ((l.zipIdx j).foldl (fun (cs : Array Value) (x : Value × Nat) => cs.setIfInBounds (off + x.2) x.1) (⟨c⟩ : Array Value)) = ⟨over c (off + j) l⟩
  | [], c, off, j => rfl
  | v :: l, c, off, j => by
    rw [List.zipIdx_cons, List.foldl_cons]
    have e : (⟨c⟩ : Array Value).setIfInBounds (off + j) v = ⟨c.set (off + j) v⟩ := by
      apply Array.ext'; simp
    rw [e, fold_over l (c.set (off + j) v) off (j + 1)]
    rfl

omit [Base] in
theorem fill_one {place : Nat → Option (Nat × Nat)} {i off n : Nat} (hp : place i = some (off, n)) {v : Value} {c c' : List Value} (hn : (cellsV v).length = n) (ho : overK c off (cellsV v) = some c') (h0 : n ≠ 0) (rest : List (Nat × Value)) :
    Instr.fill place ⟨c⟩ ((i, v) :: rest) = Instr.fill place ⟨c'⟩ rest := by
  have hs := overK_spec _ _ _ _ ho
  have hle : off + n ≤ c.length := by
    rcases hs.1 with h | h
    · omega
    · rw [h] at hn; simp at hn; omega
  have e1 : ¬ ((⟨cellsV v⟩ : Array Value).size ≠ n ∨ off + (⟨cellsV v⟩ : Array Value).size > (⟨c⟩ : Array Value).size) := by
    simp; omega
  conv => lhs; unfold Instr.fill
  simp only [hp, cellsV_eq]
  rw [if_neg (by simpa using e1)]
  have e2 := fold_over (cellsV v) c off 0
  rw [Nat.add_zero, hs.2] at e2
  have e3 : (⟨cellsV v⟩ : Array Value).zipIdx.foldl (fun (cs : Array Value) (x : Value × Nat) => cs.setIfInBounds (off + x.2) x.1) (⟨c⟩ : Array Value) = ⟨c'⟩ := by
    rw [← e2, ← Array.foldl_toList]; simp
  rw [e3]

omit [Base] in
theorem fill_parts {pl : List (Nat × Nat)} (hpl : ∀ (i off n : Nat), pl[i]? = some (off, n) → n ≠ 0) {fr : Slots} {cs : Conds} {a : Act} (hf : Fits N fr cs a) : ∀ (ps : List (Nat × Operand)) (c c' : List Value), partsK fr pl c ps = some c' →
    Instr.fill (fun i => pl[i]?) ⟨c⟩ (ps.map fun p => (p.1, a.eval p.2)) = some ⟨c'⟩
  | [], c, c', h => by
    simp only [partsK, Option.some.injEq] at h
    subst h; rfl
  | (i, x) :: r, c, c', h => by
    simp only [partsK] at h
    split at h
    · rename_i v hv
      split at h
      · rename_i off n hp
        cases hn : Nat.beq (cellsV v).length n with
        | false => rw [hn] at h; cases h
        | true =>
          rw [hn] at h
          simp only [cond_true] at h
          split at h
          · rename_i c1 hc
            rw [List.map_cons]
            simp only [hf.ev hv]
            rw [fill_one (place := fun i => pl[i]?) hp (Nat.eq_of_beq_eq_true hn) hc (hpl _ _ _ hp)]
            exact fill_parts hpl hf r c1 c' h
          · cases h
      · cases h
    · cases h

/-- The places of a struct's fields, none of them empty. -/
def plK (P : Program) : List Field → Option (List (Nat × Nat))
  | [] => some []
  | f :: r => match sizeT P f.type with
    | some n => match plK P r with
      | some l => some ((f.offset, n) :: l)
      | none => none
    | none => none
def fieldsPl (P : Program) (t : TypeId) : Option (List (Nat × Nat)) :=
  match P.underlying t with
  | some (.struct fs) => plK P fs.toList
  | _ => none
structure PlacesOk (P : Program) (t : TypeId) (pl : List (Nat × Nat)) (z : List Value) : Prop where
  under : fieldsPl P t = some pl
  some_ : pl.all (fun p => !(Nat.beq p.2 0)) = true
  zero : zeroT P t = some z
omit [Base] in
theorem plK_spec {P : Program} : ∀ {fs : List Field} {pl : List (Nat × Nat)}, plK P fs = some pl → fs.map (fun f => (sizeT P f.type).map fun n => (f.offset, n)) = pl.map some
  | [], pl, h => by simp only [plK, Option.some.injEq] at h; subst h; rfl
  | f :: r, pl, h => by
    unfold plK at h
    split at h
    · rename_i n hn
      split at h
      · rename_i l hl
        simp only [Option.some.injEq] at h; subst h
        rw [List.map_cons, List.map_cons, plK_spec hl, hn]; rfl
      · cases h
    · cases h

omit [Base] in
theorem run_zeroValue {t : TypeId} {z : List Value} (h : zeroT P t = some z) (w : World) : ∃ v, cellsV v = z ∧ (zeroValue t).run P w = .ok v w := by
  unfold zeroT at h
  unfold zeroValue typeInfo
  cases hi : P.info? t with
  | none => rw [hi] at h; cases h
  | some i =>
    rw [hi] at h
    cases hz : i.zero with
    | none => simp [hz] at h
    | some v => exact ⟨v, by simpa [hz] using h, by simp [hi, hz]⟩

omit [Base] in
theorem run_places {fs : List Field} {pl : List (Nat × Nat)} (h : fs.map (fun f => (sizeT P f.type).map fun n => (f.offset, n)) = pl.map some) (w : World) :
    (fs.mapM fun f => do pure (f.offset, ← sizeOf f.type) : Sem (List (Nat × Nat))).run P w = .ok pl w := by
  induction fs generalizing pl with
  | nil => cases pl with
    | nil => rfl
    | cons p r => cases h
  | cons f r ih => cases pl with
    | nil => cases h
    | cons p q =>
      simp only [List.map_cons, List.cons.injEq] at h
      have ih := ih h.2
      have hsz : sizeB P f.type p.2 = true ∧ p.1 = f.offset := by
        cases hs : sizeT P f.type with
        | none => rw [hs] at h; simp at h
        | some n =>
          rw [hs] at h
          have := h.1
          simp only [Option.map_some, Option.some.injEq] at this
          refine ⟨?_, by rw [← this]⟩
          unfold sizeB; rw [hs, ← this]; exact Nat.beq_refl n
      rw [List.mapM_cons]
      simp only [Sem.run_bind, run_sizeOf hsz.1, Result.andThen_ok, Sem.run_pure, ih]
      rw [← hsz.2]

theorem ev_build {fr : Slots} {cs : Conds} {h : Heap} {o : Oper} {t : TypeId} {ps : List (Nat × Operand)} {pl : List (Nat × Nat)} {z l : List Value} (ho : o.op = .build t ⟨ps⟩) (ht : PlacesOk P t pl z) (hl : partsK fr pl z ps = some l) :
    Ev P F N fr cs h o (.agg ⟨l⟩) := by
  obtain ⟨hun, hs, hz⟩ := ht
  obtain ⟨fs, hu, hm⟩ : ∃ fs, P.underlying t = some (.struct fs) ∧ fs.toList.map (fun f => (sizeT P f.type).map fun n => (f.offset, n)) = pl.map some := by
    unfold fieldsPl at hun
    split at hun
    · rename_i fs hu; exact ⟨fs, hu, plK_spec hun⟩
    · cases hun
  refine Ev.of_run fun a hfa w _ => ?_
  obtain ⟨zv, hzv, hzr⟩ := run_zeroValue hz w
  have hpl : ∀ (i off n : Nat), pl[i]? = some (off, n) → n ≠ 0 := by
    intro i off n hi e
    have := List.all_eq_true.1 hs _ (List.mem_of_getElem? hi)
    subst e
    cases this
  have hfill := fill_parts (N := N) hpl hfa ps z l hl
  have hmap : (fs.mapM fun f => do pure (f.offset, ← sizeOf f.type) : Sem (Array (Nat × Nat))).run P w = .ok ⟨pl⟩ w := by
    rw [Array.mapM_eq_mapM_toList, Sem.run_map, run_places hm]; rfl
  simp only [execOp, ho, Instr.build, Sem.run_bind, hzr, Result.andThen_ok, run_underlying hu]
  rw [hmap]
  simp only [Result.andThen_ok]
  have e : (fun (x : Nat) => (⟨pl⟩ : Array (Nat × Nat))[x]?) = fun i => pl[i]? := by
    funext i; simp
  have e2 : ((⟨ps⟩ : Array (Nat × Operand)).map fun x => match x with | (i, x) => (i, a.eval x)).toList = ps.map fun p => (p.1, a.eval p.2) := by simp
  rw [e, e2, cellsV_eq, hzv, hfill]
  rfl

/-! #### New blocks -/
theorem runL_new {ops : List Oper} {o : Oper} {rest : List Oper} {fr : Slots} {cs : Conds} {h : Heap} {Q : Exit → Slots → Heap → Prop} {d : Nat} {V : Nat → Value} {ob : Obj}
    (hg : o.guard = none) (hd : o.dst = some d) (hN : Nat.blt d N = true) (hf : freshIn d cs = true)
    (hr : ∀ a, Fits N fr cs a → ∀ w, Sat w (h ++ F) → (execOp a.eval o).run P w = .ok (.value (V w.heap.size)) { w with heap := w.heap.push ob })
    (r : ∀ b, RunL P F N ops rest ((d, V b) :: fr) cs ((b, ob) :: h) Q) : RunL P F N ops (o :: rest) fr cs h Q := by
  refine ⟨fun a w hfi hs => ?_⟩
  unfold wpL
  rw [if_pos (wanted_none hg _)]
  unfold Oper.wp
  rw [hr a hfi w hs, Oper.upon_value, hd]
  exact (r w.heap.size).go _ _ (hfi.put hN hf) (by rw [List.cons_append]; exact hs.alloc ob)

theorem runL_box {ops : List Oper} {o : Oper} {rest : List Oper} {fr : Slots} {cs : Conds} {h : Heap} {Q : Exit → Slots → Heap → Prop} {d : Nat} {e : TypeId} {x : Operand} {v : Value}
    (hg : o.guard = none) (hd : o.dst = some d) (hN : Nat.blt d N = true) (hf : freshIn d cs = true) (ho : o.op = .box e x) (hx : evO fr x = some v)
    (r : ∀ b, RunL P F N ops rest ((d, .pointer (some ⟨b, 0, none⟩)) :: fr) cs (blk b (cellsV v) e :: h) Q) : RunL P F N ops (o :: rest) fr cs h Q := by
  refine runL_new (V := fun b => .pointer (some ⟨b, 0, none⟩)) hg hd hN hf (fun a hfa w _ => ?_) r
  simp [execOp, ho, hfa.ev hx, Instr.box, newVar, newRow, cellsV_eq]

theorem runL_alloc {ops : List Oper} {o : Oper} {rest : List Oper} {fr : Slots} {cs : Conds} {h : Heap} {Q : Exit → Slots → Heap → Prop} {d : Nat} {e : TypeId} {z : List Value}
    (hg : o.guard = none) (hd : o.dst = some d) (hN : Nat.blt d N = true) (hf : freshIn d cs = true) (ho : o.op = .alloc e) (hz : zeroT P e = some z)
    (r : ∀ b, RunL P F N ops rest ((d, .pointer (some ⟨b, 0, none⟩)) :: fr) cs (blk b z e :: h) Q) : RunL P F N ops (o :: rest) fr cs h Q := by
  refine runL_new (V := fun b => .pointer (some ⟨b, 0, none⟩)) hg hd hN hf (fun a hfa w _ => ?_) r
  obtain ⟨zv, hzv, hzr⟩ := run_zeroValue hz w
  simp only [execOp, ho, Instr.alloc, Sem.run_bind, hzr, Result.andThen_ok]
  simp [newVar, newRow, cellsV_eq, hzv]

/-! #### Stores -/
omit [Base] in
theorem over_eq : ∀ (l c : List Value) (n : Nat), n + l.length ≤ c.length → over c n l = c.take n ++ l ++ c.drop (n + l.length)
  | [], c, n, _ => by simp [over]
  | v :: l, c, n, h => by
    simp only [List.length_cons] at h
    rw [over, over_eq l (c.set n v) (n + 1) (by simp; omega)]
    rw [List.take_set, List.drop_set_of_lt (by omega)]
    rw [List.take_succ_eq_append_getElem (by omega)]
    rw [List.set_append_right _ _ (by simp; omega)]
    simp only [List.length_take]
    rw [Nat.min_eq_left (by omega), Nat.sub_self]
    simp only [List.set_cons_zero, List.append_assoc, List.length_cons, List.cons_append, List.nil_append]
    rw [show n + 1 + l.length = n + (l.length + 1) by omega]

theorem Sat.setRow {w : World} {h : Heap} {b : Nat} {c : Array Value} {e : TypeId} {fz : Nat × Nat} (s : Sat w ((b, .cells c e fz) :: h)) (c' : Array Value) : Sat (w.setRow b c') ((b, .cells c' e fz) :: h) := by
  have := s.mod (fun | .cells _ elem frozen => .cells c' elem frozen | o => o)
  exact this

omit [Base] in
theorem run_storeVar {t n b off : Nat} {c l : List Value} {e : TypeId} {v : Value} (hsz : sizeB P t n = true) (hl : cellsV v = l) (hn : l.length = n) (hc : allCells l = true) (hb : off + n ≤ c.length) {w : World} (hw : w.heap[b]? = some (.cells ⟨c⟩ e (0, 0))) :
    (storeVar t ⟨b, off, none⟩ v).run P w = .ok () (w.setRow b ⟨c.take off ++ l ++ c.drop (off + l.length)⟩) := by
  have hs := run_storeCells_at (P := P) b off e l 0 ⟨c⟩ w hw (by simpa [hn] using hb) (allCells_spec hc)
  have e1 : ¬ ((⟨l⟩ : Array Value).size ≠ n) := by simp [hn]
  unfold storeVar
  simp only [Sem.run_bind, run_sizeOf hsz, Result.andThen_ok, cellsV_eq, hl, Sem.run_ite]
  rw [if_neg e1]
  simp only [Nat.add_zero] at hs ⊢
  exact hs

theorem runL_store {ops : List Oper} {o : Oper} {rest : List Oper} {fr : Slots} {cs : Conds} {h : Heap} {Q : Exit → Slots → Heap → Prop} {t n b off : Nat} {c l : List Value} {e : TypeId} {x y : Operand} {v : Value} (pre post : Heap)
    (hg : o.guard = none) (hd : o.dst = none) (ho : o.op = .store t x y) (hx : evO fr x = some (.pointer (some ⟨b, off, none⟩))) (hy : evO fr y = some v) (hsz : sizeB P t n = true) (hl : cellsV v = l) (hn : l.length = n) (hc : allCells l = true) (hb : off + n ≤ c.length)
    (hh : h = pre ++ blk b c e :: post)
    (r : RunL P F N ops rest fr cs (pre ++ blk b (c.take off ++ l ++ c.drop (off + l.length)) e :: post) Q) : RunL P F N ops (o :: rest) fr cs h Q := by
  subst hh
  refine ⟨fun a w hfi hs => ?_⟩
  unfold wpL
  rw [if_pos (wanted_none hg _)]
  unfold Oper.wp
  have hs1 : Sat w (blk b c e :: (pre ++ post ++ F)) := by
    exact hs.perm (perm_of_cnt fun x => by simp only [cnt_append, cnt_cons, blk]; omega)
  have hw := hs1.at (List.mem_cons_self ..)
  have hr : (execOp a.eval o).run P w = .ok .skip (w.setRow b ⟨c.take off ++ l ++ c.drop (off + l.length)⟩) := by
    simp only [execOp, ho, hfi.ev hx, hfi.ev hy, Instr.storeAt, Instr.sureAddr, Sem.run_bind, Sem.run_pure, Result.andThen_ok, run_storeVar hsz hl hn hc hb hw]
  rw [hr, Oper.upon_skip, hd]
  refine r.go _ _ hfi ?_
  have hs2 := hs1.setRow ⟨c.take off ++ l ++ c.drop (off + l.length)⟩
  exact hs2.perm (perm_of_cnt fun x => by simp only [cnt_append, cnt_cons, blk]; omega)

/-- The same at a block whose cells are written out. -/
theorem runL_storeK {ops : List Oper} {o : Oper} {rest : List Oper} {fr : Slots} {cs : Conds} {h : Heap} {Q : Exit → Slots → Heap → Prop} {t n b off : Nat} {c c' l : List Value} {e : TypeId} {x y : Operand} {v : Value} (pre post : Heap)
    (hg : o.guard = none) (hd : o.dst = none) (ho : o.op = .store t x y) (hx : evO fr x = some (.pointer (some ⟨b, off, none⟩))) (hy : evO fr y = some v) (hsz : sizeB P t n = true) (hl : cellsV v = l) (hn : Nat.beq l.length n = true) (h0 : Nat.beq n 0 = false) (hc : allCells l = true)
    (hh : h = pre ++ blk b c e :: post) (hov : overK c off l = some c')
    (r : RunL P F N ops rest fr cs (pre ++ blk b c' e :: post) Q) : RunL P F N ops (o :: rest) fr cs h Q := by
  have hn := Nat.eq_of_beq_eq_true hn
  have hov := overK_spec _ _ _ _ hov
  have hb : off + l.length ≤ c.length := by
    rcases hov.1 with h1 | h1
    · exact h1
    · subst h1; simp at hn; subst hn; cases h0
  refine runL_store (c := c) pre post hg hd ho hx hy hsz hl hn hc (by omega) hh ?_
  rw [← over_eq l c off hb, hov.2]; exact r

theorem runL_store0 {ops : List Oper} {o : Oper} {rest : List Oper} {fr : Slots} {cs : Conds} {post : Heap} {Q : Exit → Slots → Heap → Prop} {t n b off : Nat} {c c' l : List Value} {e : TypeId} {x y : Operand} {v : Value}
    (hg : o.guard = none) (hd : o.dst = none) (ho : o.op = .store t x y) (hx : evO fr x = some (.pointer (some ⟨b, off, none⟩))) (hy : evO fr y = some v) (hsz : sizeB P t n = true) (hl : cellsV v = l) (hn : Nat.beq l.length n = true) (h0 : Nat.beq n 0 = false) (hc : allCells l = true)
    (hov : overK c off l = some c') (r : RunL P F N ops rest fr cs (blk b c' e :: post) Q) : RunL P F N ops (o :: rest) fr cs (blk b c e :: post) Q :=
  runL_storeK [] post hg hd ho hx hy hsz hl hn h0 hc rfl hov r
theorem runL_store1 {ops : List Oper} {o : Oper} {rest : List Oper} {fr : Slots} {cs : Conds} {a1 : Nat × Obj} {post : Heap} {Q : Exit → Slots → Heap → Prop} {t n b off : Nat} {c c' l : List Value} {e : TypeId} {x y : Operand} {v : Value}
    (hg : o.guard = none) (hd : o.dst = none) (ho : o.op = .store t x y) (hx : evO fr x = some (.pointer (some ⟨b, off, none⟩))) (hy : evO fr y = some v) (hsz : sizeB P t n = true) (hl : cellsV v = l) (hn : Nat.beq l.length n = true) (h0 : Nat.beq n 0 = false) (hc : allCells l = true)
    (hov : overK c off l = some c') (r : RunL P F N ops rest fr cs (a1 :: blk b c' e :: post) Q) : RunL P F N ops (o :: rest) fr cs (a1 :: blk b c e :: post) Q :=
  runL_storeK [a1] post hg hd ho hx hy hsz hl hn h0 hc rfl hov r
theorem runL_store2 {ops : List Oper} {o : Oper} {rest : List Oper} {fr : Slots} {cs : Conds} {a1 a2 : Nat × Obj} {post : Heap} {Q : Exit → Slots → Heap → Prop} {t n b off : Nat} {c c' l : List Value} {e : TypeId} {x y : Operand} {v : Value}
    (hg : o.guard = none) (hd : o.dst = none) (ho : o.op = .store t x y) (hx : evO fr x = some (.pointer (some ⟨b, off, none⟩))) (hy : evO fr y = some v) (hsz : sizeB P t n = true) (hl : cellsV v = l) (hn : Nat.beq l.length n = true) (h0 : Nat.beq n 0 = false) (hc : allCells l = true)
    (hov : overK c off l = some c') (r : RunL P F N ops rest fr cs (a1 :: a2 :: blk b c' e :: post) Q) : RunL P F N ops (o :: rest) fr cs (a1 :: a2 :: blk b c e :: post) Q :=
  runL_storeK [a1, a2] post hg hd ho hx hy hsz hl hn h0 hc rfl hov r
theorem runL_store3 {ops : List Oper} {o : Oper} {rest : List Oper} {fr : Slots} {cs : Conds} {a1 a2 a3 : Nat × Obj} {post : Heap} {Q : Exit → Slots → Heap → Prop} {t n b off : Nat} {c c' l : List Value} {e : TypeId} {x y : Operand} {v : Value}
    (hg : o.guard = none) (hd : o.dst = none) (ho : o.op = .store t x y) (hx : evO fr x = some (.pointer (some ⟨b, off, none⟩))) (hy : evO fr y = some v) (hsz : sizeB P t n = true) (hl : cellsV v = l) (hn : Nat.beq l.length n = true) (h0 : Nat.beq n 0 = false) (hc : allCells l = true)
    (hov : overK c off l = some c') (r : RunL P F N ops rest fr cs (a1 :: a2 :: a3 :: blk b c' e :: post) Q) : RunL P F N ops (o :: rest) fr cs (a1 :: a2 :: a3 :: blk b c e :: post) Q :=
  runL_storeK [a1, a2, a3] post hg hd ho hx hy hsz hl hn h0 hc rfl hov r
/-- One cell of a block whose cells are not written out. -/
theorem runL_set {ops : List Oper} {o : Oper} {rest : List Oper} {fr : Slots} {cs : Conds} {h : Heap} {Q : Exit → Slots → Heap → Prop} {t b off : Nat} {c : List Value} {e : TypeId} {x y : Operand} {v : Value} (pre post : Heap)
    (hg : o.guard = none) (hd : o.dst = none) (ho : o.op = .store t x y) (hx : evO fr x = some (.pointer (some ⟨b, off, none⟩))) (hy : evO fr y = some v) (hsz : sizeB P t 1 = true) (hc : isCell v = true) (hb : off < c.length)
    (hh : h = pre ++ blk b c e :: post)
    (r : RunL P F N ops rest fr cs (pre ++ blk b (c.set off v) e :: post) Q) : RunL P F N ops (o :: rest) fr cs h Q := by
  have hl : cellsV v = [v] := by cases v <;> first | rfl | cases hc
  refine runL_store (c := c) (l := [v]) pre post hg hd ho hx hy hsz hl rfl (by simp [allCells, hc]) hb hh ?_
  rw [List.set_eq_take_append_cons_drop, if_pos hb] at r
  simpa using r
/-! #### == and != on bools -/
def boolB (P : Program) (t : TypeId) : Bool := match P.underlying t with | some .bool => true | _ => false
omit [Base] in
theorem run_equalB {t : TypeId} (h : boolB P t = true) (p q : Bool) (w : World) : (Op.equal t (.bool p) (.bool q)).run P w = .ok (p == q) w := by
  unfold boolB at h
  split at h
  · rename_i hu
    unfold Op.equal Op.maxDepth Op.equalIn
    simp [run_underlying hu]
  · cases h
theorem ev_eqB {fr : Slots} {cs : Conds} {h : Heap} {o : Oper} {t t' : TypeId} {x y : Operand} {p q : Bool} (ho : o.op = .binOp .eql t x y t') (hx : evO fr x = some (.bool p)) (hy : evO fr y = some (.bool q)) (ht : boolB P t = true) :
    Ev P F N fr cs h o (.bool (p == q)) := by
  refine Ev.of_run fun a hf w _ => ?_
  simp [execOp, ho, hf.ev hx, hf.ev hy, eqGuard, binOp, run_equalB ht]
/-- == and != of a pointer and nil. -/
def ptrB (P : Program) (t : TypeId) : Bool := match P.underlying t with | some (.pointer _) => true | _ => false
omit [Base] in
theorem run_equalP {t : TypeId} (h : ptrB P t = true) (p : Option Addr) (w : World) : (Op.equal t (.pointer p) (.pointer none)).run P w = .ok p.isNone w := by
  unfold ptrB at h
  split at h
  · rename_i hu
    unfold Op.equal Op.maxDepth Op.equalIn
    cases p <;> simp [run_underlying hu]
  · cases h
theorem ev_eqNil {fr : Slots} {cs : Conds} {h : Heap} {o : Oper} {t t' : TypeId} {x y : Operand} {p : Option Addr} (ho : o.op = .binOp .eql t x y t') (hx : evO fr x = some (.pointer p)) (hy : evO fr y = some (.pointer none)) (ht : ptrB P t = true) :
    Ev P F N fr cs h o (.bool p.isNone) := by
  refine Ev.of_run fun a hf w _ => ?_
  simp [execOp, ho, hf.ev hx, hf.ev hy, eqGuard, binOp, run_equalP ht]
theorem ev_neqNil {fr : Slots} {cs : Conds} {h : Heap} {o : Oper} {t t' : TypeId} {x y : Operand} {p : Option Addr} (ho : o.op = .binOp .neq t x y t') (hx : evO fr x = some (.pointer p)) (hy : evO fr y = some (.pointer none)) (ht : ptrB P t = true) :
    Ev P F N fr cs h o (.bool (!p.isNone)) := by
  refine Ev.of_run fun a hf w _ => ?_
  simp [execOp, ho, hf.ev hx, hf.ev hy, eqGuard, binOp, run_equalP ht]

/-! #### Bits -/
def isBits : BinOp → Bool
  | .and | .or | .xor | .andNot => true
  | _ => false
theorem ev_bits {fr : Slots} {cs : Conds} {h : Heap} {o : Oper} {op : BinOp} {t t' : TypeId} {x y : Operand} {k : IntKind} {a b : Int} (ho : o.op = .binOp op t x y t') (hx : evO fr x = some (.int k a)) (hy : evO fr y = some (.int k b)) (hop : isBits op = true) :
    Ev P F N fr cs h o (.int k (bits op k a b)) := by
  refine Ev.of_run fun ac hf w _ => ?_
  cases op <;> simp only [isBits, Bool.false_eq_true] at hop <;> simp [execOp, ho, hf.ev hx, hf.ev hy, eqGuard, binOp, Op.intBits, bits]
end
end Go.SL
