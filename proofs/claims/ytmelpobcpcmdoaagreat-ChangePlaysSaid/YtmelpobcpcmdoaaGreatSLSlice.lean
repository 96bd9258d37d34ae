/- The separation layer, slices: slicing, append, literals. It proves no statement by itself. -/
import Derived.Test.YtmelpobcpcmdoaaGreatSLClose
set_option autoImplicit false
set_option linter.unusedSimpArgs false
set_option linter.unusedVariables false
namespace Go.SL
variable [Base]
section
variable {P : Program} {F : Heap} {N : Nat}

/-- Where x[l:] begins, of a slice with that capacity. -/
def cutA (a : Option Addr) (cap l n : Nat) : Option Addr := if cap = l then a else a.map (·.add (l * n))

theorem ev_sliceHi {fr : Slots} {cs : Conds} {h : Heap} {o : Oper} {t e n len cap : Nat} {a : Option Addr} {k : IntKind} {i : Int} {x hi : Operand} (ho : o.op = .slice t x none (some hi) none) (hx : evO fr x = some (.slice a len cap)) (hi' : evO fr hi = some (.int k i))
    (ht : sliceB P t e n = true) (h0 : 0 ≤ i) (h1 : i ≤ cap) : Ev P F N fr cs h o (.slice a i.toNat cap) := by
  obtain ⟨hu, hsz⟩ := sliceB_spec ht
  refine Ev.of_run fun ac hfa w _ => ?_
  have e1 : (if cap = 0 then a else a.map (·.add (0 * n))) = a := by
    split
    · rfl
    · cases a <;> simp [Addr.add]
  simp only [execOp, ho, Option.map_none, Option.map_some, hfa.ev hx, hfa.ev hi', Instr.sliceAt, Sem.run_bind, run_underlying hu, Result.andThen_ok, Instr.slice, Instr.sliceBounds, Instr.sliceBound, asIntOf, Sem.run_pure, h0, h1, and_self, if_true, run_sizeOf hsz, Nat.sub_zero, e1]

theorem ev_sliceLo {fr : Slots} {cs : Conds} {h : Heap} {o : Oper} {t e n len cap : Nat} {a : Option Addr} {k : IntKind} {i : Int} {x lo : Operand} (ho : o.op = .slice t x (some lo) none none) (hx : evO fr x = some (.slice a len cap)) (hi' : evO fr lo = some (.int k i))
    (ht : sliceB P t e n = true) (h0 : 0 ≤ i) (h1 : i ≤ len) : Ev P F N fr cs h o (.slice (cutA a cap i.toNat n) (len - i.toNat) (cap - i.toNat)) := by
  obtain ⟨hu, hsz⟩ := sliceB_spec ht
  refine Ev.of_run fun ac hfa w _ => ?_
  simp only [execOp, ho, Option.map_none, Option.map_some, hfa.ev hx, hfa.ev hi', Instr.sliceAt, Sem.run_bind, run_underlying hu, Result.andThen_ok, Instr.slice, Instr.sliceBounds, Instr.sliceBound, asIntOf, Sem.run_pure, h0, h1, and_self, if_true, run_sizeOf hsz]
  rfl

theorem ev_sliceLH {fr : Slots} {cs : Conds} {h : Heap} {o : Oper} {t e n len cap : Nat} {a : Option Addr} {k k' : IntKind} {i j : Int} {x lo hi : Operand} (ho : o.op = .slice t x (some lo) (some hi) none) (hx : evO fr x = some (.slice a len cap)) (hi' : evO fr lo = some (.int k i)) (hj' : evO fr hi = some (.int k' j))
    (ht : sliceB P t e n = true) (h0 : 0 ≤ i) (h1 : i ≤ j) (h2 : j ≤ cap) : Ev P F N fr cs h o (.slice (cutA a cap i.toNat n) (j.toNat - i.toNat) (cap - i.toNat)) := by
  obtain ⟨hu, hsz⟩ := sliceB_spec ht
  refine Ev.of_run fun ac hfa w _ => ?_
  have hj0 : 0 ≤ j := by omega
  have hij : i ≤ (j.toNat : Int) := by omega
  simp only [execOp, ho, Option.map_none, Option.map_some, hfa.ev hx, hfa.ev hi', hfa.ev hj', Instr.sliceAt, Sem.run_bind, run_underlying hu, Result.andThen_ok, Instr.slice, Instr.sliceBounds, Instr.sliceBound, asIntOf, Sem.run_pure, h0, hij, h2, hj0, and_self, if_true, run_sizeOf hsz]
  rfl

/-- A slice of the program's own: k elements of n cells each, at the head of a block of its own (or nil). -/
def OwnS (e : TypeId) (n : Nat) (v : Value) (k : Nat) (cl : List Value) (A : Heap) : Prop :=
  (v = .slice none 0 0 ∧ k = 0 ∧ cl = [] ∧ A = []) ∨
  ∃ b rest cap, v = .slice (some ⟨b, 0, none⟩) k cap ∧ A = [blk b (cl ++ rest) e] ∧ cl.length = k * n ∧ k * n + rest.length = cap * n ∧ k ≤ cap

omit [Base] in
theorem OwnS.nil (e : TypeId) (n : Nat) : OwnS e n (.slice none 0 0) 0 [] [] := .inl ⟨rfl, rfl, rfl, rfl⟩

/-- What is read at a slice's cells. -/
def SrcIs (H : Heap) (a : Option Addr) (m n : Nat) (sl : List Value) : Prop :=
  sl.length = m * n ∧ (m = 0 ∨ ∃ b off c e fz, a = some ⟨b, off, none⟩ ∧ (b, Obj.cells ⟨c⟩ e fz) ∈ H ∧ off + m * n ≤ c.length ∧ (c.drop off).take (m * n) = sl)

omit [Base] in
theorem SrcIs.none (H : Heap) (a : Option Addr) (n : Nat) : SrcIs H a 0 n [] := ⟨by simp, .inl rfl⟩

theorem run_firstCells {H : Heap} {a : Option Addr} {m n cap : Nat} {sl : List Value} (hs : SrcIs H a m n sl) {w : World} (s : Sat w H) : (Builtin.firstCells n m (.slice a m cap)).run P w = .ok ⟨sl⟩ w := by
  obtain ⟨hl, h⟩ := hs
  rcases h with h | ⟨b, off, c, e, fz, rfl, hm, hb, hc⟩
  · subst h
    have : sl = [] := by simpa using hl
    subst this
    cases a with
    | none => rfl
    | some x => simp [Builtin.firstCells, loadCells, loadCellsFrom]
  · show (loadCells ⟨b, off, none⟩ (m * n)).run P w = _
    rw [← hl]
    refine run_loadCells_list (w := w) (P := P) ⟨b, off, none⟩ sl fun j v hj => ?_
    have e : Addr.add ⟨b, off, none⟩ j = ⟨b, off + j, none⟩ := by
      unfold Addr.add; split
      · rename_i h0; rw [h0]; rfl
      · rfl
    have hj' := (List.getElem?_eq_some_iff.1 hj).1
    rw [e, cell_at (off := off + j) s hm, ← hj, ← hc]
    rw [List.getElem?_take_of_lt (by omega), List.getElem?_drop]

def bytesB (P : Program) (e b : Nat) : Bool := match P.info? e with | some i => Nat.beq i.bytes b | none => false
omit [Base] in
theorem run_bytes {e b : Nat} (h : bytesB P e b = true) (w : World) : ∃ i, (typeInfo e).run P w = .ok i w ∧ i.bytes = b := by
  unfold bytesB at h
  unfold typeInfo
  cases hi : P.info? e with
  | none => rw [hi] at h; cases h
  | some i => rw [hi] at h; exact ⟨i, by simp [hi], Nat.eq_of_beq_eq_true h⟩

omit [Base] in
theorem nextcap_le (need cap : Nat) (h : cap < need) : Builtin.nextslicecap need cap ≤ 2 * need + 768 := by
  unfold Builtin.nextslicecap
  split
  · omega
  · split
    · omega
    · have key : ∀ (r c : Nat), c < need + 192 + need / 4 + 1 → Builtin.growBy need r c ≤ 2 * need + 768 := by
        intro r
        induction r with
        | zero => intro c hc; unfold Builtin.growBy; omega
        | succ r ih =>
          intro c hc
          unfold Builtin.growBy
          split
          · omega
          · refine ih _ ?_; omega
      exact key 4 cap (by omega)

omit [Base] in
theorem zeroCells_size (z : Array Value) (k : Nat) : (Builtin.zeroCells z k).size = k * z.size := by simp [Builtin.zeroCells]

omit [Base] in
theorem cut_cap (need old : Nat) (e : TypeId) (t : Nat) : need ≤ (Question.appendCap need old e).cut t := by simp [Question.cut]

theorem run_grow {t t2 e e2 n n2 k m cap cap2 by_ : Nat} {sa a2 : Option Addr} {cl sl z : List Value} {H H2 : Heap} {ty : TypeId} (ht : sliceB P t e n = true) (ht2 : sliceB P t2 e2 n2 = true) (hz : zeroT P e = some z) (hby : bytesB P e by_ = true)
    (old : SrcIs H sa k n cl) (src : SrcIs H2 a2 m n sl) {w : World} (s : Sat w H) (s2 : Sat w H2) (hgt : cap < k + m) (hb0 : by_ ≠ 0) (hroom : (2 * (k + m) + 768) * by_ ≤ 281474976710656) :
    ∃ rst newCap, (Builtin.append_ #[t, t2] ty #[.slice sa k cap, .slice a2 m cap2]).run P w = .ok (.slice (some ⟨w.heap.size, 0, none⟩) (k + m) newCap) { w with drawn := w.drawn + 1, heap := w.heap.push (.cells ⟨cl ++ sl ++ rst⟩ e) } ∧
      k + m ≤ newCap ∧ rst.length = (newCap - (k + m)) * z.length := by
  obtain ⟨hu, hsz⟩ := sliceB_spec ht
  obtain ⟨hu2, _⟩ := sliceB_spec ht2
  obtain ⟨ti, hti, htb⟩ := run_bytes hby w
  have hti' : ∀ w' : World, (typeInfo e).run P w' = .ok ti w' := by
    intro w'
    unfold typeInfo at hti ⊢
    cases hi : P.info? e with
    | none => simp [hi] at hti
    | some i => simp [hi] at hti ⊢; exact hti
  obtain ⟨zv, hzv, _⟩ := run_zeroValue hz w
  have hzr' : ∀ w' : World, (zeroValue e).run P w' = .ok zv w' := by
    intro w'
    obtain ⟨zv', _, hr'⟩ := run_zeroValue hz w'
    unfold zeroValue typeInfo at *
    cases hi : P.info? e with
    | none => simp_all
    | some i =>
      cases hzz : i.zero with
      | none => simp_all
      | some q => simp_all
  have hfc := fun (w' : World) (s' : Sat w' H2) => run_firstCells (P := P) (cap := cap2) src s'
  have hfo := fun (w' : World) (s' : Sat w' H) => run_firstCells (P := P) (cap := cap) old s'
  have hnc := nextcap_le (k + m) cap hgt
  have hbnd : Builtin.nextslicecap (k + m) cap * by_ ≤ 281474976710656 := Nat.le_trans (Nat.mul_le_mul_right _ hnc) hroom
  have hi64 : ¬ (9223372036854775807 : Int) < ((k : Int) + (m : Int)) := by
    have : (2 * (k + m) + 768) * 1 ≤ (2 * (k + m) + 768) * by_ := Nat.mul_le_mul_left _ (by omega)
    omega
  have hnot : ¬ (k + m ≤ cap) := by omega
  refine ⟨(Builtin.zeroCells zv.cells ((Question.appendCap (k + m) cap e).cut (w.tape w.drawn (Question.appendCap (k + m) cap e)) - (k + m))).toList, (Question.appendCap (k + m) cap e).cut (w.tape w.drawn (Question.appendCap (k + m) cap e)), ?_, cut_cap _ _ _ _, ?_⟩
  · unfold Builtin.append_
    simp only [List.getElem?_toArray, run_underlying hu, run_underlying hu2]
    simp [run_underlying hu, run_underlying hu2, run_sizeOf hsz, Builtin.lenOf, hti', htb, hb0, hnot, Question.forced]
    rw [if_neg (by omega)]
    have g1 := hfo w.drew s.drew
    have g2 := hfc w.drew s2.drew
    rw [g1, Result.andThen_ok, g2, Result.andThen_ok, hzr', Result.andThen_ok]
    simp only [newRow, Sem.run_bind, run_newObj, Result.andThen_ok, Sem.run_pure]
    have ea : ∀ (q : Array Value), (⟨cl⟩ : Array Value) ++ (⟨sl⟩ ++ q) = ⟨cl ++ (sl ++ q.toList)⟩ := by
      intro q; apply Array.ext'; simp
    rw [ea]; rfl
  · rw [Array.length_toList, zeroCells_size, cellsV_eq, hzv]; rfl

theorem runL_append {ops : List Oper} {o : Oper} {rest : List Oper} {fr : Slots} {cs : Conds} {h : Heap} {Q : Exit → Slots → Heap → Prop} {d t t2 e e2 n n2 k m cap2 by_ : Nat} {x y : Operand} {v : Value} {a2 : Option Addr} {cl sl z : List Value} {A : Heap} (R : Heap)
    (hg : o.guard = none) (hd : o.dst = some d) (hN : Nat.blt d N = true) (hf : freshIn d cs = true) (ho : o.op = .call ⟨.builtin .append, #[x, y], #[t, t2]⟩) (hx : evO fr x = some v) (hy : evO fr y = some (.slice a2 m cap2))
    (ht : sliceB P t e n = true) (ht2 : sliceB P t2 e2 n2 = true) (hz : zeroT P e = some z) (hzl : z.length = n) (hby : bytesB P e by_ = true) (own : OwnS e n v k cl A) (hh : ∀ x, cnt x h = cnt x (A ++ R)) (src : SrcIs (h ++ F) a2 m n sl) (hsl : allCells sl = true)
    (hn : n ≠ 0) (hb0 : by_ ≠ 0) (hroom : (2 * (k + m) + 768) * by_ ≤ 281474976710656)
    (r : ∀ v' A', OwnS e n v' (k + m) (cl ++ sl) A' → RunL P F N ops rest ((d, v') :: fr) cs (A' ++ R) Q) : RunL P F N ops (o :: rest) fr cs h Q := by
  refine ⟨fun a w hfi hs => ?_⟩
  unfold wpL
  rw [if_pos (wanted_none hg _)]
  unfold Oper.wp
  obtain ⟨hu, hsz⟩ := sliceB_spec ht
  obtain ⟨hu2, _⟩ := sliceB_spec ht2
  have hslen := src.1
  have hs1 : Sat w (A ++ R ++ F) := hs.perm ((perm_of_cnt hh).append_right F)
  have hfc := run_firstCells (P := P) (cap := cap2) src hs
  obtain ⟨ti, hti, htb⟩ := run_bytes hby w
  have hrun : ∀ (V : Value) (w' : World), (Builtin.append_ #[t, t2] o.type #[v, .slice a2 m cap2]).run P w = .ok V w' → (execOp a.eval o).run P w = .ok (.value V) w' := by
    intro V w' hr
    have e1 : (#[x, y] : Array Operand).map a.eval = #[v, .slice a2 m cap2] := by simp [hfi.ev hx, hfi.ev hy]
    simp only [execOp, ho, resolve, e1, Sem.run_bind, Sem.run_pure, Result.andThen_ok, invoke, builtin, hr]
  rcases own with ⟨rfl, rfl, rfl, rfl⟩ | ⟨b, rst, cap, rfl, rfl, hcl, hrl, hkc⟩
  · by_cases hm : m = 0
    · subst hm
      have : sl = [] := by simpa using hslen
      subst this
      have hr : (Builtin.append_ #[t, t2] o.type #[.slice none 0 0, .slice a2 0 cap2]).run P w = .ok (.slice none 0 0) w := by
        unfold Builtin.append_
        simp [run_underlying hu, run_underlying hu2, run_sizeOf hsz, Builtin.lenOf, hfc]
      rw [hrun _ _ hr, Oper.upon_value, hd]
      exact (r _ [] (.inl ⟨rfl, rfl, rfl, rfl⟩)).go _ _ (hfi.put hN hf) hs1
    · obtain ⟨rst, newCap, hr, h1, h2⟩ := run_grow (cap2 := cap2) (ty := o.type) (sa := none) (k := 0) (cap := 0) (cl := []) ht ht2 hz hby (SrcIs.none (h ++ F) none n) src hs hs (by omega) hb0 hroom
      rw [hrun _ _ hr, Oper.upon_value, hd]
      refine (r _ _ (.inr ⟨w.heap.size, rst, newCap, rfl, rfl, by simp [hslen], ?_, h1⟩)).go _ _ (hfi.put hN hf) ?_
      · rw [h2, hzl, ← Nat.add_mul]; congr 1; omega
      · have hs2 := (hs1.alloc (.cells ⟨[] ++ sl ++ rst⟩ e)).drew (n := w.drawn + 1)
        exact hs2
  · by_cases hfit : k + m ≤ cap
    · have hb' := hs1.at (b := b) (o := .cells ⟨cl ++ rst⟩ e (0, 0)) (by simp)
      have hst := run_storeCells_at (P := P) b (k * n) e sl 0 ⟨cl ++ rst⟩ w hb' (by
        have := Nat.mul_le_mul_right n hfit
        rw [Nat.add_mul] at this
        simp [hcl]; omega) (allCells_spec hsl)
      have ea : Addr.add ⟨b, 0, none⟩ (k * n) = ⟨b, k * n, none⟩ := by
        unfold Addr.add; split
        · rename_i h0; rw [h0]
        · simp
      have e3 : (cl ++ rst).take (k * n) ++ sl ++ (cl ++ rst).drop (k * n + sl.length) = cl ++ sl ++ rst.drop sl.length := by
        rw [← hcl, List.take_left, List.drop_append]; simp
      have hr : (Builtin.append_ #[t, t2] o.type #[.slice (some ⟨b, 0, none⟩) k cap, .slice a2 m cap2]).run P w = .ok (.slice (some ⟨b, 0, none⟩) (k + m) cap) (w.setRow b ⟨cl ++ sl ++ rst.drop sl.length⟩) := by
        simp only [Nat.add_zero] at hst
        rw [← e3]
        unfold Builtin.append_
        simp only [List.getElem?_toArray, run_underlying hu, run_underlying hu2, run_sizeOf hsz, Builtin.lenOf, hfc, hfit, ea]
        simp [run_underlying hu, run_underlying hu2, run_sizeOf hsz, Builtin.lenOf, hfc, hfit, ea]
        simp at hst
        rw [hst]; rfl
      rw [hrun _ _ hr, Oper.upon_value, hd]
      refine (r _ _ (.inr ⟨b, rst.drop sl.length, cap, rfl, rfl, ?_, ?_, hfit⟩)).go _ _ (hfi.put hN hf) ?_
      · rw [List.length_append, hcl, hslen, ← Nat.add_mul]
      · rw [List.length_drop, hslen]
        have := Nat.mul_le_mul_right n hfit
        rw [Nat.add_mul] at this ⊢
        omega
      · exact hs1.setRow _
    · obtain ⟨rst', newCap, hr, h1, h2⟩ := run_grow (cap2 := cap2) (ty := o.type) ht ht2 hz hby (H := [blk b (cl ++ rst) e] ++ R ++ F) (sa := some ⟨b, 0, none⟩) (k := k) (cap := cap) (cl := cl) ⟨hcl, .inr ⟨b, 0, cl ++ rst, e, (0, 0), rfl, by simp, by simp; omega, by rw [List.drop_zero, ← hcl, List.take_left]⟩⟩ src hs1 hs (by omega) hb0 hroom
      rw [hrun _ _ hr, Oper.upon_value, hd]
      refine (r _ _ (.inr ⟨w.heap.size, rst', newCap, rfl, rfl, by simp [hslen, hcl, Nat.add_mul], ?_, h1⟩)).go _ _ (hfi.put hN hf) ?_
      · rw [h2, hzl, ← Nat.add_mul]; congr 1; omega
      · have hs2 := ((hs1.sub (List.sublist_append_right [blk b (cl ++ rst) e] (R ++ F))).alloc (.cells ⟨cl ++ sl ++ rst'⟩ e)).drew (n := w.drawn + 1)
        exact hs2

omit [Base] in
theorem OwnS.lit {e n b k : Nat} {l : List Value} (hl : l.length = k * n) : OwnS e n (.slice (some ⟨b, 0, none⟩) k k) k l [blk b l e] :=
  .inr ⟨b, [], k, rfl, by rw [List.append_nil], hl, by simp, Nat.le_refl _⟩

/-- A slice written out: []T{..}. -/
theorem runL_buildSlice {ops : List Oper} {o : Oper} {rest : List Oper} {fr : Slots} {cs : Conds} {h : Heap} {Q : Exit → Slots → Heap → Prop} {d t e n len : Nat} {ps : List (Nat × Operand)} {z c0 l : List Value}
    (hg : o.guard = none) (hd : o.dst = some d) (hN : Nat.blt d N = true) (hf : freshIn d cs = true) (ho : o.op = .buildSlice t len ⟨ps⟩) (ht : sliceB P t e n = true) (hz : zeroT P e = some z) (hn : Nat.beq n 0 = false) (hlen : Nat.ble (len * n) 16777216 = true)
    (hc0 : ((List.range (len * n)).map fun i => (z[i % z.length]?).getD undef) = c0) (hpl : partsK fr ((List.range len).map fun i => (i * n, n)) c0 ps = some l)
    (hzl : Nat.beq z.length n = true) (r : ∀ b, RunL P F N ops rest ((d, .slice (some ⟨b, 0, none⟩) len len) :: fr) cs (blk b l e :: h) Q) : RunL P F N ops (o :: rest) fr cs h Q := by
  obtain ⟨hu, hsz⟩ := sliceB_spec ht
  have hn0 : n ≠ 0 := fun e => by subst e; cases hn
  have hzl := Nat.eq_of_beq_eq_true hzl
  have hlen := Nat.le_of_ble_eq_true hlen
  refine runL_new (V := fun b => .slice (some ⟨b, 0, none⟩) len len) hg hd hN hf (fun a hfa w _ => ?_) r
  obtain ⟨zv, hzv, hzr⟩ := run_zeroValue hz w
  have hfill := fill_parts (N := N) (pl := (List.range len).map fun i => (i * n, n)) (by
    intro i off m hi e
    rw [List.getElem?_map] at hi
    cases hr : (List.range len)[i]? with
    | none => rw [hr] at hi; cases hi
    | some q => rw [hr] at hi; simp only [Option.map_some, Option.some.injEq, Prod.mk.injEq] at hi; omega) hfa ps c0 l hpl
  -- the places past the slice's end are never asked
  have hext : ∀ (ps : List (Nat × Value)) (c c' : Array Value), Instr.fill (fun i => ((List.range len).map fun i => (i * n, n))[i]?) c ps = some c' → Instr.fill (fun i => some (i * n, n)) c ps = some c' := by
    intro ps
    induction ps with
    | nil => intro c c' h; exact h
    | cons p q ih =>
      obtain ⟨i, v⟩ := p
      intro c c' h
      unfold Instr.fill at h ⊢
      rw [List.getElem?_map] at h
      cases hr : (List.range len)[i]? with
      | none => rw [hr] at h; simp at h
      | some j =>
        rw [hr] at h
        have : j = i := by
          have := List.getElem?_eq_some_iff.1 hr
          obtain ⟨h1, h2⟩ := this
          simpa using h2.symm
        subst this
        simp only [Option.map_some] at h
        simp only
        split
        · rename_i hc; rw [if_pos hc] at h; cases h
        · rename_i hc; rw [if_neg hc] at h; exact ih _ _ h
  have hfill2 := hext _ _ _ hfill
  have e0 : ((Array.range (len * n)).map fun i => (if len * n = 0 then (#[] : Array Value) else ⟨z⟩)[i % (if len * n = 0 then (#[] : Array Value) else ⟨z⟩).size]!) = ⟨c0⟩ := by
    rw [← hc0]
    apply Array.ext'
    by_cases h0 : len * n = 0
    · simp [h0]
    · rw [if_neg h0]
      simp only [Array.toList_map, Array.toList_range]
      apply List.map_congr_left
      intro i hi
      have hlt : i % z.length < z.length := Nat.mod_lt _ (by omega)
      show (⟨z⟩ : Array Value)[i % z.length]! = _
      rw [getElem!_pos _ _ (by simpa using hlt), List.getElem?_eq_getElem hlt]; rfl
  have e2 : ((⟨ps⟩ : Array (Nat × Operand)).map fun x => match x with | (i, x) => (i, a.eval x)).toList = ps.map fun p => (p.1, a.eval p.2) := by simp
  simp only [execOp, ho, Instr.buildSlice, Sem.run_bind, run_underlying hu, Result.andThen_ok, run_sizeOf hsz]
  rw [if_neg (by omega)]
  by_cases h0 : len * n = 0
  · rw [if_pos h0] at e0 ⊢
    simp only [Sem.run_bind, Result.andThen_ok, Sem.run_pure]
    rw [e2]
    have e0' : (Array.range (len * n)).map (fun x => (#[] : Array Value)[x % (#[] : Array Value).size]!) = ⟨c0⟩ := e0
    rw [e0', hfill2]
    simp [newRow]
  · rw [if_neg h0] at e0 ⊢
    simp only [Sem.run_bind, hzr, Result.andThen_ok, Sem.run_pure, cellsV_eq, hzv]
    rw [e2, e0, hfill2]
    simp [newRow]

omit [Base] in
theorem IntsF.src {H : Heap} {a : Option Addr} {len : Nat} {zs : List Int} (h : IntsF H a len zs) : SrcIs H a len 1 (ints zs) := by
  obtain ⟨h1, h2, h3⟩ := h
  refine ⟨by rw [ints_len]; omega, ?_⟩
  rcases h3 with h3 | ⟨b, off, c, e, fz, ha, hm, hc⟩
  · exact .inl h3
  · by_cases h0 : len = 0
    · exact .inl h0
    · have hlast := hc (len - 1) (zs[len - 1]'(by omega)) (List.getElem?_eq_getElem _)
      have hl := (List.getElem?_eq_some_iff.1 hlast).1
      refine .inr ⟨b, off, c, e, fz, ha, hm, by omega, ?_⟩
      apply List.ext_getElem?
      intro j
      by_cases hj : j < len
      · rw [List.getElem?_take_of_lt (by omega), List.getElem?_drop, hc j (zs[j]'(by omega)) (List.getElem?_eq_getElem _)]
        rw [List.getElem?_eq_getElem (by rw [ints_len]; omega)]
        simp [ints]
      · rw [List.getElem?_eq_none (by simp; omega), List.getElem?_eq_none (by rw [ints_len]; omega)]

omit [Base] in
/-- What the call owns may be read. -/
theorem OwnS.ints {e k : Nat} {v : Value} {zs : List Int} {A H : Heap} (own : OwnS e 1 v k (ints zs) A) (hA : ∀ x ∈ A, x ∈ H) (hin : ∀ z ∈ zs, InI z) : ∃ a cap, v = .slice a k cap ∧ IntsF H a k zs := by
  rcases own with ⟨rfl, rfl, hc, rfl⟩ | ⟨b, rst, cap, rfl, rfl, hl, _, _⟩
  · have : zs = [] := by simpa [SL.ints] using hc
    subst this
    exact ⟨_, _, rfl, rfl, hin, .inl rfl⟩
  · rw [ints_len, Nat.mul_one] at hl
    refine ⟨_, _, rfl, hl, hin, .inr ⟨b, 0, _, e, (0, 0), rfl, hA _ (List.mem_singleton.2 rfl), fun i z hz => ?_⟩⟩
    have hi := (List.getElem?_eq_some_iff.1 hz).1
    rw [Nat.zero_add, List.getElem?_append_left (by rw [ints_len]; exact hi)]
    simp [SL.ints, hz]

omit [Base] in
theorem IntsF.take {H : Heap} {a : Option Addr} {len k : Nat} {zs : List Int} (h : IntsF H a len zs) (hk : k ≤ len) : IntsF H a k (zs.take k) := by
  obtain ⟨h1, h2, h3⟩ := h
  refine ⟨by simp; omega, fun z m => h2 z (List.mem_of_mem_take m), ?_⟩
  rcases h3 with h3 | ⟨b, off, c, e, fz, ha, hm, hc⟩
  · exact .inl (by omega)
  · refine .inr ⟨b, off, c, e, fz, ha, hm, fun i z hz => ?_⟩
    have hi := (List.getElem?_eq_some_iff.1 hz).1
    rw [List.getElem?_take_of_lt (by simp at hi; omega)] at hz
    exact hc i z hz

omit [Base] in
theorem IntsF.drop {H : Heap} {a : Option Addr} {len cap k : Nat} {zs : List Int} (h : IntsF H a len zs) (hk : k ≤ len) (hc : len ≤ cap) : IntsF H (cutA a cap k 1) (len - k) (zs.drop k) := by
  obtain ⟨h1, h2, h3⟩ := h
  refine ⟨by simp; omega, fun z m => h2 z (List.mem_of_mem_drop m), ?_⟩
  rcases h3 with h3 | ⟨b, off, c, e, fz, rfl, hm, hcc⟩
  · exact .inl (by omega)
  · by_cases h0 : cap = k
    · exact .inl (by omega)
    · have ea : cutA (some ⟨b, off, none⟩) cap k 1 = some ⟨b, off + k, none⟩ := by
        unfold cutA; rw [if_neg h0]
        simp only [Option.map_some, Nat.mul_one]
        unfold Addr.add; split
        · rename_i h0; rw [h0]; rfl
        · rfl
      refine .inr ⟨b, off + k, c, e, fz, ea, hm, fun i z hz => ?_⟩
      rw [List.getElem?_drop] at hz
      rw [Nat.add_assoc]; exact hcc _ z hz
end
end Go.SL
