/- The separation layer, more: loads out of the frame and out of rows, stores into a row, structs of numbers held against each other. It proves no statement by itself. -/
import Derived.Test.YtmelpobcpcmdoaaGreatSLDraw
set_option autoImplicit false
set_option linter.unusedSimpArgs false
set_option linter.unusedSectionVars false
set_option linter.unusedVariables false
namespace Go.SL
variable [Base]
section
variable {P : Program} {F : Heap} {N : Nat}

/-- A cell of the frame. -/
def LoadsF (F : Heap) (b off : Nat) (v : Value) : Prop := ∃ c e fz, (b, Obj.cells ⟨c⟩ e fz) ∈ F ∧ c[off]? = some v
/-- Some cells of the frame. -/
def AggF (F : Heap) (b off : Nat) (l : List Value) : Prop := ∃ c e fz, (b, Obj.cells ⟨c⟩ e fz) ∈ F ∧ off + l.length ≤ c.length ∧ (c.drop off).take l.length = l
omit [Base] in
theorem LoadsF.mono {F F' : Heap} {b off : Nat} {v : Value} (h : LoadsF F b off v) (hF : ∀ x ∈ F, x ∈ F') : LoadsF F' b off v := by
  obtain ⟨c, e, fz, hm, hc⟩ := h; exact ⟨c, e, fz, hF _ hm, hc⟩
omit [Base] in
theorem AggF.mono {F F' : Heap} {b off : Nat} {l : List Value} (h : AggF F b off l) (hF : ∀ x ∈ F, x ∈ F') : AggF F' b off l := by
  obtain ⟨c, e, fz, hm, hc⟩ := h; exact ⟨c, e, fz, hF _ hm, hc⟩
omit [Base] in
theorem LoadsF.up {F A : Heap} {b off : Nat} {v : Value} (h : LoadsF F b off v) : LoadsF (A ++ F) b off v := h.mono fun x m => List.mem_append_right _ m
omit [Base] in
theorem AggF.up {F A : Heap} {b off : Nat} {l : List Value} (h : AggF F b off l) : AggF (A ++ F) b off l := h.mono fun x m => List.mem_append_right _ m
omit [Base] in
theorem AggF.at {F : Heap} {b off : Nat} {l : List Value} (h : AggF F b off l) (k : Nat) (v : Value) (hv : nthK k l = some v) : LoadsF F b (off + k) v := by
  obtain ⟨c, e, fz, hm, hl, hc⟩ := h
  have hv := nthK_spec _ _ _ hv
  refine ⟨c, e, fz, hm, ?_⟩
  rw [← hc] at hv
  have hk : k < l.length := by
    have := (List.getElem?_eq_some_iff.1 hv).1
    simp at this; omega
  rw [List.getElem?_take_of_lt hk, List.getElem?_drop] at hv
  exact hv
theorem ev_loadF {fr : Slots} {cs : Conds} {h : Heap} {o : Oper} {t b off : Nat} {x : Operand} {v : Value} (ho : o.op = .load t x) (hx : evO fr x = some (.pointer (some ⟨b, off, none⟩)))
    (ht : scalarB P t = true) (l : LoadsF F b off v) : Ev P F N fr cs h o v := by
  obtain ⟨c, e, fz, hm, hc⟩ := l
  exact ev_load ho hx ht (memR hm) hc
theorem ev_loadAF {fr : Slots} {cs : Conds} {h : Heap} {o : Oper} {t b off n : Nat} {x : Operand} {l : List Value} (ho : o.op = .load t x) (hx : evO fr x = some (.pointer (some ⟨b, off, none⟩)))
    (ht : aggB P t = true) (hsz : sizeB P t n = true) (hl : AggF F b off l) (hn : l.length = n) : Ev P F N fr cs h o (.agg ⟨l⟩) := by
  obtain ⟨c, e, fz, hm, h1, h2⟩ := hl
  subst hn
  exact ev_loadA ho hx ht hsz (memR hm) h1 h2


omit [Base] in
theorem RowsF.cell {F : Heap} {b off len n : Nat} {rows : List (List Int)} (h : RowsF F (some ⟨b, off, none⟩) len n rows) {i : Nat} (hi : i < len) : ∃ r, rows[i]? = some r ∧ r.length = n ∧ (∀ z ∈ r, InI z) ∧ AggF F b (off + i * n) (ints r) := by
  obtain ⟨h1, h2, h3⟩ := h
  have hr : rows[i]? = some (rows[i]'(by omega)) := List.getElem?_eq_getElem (by omega)
  have hm := h2 _ (List.mem_of_getElem? hr)
  refine ⟨_, hr, hm.1, hm.2, ?_⟩
  rcases h3 with h3 | ⟨b', off', c, e, fz, ha, hb, hc⟩
  · omega
  · cases ha
    have := hc i _ hr
    refine ⟨c, e, fz, hb, ?_, ?_⟩
    · rw [ints_len, hm.1]; exact this.1
    · rw [ints_len, hm.1]; exact this.2
omit [Base] in
theorem RowsF.pos {F : Heap} {a : Option Addr} {len n : Nat} {rows : List (List Int)} (h : RowsF F a len n rows) (hi : 0 < len) : ∃ b off, a = some ⟨b, off, none⟩ := by
  obtain ⟨h1, h2, h3⟩ := h
  rcases h3 with h3 | ⟨b', off', c, e, fz, ha, hb, hc⟩
  · omega
  · exact ⟨_, _, ha⟩
/-- A row of a block. -/
def RowAt (c : List Value) (base : Nat) (l : List Value) : Prop := base + l.length ≤ c.length ∧ (c.drop base).take l.length = l
omit [Base] in
theorem RowAt.get {c l : List Value} {base k : Nat} {v : Value} (h : RowAt c base l) (hv : nthK k l = some v) : c[base + k]? = some v := by
  have hv := nthK_spec _ _ _ hv
  rw [← h.2] at hv
  have hk : k < l.length := by
    have := (List.getElem?_eq_some_iff.1 hv).1
    simp at this; omega
  rw [List.getElem?_take_of_lt hk, List.getElem?_drop] at hv
  exact hv
omit [Base] in
theorem RowAt.split {a l r : List Value} {base : Nat} (h : base = a.length) : RowAt (a ++ l ++ r) base l := by
  subst h
  refine ⟨by simp, ?_⟩
  rw [List.append_assoc, List.drop_left, List.take_left]
theorem ev_loadR1 {fr : Slots} {cs : Conds} {h : Heap} {o : Oper} {t b base k : Nat} {c l : List Value} {e : TypeId} {fz : Nat × Nat} {x : Operand} {v : Value} (ho : o.op = .load t x) (hx : evO fr x = some (.pointer (some ⟨b, base + k, none⟩)))
    (ht : scalarB P t = true) (m : (b, Obj.cells ⟨c⟩ e fz) ∈ h ++ F) (hr : RowAt c base l) (hv : nthK k l = some v) : Ev P F N fr cs h o v := ev_load ho hx ht m (hr.get hv)
theorem ev_loadAR {fr : Slots} {cs : Conds} {h : Heap} {o : Oper} {t b base n : Nat} {c l : List Value} {e : TypeId} {fz : Nat × Nat} {x : Operand} (ho : o.op = .load t x) (hx : evO fr x = some (.pointer (some ⟨b, base, none⟩)))
    (ht : aggB P t = true) (hsz : sizeB P t n = true) (m : (b, Obj.cells ⟨c⟩ e fz) ∈ h ++ F) (hr : RowAt c base l) (hn : l.length = n) : Ev P F N fr cs h o (.agg ⟨l⟩) := by
  subst hn
  exact ev_loadA ho hx ht hsz m hr.1 hr.2
omit [Base] in
theorem RowAt.sub {c l l' : List Value} {base j n : Nat} (h : RowAt c base l) (hs : subK j n l = some l') : RowAt c (base + j) l' := by
  have hs := subK_spec _ _ _ _ hs
  have hl : l'.length = n := by rw [← hs.2]; simp; omega
  refine ⟨by have := h.1; omega, ?_⟩
  rw [hl, ← hs.2]
  conv => rhs; rw [← h.2]
  rw [List.drop_take, List.take_take, List.drop_drop, Nat.min_eq_left (by omega)]
theorem ev_loadAR1 {fr : Slots} {cs : Conds} {h : Heap} {o : Oper} {t b base j n : Nat} {c l l' : List Value} {e : TypeId} {fz : Nat × Nat} {x : Operand} (ho : o.op = .load t x) (hx : evO fr x = some (.pointer (some ⟨b, base + j, none⟩)))
    (ht : aggB P t = true) (hsz : sizeB P t n = true) (m : (b, Obj.cells ⟨c⟩ e fz) ∈ h ++ F) (hr : RowAt c base l) (hs : subK j n l = some l') : Ev P F N fr cs h o (.agg ⟨l'⟩) := by
  have h2 := subK_spec _ _ _ _ hs
  exact ev_loadAR ho hx ht hsz m (hr.sub hs) (by rw [← h2.2]; simp; omega)

/-! #### Where roads meet: states told once for all that follows -/
def MidK {σ : Type} (L : List Nat) (fr : σ → Slots) (h : σ → Heap) (I : σ → Prop) : Exit → Slots → Heap → Prop :=
  fun e fr' h' => e = .normal ∧ ∃ s, I s ∧ keepB fr' L = fr s ∧ ∀ x, cnt x h' = cnt x (h s)

/-! #### An operation whose guard was not taken itself -/
/-! #### Results that lie in cells -/
inductive ResAt (P : Program) (fr : Slots) (h : Heap) : List ResultVar → List Value → Prop where
  | nil : ResAt P fr h [] []
  | tmp {t : Nat} {v : Value} {r : List ResultVar} {l : List Value} (hv : lk fr t = some v) (hr : ResAt P fr h r l) : ResAt P fr h (.tmp t :: r) (v :: l)
  | agg {ad t b off n : Nat} {c cl : List Value} {e : TypeId} {fz : Nat × Nat} {r : List ResultVar} {l : List Value} (ha : lk fr ad = some (.pointer (some ⟨b, off, none⟩))) (m : (b, Obj.cells ⟨c⟩ e fz) ∈ h) (ht : aggB P t = true) (hsz : sizeB P t n = true) (hv : subK off n c = some cl) (hr : ResAt P fr h r l) : ResAt P fr h (.cell ad t :: r) (.agg ⟨cl⟩ :: l)
  | sca {ad t b off : Nat} {v : Value} {c : List Value} {e : TypeId} {fz : Nat × Nat} {r : List ResultVar} {l : List Value} (ha : lk fr ad = some (.pointer (some ⟨b, off, none⟩))) (m : (b, Obj.cells ⟨c⟩ e fz) ∈ h) (ht : scalarB P t = true) (hv : nthK off c = some v) (hr : ResAt P fr h r l) : ResAt P fr h (.cell ad t :: r) (v :: l)
def ReturnsR (P : Program) (F : Heap) (rs : List ResultVar) (Q : Value → Heap → Prop) : Exit → Slots → Heap → Prop
  | .normal, fr, h | .ret, fr, h => ∃ l, ResAt P fr (h ++ F) rs l ∧ Q (oneOrTuple l) h
  | _, _, _ => False
theorem run_loadVarA {t b off n : Nat} {c l : List Value} {e : TypeId} {fz : Nat × Nat} {h : Heap} (ht : aggB P t = true) (hsz : sizeB P t n = true) (m : (b, Obj.cells ⟨c⟩ e fz) ∈ h) (hv : subK off n c = some l) {w : World} (hs : Sat w h) :
    (loadVar t ⟨b, off, none⟩).run P w = .ok (.agg ⟨l⟩) w := by
  have h2 := subK_spec _ _ _ _ hv
  have hlen : l.length = n := by rw [← h2.2]; simp; omega
  have hr : (loadCells ⟨b, off, none⟩ n).run P w = .ok ⟨l⟩ w := by
    rw [← hlen]
    refine run_loadCells_list (w := w) (P := P) ⟨b, off, none⟩ l fun j v hj => ?_
    have e : Addr.add ⟨b, off, none⟩ j = ⟨b, off + j, none⟩ := by
      unfold Addr.add; split
      · rename_i h0; rw [h0]; rfl
      · rfl
    rw [e, cell_at (off := off + j) hs m, ← hj, ← h2.2]
    have : j < n := by
      have := (List.getElem?_eq_some_iff.1 hj).1; omega
    rw [List.getElem?_take_of_lt this, List.getElem?_drop]
  simp only [loadVar, Sem.run_bind, Sem.run_pure, Result.andThen_ok, run_isAgg_agg ht, if_true, run_sizeOf hsz, hr]
theorem run_loadVarS {t b off : Nat} {c : List Value} {v : Value} {e : TypeId} {fz : Nat × Nat} {h : Heap} (ht : scalarB P t = true) (m : (b, Obj.cells ⟨c⟩ e fz) ∈ h) (hv : nthK off c = some v) {w : World} (hs : Sat w h) :
    (loadVar t ⟨b, off, none⟩).run P w = .ok v w := by
  have hc := cell_at (off := off) hs m
  rw [nthK_spec _ _ _ hv] at hc
  simp only [loadVar, Sem.run_bind, Sem.run_pure, Result.andThen_ok, run_isAgg_scalar ht, Bool.false_eq_true, if_false, run_load, hc]
theorem resAt_run {fr : Slots} {a : Act} {h : Heap} (f : Fits N fr [] a) : ∀ {rs : List ResultVar} {l : List Value}, ResAt P fr h rs l → ∀ {w : World}, Sat w h →
    (rs.mapM fun | .tmp t => pure (a.tmps.getD t undef) | .cell ad t => do loadVar t (← asAddr (a.tmps.getD ad undef)) : Sem (List Value)).run P w = .ok l w := by
  intro rs l r
  induction r with
  | nil => intro w _; rfl
  | @tmp t v r l hv hr ih =>
    intro w hs
    have hg : a.tmps.getD t undef = v := f.ev (x := .tmp t) hv
    rw [List.mapM_cons]
    simp only [Sem.run_bind, Sem.run_pure, Result.andThen_ok, hg]
    rw [ih hs]; rfl
  | @agg ad t b off n c cl e fz r l ha m ht hsz hv hr ih =>
    intro w hs
    have hg : a.tmps.getD ad undef = .pointer (some ⟨b, off, none⟩) := f.ev (x := .tmp ad) ha
    rw [List.mapM_cons]
    have hl := run_loadVarA (P := P) ht hsz m hv hs
    have ha2 : (asAddr (.pointer (some ⟨b, off, none⟩))).run P w = .ok ⟨b, off, none⟩ w := rfl
    simp only [Sem.run_bind, Sem.run_pure, Result.andThen_ok, hg, ha2, hl]
    rw [ih hs]; rfl
  | @sca ad t b off v c e fz r l ha m ht hv hr ih =>
    intro w hs
    have hg : a.tmps.getD ad undef = .pointer (some ⟨b, off, none⟩) := f.ev (x := .tmp ad) ha
    rw [List.mapM_cons]
    have hl := run_loadVarS (P := P) ht m hv hs
    have ha2 : (asAddr (.pointer (some ⟨b, off, none⟩))).run P w = .ok ⟨b, off, none⟩ w := rfl
    simp only [Sem.run_bind, Sem.run_pure, Result.andThen_ok, hg, ha2, hl]
    rw [ih hs]; rfl
theorem resultsR_run {fr : Slots} {a : Act} {h : Heap} (f : Fits N fr [] a) {fn : Func} {l : List Value} (hr : ResAt P fr h fn.results.toList l) {w : World} (hs : Sat w h) :
    (results fn a.tmps).run P w = .ok (oneOrTuple l) w := by
  have r := resAt_run (P := P) f hr hs
  unfold results
  have e : (fn.results.mapM fun | .tmp t => pure (a.tmps.getD t undef) | .cell ad t => do loadVar t (← asAddr (a.tmps.getD ad undef)) : Sem (Array Value)).run P w = .ok l.toArray w := by
    rw [Array.mapM_eq_mapM_toList]
    rw [Sem.run_map, r]; rfl
  have e2 : (if h : l.toArray.size = 1 then l.toArray[0] else Value.tuple l.toArray) = oneOrTuple l := by
    unfold oneOrTuple
    split
    · rename_i hs
      match l, hs with
      | [v], _ => rfl
    · rename_i hs
      match l, hs with
      | [v], hs => simp at hs
      | [], _ => rfl
      | _ :: _ :: _, _ => rfl
  rw [Sem.run_bind]
  refine (congrArg (fun r => Result.andThen r _) e).trans ?_
  rw [Result.andThen_ok, Sem.run_pure, e2]
theorem sp_of_codeR {P : Program} {F : Heap} {f : FuncId} {fn : Func} {c : Code} {args : List Value} {h : Heap} {Q : Value → Heap → Prop} (hf : P.funcs[f]? = some fn) (hb : fn.body = some c) (hn : Nat.ble args.length fn.ntmps = true)
    (r : RunC P F fn.ntmps c (argSlots 0 args) h (ReturnsR P F fn.results.toList Q)) : Sp P F f args h Q := by
  have hn : args.length ≤ fn.ntmps := Nat.le_of_ble_eq_true hn
  refine ⟨fun w hs => ?_⟩
  refine calls_of_wp hf hb ?_
  refine wp_mono (r.go _ w ⟨rfl, by simp; omega, fun i v hv => ?_, fun _ _ _ _ m => (by cases m), fun _ _ _ _ m => (by cases m)⟩ hs) ?_
  · have := (argSlots_spec args 0 i v hv).2
    rw [Nat.sub_zero] at this
    have hi : i < args.length := (List.getElem?_eq_some_iff.1 this).1
    rw [Array.getElem?_append_left (by simpa using hi)]
    simpa using this
  · rintro e a w' ⟨fr, h', q, hfi, hs'⟩
    cases e with
    | normal => obtain ⟨l, hl, hq⟩ := q; exact ⟨hfi.defers, _, resultsR_run hfi hl hs', _, h', rfl, hq, hs'⟩
    | ret => obtain ⟨l, hl, hq⟩ := q; exact ⟨hfi.defers, _, resultsR_run hfi hl hs', _, h', rfl, hq, hs'⟩
    | _ => exact q.elim

/-! #### Two blocks made in whatever order -/
def allocAt (ops : List Oper) (k d : Nat) (e : TypeId) : Bool := match (⟨ops⟩ : Array Oper)[k]? with
  | some o => (match o.guard with | none => true | _ => false) && (match o.dst with | some d' => Nat.beq d' d | none => false) && (match o.op with | .alloc e' => Nat.beq e' e | _ => false)
  | none => false
/-! #### Structs and rows of numbers and truths held against each other -/
def simpleB (P : Program) (t : TypeId) : Bool := match P.underlying t with | some (.int _) => true | some .bool => true | _ => false
def isSimple : Value → Bool | .int .i64 _ => true | .bool _ => true | _ => false
end
end Go.SL
