/- The separation layer: structs and rows of numbers and truths, held against each other. It proves no statement by itself. -/
import Derived.Test.YtmelpobcpcmdoaaGreatSLRows
import Derived.ChangeKeysEq
import Derived.Laws.StructEq
set_option autoImplicit false
set_option linter.unusedSimpArgs false
set_option linter.unusedSectionVars false
set_option linter.unusedVariables false
namespace Go.SL
/-- Cells held against each other; none: they are of unlike kinds. -/
def eqK : List Value → List Value → Option Bool
  | [], [] => some true
  | .int k a :: xs, .int k' b :: ys => bif Nat.beq (kNum k) (kNum k') then (match eqK xs ys with | some r => some (decide (a = b) && r) | none => none) else none
  | .bool a :: xs, .bool b :: ys => match eqK xs ys with | some r => some (a == b && r) | none => none
  | _, _ => none
theorem eqK_append : ∀ {a b c d : List Value} {r : Bool}, a.length = b.length → eqK (a ++ c) (b ++ d) = some r → ∃ r1 r2, eqK a b = some r1 ∧ eqK c d = some r2 ∧ r = (r1 && r2)
  | [], [], c, d, r, _, h => ⟨true, r, rfl, h, by simp⟩
  | x :: a, [], _, _, _, hl, _ => by simp at hl
  | [], y :: b, _, _, _, hl, _ => by simp at hl
  | x :: a, y :: b, c, d, r, hl, h => by
    simp only [List.cons_append] at h
    have hl' : a.length = b.length := by simpa using hl
    cases x with
    | int k p =>
      cases y with
      | int k' q =>
        simp only [eqK] at h ⊢
        cases hk : Nat.beq (kNum k) (kNum k') with
        | false => rw [hk] at h; cases h
        | true =>
          rw [hk] at h
          simp only [cond_true] at h ⊢
          cases he : eqK (a ++ c) (b ++ d) with
          | none => rw [he] at h; cases h
          | some r0 =>
            rw [he] at h
            obtain ⟨r1, r2, h1, h2, h3⟩ := eqK_append hl' he
            rw [h1]
            refine ⟨_, r2, rfl, h2, ?_⟩
            cases h; rw [h3, Bool.and_assoc]
      | _ => simp only [eqK] at h; cases h
    | bool p =>
      cases y with
      | bool q =>
        simp only [eqK] at h ⊢
        cases he : eqK (a ++ c) (b ++ d) with
        | none => rw [he] at h; cases h
        | some r0 =>
          rw [he] at h
          obtain ⟨r1, r2, h1, h2, h3⟩ := eqK_append hl' he
          rw [h1]
          refine ⟨_, r2, rfl, h2, ?_⟩
          cases h; rw [h3, Bool.and_assoc]
      | _ => simp only [eqK] at h; cases h
    | _ => cases y <;> simp only [eqK] at h <;> cases h
theorem eqK_len : ∀ {a b : List Value} {r : Bool}, eqK a b = some r → a.length = b.length
  | [], [], _, _ => rfl
  | x :: a, [], _, h => by cases x <;> simp only [eqK] at h <;> cases h
  | [], y :: b, _, h => by cases y <;> simp only [eqK] at h <;> cases h
  | x :: a, y :: b, r, h => by
    have key : ∃ r0, eqK a b = some r0 := by
      cases x with
      | int k p =>
        cases y with
        | int k' q =>
          simp only [eqK] at h
          cases hk : Nat.beq (kNum k) (kNum k') with
          | false => rw [hk] at h; cases h
          | true =>
            rw [hk] at h
            simp only [cond_true] at h
            cases he : eqK a b with
            | none => rw [he] at h; cases h
            | some r0 => exact ⟨r0, rfl⟩
        | _ => simp only [eqK] at h; cases h
      | bool p =>
        cases y with
        | bool q =>
          simp only [eqK] at h
          cases he : eqK a b with
          | none => rw [he] at h; cases h
          | some r0 => exact ⟨r0, rfl⟩
        | _ => simp only [eqK] at h; cases h
      | _ => cases y <;> simp only [eqK] at h <;> cases h
    obtain ⟨r0, h0⟩ := key
    simp only [List.length_cons, eqK_len h0]
/-- A value, out of its cells. -/
def mkV (P : Program) (t : TypeId) (cs : List Value) : Value := if aggB P t then .agg ⟨cs⟩ else cs.headD undef
/-- Types of numbers and truths, to whatever depth, without gaps. -/
def flatFs (g : TypeId → Bool) (P : Program) : List Field → Nat → Nat → Bool
  | [], o, n => Nat.beq o n
  | f :: r, o, n => (f.name != "_") && Nat.beq f.offset o && g f.type && !(Nat.beq (P.cellsOf f.type) 0) && flatFs g P r (o + P.cellsOf f.type) n
def flatQ (P : Program) : Nat → TypeId → Bool
  | 0, _ => false
  | m + 1, t => match P.underlying t with
    | some (.int _) => Nat.beq (P.cellsOf t) 1
    | some .bool => Nat.beq (P.cellsOf t) 1
    | some (.struct fs) => !(P.stoodInHeld t) && flatFs (flatQ P m) P fs.toList 0 (P.cellsOf t)
    | some (.array n e) => (P.info? e).isSome && flatQ P m e && !(Nat.beq (P.cellsOf e) 0) && Nat.beq (n * P.cellsOf e) (P.cellsOf t)
    | _ => false
/-- Cells of a type. -/
def tyQ (P : Program) : Nat → TypeId → List Value → Bool
  | 0, _, _ => false
  | m + 1, t, cs => match P.underlying t with
    | some (.int k) => (match cs with | [.int k' _] => Nat.beq (kNum k) (kNum k') | _ => false)
    | some .bool => (match cs with | [.bool _] => true | _ => false)
    | some (.struct fs) => fs.toList.all fun f => tyQ P m f.type ((cs.drop f.offset).take (P.cellsOf f.type))
    | some (.array n e) => (List.range' 0 n).all fun i => tyQ P m e ((cs.drop (i * P.cellsOf e)).take (P.cellsOf e))
    | _ => false
section
variable {P : Program}
/-- What is to be shown of a type. -/
def EqQ (P : Program) (d m : Nat) (t : TypeId) : Prop := ∀ (w : World) (a b : List Value) (r : Bool), a.length = P.cellsOf t → eqK a b = some r → tyQ P m t a = true → (Op.equalIn d t (mkV P t a) (mkV P t b)).run P w = .ok r w
theorem run_partQ {t : TypeId} {xs : List Value} {off : Nat} {ch : List Value} (hi : ∃ i, P.info? t = some i) (hn : P.cellsOf t ≠ 0) (hu : scalarB P t = true ∨ aggB P t = true) (h1 : scalarB P t = true → P.cellsOf t = 1) (hc : (xs.drop off).take (P.cellsOf t) = ch) (hl : ch.length = P.cellsOf t) (w : World) :
    (part t ⟨xs⟩ off).run P w = .ok (mkV P t ch) w := by
  obtain ⟨i, hi⟩ := hi
  unfold part mkV
  rcases hu with hu | hu
  · have hna : aggB P t = false := by
      unfold scalarB at hu; unfold aggB
      split at hu <;> simp_all
    rw [hna]
    simp only [Sem.run_bind, run_isAgg_scalar hu, Result.andThen_ok, Bool.false_eq_true, if_false]
    have hc1 := h1 hu
    rw [hc1] at hc hl
    match ch, hl with
    | [v], _ =>
      have : xs[off]? = some v := by
        have h0 := congrArg (·[0]?) hc
        simpa [List.getElem?_take, List.getElem?_drop] using h0
      simp [this]
  · rw [hu]
    simp only [Sem.run_bind, run_isAgg_agg hu, Result.andThen_ok, if_true]
    have hs : (sizeOf t).run P w = .ok (P.cellsOf t) w := run_sizeOf (by
      unfold sizeB sizeT Program.cellsOf; rw [hi]; simp) w
    simp only [hs, Result.andThen_ok, Sem.run_pure]
    have e : (⟨xs⟩ : Array Value).extract off (off + P.cellsOf t) = ⟨ch⟩ := by
      rw [← hc]; apply Array.ext'; simp
    rw [e]
theorem flatQ_facts {m : Nat} {t : TypeId} (h : flatQ P m t = true) : (∃ i, P.info? t = some i) ∧ (scalarB P t = true ∨ aggB P t = true) ∧ (scalarB P t = true → P.cellsOf t = 1) := by
  cases m with
  | zero => cases h
  | succ m =>
    unfold flatQ at h
    have hinfo : ∀ d, P.underlying t = some d → ∃ i, P.info? t = some i := by
      intro d hd
      cases hi : P.info? t with
      | some i => exact ⟨i, rfl⟩
      | none => unfold Program.underlying at hd; rw [hi] at hd; cases hd
    cases hu : P.underlying t with
    | none => rw [hu] at h; cases h
    | some d =>
      rw [hu] at h
      refine ⟨hinfo d hu, ?_⟩
      unfold scalarB aggB
      rw [hu]
      cases d
      case int k => exact ⟨.inl rfl, fun _ => Nat.eq_of_beq_eq_true h⟩
      case bool => exact ⟨.inl rfl, fun _ => Nat.eq_of_beq_eq_true h⟩
      case struct fs => exact ⟨.inr rfl, fun h => by cases h⟩
      case array n e => exact ⟨.inr rfl, fun h => by cases h⟩
      all_goals cases h
theorem run_eqFieldsQ {d m : Nat} {g : TypeId → Bool} (hg : ∀ t, g t = true → EqQ P d m t) (hf : ∀ t, g t = true → (∃ i, P.info? t = some i) ∧ (scalarB P t = true ∨ aggB P t = true) ∧ (scalarB P t = true → P.cellsOf t = 1)) (xs ys : List Value) (n : Nat) (hx : xs.length = n) (hy : ys.length = n) :
    ∀ (fs : List Field) (o : Nat) (r : Bool), flatFs g P fs o n = true → eqK (xs.drop o) (ys.drop o) = some r → (fs.all fun f => tyQ P m f.type ((xs.drop f.offset).take (P.cellsOf f.type))) = true → ∀ w : World, (Op.eqFields d ⟨xs⟩ ⟨ys⟩ fs).run P w = .ok r w
  | [], o, r, h, he, _, w => by
    have := Nat.eq_of_beq_eq_true h
    rw [List.drop_eq_nil_of_le (by omega), List.drop_eq_nil_of_le (by omega)] at he
    cases he; simp [Op.eqFields]
  | f :: fs, o, r, h, he, hty, w => by
    simp only [List.all_cons, Bool.and_eq_true] at hty
    unfold flatFs at h
    simp only [Bool.and_eq_true, bne_iff_ne, ne_eq, Bool.not_eq_true'] at h
    obtain ⟨⟨⟨⟨hn, ho⟩, hgf⟩, h0⟩, hr⟩ := h
    have ho := Nat.eq_of_beq_eq_true ho
    have hc0 : P.cellsOf f.type ≠ 0 := fun e => by rw [e] at h0; cases h0
    obtain ⟨f1, f2, f3⟩ := hf _ hgf
    have hend : o + P.cellsOf f.type ≤ n := by
      have key : ∀ (l : List Field) (q : Nat), flatFs g P l q n = true → q ≤ n := by
        intro l
        induction l with
        | nil => intro q h; have := Nat.eq_of_beq_eq_true h; omega
        | cons x l ih =>
          intro q h
          unfold flatFs at h
          simp only [Bool.and_eq_true] at h
          have := ih _ h.2
          omega
      exact key _ _ hr
    have hlx : ((xs.drop o).take (P.cellsOf f.type)).length = P.cellsOf f.type := by simp; omega
    have hly : ((ys.drop o).take (P.cellsOf f.type)).length = P.cellsOf f.type := by simp; omega
    have e1 : xs.drop o = (xs.drop o).take (P.cellsOf f.type) ++ xs.drop (o + P.cellsOf f.type) := by
      rw [← List.drop_drop, List.take_append_drop]
    have e2 : ys.drop o = (ys.drop o).take (P.cellsOf f.type) ++ ys.drop (o + P.cellsOf f.type) := by
      rw [← List.drop_drop, List.take_append_drop]
    rw [e1, e2] at he
    obtain ⟨r1, r2, h1, h2, rfl⟩ := eqK_append (by rw [hlx, hly]) he
    have p1 := run_partQ (xs := xs) (off := o) f1 hc0 f2 f3 rfl hlx w
    have p2 := run_partQ (xs := ys) (off := o) f1 hc0 f2 f3 rfl hly w
    have p3 := hg _ hgf w _ _ r1 hlx h1 (by rw [← ho]; exact hty.1)
    have ih := run_eqFieldsQ hg hf xs ys n hx hy fs (o + P.cellsOf f.type) r2 hr h2 hty.2 w
    simp only [Op.eqFields, hn, ne_eq, not_false_eq_true, if_true, Sem.run_bind, ho, p1, p2, p3, Result.andThen_ok]
    cases r1
    · simp
    · simpa using ih
theorem run_eqItemsQ {d m : Nat} {e : TypeId} (he0 : EqQ P d m e) (f1 : ∃ i, P.info? e = some i) (f2 : scalarB P e = true ∨ aggB P e = true) (f3 : scalarB P e = true → P.cellsOf e = 1) (hc0 : P.cellsOf e ≠ 0) (xs ys : List Value) (n : Nat) (hx : xs.length = n * P.cellsOf e) (hy : ys.length = n * P.cellsOf e) :
    ∀ (k i : Nat) (r : Bool), i + k = n → eqK (xs.drop (i * P.cellsOf e)) (ys.drop (i * P.cellsOf e)) = some r → ((List.range' i k).all fun i => tyQ P m e ((xs.drop (i * P.cellsOf e)).take (P.cellsOf e))) = true → ∀ w : World, (Op.eqItems d e (P.cellsOf e) ⟨xs⟩ ⟨ys⟩ (List.range' i k)).run P w = .ok r w
  | 0, i, r, hik, he, _, w => by
    have : i = n := by omega
    subst this
    rw [List.drop_eq_nil_of_le (by omega), List.drop_eq_nil_of_le (by omega)] at he
    cases he; simp [Op.eqItems]
  | k + 1, i, r, hik, he, hty, w => by
    simp only [List.range'_succ, List.all_cons, Bool.and_eq_true] at hty
    have hle : i * P.cellsOf e + P.cellsOf e ≤ n * P.cellsOf e := by
      have : (i + 1) * P.cellsOf e ≤ n * P.cellsOf e := Nat.mul_le_mul_right _ (by omega)
      rw [Nat.add_mul, Nat.one_mul] at this; exact this
    have hlx : ((xs.drop (i * P.cellsOf e)).take (P.cellsOf e)).length = P.cellsOf e := by simp; omega
    have hly : ((ys.drop (i * P.cellsOf e)).take (P.cellsOf e)).length = P.cellsOf e := by simp; omega
    have e1 : xs.drop (i * P.cellsOf e) = (xs.drop (i * P.cellsOf e)).take (P.cellsOf e) ++ xs.drop ((i + 1) * P.cellsOf e) := by
      rw [Nat.add_mul, Nat.one_mul, ← List.drop_drop, List.take_append_drop]
    have e2 : ys.drop (i * P.cellsOf e) = (ys.drop (i * P.cellsOf e)).take (P.cellsOf e) ++ ys.drop ((i + 1) * P.cellsOf e) := by
      rw [Nat.add_mul, Nat.one_mul, ← List.drop_drop, List.take_append_drop]
    rw [e1, e2] at he
    obtain ⟨r1, r2, h1, h2, rfl⟩ := eqK_append (by rw [hlx, hly]) he
    have p1 := run_partQ (xs := xs) (off := i * P.cellsOf e) f1 hc0 f2 f3 rfl hlx w
    have p2 := run_partQ (xs := ys) (off := i * P.cellsOf e) f1 hc0 f2 f3 rfl hly w
    have p3 := he0 w _ _ r1 hlx h1 hty.1
    have ih := run_eqItemsQ he0 f1 f2 f3 hc0 xs ys n hx hy k (i + 1) r2 (by omega) h2 hty.2 w
    simp only [List.range'_succ, Op.eqItems, Sem.run_bind, p1, p2, p3, Result.andThen_ok]
    cases r1
    · simp
    · simpa using ih
theorem eqQ_of_flat (d : Nat) : ∀ (m : Nat) (t : TypeId), flatQ P m t = true → EqQ P (d + m) m t
  | 0, _, h => by cases h
  | m + 1, t, h => by
    have hh := h
    intro w a b r hla he hty
    unfold tyQ at hty
    have hlb : b.length = P.cellsOf t := by rw [← eqK_len he]; exact hla
    unfold flatQ at h
    cases hu : P.underlying t with
    | none => rw [hu] at h; cases h
    | some k =>
      rw [hu] at h hty
      cases k
      case int q =>
        have hna : aggB P t = false := by unfold aggB; rw [hu]
        have h1 := Nat.eq_of_beq_eq_true h
        unfold mkV; rw [hna]
        rw [h1] at hla hlb
        match a, b, hla, hlb, he, hty with
        | [.int k1 p], [.int k2 p'], _, _, he, hty =>
          have hk1 := kNum_inj hty
          simp only [eqK] at he
          cases hk : Nat.beq (kNum k1) (kNum k2) with
          | false => rw [hk] at he; cases he
          | true =>
            rw [hk] at he
            have hk2 := kNum_inj hk
            subst hk1; subst hk2
            simp only [cond_true, Option.some.injEq, Bool.and_true] at he
            subst he
            have := run_equalIn_int w (d + m) t q q p p' hu
            simp only [Bool.false_eq_true, if_false, List.headD_cons]
            rw [show d + (m + 1) = d + m + 1 from rfl, this]
            congr 1
      case bool =>
        have hna : aggB P t = false := by unfold aggB; rw [hu]
        have h1 := Nat.eq_of_beq_eq_true h
        unfold mkV; rw [hna]
        rw [h1] at hla hlb
        match a, b, hla, hlb, he, hty with
        | [.bool p], [.bool p'], _, _, he, hty =>
          simp only [eqK, Option.some.injEq, Bool.and_true] at he
          subst he
          have := run_equalIn_bool w (d + m) t p p' hu
          simp only [Bool.false_eq_true, if_false, List.headD_cons]
          rw [show d + (m + 1) = d + m + 1 from rfl, this]
      case struct fs =>
        have ha : aggB P t = true := by unfold aggB; rw [hu]
        simp only [Bool.and_eq_true, Bool.not_eq_true'] at h
        unfold mkV; rw [ha]
        have hfo : P.fieldsOf t = fs := by unfold Program.fieldsOf; rw [hu]
        have hrs := run_equalIn_struct (w := w) (d + m) t ⟨a⟩ ⟨b⟩ (by rw [hfo]; exact hu) h.1
        simp only [if_true]
        rw [show d + (m + 1) = d + m + 1 from rfl, hrs, hfo]
        exact run_eqFieldsQ (fun t' h' => eqQ_of_flat d m t' h') (fun t' h' => flatQ_facts h') a b _ hla hlb fs.toList 0 r h.2 he hty w
      case array n e =>
        have ha : aggB P t = true := by unfold aggB; rw [hu]
        simp only [Bool.and_eq_true, Bool.not_eq_true'] at h
        obtain ⟨⟨⟨h1, h2⟩, h3⟩, h4⟩ := h
        have h4 := Nat.eq_of_beq_eq_true h4
        obtain ⟨f1, f2, f3⟩ := flatQ_facts h2
        obtain ⟨i, hi⟩ := f1
        unfold mkV; rw [ha]
        simp only [if_true]
        rw [show d + (m + 1) = d + m + 1 from rfl, run_equalIn_array w (d + m) ⟨a⟩ ⟨b⟩ hu hi, List.range_eq_range']
        exact run_eqItemsQ (eqQ_of_flat d m e h2) ⟨i, hi⟩ f2 f3 (fun e0 => by rw [e0] at h3; cases h3) a b n (by rw [h4]; exact hla) (by rw [h4]; exact hlb) n 0 r (by omega) (by rw [Nat.zero_mul]; exact he) hty w
      all_goals cases h
/-- A type whose values == compares cell by cell. -/
structure CmpOk (P : Program) (t : TypeId) (n : Nat) : Prop where
  flat : flatQ P 4 t = true
  agg : aggB P t = true
  guard : P.eqGuardType P.depth t = false
  cells : P.cellsOf t = n
theorem run_equalQ {t : TypeId} {n : Nat} (ct : CmpOk P t n) {a b : List Value} {r : Bool} (hl : a.length = n) (hty : tyQ P 4 t a = true) (he : eqK a b = some r) (w : World) : (Op.equal t (.agg ⟨a⟩) (.agg ⟨b⟩)).run P w = .ok r w := by
  have h := eqQ_of_flat 9996 4 t ct.flat w a b r (by rw [ct.cells]; exact hl) he hty
  unfold mkV at h
  rw [ct.agg] at h
  exact h
variable [Base] {F : Heap} {N : Nat}
theorem ev_eqQ {fr : Slots} {cs : Conds} {h : Heap} {o : Oper} {t t' : TypeId} {n : Nat} {x y : Operand} {a b : List Value} {r : Bool} (ho : o.op = .binOp .eql t x y t') (hx : evO fr x = some (.agg ⟨a⟩)) (hy : evO fr y = some (.agg ⟨b⟩)) (ct : CmpOk P t n) (hl : a.length = n) (hty : tyQ P 4 t a = true) (he : eqK a b = some r) :
    Ev P F N fr cs h o (.bool r) := by
  refine Ev.of_run fun ac hf w _ => ?_
  simp [execOp, ho, hf.ev hx, hf.ev hy, eqGuard, binOp, run_equalQ ct hl hty he, ct.guard]
theorem ev_neqQ {fr : Slots} {cs : Conds} {h : Heap} {o : Oper} {t t' : TypeId} {n : Nat} {x y : Operand} {a b : List Value} {r : Bool} (ho : o.op = .binOp .neq t x y t') (hx : evO fr x = some (.agg ⟨a⟩)) (hy : evO fr y = some (.agg ⟨b⟩)) (ct : CmpOk P t n) (hl : a.length = n) (hty : tyQ P 4 t a = true) (he : eqK a b = some r) :
    Ev P F N fr cs h o (.bool (!r)) := by
  refine Ev.of_run fun ac hf w _ => ?_
  simp [execOp, ho, hf.ev hx, hf.ev hy, eqGuard, binOp, run_equalQ ct hl hty he, ct.guard]
end
end Go.SL
