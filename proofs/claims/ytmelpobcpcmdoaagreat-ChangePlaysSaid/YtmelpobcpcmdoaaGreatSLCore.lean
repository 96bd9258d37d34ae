/- The separation layer: facts on named blocks of memory, and the walk's rules over them. It proves no statement by itself. -/
import Derived.WalkKit
import Derived.Deep.Quiet
import Derived.KernelRfl
set_option autoImplicit false
namespace Go.SL

/-! ### Heaps -/
abbrev Heap := List (Nat × Obj)

/-- The world in which the outermost call began. -/
class Base where
  w0 : World
variable [Base]
/-- What no call of ours turns: the outer world, the tape, the streams; no block goes. -/
structure Kept (w : World) : Prop where
  os : w.os = Base.w0.os
  tape : w.tape = Base.w0.tape
  output : w.output = Base.w0.output
  size : Base.w0.heap.size ≤ w.heap.size

structure Sat (w : World) (h : Heap) : Prop where
  kept : Kept w
  nd : (h.map Prod.fst).Nodup
  all : ∀ p ∈ h, w.heap[p.1]? = some p.2

theorem Sat.perm {w : World} {h h' : Heap} (hp : h.Perm h') (s : Sat w h) : Sat w h' :=
  ⟨s.kept, (hp.map Prod.fst).nodup_iff.1 s.nd, fun p m => s.all p (hp.mem_iff.2 m)⟩

theorem Sat.sub {w : World} {h h' : Heap} (hs : h'.Sublist h) (s : Sat w h) : Sat w h' :=
  ⟨s.kept, s.nd.sublist (hs.map Prod.fst), fun p m => s.all p (hs.subset m)⟩

theorem Sat.drew {w : World} {h : Heap} {n : Nat} (s : Sat w h) : Sat { w with drawn := n } h := ⟨⟨s.kept.os, s.kept.tape, s.kept.output, s.kept.size⟩, s.nd, s.all⟩

theorem Sat.lt {w : World} {h : Heap} {p : Nat × Obj} (s : Sat w h) (m : p ∈ h) : p.1 < w.heap.size := by
  have := s.all p m
  exact (Array.getElem?_eq_some_iff.1 this).1

theorem Sat.alloc {w : World} {h : Heap} (s : Sat w h) (o : Obj) : Sat { w with heap := w.heap.push o } ((w.heap.size, o) :: h) := by
  refine ⟨⟨s.kept.os, s.kept.tape, s.kept.output, ?_⟩, ?_, ?_⟩
  · have := s.kept.size
    simp only [Array.size_push]; omega
  · simp only [List.map_cons, List.nodup_cons]
    refine ⟨fun hm => ?_, s.nd⟩
    obtain ⟨p, hp, he⟩ := List.mem_map.1 hm
    have := s.lt hp
    omega
  · intro p m
    rcases List.mem_cons.1 m with rfl | m
    · simp
    · have h1 := s.all p m
      have h2 := s.lt m
      show (w.heap.push o)[p.1]? = _
      rw [Array.getElem?_push_lt h2]
      rw [Array.getElem?_eq_getElem h2] at h1
      exact h1

theorem Sat.mod {w : World} {h : Heap} {b : Nat} {o : Obj} (s : Sat w ((b, o) :: h)) (f : Obj → Obj) : Sat { w with heap := w.heap.modify b f } ((b, f o) :: h) := by
  have h0 := s.nd
  simp only [List.map_cons, List.nodup_cons] at h0
  refine ⟨⟨s.kept.os, s.kept.tape, s.kept.output, by simpa using s.kept.size⟩, by simp only [List.map_cons, List.nodup_cons]; exact h0, ?_⟩
  intro p m
  rcases List.mem_cons.1 m with rfl | m
  · have h1 := s.all (b, o) (List.mem_cons_self ..)
    show (w.heap.modify b f)[b]? = _
    rw [Array.getElem?_modify]
    simp only [if_true] 
    simp only at h1
    rw [h1]; rfl
  · have h1 := s.all p (List.mem_cons_of_mem _ m)
    have hne : b ≠ p.1 := fun e => h0.1 (List.mem_map.2 ⟨p, m, e.symm⟩)
    show (w.heap.modify b f)[p.1]? = _
    rw [Array.getElem?_modify, if_neg hne]
    exact h1

theorem Sat.cell {w : World} {h : Heap} {b off : Nat} {c : Array Value} {e : TypeId} {fz : Nat × Nat} (s : Sat w h) (m : (b, Obj.cells c e fz) ∈ h) :
    w.cell? ⟨b, off, none⟩ = c[off]? := by
  have := s.all _ m
  simp only at this
  unfold World.cell?
  simp only [this]
  rfl

/-! ### Counting: two heaps that are each other's permutation -/
noncomputable def one (x y : Nat × Obj) : Nat := open Classical in if x = y then 1 else 0
noncomputable def cnt (x : Nat × Obj) : Heap → Nat
  | [] => 0
  | y :: l => one x y + cnt x l
omit [Base] in
theorem cnt_nil (x : Nat × Obj) : cnt x [] = 0 := rfl
omit [Base] in
theorem cnt_cons (x y : Nat × Obj) (l : Heap) : cnt x (y :: l) = one x y + cnt x l := rfl
omit [Base] in
theorem cnt_append (x : Nat × Obj) (l m : Heap) : cnt x (l ++ m) = cnt x l + cnt x m := by
  induction l with
  | nil => simp [cnt_nil]
  | cons y l ih => simp only [List.cons_append, cnt_cons, ih]; omega
omit [Base] in
theorem perm_of_cnt {l m : Heap} (h : ∀ x, cnt x l = cnt x m) : l.Perm m := by
  classical
  refine List.perm_iff_count.2 fun x => ?_
  have key : ∀ l : Heap, l.count x = cnt x l := by
    intro l
    induction l with
    | nil => rfl
    | cons y l ih =>
      rw [List.count_cons, ih, cnt_cons]
      unfold one
      by_cases e : x = y
      · subst e; simp; omega
      · have e' : ¬ (y == x) = true := by simpa using fun h => e h.symm
        rw [if_neg e, if_neg e']; omega
  rw [key, key]; exact h x

/-! ### Frames -/
abbrev Slots := List (Nat × Value)
abbrev Conds := List (Nat × Bool × Nat × Value)

def lk : Slots → Nat → Option Value
  | [], _ => none
  | (k, v) :: r, i => bif Nat.beq k i then some v else lk r i

def under : Conds → Nat → Bool → Slots → Slots
  | [], _, _, fr => fr
  | (g, b, d, v) :: r, i, c, fr => bif (Nat.beq g i && (b == c)) then (d, v) :: under r i c fr else under r i c fr

structure Fits (N : Nat) (fr : Slots) (cs : Conds) (a : Act) : Prop where
  defers : a.defers = []
  size : a.tmps.size = N
  get : ∀ i v, lk fr i = some v → a.tmps[i]? = some v
  cond : ∀ g b d v, (g, b, d, v) ∈ cs → a.tmps[g]? = some (.bool b) → a.tmps[d]? = some v
  other : ∀ g b d v, (g, b, d, v) ∈ cs → a.tmps[g]? ≠ some (.bool b) → a.tmps[d]? = some undef

def evO (fr : Slots) : Operand → Option Value
  | .tmp t => lk fr t
  | .const v => some v
  | .global g => some (.pointer (some ⟨g, 0, none⟩))
  | .func f => some (.func (.func f) #[] #[])

omit [Base] in
theorem Fits.ev {N : Nat} {fr : Slots} {cs : Conds} {a : Act} (f : Fits N fr cs a) {x : Operand} {v : Value} (h : evO fr x = some v) : a.eval x = v := by
  cases x with
  | tmp t =>
    have := f.get t v h
    show a.tmps.getD t undef = v
    rw [Array.getD_eq_getD_getElem?, this]; rfl
  | const u => exact Option.some.inj h
  | global g => exact Option.some.inj h
  | func g => exact Option.some.inj h

/-- Each slot is written once in a statement's region: nothing that is told under a condition speaks of it. -/
def freshIn (d : Nat) : Conds → Bool
  | [] => true
  | (g, _, d', _) :: r => !(Nat.beq g d) && !(Nat.beq d' d) && freshIn d r

omit [Base] in
theorem freshIn_spec {d : Nat} {cs : Conds} (h : freshIn d cs = true) : ∀ g b d' v, (g, b, d', v) ∈ cs → g ≠ d ∧ d' ≠ d := by
  induction cs with
  | nil => intro g b d' v m; cases m
  | cons x r ih =>
    obtain ⟨g0, b0, d0, v0⟩ := x
    simp only [freshIn, Bool.and_eq_true, Bool.not_eq_true'] at h
    intro g b d' v m
    rcases List.mem_cons.1 m with e | m
    · cases e
      exact ⟨fun e => by subst e; simp at h, fun e => by subst e; simp at h⟩
    · exact ih h.2 g b d' v m

omit [Base] in
theorem Fits.put {N d : Nat} {fr : Slots} {cs : Conds} {a : Act} {v : Value} (f : Fits N fr cs a) (hd : Nat.blt d N = true) (hf : freshIn d cs = true) : Fits N ((d, v) :: fr) cs (a.put (some d) v) := by
  have hd : d < N := by rw [Nat.blt_eq] at hd; exact hd
  refine ⟨f.defers, by simpa [Act.put] using f.size, fun i u h => ?_, fun g b d' u m h => ?_, fun g b d' u m h => ?_⟩
  · show (a.tmps.setIfInBounds d v)[i]? = _
    unfold lk at h
    by_cases e : d = i
    · subst e
      have hb : Nat.beq d d = true := Nat.beq_refl d
      rw [hb] at h
      rw [Array.getElem?_setIfInBounds_self_of_lt (by rw [f.size]; exact hd)]; exact h
    · have : Nat.beq d i = false := by
        cases hb : Nat.beq d i with
        | false => rfl
        | true => exact absurd (Nat.eq_of_beq_eq_true hb) e
      rw [this] at h
      rw [Array.getElem?_setIfInBounds_ne e]; exact f.get i u h
  · have hs := freshIn_spec hf _ _ _ _ m
    change (a.tmps.setIfInBounds d v)[g]? = _ at h
    rw [Array.getElem?_setIfInBounds_ne (Ne.symm hs.1)] at h
    show (a.tmps.setIfInBounds d v)[d']? = _
    rw [Array.getElem?_setIfInBounds_ne (Ne.symm hs.2)]; exact f.cond g b d' u m h
  · have hs := freshIn_spec hf _ _ _ _ m
    change (a.tmps.setIfInBounds d v)[g]? ≠ _ at h
    rw [Array.getElem?_setIfInBounds_ne (Ne.symm hs.1)] at h
    show (a.tmps.setIfInBounds d v)[d']? = _
    rw [Array.getElem?_setIfInBounds_ne (Ne.symm hs.2)]; exact f.other g b d' u m h

omit [Base] in
theorem Fits.under {N g : Nat} {b : Bool} {fr : Slots} {cs : Conds} {a : Act} (f : Fits N fr cs a) (hg : a.tmps[g]? = some (.bool b)) : Fits N (under cs g b fr) cs a := by
  refine ⟨f.defers, f.size, ?_, f.cond, f.other⟩
  have key : ∀ cs' : Conds, (∀ x, x ∈ cs' → x ∈ cs) → ∀ i v, lk (SL.under cs' g b fr) i = some v → a.tmps[i]? = some v := by
    intro cs'
    induction cs' with
    | nil => intro _ i v h; exact f.get i v h
    | cons x r ih =>
      obtain ⟨g0, b0, d0, v0⟩ := x
      intro hsub i v h
      unfold SL.under at h
      cases hc : (Nat.beq g0 g && (b0 == b)) with
      | false => rw [hc] at h; exact ih (fun x m => hsub x (List.mem_cons_of_mem _ m)) i v h
      | true =>
        rw [hc] at h
        simp only [Bool.and_eq_true, beq_iff_eq] at hc
        have eg := Nat.eq_of_beq_eq_true hc.1
        have eb := hc.2
        subst eg; subst eb
        simp only [cond_true] at h
        unfold lk at h
        by_cases e : d0 = i
        · subst e
          have hb : Nat.beq d0 d0 = true := Nat.beq_refl d0
          rw [hb] at h
          simp only [cond_true, Option.some.injEq] at h
          subst h
          exact f.cond _ _ _ _ (hsub _ (List.mem_cons_self ..)) hg
        · have : Nat.beq d0 i = false := by
            cases hb : Nat.beq d0 i with
            | false => rfl
            | true => exact absurd (Nat.eq_of_beq_eq_true hb) e
          rw [this] at h
          exact ih (fun x m => hsub x (List.mem_cons_of_mem _ m)) i v h
  exact key cs (fun x m => m)

omit [Base] in
theorem Fits.drop {N : Nat} {fr : Slots} {cs : Conds} {a : Act} (f : Fits N fr cs a) : Fits N fr [] a :=
  ⟨f.defers, f.size, f.get, fun _ _ _ _ m => (by cases m), fun _ _ _ _ m => (by cases m)⟩

omit [Base] in
/-- Fewer slots told. -/
theorem Fits.keep {N : Nat} {fr fr' : Slots} {cs : Conds} {a : Act} (f : Fits N fr cs a) (h : ∀ i v, lk fr' i = some v → lk fr i = some v) : Fits N fr' [] a :=
  ⟨f.defers, f.size, fun i v hv => f.get i v (h i v hv), fun _ _ _ _ m => (by cases m), fun _ _ _ _ m => (by cases m)⟩

def keepB (fr : Slots) : List Nat → Slots
  | [] => []
  | i :: r => match lk fr i with
    | some v => (i, v) :: keepB fr r
    | none => keepB fr r

omit [Base] in
theorem keepB_spec {fr : Slots} {l : List Nat} : ∀ i v, lk (keepB fr l) i = some v → lk fr i = some v := by
  induction l with
  | nil => intro i v h; cases h
  | cons j r ih =>
    intro i v h
    unfold keepB at h
    split at h
    · rename_i u hu
      unfold lk at h
      by_cases e : j = i
      · subst e
        have hb : Nat.beq j j = true := Nat.beq_refl j
        rw [hb] at h
        rw [hu]; exact h
      · have : Nat.beq j i = false := by
          cases hb : Nat.beq j i with
          | false => rfl
          | true => exact absurd (Nat.eq_of_beq_eq_true hb) e
        rw [this] at h
        exact ih i v h
    · exact ih i v h

/-! ### Statements -/
section
variable (P : Program) (F : Heap) (N : Nat)

def liftQ (Q : Exit → Slots → Heap → Prop) : Exit → Act → World → Prop :=
  fun e a w => ∃ fr h, Q e fr h ∧ Fits N fr [] a ∧ Sat w (h ++ F)

structure RunC (c : Code) (fr : Slots) (h : Heap) (Q : Exit → Slots → Heap → Prop) : Prop where
  go : ∀ a w, Fits N fr [] a → Sat w (h ++ F) → c.wp P (liftQ F N Q) a w

def Then (K : Slots → Heap → Prop) (Q : Exit → Slots → Heap → Prop) : Exit → Slots → Heap → Prop
  | .normal, fr, h => K fr h
  | e, fr, h => Q e fr h

def InBlock (id : Nat) (Q : Exit → Slots → Heap → Prop) : Exit → Slots → Heap → Prop
  | .exit id', fr, h => bif Nat.beq id' id then Q .normal fr h else Q (.exit id') fr h
  | e, fr, h => Q e fr h

/-- What a call does: under whatever frame it returns a value, its blocks stand as told. -/
structure Sp (f : FuncId) (args : List Value) (h : Heap) (Q : Value → Heap → Prop) : Prop where
  go : ∀ w, Sat w (h ++ F) → Calls P f args.toArray w fun e w' => ∃ v h', e = .returned v ∧ Q v h' ∧ Sat w' (h' ++ F)

/-- The call returns that value. -/
def Ret (x : Value) : Value → Heap → Prop := fun v _ => v = x
omit [Base] in
@[simp] theorem ret_iff (x v : Value) (h : Heap) : Ret x v h ↔ v = x := Iff.rfl

def wpL (ops : Array Oper) (Q : Exit → Act → World → Prop) : List Oper → Act → World → Prop
  | [], a, w => Q .normal a w
  | o :: rest, a, w => if Region.wanted o (yielded ops a.tmps) then o.wp P a w (wpL ops Q rest) Q else wpL ops Q rest (a.put o.dst undef) w

structure RunL (ops l : List Oper) (fr : Slots) (cs : Conds) (h : Heap) (Q : Exit → Slots → Heap → Prop) : Prop where
  go : ∀ a w, Fits N fr cs a → Sat w (h ++ F) → wpL P ⟨ops⟩ (liftQ F N Q) l a w

structure RunQ (ops l : List Oper) (fr : Slots) (cs : Conds) (h : Heap) (K : Slots → Prop) : Prop where
  go : ∀ a, Fits N fr cs a → wpQuiet P ⟨ops⟩ (fun w => Sat w (h ++ F)) (fun a' => ∃ fr', K fr' ∧ Fits N fr' [] a') l a

/-- One operation that leaves what is told of memory, and yields v. -/
structure Ev (fr : Slots) (cs : Conds) (h : Heap) (o : Oper) (v : Value) : Prop where
  go : ∀ a, Fits N fr cs a → ∀ w, Sat w (h ++ F) → o.quietAt P a (fun w => Sat w (h ++ F)) w v
end

section
variable {P : Program} {F : Heap} {N : Nat}

theorem Sp.mono {f : FuncId} {args : List Value} {h : Heap} {Q Q' : Value → Heap → Prop} (s : Sp P F f args h Q) (hq : ∀ v h', Q v h' → Q' v h') : Sp P F f args h Q' :=
  ⟨fun w hw => (s.go w hw).mono fun _ _ ⟨v, h', he, hQ, hs⟩ => ⟨v, h', he, hq _ _ hQ, hs⟩⟩

theorem RunC.mono {c : Code} {fr : Slots} {h : Heap} {Q Q' : Exit → Slots → Heap → Prop} (r : RunC P F N c fr h Q) (hq : ∀ e fr h, Q e fr h → Q' e fr h) : RunC P F N c fr h Q' :=
  ⟨fun a w hf hs => wp_mono (r.go a w hf hs) fun _ _ _ ⟨fr, h, q, r⟩ => ⟨fr, h, hq _ _ _ q, r⟩⟩

theorem RunC.keep {c : Code} {fr fr' : Slots} {h : Heap} {Q : Exit → Slots → Heap → Prop} (hk : ∀ i v, lk fr' i = some v → lk fr i = some v) (r : RunC P F N c fr' h Q) : RunC P F N c fr h Q :=
  ⟨fun a w hf hs => r.go a w (hf.keep hk) hs⟩

theorem RunC.keepB {c : Code} {fr : Slots} {h : Heap} {Q : Exit → Slots → Heap → Prop} (l : List Nat) {fr' : Slots} (he : keepB fr l = fr') (r : RunC P F N c fr' h Q) : RunC P F N c fr h Q :=
  RunC.keep (fun i v hv => keepB_spec i v (by rw [he]; exact hv)) r

def keepK (fr : Slots) : List Nat → (Slots → Option Slots) → Option Slots
  | [], k => k []
  | i :: r, k => match lk fr i with
    | some v => keepK fr r fun t => k ((i, v) :: t)
    | none => none
omit [Base] in
theorem keepK_spec {fr : Slots} : ∀ (l : List Nat) (k : Slots → Option Slots) (r : Slots), keepK fr l k = some r → k (keepB fr l) = some r
  | [], k, r, h => h
  | i :: l, k, r, h => by
    unfold keepK at h
    split at h
    · rename_i v hv
      have := keepK_spec l _ r h
      unfold keepB; rw [hv]; exact this
    · cases h
/-- Fewer slots, the frame written out anew. -/
theorem RunC.keepK {c : Code} {fr : Slots} {h : Heap} {Q : Exit → Slots → Heap → Prop} (l : List Nat) {fr' : Slots} (he : keepK fr l some = some fr') (r : RunC P F N c fr' h Q) : RunC P F N c fr h Q :=
  RunC.keepB l (by have := keepK_spec l _ _ he; simpa using this) r

theorem RunC.perm {c : Code} {fr : Slots} {h h' : Heap} {Q : Exit → Slots → Heap → Prop} (hp : ∀ x, cnt x h = cnt x h') (r : RunC P F N c fr h' Q) : RunC P F N c fr h Q :=
  ⟨fun a w hf hs => r.go a w hf (hs.perm ((perm_of_cnt hp).append_right F))⟩

theorem RunL.perm {ops l : List Oper} {fr : Slots} {cs : Conds} {h h' : Heap} {Q : Exit → Slots → Heap → Prop} (hp : ∀ x, cnt x h = cnt x h') (r : RunL P F N ops l fr cs h' Q) : RunL P F N ops l fr cs h Q :=
  ⟨fun a w hf hs => r.go a w hf (hs.perm ((perm_of_cnt hp).append_right F))⟩

theorem RunC.drop {c : Code} {fr : Slots} {h h' : Heap} {Q : Exit → Slots → Heap → Prop} (hp : h'.Sublist h) (r : RunC P F N c fr h' Q) : RunC P F N c fr h Q :=
  ⟨fun a w hf hs => r.go a w hf (hs.sub (hp.append_right F))⟩

/-- What is told of some blocks is laid aside, to be read alone from here on. -/
theorem RunC.freeze {c : Code} {fr : Slots} {A : Heap} {Q : Exit → Slots → Heap → Prop} (r : RunC P (A ++ F) N c fr [] (fun e fr' h' => Q e fr' (h' ++ A))) : RunC P F N c fr A Q :=
  ⟨fun a w hf hs => wp_mono (r.go a w hf (by simpa using hs)) fun _ _ _ ⟨fr', h', q, hf', hs'⟩ => ⟨fr', h' ++ A, q, hf', by rw [List.append_assoc]; exact hs'⟩⟩
theorem RunC.freezeR {c : Code} {fr : Slots} {h A : Heap} {Q : Exit → Slots → Heap → Prop} (r : RunC P (A ++ F) N c fr h (fun e fr' h' => Q e fr' (h' ++ A))) : RunC P F N c fr (h ++ A) Q :=
  ⟨fun a w hf hs => wp_mono (r.go a w hf (by rw [← List.append_assoc]; exact hs)) fun _ _ _ ⟨fr', h', q, hf', hs'⟩ => ⟨fr', h' ++ A, q, hf', by rw [List.append_assoc]; exact hs'⟩⟩

/-! #### The code's rules -/
theorem run_skip {fr : Slots} {h : Heap} {Q : Exit → Slots → Heap → Prop} (q : Q .normal fr h) : RunC P F N .skip fr h Q :=
  ⟨fun _ _ hf hs => wp_skip ⟨fr, h, q, hf, hs⟩⟩
theorem run_ret {fr : Slots} {h : Heap} {Q : Exit → Slots → Heap → Prop} (q : Q .ret fr h) : RunC P F N .ret fr h Q :=
  ⟨fun _ _ hf hs => wp_ret ⟨fr, h, q, hf, hs⟩⟩
theorem run_exit {id : Nat} {fr : Slots} {h : Heap} {Q : Exit → Slots → Heap → Prop} (q : Q (.exit id) fr h) : RunC P F N (.exit id) fr h Q :=
  ⟨fun _ _ hf hs => wp_exit ⟨fr, h, q, hf, hs⟩⟩
theorem run_seq {x y : Code} {fr : Slots} {h : Heap} {Q : Exit → Slots → Heap → Prop} (r : RunC P F N x fr h (Then (fun fr h => RunC P F N y fr h Q) Q)) : RunC P F N (.seq x y) fr h Q :=
  ⟨fun a w hf hs => wp_seq (wp_mono (r.go a w hf hs) fun e a' w' ⟨fr', h', q, hf', hs'⟩ => by
    cases e with
    | normal => exact RunC.go q a' w' hf' hs'
    | _ => exact ⟨fr', h', q, hf', hs'⟩)⟩
theorem run_cond {c : Operand} {x y : Code} {fr : Slots} {h : Heap} {Q : Exit → Slots → Heap → Prop} {b : Bool} (hc : evO fr c = some (.bool b))
    (ht : b = true → RunC P F N x fr h Q) (he : b = false → RunC P F N y fr h Q) : RunC P F N (.cond c x y) fr h Q :=
  ⟨fun a w hf hs => wp_cond_split (hf.ev hc) (fun e => (ht e).go a w hf hs) (fun e => (he e).go a w hf hs)⟩
theorem run_condT {c : Operand} {x y : Code} {fr : Slots} {h : Heap} {Q : Exit → Slots → Heap → Prop} {b : Bool} (hc : evO fr c = some (.bool b)) (hb : b = true)
    (r : RunC P F N x fr h Q) : RunC P F N (.cond c x y) fr h Q := run_cond hc (fun _ => r) (fun e => by rw [hb] at e; cases e)
theorem run_condF {c : Operand} {x y : Code} {fr : Slots} {h : Heap} {Q : Exit → Slots → Heap → Prop} {b : Bool} (hc : evO fr c = some (.bool b)) (hb : b = false)
    (r : RunC P F N y fr h Q) : RunC P F N (.cond c x y) fr h Q := run_cond hc (fun e => by rw [hb] at e; cases e) (fun _ => r)
theorem run_block {id : Nat} {c : Code} {fr : Slots} {h : Heap} {Q : Exit → Slots → Heap → Prop} (r : RunC P F N c fr h (InBlock id Q)) : RunC P F N (.block id c) fr h Q :=
  ⟨fun a w hf hs => wp_block (wp_mono (r.go a w hf hs) fun e a' w' ⟨fr', h', q, hf', hs'⟩ => by
    cases e with
    | exit id' =>
      show if id' = id then _ else _
      simp only [InBlock] at q
      by_cases e : id' = id
      · subst e
        have hb : Nat.beq id' id' = true := Nat.beq_refl id'
        rw [hb] at q
        rw [if_pos rfl]; exact ⟨fr', h', q, hf', hs'⟩
      · have : Nat.beq id' id = false := by
          cases hb : Nat.beq id' id with
          | false => rfl
          | true => exact absurd (Nat.eq_of_beq_eq_true hb) e
        rw [this] at q
        rw [if_neg e]; exact ⟨fr', h', q, hf', hs'⟩
    | _ => exact ⟨fr', h', q, hf', hs'⟩)⟩
omit [Base] in
theorem then_normal {K : Slots → Heap → Prop} {Q : Exit → Slots → Heap → Prop} {fr : Slots} {h : Heap} (k : K fr h) : Then K Q .normal fr h := k
omit [Base] in
theorem then_ret {K : Slots → Heap → Prop} {Q : Exit → Slots → Heap → Prop} {fr : Slots} {h : Heap} (k : Q .ret fr h) : Then K Q .ret fr h := k
omit [Base] in
theorem then_exit {K : Slots → Heap → Prop} {Q : Exit → Slots → Heap → Prop} {fr : Slots} {h : Heap} {id : Nat} (k : Q (.exit id) fr h) : Then K Q (.exit id) fr h := k
omit [Base] in
theorem in_normal {id : Nat} {Q : Exit → Slots → Heap → Prop} {fr : Slots} {h : Heap} (k : Q .normal fr h) : InBlock id Q .normal fr h := k
omit [Base] in
theorem in_ret {id : Nat} {Q : Exit → Slots → Heap → Prop} {fr : Slots} {h : Heap} (k : Q .ret fr h) : InBlock id Q .ret fr h := k
omit [Base] in
theorem in_exit {id : Nat} {Q : Exit → Slots → Heap → Prop} {fr : Slots} {h : Heap} (k : Q .normal fr h) : InBlock id Q (.exit id) fr h := by
  show bif Nat.beq id id then _ else _
  rw [show Nat.beq id id = true from Nat.beq_refl id]; exact k
omit [Base] in
theorem in_pass {id id' : Nat} {Q : Exit → Slots → Heap → Prop} {fr : Slots} {h : Heap} (hne : Nat.beq id' id = false) (k : Q (.exit id') fr h) : InBlock id Q (.exit id') fr h := by
  show bif Nat.beq id' id then _ else _
  rw [hne]; exact k

/-- A loop, by states: each round leads to a state with a smaller measure, or out. -/
theorem run_loop {σ : Type} (fr : σ → Slots) (h : σ → Heap) (I : σ → Prop) (μ : σ → Nat) {c : Code} {Q : Exit → Slots → Heap → Prop}
    (round : ∀ s, I s → RunC P F N c (fr s) (h s) (Then (fun fr' h' => ∃ s', I s' ∧ μ s' < μ s ∧ (∀ i v, lk (fr s') i = some v → lk fr' i = some v) ∧ (∃ G, ∀ x, cnt x h' = cnt x (h s' ++ G))) Q))
    {s : σ} (hI : I s) : RunC P F N (.loop c) (fr s) (h s) Q := by
  refine ⟨fun a w hf hs => ?_⟩
  -- the state is carried by a measure on the pair: by strong induction over n, one round at a time
  have key : ∀ n s, μ s = n → I s → ∀ a w, Fits N (fr s) [] a → Sat w (h s ++ F) → ∀ (b : Frame) (k : List Item) (cs : List Frame),
      ∃ e a' w', liftQ F N Q e a' w' ∧ Arrives P (lone (b.at a (.code c :: .inLoop c :: k)) cs w) b k cs e a' w' := by
    intro n
    induction n using Nat.strongRecOn with
    | _ n ih =>
      intro s hn hI a w hf hs b k cs
      obtain ⟨e, a₁, w₁, hq, harr⟩ := (round s hI).go a w hf hs b (.inLoop c :: k) cs
      obtain ⟨fr', h', q, hf', hs'⟩ := hq
      cases e with
      | normal =>
        obtain ⟨s', hI', hlt, hfr, G, hh⟩ := q
        obtain ⟨e₂, a₂, w₂, hq₂, harr₂⟩ := ih (μ s') (hn ▸ hlt) s' rfl hI' a₁ w₁ (hf'.keep hfr) (((hs'.perm ((perm_of_cnt hh).append_right F))).sub ((List.sublist_append_left (h s') G).append_right F)) b k cs
        exact ⟨e₂, a₂, w₂, hq₂, .of_steps (Steps.trans harr (.one step_inLoop)) harr₂⟩
      | exit id => exact ⟨_, a₁, w₁, ⟨fr', h', q, hf', hs'⟩, .pass (x := .inLoop c) rfl (fun _ _ => .inl (by simp)) harr⟩
      | goto l => exact ⟨_, a₁, w₁, ⟨fr', h', q, hf', hs'⟩, .pass (x := .inLoop c) rfl (fun _ _ => .inl (by simp)) harr⟩
      | ret => exact ⟨_, a₁, w₁, ⟨fr', h', q, hf', hs'⟩, .pass (x := .inLoop c) rfl (fun _ _ => .inl (by simp)) harr⟩
      | panic ch => exact ⟨_, a₁, w₁, ⟨fr', h', q, hf', hs'⟩, .pass (x := .inLoop c) rfl (fun _ _ => .inl (by simp)) harr⟩
      | outgrown => exact ⟨_, a₁, w₁, ⟨fr', h', q, hf', hs'⟩, .pass (x := .inLoop c) rfl (fun _ _ => .inl (by simp)) harr⟩
  intro b k cs
  obtain ⟨e, a', w', hq, harr⟩ := key _ s rfl hI a w hf hs b k cs
  exact ⟨e, a', w', hq, .of_steps (.one step_loop) harr⟩

/-- The same, the slots that the loop needs named by their numbers. -/
theorem run_loopK {σ : Type} (L : List Nat) (fr : σ → Slots) (h : σ → Heap) (I : σ → Prop) (μ : σ → Nat) {c : Code} {Q : Exit → Slots → Heap → Prop} {fr0 : Slots} {h0 : Heap} (s : σ) (hI : I s) (hk : keepB fr0 L = fr s) (hh : ∀ x, cnt x h0 = cnt x (h s))
    (round : ∀ s, I s → RunC P F N c (fr s) (h s) (Then (fun fr' h' => ∃ s', I s' ∧ μ s' < μ s ∧ keepB fr' L = fr s' ∧ ∃ G, ∀ x, cnt x h' = cnt x (h s' ++ G)) Q)) : RunC P F N (.loop c) fr0 h0 Q := by
  refine RunC.keepB L hk (RunC.perm hh ?_)
  refine run_loop fr h I μ (fun s hs => (round s hs).mono ?_) hI
  intro e fr' h' q
  cases e with
  | normal =>
    obtain ⟨s', h1, h2, h3, h4⟩ := q
    exact ⟨s', h1, h2, fun i v hv => keepB_spec i v (by rw [h3]; exact hv), h4⟩
  | _ => exact q
end
end Go.SL
