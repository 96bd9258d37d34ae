/- The separation layer: maps whose keys are pairs of numbers, as sets. It proves no statement by itself. -/
import Derived.Test.YtiilndlgfgikbaaSLEq
set_option autoImplicit false
set_option linter.unusedSimpArgs false
set_option linter.unusedSectionVars false
set_option linter.unusedVariables false
namespace Go.SL
def pairV (p : Int × Int) : Value := .agg ⟨[.int .i64 p.1, .int .i64 p.2]⟩
def setE : Nat → List (Int × Int) → List MapEntry
  | _, [] => []
  | n, p :: l => ⟨pairV p, .bool true, n⟩ :: setE (n + 1) l
def setO (l : List (Int × Int)) : Obj := .map ⟨setE 0 l⟩ l.length
theorem setE_len : ∀ (n : Nat) (l : List (Int × Int)), (setE n l).length = l.length
  | _, [] => rfl
  | n, _ :: l => by simp only [setE, List.length_cons, setE_len (n + 1) l]
theorem setE_append : ∀ (n : Nat) (l : List (Int × Int)) (p : Int × Int), setE n (l ++ [p]) = setE n l ++ [⟨pairV p, .bool true, n + l.length⟩]
  | n, [], p => rfl
  | n, x :: l, p => by
    simp only [List.cons_append, setE, setE_append (n + 1) l p, List.length_cons]
    congr 4; omega
/-- A map from pairs of numbers to truths. -/
structure PairMap (P : Program) (t k e v : TypeId) : Prop where
  map : P.underlying t = some (.map k v)
  key : P.underlying k = some (.array 2 e)
  elem : ∃ q, P.underlying e = some (.int q)
  cmp : CmpOk P k 2
  one : sizeB P e 1 = true
  ty : ∀ p : Int × Int, tyQ P 4 k [.int .i64 p.1, .int .i64 p.2] = true
  zero : ((P.info? v).bind fun i => i.zero) = some (.bool false)
section
variable {P : Program} {t k e v : TypeId} (pm : PairMap P t k e v)
include pm
theorem PairMap.check (b : Bool) (p : Int × Int) (w : World) : (Instr.checkKey b 10000 k (pairV p)).run P w = .ok () w := by
  obtain ⟨q, hq⟩ := pm.elem
  have hsc : scalarB P e = true := by unfold scalarB; rw [hq]
  have part0 : ∀ i, i < 2 → ∃ n, (part e ⟨[.int .i64 p.1, .int .i64 p.2]⟩ i).run P w = .ok (.int .i64 n) w := by
    intro i hi
    unfold part
    simp only [Sem.run_bind, run_isAgg_scalar hsc, Result.andThen_ok, Bool.false_eq_true, if_false]
    rcases (by omega : i = 0 ∨ i = 1) with rfl | rfl
    · exact ⟨p.1, by simp⟩
    · exact ⟨p.2, by simp⟩
  obtain ⟨n0, h0⟩ := part0 0 (by omega)
  obtain ⟨n1, h1⟩ := part0 1 (by omega)
  have hs := run_sizeOf pm.one w
  have hin : ∀ n, (Instr.checkKey b 9999 e (.int .i64 n)).run P w = .ok () w := by
    intro n
    unfold Instr.checkKey
    simp [run_underlying hq]
  unfold pairV Instr.checkKey
  simp only [Sem.run_bind, run_underlying pm.key, Result.andThen_ok]
  simp only [Std.Legacy.Range.forIn_eq_forIn_range', Std.Legacy.Range.size, Nat.sub_zero, Nat.add_one_sub_one, Nat.div_one]
  have hr2 : List.range' 0 2 = [0, 1] := rfl
  rw [hr2]
  simp [hs, h0, h1, hin]
theorem PairMap.eq (p q : Int × Int) (w : World) : (Op.equal k (pairV p) (pairV q)).run P w = .ok (decide (p = q)) w := by
  have := run_equalQ pm.cmp (a := [.int .i64 p.1, .int .i64 p.2]) (b := [.int .i64 q.1, .int .i64 q.2]) (r := decide (p.1 = q.1) && (decide (p.2 = q.2) && true)) rfl (pm.ty p) rfl w
  rw [show decide (p = q) = (decide (p.1 = q.1) && (decide (p.2 = q.2) && true)) by
    obtain ⟨a, b⟩ := p; obtain ⟨c, d⟩ := q
    simp [Prod.mk.injEq]]
  exact this
theorem PairMap.find (p : Int × Int) (w : World) : ∀ (l : List (Int × Int)) (n i : Nat), ∃ r, (Instr.findAsking k (pairV p) (setE n l) i).run P w = .ok r w ∧ (p ∈ l → ∃ j, r = some (j, .bool true)) ∧ (p ∉ l → r = none)
  | [], n, i => ⟨none, rfl, fun h => absurd h (by simp), fun _ => rfl⟩
  | x :: l, n, i => by
    unfold setE Instr.findAsking
    have he := pm.eq p x w
    by_cases h : p = x
    · refine ⟨some (i, .bool true), ?_, fun _ => ⟨i, rfl⟩, fun hn => absurd (by rw [h]; simp) hn⟩
      rw [decide_eq_true h] at he
      simp [he]
    · obtain ⟨r, h1, h2, h3⟩ := PairMap.find p w l (n + 1) (i + 1)
      rw [decide_eq_false h] at he
      refine ⟨r, ?_, fun hm => h2 ?_, fun hn => h3 fun hm => hn (List.mem_cons_of_mem _ hm)⟩
      · simp [he, h1]
      · rcases List.mem_cons.1 hm with e | e
        · exact absurd e h
        · exact e
theorem PairMap.findKey (p : Int × Int) (w : World) (l : List (Int × Int)) : ∃ r, (Instr.findKey k (pairV p) (setE 0 l)).run P w = .ok r w ∧ (p ∈ l → ∃ j, r = some (j, .bool true)) ∧ (p ∉ l → r = none) := by
  unfold Instr.findKey
  cases l with
  | nil => exact ⟨none, by simp [run_underlying pm.key, setE, Instr.findNow], fun h => absurd h (by simp), fun _ => rfl⟩
  | cons x l =>
    obtain ⟨r, h1, h2, h3⟩ := pm.find p w (x :: l) 0 0
    refine ⟨r, ?_, h2, h3⟩
    have hn : Instr.findNow (.array 2 e) (pairV p) (setE 0 (x :: l)) 0 = none := by
      unfold setE Instr.findNow; rfl
    simp [run_underlying pm.key, hn, h1]
end
theorem Sat.put {w : World} {h : Heap} {b : Nat} {o : Obj} [Base] (s : Sat w ((b, o) :: h)) (o' : Obj) : Sat { w with heap := w.heap.setIfInBounds b o' } ((b, o') :: h) := by
  have := s.mod (fun _ => o')
  have e : w.heap.modify b (fun _ => o') = w.heap.setIfInBounds b o' := by
    apply Array.ext
    · simp
    · intro i h1 h2
      rw [Array.getElem_modify, Array.getElem_setIfInBounds]
  rw [e] at this
  exact this
section
variable [Base] {P : Program} {F : Heap} {N : Nat}
/-- An array written out. -/
theorem ev_buildA {fr : Slots} {cs : Conds} {h : Heap} {o : Oper} {t e n len : Nat} {ps : List (Nat × Operand)} {z l : List Value} (ho : o.op = .build t ⟨ps⟩) (ht : arrayB P t len e n = true) (hz : zeroT P t = some z) (hn : Nat.beq n 0 = false)
    (hl : partsK fr ((List.range len).map fun i => (i * n, n)) z ps = some l) : Ev P F N fr cs h o (.agg ⟨l⟩) := by
  obtain ⟨hu, hsz⟩ := arrayB_spec ht
  have hn0 : n ≠ 0 := fun e => by subst e; cases hn
  refine Ev.of_run fun a hfa w _ => ?_
  obtain ⟨zv, hzv, hzr⟩ := run_zeroValue hz w
  have hfill := fill_parts (N := N) (pl := (List.range len).map fun i => (i * n, n)) (by
    intro i off m hi e
    rw [List.getElem?_map] at hi
    cases hr : (List.range len)[i]? with
    | none => rw [hr] at hi; cases hi
    | some q => rw [hr] at hi; simp only [Option.map_some, Option.some.injEq, Prod.mk.injEq] at hi; omega) hfa ps z l hl
  have hext : ∀ (ps : List (Nat × Value)) (c c' : Array Value), Instr.fill (fun i => ((List.range len).map fun i => (i * n, n))[i]?) c ps = some c' → Instr.fill (fun i => some (i * n, n)) c ps = some c' := by
    intro ps
    induction ps with
    | nil => intro c c' h; exact h
    | cons p q ih =>
      obtain ⟨i, v⟩ := p
      intro c c' h
      unfold Instr.fill at h ⊢
      rw [List.getElem?_map] at h
      cases hr : (List.range len)[i]? with
      | none => rw [hr] at h; simp at h
      | some j =>
        rw [hr] at h
        have : j = i := by
          have := List.getElem?_eq_some_iff.1 hr
          obtain ⟨h1, h2⟩ := this
          simpa using h2.symm
        subst this
        simp only [Option.map_some] at h
        simp only
        split
        · rename_i hc; rw [if_pos hc] at h; cases h
        · rename_i hc; rw [if_neg hc] at h; exact ih _ _ h
  have hfill2 := hext _ _ _ hfill
  have e2 : ((⟨ps⟩ : Array (Nat × Operand)).map fun x => match x with | (i, x) => (i, a.eval x)).toList = ps.map fun p => (p.1, a.eval p.2) := by simp
  simp only [execOp, ho, Instr.build, Sem.run_bind, hzr, Result.andThen_ok, run_underlying hu, run_sizeOf hsz]
  rw [e2, cellsV_eq, hzv, hfill2]
  rfl
theorem runL_makeMap {ops : List Oper} {o : Oper} {rest : List Oper} {fr : Slots} {cs : Conds} {h : Heap} {Q : Exit → Slots → Heap → Prop} {d : Nat} {t : TypeId}
    (hg : o.guard = none) (hd : o.dst = some d) (hN : Nat.blt d N = true) (hf : freshIn d cs = true) (ho : o.op = .makeMap t none)
    (r : ∀ b, RunL P F N ops rest ((d, .map (some b)) :: fr) cs ((b, setO []) :: h) Q) : RunL P F N ops (o :: rest) fr cs h Q := by
  refine runL_new (V := fun b => .map (some b)) hg hd hN hf (fun a hfa w _ => ?_) r
  simp only [execOp, ho, Option.map_none, Instr.makeMap]
  simp [setO, setE]
theorem ev_lookup {fr : Slots} {cs : Conds} {h : Heap} {o : Oper} {t k e v : TypeId} {b : Nat} {x y : Operand} {p : Int × Int} {l : List (Int × Int)} (ho : o.op = .lookup t x y false) (hx : evO fr x = some (.map (some b))) (hy : evO fr y = some (pairV p)) (pm : PairMap P t k e v) (m : (b, setO l) ∈ h ++ F) :
    Ev P F N fr cs h o (.bool (decide (p ∈ l))) := by
  refine Ev.of_run fun ac hf w hs => ?_
  have hb := hs.at m
  have hget : (getObj b).run P w = .ok (.map ⟨setE 0 l⟩ l.length) w := by
    unfold setO at hb; simp [getObj, Sem.run, hb]
  obtain ⟨r, h1, h2, h3⟩ := pm.findKey p w l
  have hck := fun bb => pm.check bb p w
  have hzr : (zeroValue v).run P w = .ok (.bool false) w := by
    have h9 := pm.zero
    unfold zeroValue typeInfo
    cases hi : P.info? v with
    | none => rw [hi] at h9; cases h9
    | some i =>
      rw [hi] at h9
      simp only [Option.bind_some] at h9
      simp [hi, h9]
  simp only [execOp, ho, hf.ev hx, hf.ev hy, Instr.lookup, Sem.run_bind, run_underlying pm.map, Result.andThen_ok, hget, Sem.run_pure, hck, h1]
  by_cases hm : p ∈ l
  · obtain ⟨j, rfl⟩ := h2 hm
    rw [decide_eq_true hm]; simp
  · rw [h3 hm, decide_eq_false hm]
    simp [hzr]
theorem runL_mapPut {ops : List Oper} {o : Oper} {rest : List Oper} {fr : Slots} {cs : Conds} {R : Heap} {Q : Exit → Slots → Heap → Prop} {t k e v : TypeId} {b : Nat} {x y z : Operand} {p : Int × Int} {l : List (Int × Int)}
    (hg : o.guard = none) (hd : o.dst = none) (ho : o.op = .mapUpdate t x y z) (hx : evO fr x = some (.map (some b))) (hy : evO fr y = some (pairV p)) (hz : evO fr z = some (.bool true)) (pm : PairMap P t k e v) (hp : p ∉ l)
    (r : RunL P F N ops rest fr cs ((b, setO (l ++ [p])) :: R) Q) : RunL P F N ops (o :: rest) fr cs ((b, setO l) :: R) Q := by
  refine ⟨fun a w hfi hs => ?_⟩
  unfold wpL
  rw [if_pos (wanted_none hg _)]
  unfold Oper.wp
  have hb := hs.at (b := b) (o := setO l) (by simp)
  have hget : (getObj b).run P w = .ok (.map ⟨setE 0 l⟩ l.length) w := by
    unfold setO at hb; simp [getObj, Sem.run, hb]
  have hset : ∀ o' : Obj, (setObj b o').run P w = .ok () { w with heap := w.heap.setIfInBounds b o' } := by
    intro o'; unfold setO at hb; simp [setObj, Sem.run, hb]
  obtain ⟨r0, h1, h2, h3⟩ := pm.findKey p w l
  have hck := fun bb => pm.check bb p w
  rw [h3 hp] at h1
  have hrun : (execOp a.eval o).run P w = .ok .skip { w with heap := w.heap.setIfInBounds b (setO (l ++ [p])) } := by
    have e9 : (⟨setE 0 l⟩ : Array MapEntry).push ⟨pairV p, .bool true, l.length⟩ = ⟨setE 0 (l ++ [p])⟩ := by
      apply Array.ext'; simp [setE_append]
    simp only [execOp, ho, hfi.ev hx, hfi.ev hy, hfi.ev hz, Instr.mapUpdate, Sem.run_bind, run_underlying pm.map, Result.andThen_ok, hget, Sem.run_pure, hck, h1, hset]
    rw [e9]
    unfold setO
    simp
  rw [hrun]
  simp only [Oper.upon]
  rw [hd]
  exact r.go _ _ hfi (hs.put _)
end
end Go.SL
