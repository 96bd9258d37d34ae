/- The separation layer: maps from numbers to numbers. It proves no statement by itself. -/
import Derived.Test.YtiilndlgfgikbaaSLMaps
set_option autoImplicit false
set_option linter.unusedSimpArgs false
set_option linter.unusedSectionVars false
set_option linter.unusedVariables false
namespace Go.SL
def keysOf (es : List MapEntry) : List (Value × Value) := es.map fun e => (e.key, e.val)
def pairsOf (l : List (Int × Int)) : List (Value × Value) := l.map fun p => (Value.int .i64 p.1, Value.int .i64 p.2)
/-- A map's entries tell these pairs. -/
def EsIs (es : Array MapEntry) (l : List (Int × Int)) : Prop := keysOf es.toList = pairsOf l
def getI (k : Int) : List (Int × Int) → Int
  | [] => 0
  | p :: l => if k == p.1 then p.2 else getI k l
def findI (k : Int) : List (Int × Int) → Option Nat
  | [] => none
  | p :: l => if k == p.1 then some 0 else (findI k l).map (· + 1)
def putI (k v : Int) : List (Int × Int) → List (Int × Int)
  | [] => [(k, v)]
  | p :: l => if k == p.1 then (k, v) :: l else p :: putI k v l
structure IntMap (P : Program) (t k v : TypeId) : Prop where
  map : P.underlying t = some (.map k v)
  key : ∃ q, P.underlying k = some (.int q)
  zero : ((P.info? v).bind fun i => i.zero) = some (.int .i64 0)
theorem findNow_int {q : IntKind} (k : Int) : ∀ (es : List MapEntry) (l : List (Int × Int)) (i : Nat), keysOf es = pairsOf l → Instr.findNow (.int q) (.int .i64 k) es i = some ((findI k l).map fun j => (i + j, Value.int .i64 (getI k l)))
  | [], [], i, _ => rfl
  | [], _ :: _, _, h => by simp [keysOf, pairsOf] at h
  | _ :: _, [], _, h => by simp [keysOf, pairsOf] at h
  | e :: es, p :: l, i, h => by
    simp only [keysOf, pairsOf, List.map_cons, List.cons.injEq, Prod.mk.injEq] at h
    obtain ⟨⟨h1, h2⟩, h3⟩ := h
    unfold Instr.findNow
    rw [h1, h2]
    have ih := findNow_int (q := q) k es l (i + 1) h3
    simp only [Instr.sameNow, if_true, findI, getI]
    cases hk : k == p.1 with
    | true => simp
    | false =>
      simp only [ih, Bool.false_eq_true, if_false]
      cases findI k l with
      | none => rfl
      | some j => simp; omega
theorem findI_none {k : Int} : ∀ {l : List (Int × Int)}, findI k l = none → getI k l = 0 ∧ ∀ v, putI k v l = l ++ [(k, v)]
  | [], _ => ⟨rfl, fun _ => rfl⟩
  | p :: l, h => by
    unfold findI at h
    cases hk : k == p.1 with
    | true => rw [hk] at h; simp at h
    | false =>
      rw [hk] at h
      have h : findI k l = none := by simpa using h
      obtain ⟨i1, i2⟩ := findI_none h
      exact ⟨by simp [getI, hk, i1], fun v => by simp [putI, hk, i2 v]⟩
theorem put_modify {k v : Int} {f : MapEntry → MapEntry} (hf : ∀ e, (f e).key = .int .i64 k ∧ (f e).val = .int .i64 v) : ∀ {es : List MapEntry} {l : List (Int × Int)} {i : Nat}, keysOf es = pairsOf l → findI k l = some i → keysOf (es.modify i f) = pairsOf (putI k v l) ∧ (es[i]?).map (·.key) = some (.int .i64 k)
  | [], [], _, _, hi => by cases hi
  | [], _ :: _, _, h, _ => by simp [keysOf, pairsOf] at h
  | _ :: _, [], _, h, _ => by simp [keysOf, pairsOf] at h
  | e :: es, p :: l, i, h, hi => by
    simp only [keysOf, pairsOf, List.map_cons, List.cons.injEq, Prod.mk.injEq] at h
    obtain ⟨⟨h1, h2⟩, h3⟩ := h
    unfold findI at hi
    cases hk : k == p.1 with
    | true =>
      rw [hk] at hi
      simp only [if_true, Option.some.injEq] at hi
      subst hi
      have hkp : k = p.1 := by simpa using hk
      refine ⟨?_, by simp [h1, hkp]⟩
      simp only [List.modify_zero_cons, keysOf, pairsOf, List.map_cons, putI, hk, if_true, List.cons.injEq, Prod.mk.injEq]
      exact ⟨⟨(hf e).1, (hf e).2⟩, h3⟩
    | false =>
      rw [hk] at hi
      simp only [Bool.false_eq_true, if_false, Option.map_eq_some_iff] at hi
      obtain ⟨j, hj, rfl⟩ := hi
      obtain ⟨i1, i2⟩ := put_modify hf h3 hj
      refine ⟨?_, by simpa using i2⟩
      simp only [List.modify_succ_cons, keysOf, pairsOf, List.map_cons, putI, hk, Bool.false_eq_true, if_false, List.cons.injEq, Prod.mk.injEq]
      exact ⟨⟨h1, h2⟩, i1⟩
section
variable [Base] {P : Program} {F : Heap} {N : Nat}
theorem findKey_int {k v t : TypeId} (im : IntMap P t k v) (p : Int) {es : Array MapEntry} {l : List (Int × Int)} (hes : EsIs es l) (w : World) : (Instr.findKey k (.int .i64 p) es.toList).run P w = .ok ((findI p l).map fun j => (j, Value.int .i64 (getI p l))) w := by
  obtain ⟨q, hq⟩ := im.key
  unfold Instr.findKey
  have h := findNow_int (q := q) p es.toList l 0 hes
  simp only [Sem.run_bind, run_underlying hq, Result.andThen_ok, h, Nat.zero_add, Sem.run_pure]
theorem checkKey_int {k v t : TypeId} (im : IntMap P t k v) (b : Bool) (p : Int) (w : World) : (Instr.checkKey b 10000 k (.int .i64 p)).run P w = .ok () w := by
  obtain ⟨q, hq⟩ := im.key
  unfold Instr.checkKey
  simp [run_underlying hq]
theorem ev_lookupI {fr : Slots} {cs : Conds} {h : Heap} {o : Oper} {t k v : TypeId} {b n : Nat} {x y : Operand} {p : Int} {es : Array MapEntry} {l : List (Int × Int)} (ho : o.op = .lookup t x y false) (hx : evO fr x = some (.map (some b))) (hy : evO fr y = some (.int .i64 p)) (im : IntMap P t k v) (hes : EsIs es l) (m : (b, Obj.map es n) ∈ h ++ F) :
    Ev P F N fr cs h o (.int .i64 (getI p l)) := by
  refine Ev.of_run fun ac hf w hs => ?_
  have hb := hs.at m
  have hget : (getObj b).run P w = .ok (.map es n) w := by simp [getObj, Sem.run, hb]
  have h1 := findKey_int im p hes w
  have hck := fun bb => checkKey_int im bb p w
  have hzr : (zeroValue v).run P w = .ok (.int .i64 0) w := by
    have h9 := im.zero
    unfold zeroValue typeInfo
    cases hi : P.info? v with
    | none => rw [hi] at h9; cases h9
    | some i =>
      rw [hi] at h9
      simp only [Option.bind_some] at h9
      simp [hi, h9]
  simp only [execOp, ho, hf.ev hx, hf.ev hy, Instr.lookup, Sem.run_bind, run_underlying im.map, Result.andThen_ok, hget, Sem.run_pure, hck, h1]
  cases hf : findI p l with
  | none => simp [hzr, (findI_none hf).1]
  | some j => simp
theorem ev_lenM {fr : Slots} {cs : Conds} {h : Heap} {o : Oper} {t k v : TypeId} {b n : Nat} {x : Operand} {es : Array MapEntry} {l : List (Int × Int)} (ho : o.op = .call ⟨.builtin .len, #[x], #[t]⟩) (hx : evO fr x = some (.map (some b))) (im : IntMap P t k v) (hes : EsIs es l) (m : (b, Obj.map es n) ∈ h ++ F) :
    Ev P F N fr cs h o (.int .i64 l.length) := by
  refine Ev.of_run fun a hfa w hs => ?_
  have hb := hs.at m
  have hget : (getObj b).run P w = .ok (.map es n) w := by simp [getObj, Sem.run, hb]
  have hlen : es.size = l.length := by
    have := congrArg List.length hes
    simpa [keysOf, pairsOf] using this
  simp only [execOp, ho, resolve, invoke, builtin, Builtin.len_, Sem.run_bind, Sem.run_pure, Result.andThen_ok]
  simp [hfa.ev hx, run_underlying im.map, hget, hlen, goInt]
theorem runL_mapPutI {ops : List Oper} {o : Oper} {rest : List Oper} {fr : Slots} {cs : Conds} {R : Heap} {Q : Exit → Slots → Heap → Prop} {t k v : TypeId} {b n : Nat} {x y z : Operand} {p u : Int} {es : Array MapEntry} {l : List (Int × Int)}
    (hg : o.guard = none) (hd : o.dst = none) (ho : o.op = .mapUpdate t x y z) (hx : evO fr x = some (.map (some b))) (hy : evO fr y = some (.int .i64 p)) (hz : evO fr z = some (.int .i64 u)) (im : IntMap P t k v) (hes : EsIs es l)
    (r : ∀ es' n', EsIs es' (putI p u l) → RunL P F N ops rest fr cs ((b, Obj.map es' n') :: R) Q) : RunL P F N ops (o :: rest) fr cs ((b, Obj.map es n) :: R) Q := by
  refine ⟨fun a w hfi hs => ?_⟩
  unfold wpL
  rw [if_pos (wanted_none hg _)]
  unfold Oper.wp
  have hb := hs.at (b := b) (o := Obj.map es n) (by simp)
  have hget : (getObj b).run P w = .ok (.map es n) w := by simp [getObj, Sem.run, hb]
  have hset : ∀ o' : Obj, (setObj b o').run P w = .ok () { w with heap := w.heap.setIfInBounds b o' } := by
    intro o'; simp [setObj, Sem.run, hb]
  have h1 := findKey_int im p hes w
  have hck := fun bb => checkKey_int im bb p w
  cases hfi2 : findI p l with
  | none =>
    rw [hfi2] at h1
    have hrun : (execOp a.eval o).run P w = .ok .skip { w with heap := w.heap.setIfInBounds b (.map (es.push ⟨.int .i64 p, .int .i64 u, n⟩) (n + 1)) } := by
      simp only [execOp, ho, hfi.ev hx, hfi.ev hy, hfi.ev hz, Instr.mapUpdate, Sem.run_bind, run_underlying im.map, Result.andThen_ok, hget, Sem.run_pure, hck, h1, hset, Option.map_none]
    rw [hrun]
    simp only [Oper.upon]
    rw [hd]
    refine (r _ _ ?_).go _ _ hfi (hs.put _)
    unfold EsIs keysOf at hes ⊢
    rw [(findI_none hfi2).2 u, Array.toList_push, List.map_append, hes]
    simp [pairsOf]
  | some i =>
    rw [hfi2] at h1
    obtain ⟨m1, m2⟩ := put_modify (k := p) (v := u) (f := fun e => { e with key := .int .i64 p, val := .int .i64 u }) (fun e => ⟨rfl, rfl⟩) hes hfi2
    have hold : ((es[i]?).map (·.key)).getD (.int .i64 p) = .int .i64 p := by
      have : es[i]? = es.toList[i]? := by simp
      rw [this, m2]; rfl
    have hkeep : (Instr.keyThatStays (.int .i64 p) (.int .i64 p)).run P w = .ok (.int .i64 p) w := by
      unfold Instr.keyThatStays
      have : Instr.sameBits 10000 (.int .i64 p) (.int .i64 p) = true := by simp [Instr.sameBits]
      rw [if_pos this]; rfl
    have hrun : (execOp a.eval o).run P w = .ok .skip { w with heap := w.heap.setIfInBounds b (.map (es.modify i fun e => { e with key := .int .i64 p, val := .int .i64 u }) n) } := by
      simp only [execOp, ho, hfi.ev hx, hfi.ev hy, hfi.ev hz, Instr.mapUpdate, Sem.run_bind, run_underlying im.map, Result.andThen_ok, hget, Sem.run_pure, hck, h1, hset, Option.map_some, hold, hkeep]
    rw [hrun]
    simp only [Oper.upon]
    rw [hd]
    refine (r _ _ ?_).go _ _ hfi (hs.put _)
    unfold EsIs
    rw [Array.toList_modify]
    exact m1
end
end Go.SL
