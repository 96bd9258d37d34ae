/- The separation layer: copy, append of zeros, slices that don't share a block. It proves no statement by itself. -/
import Derived.Test.YtmelpobcpcmdoaaGreatSLDraw2
import Derived.Lib.Overlaps
set_option autoImplicit false
set_option linter.unusedSimpArgs false
set_option linter.unusedSectionVars false
set_option linter.unusedVariables false
namespace Go.SL
variable [Base]
section
variable {P : Program} {F : Heap} {N : Nat}

theorem run_firstCellsL {H : Heap} {a : Option Addr} {m n l cap : Nat} {sl : List Value} (hs : SrcIs H a m n sl) {w : World} (s : Sat w H) : (Builtin.firstCells n m (.slice a l cap)).run P w = .ok ⟨sl⟩ w := by
  have := run_firstCells (P := P) (cap := cap) hs s
  cases a <;> exact this

/-- copy into the first block that is told. -/
theorem runL_copy {ops : List Oper} {o : Oper} {rest : List Oper} {fr : Slots} {cs : Conds} {R : Heap} {Q : Exit → Slots → Heap → Prop} {d t t2 e n m b off dl dcap sn scap : Nat} {x y : Operand} {a2 : Option Addr} {c sl : List Value} {ety : TypeId}
    (hg : o.guard = none) (hd : o.dst = some d) (hN : Nat.blt d N = true) (hf : freshIn d cs = true) (ho : o.op = .call ⟨.builtin .copy, #[x, y], #[t, t2]⟩) (hx : evO fr x = some (.slice (some ⟨b, off, none⟩) dl dcap)) (hy : evO fr y = some (.slice a2 sn scap))
    (ht : sliceB P t e n = true) (hm : Nat.min sn dl = m) (hroom : off + m * n ≤ c.length) (src : SrcIs (blk b c ety :: R ++ F) a2 m n sl) (hsl : allCells sl = true)
    (r : RunL P F N ops rest ((d, .int .i64 m) :: fr) cs (blk b (c.take off ++ sl ++ c.drop (off + m * n)) ety :: R) Q) : RunL P F N ops (o :: rest) fr cs (blk b c ety :: R) Q := by
  refine ⟨fun a w hfi hs => ?_⟩
  unfold wpL
  rw [if_pos (wanted_none hg _)]
  unfold Oper.wp
  obtain ⟨hu, hsz⟩ := sliceB_spec ht
  have hslen := src.1
  have hfc := run_firstCellsL (P := P) (l := sn) (cap := scap) src hs
  have hb' := hs.at (b := b) (o := .cells ⟨c⟩ ety (0, 0)) (by simp)
  have hst := run_storeCells_at (P := P) b off ety sl 0 ⟨c⟩ w hb' (by rw [hslen]; simpa using hroom) (allCells_spec hsl)
  simp only [Nat.add_zero] at hst
  have hr : (Builtin.copy_ #[t, t2] o.type #[.slice (some ⟨b, off, none⟩) dl dcap, .slice a2 sn scap]).run P w = .ok (.int .i64 m) (w.setRow b ⟨c.take off ++ sl ++ c.drop (off + m * n)⟩) := by
    unfold Builtin.copy_
    simp only [List.getElem?_toArray, List.getElem?_cons_zero, List.getElem?_cons_succ, Sem.run_bind, run_underlying hu, Result.andThen_ok, Builtin.lenOf, Sem.run_pure, hm, run_sizeOf hsz, hfc]
    rw [hslen] at hst
    simp at hst
    simp
    rw [hst]; rfl
  have hrun : (execOp a.eval o).run P w = .ok (.value (.int .i64 m)) (w.setRow b ⟨c.take off ++ sl ++ c.drop (off + m * n)⟩) := by
    have e1 : (#[x, y] : Array Operand).map a.eval = #[.slice (some ⟨b, off, none⟩) dl dcap, .slice a2 sn scap] := by simp [hfi.ev hx, hfi.ev hy]
    simp only [execOp, ho, resolve, e1, Sem.run_bind, Sem.run_pure, Result.andThen_ok, invoke, builtin, hr]
  rw [hrun, Oper.upon_value, hd]
  exact r.go _ _ (hfi.put hN hf) (hs.setRow _)

/-- append(s, make([]T, m)...) where there is no room: a new block. -/
theorem runL_appendZ {ops : List Oper} {o : Oper} {rest : List Oper} {fr : Slots} {cs : Conds} {h : Heap} {Q : Exit → Slots → Heap → Prop} {d t t2 e n k m cap by_ : Nat} {x y : Operand} {sa : Option Addr} {cl z : List Value} {kn : IntKind} {mi : Int}
    (hg : o.guard = none) (hd : o.dst = some d) (hN : Nat.blt d N = true) (hf : freshIn d cs = true) (ho : o.op = .call ⟨.builtin .append, #[x, y], #[t, t2]⟩) (hx : evO fr x = some (.slice sa k cap)) (hy : evO fr y = some (.int .i64 mi)) (hmi : mi = (m : Int))
    (ht : sliceB P t e n = true) (hti2 : P.underlying t2 = some (.int kn)) (hz : zeroT P e = some z) (hzl : z.length = n) (hzc : allCells z = true) (hby : bytesB P e by_ = true) (src : SrcIs (h ++ F) sa k n cl) (hm0 : 0 < m) (hgt : cap < k + m)
    (hn : n ≠ 0) (hb0 : by_ ≠ 0) (hroom : (2 * (k + m) + 768) * by_ ≤ 281474976710656)
    (r : ∀ b zs rst cap', zs.length = m * n → k + m ≤ cap' → (k + m) * n + rst.length = cap' * n → RunL P F N ops rest ((d, .slice (some ⟨b, 0, none⟩) (k + m) cap') :: fr) cs (blk b (cl ++ zs ++ rst) e :: h) Q) : RunL P F N ops (o :: rest) fr cs h Q := by
  subst hmi
  refine ⟨fun a w hfi hs => ?_⟩
  unfold wpL
  rw [if_pos (wanted_none hg _)]
  unfold Oper.wp
  obtain ⟨hu, hsz⟩ := sliceB_spec ht
  obtain ⟨ti, hti, htb⟩ := run_bytes hby w
  have hti' : ∀ w' : World, (typeInfo e).run P w' = .ok ti w' := by
    intro w'
    unfold typeInfo at hti ⊢
    cases hi : P.info? e with
    | none => simp [hi] at hti
    | some i => simp [hi] at hti ⊢; exact hti
  obtain ⟨zv, hzv, _⟩ := run_zeroValue hz w
  have hzr' : ∀ w' : World, (zeroValue e).run P w' = .ok zv w' := by
    intro w'
    obtain ⟨zv', _, hr'⟩ := run_zeroValue hz w'
    unfold zeroValue typeInfo at *
    cases hi : P.info? e with
    | none => simp_all
    | some i =>
      cases hzz : i.zero with
      | none => simp_all
      | some q => simp_all
  have hfo := fun (w' : World) (s' : Sat w' (h ++ F)) => run_firstCells (P := P) (cap := cap) src s'
  have hnc := nextcap_le (k + m) cap hgt
  have hbnd : Builtin.nextslicecap (k + m) cap * by_ ≤ 281474976710656 := Nat.le_trans (Nat.mul_le_mul_right _ hnc) hroom
  have hmb : m * by_ ≤ 281474976710656 := Nat.le_trans (Nat.mul_le_mul_right _ (by omega)) hroom
  have h1b : (2 * (k + m) + 768) * 1 ≤ (2 * (k + m) + 768) * by_ := Nat.mul_le_mul_left _ (by omega)
  have hi64 : ¬ (9223372036854775807 : Int) < ((k : Int) + (m : Int)) := by omega
  have hwr : IntKind.i64.wrap (m : Int) = m := by rw [IntKind.wrap_i64]; omega
  have hneg : ¬ ((m : Int) < 0) := by omega
  have h48i : ¬ (281474976710656 < (m : Int) * (by_ : Int)) := by
    rw [← Int.natCast_mul]; omega
  have hmn : ¬ (m * n = 0) := Nat.mul_ne_zero (by omega) hn
  have hm0' : ¬ m = 0 := by omega
  have hnot : ¬ (k + m ≤ cap) := by omega
  have hcz : zv.cells = ⟨z⟩ := by rw [cellsV_eq, hzv]
  have hr : (Builtin.append_ #[t, t2] o.type #[.slice sa k cap, .int .i64 m]).run P w = .ok (.slice (some ⟨w.heap.size, 0, none⟩) (k + m) ((Question.appendCap (k + m) cap e).cut (w.tape w.drawn (Question.appendCap (k + m) cap e))))
      { w with drawn := w.drawn + 1, heap := w.heap.push (.cells ⟨cl ++ (Builtin.zeroCells zv.cells m).toList ++ (Builtin.zeroCells zv.cells ((Question.appendCap (k + m) cap e).cut (w.tape w.drawn (Question.appendCap (k + m) cap e)) - (k + m))).toList⟩ e) } := by
    unfold Builtin.append_
    simp only [List.getElem?_toArray, run_underlying hu, run_underlying hti2]
    simp [run_underlying hu, run_underlying hti2, run_sizeOf hsz, asInt, asIntOf, hwr, hneg, hti', htb, h48i, hb0, hnot, hm0', hn, Question.forced]
    rw [if_neg (by omega), if_neg (by omega)]
    have g1 := hfo w.drew hs.drew
    rw [g1, Result.andThen_ok, hzr', Result.andThen_ok]
    simp only [newRow, Sem.run_bind, run_newObj, Result.andThen_ok, Sem.run_pure]
    rw [if_neg hmn, hzr', Result.andThen_ok]
    have ea : ∀ (p q : Array Value), (⟨cl⟩ : Array Value) ++ (p ++ q) = ⟨cl ++ (p.toList ++ q.toList)⟩ := by
      intro p q; apply Array.ext'; simp
    rw [ea]; rfl
  have hrun : (execOp a.eval o).run P w = .ok (.value (.slice (some ⟨w.heap.size, 0, none⟩) (k + m) ((Question.appendCap (k + m) cap e).cut (w.tape w.drawn (Question.appendCap (k + m) cap e)))))
      { w with drawn := w.drawn + 1, heap := w.heap.push (.cells ⟨cl ++ (Builtin.zeroCells zv.cells m).toList ++ (Builtin.zeroCells zv.cells ((Question.appendCap (k + m) cap e).cut (w.tape w.drawn (Question.appendCap (k + m) cap e)) - (k + m))).toList⟩ e) } := by
    have e1 : (#[x, y] : Array Operand).map a.eval = #[.slice sa k cap, .int .i64 m] := by simp [hfi.ev hx, hfi.ev hy]
    simp only [execOp, ho, resolve, e1, Sem.run_bind, Sem.run_pure, Result.andThen_ok, invoke, builtin, hr]
  rw [hrun, Oper.upon_value, hd]
  have hcut := cut_cap (k + m) cap e (w.tape w.drawn (Question.appendCap (k + m) cap e))
  have l1 : (Builtin.zeroCells zv.cells m).toList.length = m * n := by rw [Array.length_toList, zeroCells_size, hcz]; show m * z.length = _; rw [hzl]
  have l2 : (Builtin.zeroCells zv.cells ((Question.appendCap (k + m) cap e).cut (w.tape w.drawn (Question.appendCap (k + m) cap e)) - (k + m))).toList.length = ((Question.appendCap (k + m) cap e).cut (w.tape w.drawn (Question.appendCap (k + m) cap e)) - (k + m)) * n := by rw [Array.length_toList, zeroCells_size, hcz]; show _ * z.length = _; rw [hzl]
  refine (r _ _ (Builtin.zeroCells zv.cells ((Question.appendCap (k + m) cap e).cut (w.tape w.drawn (Question.appendCap (k + m) cap e)) - (k + m))).toList _ l1 hcut ?_).go _ _ (hfi.put hN hf) ?_
  · rw [l2, ← Nat.add_mul]; congr 1; omega
  · have hs2 := (hs.alloc (.cells ⟨cl ++ (Builtin.zeroCells zv.cells m).toList ++ (Builtin.zeroCells zv.cells ((Question.appendCap (k + m) cap e).cut (w.tape w.drawn (Question.appendCap (k + m) cap e)) - (k + m))).toList⟩ e)).drew (n := w.drawn + 1)
    exact hs2

theorem ev_cap {fr : Slots} {cs : Conds} {h : Heap} {o : Oper} {t e n : Nat} {x : Operand} {a : Option Addr} {len cap : Nat} (ho : o.op = .call ⟨.builtin .cap, #[x], #[t]⟩) (hx : evO fr x = some (.slice a len cap)) (ht : sliceB P t e n = true) :
    Ev P F N fr cs h o (.int .i64 cap) := by
  obtain ⟨hu, _⟩ := sliceB_spec ht
  refine Ev.of_run fun ac hfa w _ => ?_
  simp only [execOp, ho, resolve, invoke, builtin, Builtin.cap_, Sem.run_bind, Sem.run_pure, Result.andThen_ok]
  simp [hfa.ev hx, run_underlying hu, goInt]
/-- Two blocks that are told are two. -/
theorem RunL.ne {ops l : List Oper} {fr : Slots} {cs : Conds} {x y : Nat × Obj} {R : Heap} {Q : Exit → Slots → Heap → Prop} (r : x.1 ≠ y.1 → RunL P F N ops l fr cs (x :: y :: R) Q) : RunL P F N ops l fr cs (x :: y :: R) Q :=
  ⟨fun a w hf hs => (r (by
    have h0 := hs.nd
    simp only [List.cons_append, List.map_cons, List.nodup_cons, List.mem_cons, not_or] at h0
    exact h0.1.1)).go a w hf hs⟩
/-- Two slices in two blocks share nothing. -/
theorem ev_overlaps {fr : Slots} {cs : Conds} {h : Heap} {o : Oper} {f : FuncId} {fn : Func} {cargs : List Operand} {at_ : Array TypeId} {x : Operand} {tS tR e n b1 o1 l1 c1 b2 o2 l2 c2 : Nat} {k1 k2 : List Value} {e1 e2 : TypeId} (ho : o.op = .call ⟨.value x, ⟨cargs⟩, at_⟩)
    (hx : evO fr x = some (.func (.func f) #[] ⟨[]⟩)) (hvs : evs fr cargs = some [.slice (some ⟨b1, o1, none⟩) l1 c1, .slice (some ⟨b2, o2, none⟩) l2 c2])
    (hfn : P.funcs[f]? = some fn) (hname : (fn.name == "runtime.NumGoroutine") = false) (hb : fn.body.isNone = true) (hn : Extern.findNext fn = none) (he : Extern.find fn = some (Extern.SlicesOverlaps.overlaps #[tS, tS] #[tR]))
    (ht : sliceB P tS e n = true) (m1 : blk b1 k1 e1 ∈ h ++ F) (m2 : blk b2 k2 e2 ∈ h ++ F) (hne : b1 ≠ b2) (hk2 : k2.length ≠ 0) : Ev P F N fr cs h o (.bool false) := by
  refine Ev.of_run fun a hf w hs => ?_
  have h1 := hf.evs hvs
  have h2 : (⟨cargs⟩ : Array Operand).map a.eval = #[.slice (some ⟨b1, o1, none⟩) l1 c1, .slice (some ⟨b2, o2, none⟩) l2 c2] := by
    apply Array.ext'
    rw [Array.toList_map]
    simpa using h1
  obtain ⟨hu, hsz⟩ := sliceB_spec ht
  have w1 := hs.all _ m1
  have w2 := hs.all _ m2
  simp only [blk] at w1 w2
  simp only [execOp, ho, resolve, hf.ev hx, Deferred.ofValue, Sem.run_bind, Sem.run_pure, Result.andThen_ok, invoke, h2]
  simp only [Array.append_empty, Array.empty_append]
  rw [run_callFunc_extern hfn hname hb hn he]
  have key := Lib.run_overlaps_apart (P := P) w tS tR e hu n (run_sizeOf hsz) ⟨b1, o1, none⟩ ⟨b2, o2, none⟩ l1 c1 l2 c2 hne e1 e2 k1.length k2.length
    (by unfold World.shape?; simp only [w1]; rfl) (by unfold World.shape?; simp only [w2]; rfl) hk2 (by unfold World.frozen?; simp only [w1]; simp) (by unfold World.frozen?; simp only [w1]; simp)
  rw [key]; rfl
end
end Go.SL
