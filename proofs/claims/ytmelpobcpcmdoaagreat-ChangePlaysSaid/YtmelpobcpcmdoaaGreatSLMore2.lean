/- The separation layer, slices of structs: what is left over, three-index slicing, appending in place, clearing, closures. It proves no statement by itself. -/
import Derived.Test.YtmelpobcpcmdoaaGreatSLMore
set_option autoImplicit false
set_option linter.unusedSimpArgs false
set_option linter.unusedSectionVars false
set_option linter.unusedVariables false
namespace Go.SL
variable [Base]
section
variable {P : Program} {F : Heap} {N : Nat}

/-- What is told, and some blocks beside it. -/
def Up (Q : Value → Heap → Prop) : Value → Heap → Prop := fun v h' => ∃ X G, Q v X ∧ ∀ x, cnt x h' = cnt x (X ++ G)
theorem Sp.up {f : FuncId} {args : List Value} {h : Heap} {Q : Value → Heap → Prop} (s : Sp P F f args h (Up Q)) : Sp P F f args h Q :=
  ⟨fun w hw => (s.go w hw).mono fun _ _ ⟨v, h', he, ⟨X, G, hQ, hp⟩, hs⟩ => ⟨v, X, he, hQ, (hs.perm ((perm_of_cnt hp).append_right F)).sub ((List.sublist_append_left X G).append_right F)⟩⟩
theorem Sp.perm {f : FuncId} {args : List Value} {h h' : Heap} {Q : Value → Heap → Prop} (hp : ∀ x, cnt x h = cnt x h') (s : Sp P F f args h' Q) : Sp P F f args h Q :=
  ⟨fun w hw => s.go w (hw.perm ((perm_of_cnt hp).append_right F))⟩
/-- What a call only reads may lie in the frame. -/
theorem Sp.frame {f : FuncId} {args : List Value} {h A : Heap} {Q : Value → Heap → Prop} (s : Sp P (A ++ F) f args h Q) : Sp P F f args (h ++ A) (fun v h' => ∃ X, Q v X ∧ h' = X ++ A) :=
  ⟨fun w hw => (s.go w (by rw [← List.append_assoc]; exact hw)).mono fun _ _ ⟨v, h', he, hQ, hs⟩ => ⟨v, h' ++ A, he, ⟨h', hQ, rfl⟩, by rw [List.append_assoc]; exact hs⟩⟩

/-- A call about some opaque blocks, the others first. -/
theorem runL_callZ {ops : List Oper} {o : Oper} {rest : List Oper} {fr : Slots} {cs : Conds} {h : Heap} {Q : Exit → Slots → Heap → Prop} {d : Nat} {f : FuncId} {cargs : List Operand} {at_ : Array TypeId} {x : Operand} (R h1 : Heap) {Q1 : Value → Heap → Prop} {vs : List Value}
    (hg : o.guard = none) (hd : o.dst = some d) (hN : Nat.blt d N = true) (hf : freshIn d cs = true) (ho : o.op = .call ⟨.value x, ⟨cargs⟩, at_⟩) (hx : evO fr x = some (.func (.func f) #[] ⟨[]⟩)) (hvs : evs fr cargs = some vs) (hp : Program.plainFn P f = true)
    (hh : ∀ x, cnt x h = cnt x (R ++ h1)) (s : Sp P (R ++ F) f vs h1 Q1)
    (r : ∀ v h1', Q1 v h1' → RunL P F N ops rest ((d, v) :: fr) cs (R ++ h1') Q) : RunL P F N ops (o :: rest) fr cs h Q :=
  runL_call (caps := []) R h1 hg hd hN hf ho hx hvs hp (fun x => by rw [hh x, cnt_append, cnt_append]; omega) (by rw [List.append_nil]; exact s)
    fun v h1' q => RunL.perm (fun x => by rw [cnt_append, cnt_append]; omega) (r v h1' q)
/-- A load that may come ahead of a new block, or behind it. -/
theorem runD_ldNew {ops : List Oper} {n : Nat} {listed : Array Bool} {fr : Slots} {M : Heap} {Q : Exit → Slots → Heap → Prop} {o1 o2 : Oper} {v : Value} {V : Nat → Value} {l : List Value} {e : TypeId} (k1 d1 k2 d2 : Nat)
    (hB : (Region.ready .any ⟨ops⟩ listed == [k1, k2] && (Region.ready .any ⟨ops⟩ (listed.setIfInBounds k1 true) == [k2]) && (Region.ready .any ⟨ops⟩ (listed.setIfInBounds k2 true) == [k1]) && Nat.blt d1 N && Nat.blt d2 N && !(Nat.beq d1 d2) && !(Nat.beq k1 k2)) = true)
    (i1 : (⟨ops⟩ : Array Oper)[k1]? = some o1) (g1 : o1.guard = none) (t1 : o1.dst = some d1) (i2 : (⟨ops⟩ : Array Oper)[k2]? = some o2) (g2 : o2.guard = none) (t2 : o2.dst = some d2)
    (e1 : Ev P F N fr [] M o1 v) (e1' : ∀ b, Ev P F N ((d2, V b) :: fr) [] (blk b l e :: M) o1 v)
    (h2a : ∀ K : Slots → Heap → Prop, (∀ b, K ((d2, V b) :: fr) (blk b l e :: M)) → RunL P F N [o2] [o2] fr [] M (EndS o2 fr K))
    (h2b : ∀ K : Slots → Heap → Prop, (∀ b, K ((d2, V b) :: (d1, v) :: fr) (blk b l e :: M)) → RunL P F N [o2] [o2] ((d1, v) :: fr) [] M (EndS o2 ((d1, v) :: fr) K))
    (r : ∀ b, RunD P F N ops n ((listed.setIfInBounds k1 true).setIfInBounds k2 true) ((d2, V b) :: (d1, v) :: fr) (blk b l e :: M) Q) : RunD P F N ops (n + 1 + 1) listed fr M Q := by
  simp only [Bool.and_eq_true, Bool.not_eq_true'] at hB
  obtain ⟨⟨⟨⟨⟨⟨r0, r1⟩, r2⟩, n1⟩, n2⟩, hd⟩, hk⟩ := hB
  have hdn : d1 ≠ d2 := fun h => by subst h; rw [Nat.beq_refl] at hd; cases hd
  have hkn : k1 ≠ k2 := fun h => by subst h; rw [Nat.beq_refl] at hk; cases hk
  refine runD_2 k1 k2 r0 ?_ ?_
  · refine oneD i1 g1 (by rw [t1]; exact n1) ?_
    refine runL_ev g1 t1 n1 rfl e1 (runL_nil (endS_d t1 ?_))
    exact runD_1 k2 r1 i2 g2 (by rw [t2]; exact n2) (h2b _ r)
  · refine oneD i2 g2 (by rw [t2]; exact n2) (h2a _ fun b => ?_)
    refine runD_1 k1 r2 i1 g1 (by rw [t1]; exact n1) ?_
    refine runL_ev g1 t1 n1 rfl (e1' b) (runL_nil (endS_d t1 ?_))
    rw [Array.setIfInBounds_comm _ _ (Ne.symm hkn)]
    refine RunD.same ?_ (fun _ => rfl) (r b)
    intro i w hw
    simp only [lk_cons] at hw ⊢
    by_cases e2' : d2 = i
    · subst e2'
      rw [if_neg hdn]; simpa using hw
    · rw [if_neg e2'] at hw
      by_cases e1' : d1 = i
      · rw [if_pos e1'] at hw ⊢; exact hw
      · rw [if_neg e1'] at hw ⊢; rw [if_neg e2']; exact hw

theorem ev_makeFunc {fr : Slots} {cs : Conds} {h : Heap} {o : Oper} {f : FuncId} {caps : List Operand} {vs : List Value} (ho : o.op = .makeFunc (.func f) #[] ⟨caps⟩) (hv : evs fr caps = some vs) : Ev P F N fr cs h o (.func (.func f) #[] ⟨vs⟩) := by
  refine Ev.of_run fun a hf w _ => ?_
  have h1 := hf.evs hv
  have h2 : (⟨caps⟩ : Array Operand).map a.eval = ⟨vs⟩ := by rw [← h1]; simp
  have h3 : (#[] : Array Operand).map a.eval = #[] := by simp
  simp only [execOp, ho, h2, h3, Instr.makeFunc, Sem.run_bind, Sem.run_pure, Result.andThen_ok]

theorem ev_slice3 {fr : Slots} {cs : Conds} {h : Heap} {o : Oper} {t e n len cap : Nat} {a : Option Addr} {k1 k2 k3 : IntKind} {i j m : Int} {x lo hi mx : Operand} (ho : o.op = .slice t x (some lo) (some hi) (some mx)) (hx : evO fr x = some (.slice a len cap)) (hi1 : evO fr lo = some (.int k1 i)) (hi2 : evO fr hi = some (.int k2 j)) (hi3 : evO fr mx = some (.int k3 m))
    (ht : sliceB P t e n = true) (h0 : 0 ≤ i) (h1 : i ≤ j) (h2 : j ≤ m) (h3 : m ≤ cap) : Ev P F N fr cs h o (.slice (cutA a m.toNat i.toNat n) (j.toNat - i.toNat) (m.toNat - i.toNat)) := by
  obtain ⟨hu, hsz⟩ := sliceB_spec ht
  refine Ev.of_run fun ac hfa w _ => ?_
  have q1 : 0 ≤ j := by omega
  have q2 : 0 ≤ m := by omega
  have q3 : j ≤ (m.toNat : Int) := by omega
  have q4 : i ≤ (j.toNat : Int) := by omega
  simp only [execOp, ho, Option.map_some, hfa.ev hx, hfa.ev hi1, hfa.ev hi2, hfa.ev hi3, Instr.sliceAt, Sem.run_bind, run_underlying hu, Result.andThen_ok, Instr.slice, Instr.sliceBounds, Instr.sliceBound, asIntOf, Sem.run_pure, h0, q1, q2, q3, q4, h3, and_self, if_true, run_sizeOf hsz]
  rfl

/-- Appended where there is room: in place. The slice's block is the first that is told. -/
theorem runL_appendIn {ops : List Oper} {o : Oper} {rest : List Oper} {fr : Slots} {cs : Conds} {R : Heap} {Q : Exit → Slots → Heap → Prop} {d t t2 e e2 n n2 k m cap cap2 b : Nat} {x y : Operand} {a2 : Option Addr} {cl sl rst : List Value} {ety : TypeId}
    (hg : o.guard = none) (hd : o.dst = some d) (hN : Nat.blt d N = true) (hf : freshIn d cs = true) (ho : o.op = .call ⟨.builtin .append, #[x, y], #[t, t2]⟩) (hx : evO fr x = some (.slice (some ⟨b, 0, none⟩) k cap)) (hy : evO fr y = some (.slice a2 m cap2))
    (ht : sliceB P t e n = true) (ht2 : sliceB P t2 e2 n2 = true) (hcl : cl.length = k * n) (hroom : k * n + sl.length ≤ (cl ++ rst).length) (hfit : k + m ≤ cap) (src : SrcIs (blk b (cl ++ rst) ety :: R ++ F) a2 m n sl) (hsl : allCells sl = true)
    (r : RunL P F N ops rest ((d, .slice (some ⟨b, 0, none⟩) (k + m) cap) :: fr) cs (blk b (cl ++ sl ++ rst.drop sl.length) ety :: R) Q) : RunL P F N ops (o :: rest) fr cs (blk b (cl ++ rst) ety :: R) Q := by
  refine ⟨fun a w hfi hs => ?_⟩
  unfold wpL
  rw [if_pos (wanted_none hg _)]
  unfold Oper.wp
  obtain ⟨hu, hsz⟩ := sliceB_spec ht
  obtain ⟨hu2, _⟩ := sliceB_spec ht2
  have hslen := src.1
  have hfc := run_firstCells (P := P) (cap := cap2) src hs
  have hb' := hs.at (b := b) (o := .cells ⟨cl ++ rst⟩ ety (0, 0)) (by simp)
  have hst := run_storeCells_at (P := P) b (k * n) ety sl 0 ⟨cl ++ rst⟩ w hb' (by simpa using hroom) (allCells_spec hsl)
  have ea : Addr.add ⟨b, 0, none⟩ (k * n) = ⟨b, k * n, none⟩ := by
    unfold Addr.add; split
    · rename_i h0; rw [h0]
    · simp
  have e3 : (cl ++ rst).take (k * n) ++ sl ++ (cl ++ rst).drop (k * n + sl.length) = cl ++ sl ++ rst.drop sl.length := by
    rw [← hcl, List.take_left, List.drop_append]; simp
  have hr : (Builtin.append_ #[t, t2] o.type #[.slice (some ⟨b, 0, none⟩) k cap, .slice a2 m cap2]).run P w = .ok (.slice (some ⟨b, 0, none⟩) (k + m) cap) (w.setRow b ⟨cl ++ sl ++ rst.drop sl.length⟩) := by
    simp only [Nat.add_zero] at hst
    rw [← e3]
    unfold Builtin.append_
    simp only [List.getElem?_toArray, run_underlying hu, run_underlying hu2, run_sizeOf hsz, Builtin.lenOf, hfc, hfit, ea]
    simp [run_underlying hu, run_underlying hu2, run_sizeOf hsz, Builtin.lenOf, hfc, hfit, ea]
    simp at hst
    rw [hst]; rfl
  have hrun : (execOp a.eval o).run P w = .ok (.value (.slice (some ⟨b, 0, none⟩) (k + m) cap)) (w.setRow b ⟨cl ++ sl ++ rst.drop sl.length⟩) := by
    have e1 : (#[x, y] : Array Operand).map a.eval = #[.slice (some ⟨b, 0, none⟩) k cap, .slice a2 m cap2] := by simp [hfi.ev hx, hfi.ev hy]
    simp only [execOp, ho, resolve, e1, Sem.run_bind, Sem.run_pure, Result.andThen_ok, invoke, builtin, hr]
  rw [hrun, Oper.upon_value, hd]
  exact r.go _ _ (hfi.put hN hf) (hs.setRow _)

/-- clear of a slice of some elements, at the first block that is told. -/
theorem runL_clear {ops : List Oper} {o : Oper} {rest : List Oper} {fr : Slots} {cs : Conds} {R : Heap} {Q : Exit → Slots → Heap → Prop} {t e n m cap b off : Nat} {x : Operand} {c z : List Value} {ety : TypeId}
    (hg : o.guard = none) (hd : o.dst = none) (ho : o.op = .call ⟨.builtin .clear, #[x], #[t]⟩) (hx : evO fr x = some (.slice (some ⟨b, off, none⟩) m cap))
    (ht : sliceB P t e n = true) (hz : zeroT P e = some z) (hzl : z.length = n) (hzc : allCells z = true) (hb : off + m * n ≤ c.length)
    (r : ∀ zs : List Value, zs.length = m * n → RunL P F N ops rest fr cs (blk b (c.take off ++ zs ++ c.drop (off + m * n)) ety :: R) Q) : RunL P F N ops (o :: rest) fr cs (blk b c ety :: R) Q := by
  refine ⟨fun a w hfi hs => ?_⟩
  unfold wpL
  rw [if_pos (wanted_none hg _)]
  unfold Oper.wp
  obtain ⟨hu, hsz⟩ := sliceB_spec ht
  obtain ⟨zv, hzv, hzr⟩ := run_zeroValue hz w
  have hb' := hs.at (b := b) (o := .cells ⟨c⟩ ety (0, 0)) (by simp)
  have hcz : zv.cells = ⟨z⟩ := by rw [cellsV_eq, hzv]
  have hzlen : (Builtin.zeroCells zv.cells m).toList.length = m * n := by
    rw [Array.length_toList, zeroCells_size, hcz]; show m * z.length = _; rw [hzl]
  have hzall : ∀ v ∈ (Builtin.zeroCells zv.cells m).toList, v.oneCell' = true := by
    intro v hv
    rw [hcz] at hv
    unfold Builtin.zeroCells at hv
    simp only [Array.toList_map, List.mem_map, Array.mem_toList_iff, Array.mem_range] at hv
    obtain ⟨i, hi, rfl⟩ := hv
    have hsz0 : z.length ≠ 0 := by intro h0; simp [h0] at hi
    have hlt : i % z.length < z.length := Nat.mod_lt _ (by omega)
    have : (⟨z⟩ : Array Value)[i % (⟨z⟩ : Array Value).size]! = z[i % z.length]'hlt := by
      have : i % (⟨z⟩ : Array Value).size < (⟨z⟩ : Array Value).size := hlt
      rw [getElem!_pos (⟨z⟩ : Array Value) (i % (⟨z⟩ : Array Value).size) this]; rfl
    rw [this]
    exact allCells_spec hzc _ (List.getElem_mem _)
  have hst := run_storeCells_at (P := P) b off ety (Builtin.zeroCells zv.cells m).toList 0 ⟨c⟩ w hb' (by rw [hzlen]; simpa using hb) hzall
  simp only [Nat.add_zero] at hst
  have hr : (Builtin.clear_ #[t] o.type #[.slice (some ⟨b, off, none⟩) m cap]).run P w = .ok (.tuple #[]) (w.setRow b ⟨c.take off ++ (Builtin.zeroCells zv.cells m).toList ++ c.drop (off + m * n)⟩) ∨ m = 0 := by
    by_cases hm : m = 0
    · exact .inr hm
    · left
      unfold Builtin.clear_
      simp only [List.getElem?_toArray, List.getElem?_cons_zero, Sem.run_bind, run_underlying hu, Result.andThen_ok]
      cases m with
      | zero => exact absurd rfl hm
      | succ m' =>
        simp only [Sem.run_bind, hzr, Result.andThen_ok]
        rw [hzlen] at hst
        simp at hst
        simp
        rw [hst]; rfl
  have hr0 : m = 0 → (Builtin.clear_ #[t] o.type #[.slice (some ⟨b, off, none⟩) m cap]).run P w = .ok (.tuple #[]) w := by
    rintro rfl
    unfold Builtin.clear_
    simp [run_underlying hu]
  have e1 : (#[x] : Array Operand).map a.eval = #[.slice (some ⟨b, off, none⟩) m cap] := by simp [hfi.ev hx]
  have hrun : ∀ w', (Builtin.clear_ #[t] o.type #[.slice (some ⟨b, off, none⟩) m cap]).run P w = .ok (.tuple #[]) w' → (execOp a.eval o).run P w = .ok (.value (.tuple #[])) w' := by
    intro w' h
    simp only [execOp, ho, resolve, e1, Sem.run_bind, Sem.run_pure, Result.andThen_ok, invoke, builtin, h]
  rcases hr with hr | hm
  · rw [hrun _ hr, Oper.upon_value, hd]
    exact (r _ hzlen).go _ _ hfi (hs.setRow _)
  · rw [hrun _ (hr0 hm), Oper.upon_value, hd]
    subst hm
    have := r [] (by simp)
    simp only [List.append_nil, Nat.zero_mul, Nat.add_zero, List.take_append_drop] at this
    exact this.go _ _ hfi hs
end
end Go.SL
