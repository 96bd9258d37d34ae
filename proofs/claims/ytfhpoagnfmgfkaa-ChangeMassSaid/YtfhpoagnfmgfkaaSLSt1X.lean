/- Contracts of functions of the given program over its translation, each proved by walking its text; used by the laws' rows. It proves no given statement by itself. -/
import Derived.Test.YtfhpoagnfmgfkaaSLSlcOX
import Derived.Test.YtfhpoagnfmgfkaaSLDraw2
set_option autoImplicit false
set_option linter.unusedSectionVars false
set_option linter.unusedSimpArgs false
set_option linter.unusedVariables false
set_option maxRecDepth 4000
set_option maxHeartbeats 32000000
namespace Go.Proofs.Ytfhpoagnfmgfkaa
open Go Go.SL Go.Proofs
variable [Base]
theorem sp_sbook (F : Heap) (m b : Nat) (a : Option Addr) (k c : Nat) (hm : blk m [.pointer (some ⟨b, 0, none⟩), .slice a k c] 67 ∈ F) : Sp Try.prog F 20 [.pointer (some ⟨m, 0, none⟩)] [] (Ret (.pointer (some ⟨b, 0, none⟩))) := by
  have l1 : LoadsF F m (0 + 0) (.pointer (some ⟨b, 0, none⟩)) := ⟨_, _, _, hm, rfl⟩
  refine sp_of_code Try.func20 rfl rfl ?_
  (refine run_seq ?_; refine run_region ?_; refine xep rfl rfl ?_; refine runL_nil ?_; refine then_normal ?_; refine run_seq ?_; refine run_region ?_; (iterate 2 refine xep rfl rfl ?_); refine xel rfl (ev_fieldAddr rfl rfl (fo rfl)) ?_; refine xel rfl (ev_loadF rfl rfl (sc rfl) l1) ?_; refine xep rfl rfl ?_; refine runL_nil ?_; refine then_normal ?_; refine run_ret ?_)
  exact ⟨_, rfl, rfl⟩
theorem sp_slen (F : Heap) (m : Nat) (M : Mk) (h : MkIn F m M) (hw : BW M.B) (hl : mlen M ≤ 64) : Sp Try.prog F 56 [.pointer (some ⟨m, 0, none⟩)] [] (Ret (.int .i64 (mlen M : Nat))) := by
  obtain ⟨b, a, c, h1, h2, h3, hm⟩ := h
  have l1 : LoadsF F m (0 + 0) (.pointer (some ⟨b, 0, none⟩)) := ⟨_, _, _, hm, rfl⟩
  have l2 : LoadsF F m (0 + 1) (.slice a M.W.length c) := ⟨_, _, _, hm, rfl⟩
  have q1 := sp_blen F b M.B h1 hw
  have q1 := fun G : Heap => sp_blen (G ++ F) b M.B h1.up hw
  unfold mlen at hl ⊢
  refine sp_of_code Try.func56 rfl rfl ?_
  (refine run_seq ?_; refine run_region ?_; refine xep rfl rfl ?_; refine runL_nil ?_; refine then_normal ?_; refine run_seq ?_; refine run_region_draw mo (by kernel_rfl) ?_; (iterate 2 refine xqp rfl rfl ?_); refine xql rfl (ev_fieldAddr rfl rfl (fo rfl)) ?_; refine xql rfl (ev_loadF rfl rfl (sc rfl) l1) ?_; refine xql rfl (ev_callQ rfl rfl rfl (pf rfl) (q1 ..)) ?_; (iterate 2 refine xqp rfl rfl ?_); refine xql rfl (ev_fieldAddr rfl rfl (fo rfl)) ?_; refine xql rfl (ev_loadF rfl rfl (sc rfl) l2) ?_; refine xql rfl (ev_len rfl rfl (se rfl)) ?_; refine xql rfl (ev_add rfl rfl rfl (by omega)) ?_; refine xqp rfl rfl ?_; refine runQ_nil ?_; refine then_normal ?_; refine run_ret ?_)
  refine ⟨_, rfl, congrArg (Value.int .i64) ?_⟩
  push_cast; omega
theorem sp_splace1 (F : Heap) (c1 c2 : Nat) (t i : Int) (x : Ord) (l1 : LoadsF F c1 0 (.int .i64 t)) (l2 : LoadsF F c2 0 (.int .i64 i)) :
    Sp Try.prog F 51 [ov x, .pointer (some ⟨c1, 0, none⟩), .pointer (some ⟨c2, 0, none⟩)] [] (Ret (.bool (isO t i x))) := by
  refine sp_of_code Try.func51 rfl rfl ?_
  (refine run_seq ?_; refine run_region ?_; refine runL_box rfl rfl rfl rfl rfl rfl (fun _ => ?_); refine xep rfl rfl ?_; refine runL_nil ?_; refine then_normal ?_; refine run_seq ?_; refine run_region ?_; refine xel rfl (ev_fieldAddr rfl rfl (fo rfl)) ?_; refine xel rfl (ev_loadK rfl rfl (sc rfl) (memF (.head _)) rfl) ?_; refine xel rfl (ev_loadF rfl rfl (sc rfl) l1) ?_; (iterate 2 refine xep rfl rfl ?_); refine xgl rfl rfl (fun hq => ev_fieldAddr rfl rfl (fo rfl)) ?_; refine xgl rfl rfl (fun hq => ev_loadK rfl rfl (sc rfl) (memF (.head _)) rfl) ?_; refine xgl rfl rfl (fun hq => ev_loadF rfl rfl (sc rfl) l2) ?_; refine xgp rfl rfl rfl ?_; (iterate 2 refine xep rfl rfl ?_); refine runL_nil ?_; refine then_normal ?_; refine run_ret ?_)
  exact ⟨_, rfl, rfl⟩
theorem sp_splace (F : Heap) (m : Nat) (M : Mk) (h : MkIn F m M) (hl : M.W.length ≤ 65536) (t i : Int) :
    Sp Try.prog F 31 [.pointer (some ⟨m, 0, none⟩), .int .i64 t, .int .i64 i] [] (Ret (.int .i64 (idxI (isO t i) M.W))) := by
  obtain ⟨b, a, c, h1, h2, hs, hm⟩ := h
  have l1 : LoadsF F m (0 + 1) (.slice a M.W.length c) := ⟨_, _, _, hm, rfl⟩
  refine sp_of_code Try.func31 rfl rfl ?_
  (refine run_seq ?_; refine run_region ?_; (iterate 2 refine runL_box rfl rfl rfl rfl rfl rfl (fun _ => ?_)); refine xep rfl rfl ?_; refine runL_nil ?_; refine then_normal ?_; refine run_seq ?_; refine run_region ?_; (iterate 2 refine xep rfl rfl ?_); refine xel rfl (ev_fieldAddr rfl rfl (fo rfl)) ?_; refine xel rfl (ev_loadF rfl rfl (sc rfl) l1) ?_; refine xel rfl (ev_makeFunc rfl rfl) ?_)
  rename_i c1 c2
  refine runL_ev rfl rfl rfl rfl (ev_callQ rfl rfl rfl (pf rfl) (sp_idxOrd _ a M.W.length c Ord.cells oc_len M.W rfl (by omega) hs.up 51 (pf rfl) _ (isO t i) fun x _ => sp_splace1 _ c1 c2 t i x ⟨_, _, _, memF (.tail _ (.head _)), rfl⟩ ⟨_, _, _, memF (.head _), rfl⟩)) ?_
  (refine xep rfl rfl ?_; refine runL_nil ?_; refine then_normal ?_; refine run_ret ?_)
  exact ⟨_, rfl, rfl⟩
theorem sp_strig1 (F : Heap) (c1 m b : Nat) (a : Option Addr) (k c : Nat) (B : Bk) (x : Ord) (l0 : LoadsF F c1 0 (.pointer (some ⟨m, 0, none⟩))) (hm : blk m [.pointer (some ⟨b, 0, none⟩), .slice a k c] 67 ∈ F) (hB : BkIn F b B) :
    Sp Try.prog F 58 [ov x, .pointer (some ⟨c1, 0, none⟩)] [] (Ret (.bool (hit x B.last))) := by
  refine sp_of_code Try.func58 rfl rfl ?_
  (refine run_seq ?_; refine run_region ?_; refine runL_box rfl rfl rfl rfl rfl rfl (fun _ => ?_); refine xep rfl rfl ?_; refine runL_nil ?_; refine then_normal ?_; refine run_seq ?_)
  rename_i bx
  refine RunC.perm (h' := [] ++ [blk bx x.cells 24]) (fun y => rfl) ?_
  refine RunC.freezeR ?_
  have l1 : LoadsF ([blk bx x.cells 24] ++ F) m (0 + 0) (.pointer (some ⟨b, 0, none⟩)) := ⟨_, _, _, List.mem_append_right _ hm, rfl⟩
  have l2 : LoadsF ([blk bx x.cells 24] ++ F) c1 0 (.pointer (some ⟨m, 0, none⟩)) := l0.up
  have l3 : AggF ([blk bx x.cells 24] ++ F) bx 0 x.cells := ⟨_, _, _, memF (.head _), Nat.le_refl _, rfl⟩
  have q1 := fun G : Heap => sp_blast (G ++ ([blk bx x.cells 24] ++ F)) b B (hB.mono fun y m => by simp [m])
  have q2 := fun F => sp_hit F x B.last

  refine run_region_D mo ?_
  (refine runD_q 0 rfl rfl (by kernel_rfl) ?_; refine ⟨_, fun _ => ev_loadAK rfl rfl (ag rfl) (sz rfl) (memR (memF (.head _))) rfl, ?_⟩; refine runD_q 1 rfl rfl (by kernel_rfl) ?_; refine ⟨_, fun _ => ev_loadF rfl rfl (sc rfl) l2, ?_⟩; refine runD_q 2 rfl rfl (by kernel_rfl) ?_; refine ⟨_, fun _ => ev_pure rfl, ?_⟩; refine runD_q 3 rfl rfl (by kernel_rfl) ?_; refine ⟨_, fun _ => ev_fieldAddr rfl rfl (fo rfl), ?_⟩; refine runD_q 4 rfl rfl (by kernel_rfl) ?_; refine ⟨_, fun _ => ev_loadF rfl rfl (sc rfl) l1, ?_⟩; refine runD_q 5 rfl rfl (by kernel_rfl) ?_; refine ⟨_, fun _ => ev_callQ rfl rfl rfl (pf rfl) (q1 ..), ?_⟩; refine runD_q 6 rfl rfl (by kernel_rfl) ?_; refine ⟨_, fun _ => ev_callQ rfl rfl rfl (pf rfl) (q2 ..), ?_⟩; refine runD_q 7 rfl rfl (by kernel_rfl) ?_; refine ⟨_, fun _ => ev_pure rfl, ?_⟩; refine runD_done (by kernel_rfl) ?_; refine then_normal ?_; refine run_ret ?_)
  exact ⟨_, rfl, rfl⟩
theorem sp_snew (F : Heap) : Sp Try.prog F 26 [] [] (fun v h' => ∃ m, v = .pointer (some ⟨m, 0, none⟩) ∧ MkH m emptyM h') := by
  refine sp_of_code Try.func26 rfl rfl ?_
  (refine run_seq ?_; refine run_region ?_; refine xep rfl rfl ?_; refine runL_nil ?_; refine then_normal ?_; refine run_seq ?_; refine run_region ?_)
  refine runL_call0 rfl rfl rfl rfl rfl rfl rfl (pf rfl) (sp_bnew _) ?_
  rintro v H ⟨b, rfl, hH⟩
  (refine xel rfl (ev_build rfl pl67 rfl) ?_; refine runL_box rfl rfl rfl rfl rfl rfl (fun _ => ?_); refine xep rfl rfl ?_; refine runL_nil ?_; refine then_normal ?_; refine run_ret ?_)
  rename_i m
  exact ⟨_, rfl, m, rfl, b, none, 0, H, [], hH, .nil _ _, by simp; rfl⟩
theorem ev_eqNilS {P : Program} {F : Heap} {N : Nat} {fr : Slots} {cs : Conds} {h : Heap} {o : Oper} {t t' e n : TypeId} {x y : Operand} {p : Option Addr} {len cap : Nat} (ho : o.op = .binOp .eql t x y t') (hx : evO fr x = some (.slice p len cap)) (hy : evO fr y = some (.slice none 0 0)) (ht : sliceB P t e n = true) :
    Ev P F N fr cs h o (.bool p.isNone) := by
  obtain ⟨hu, _⟩ := sliceB_spec ht
  refine Ev.of_run fun a hfa w _ => ?_
  have he : (Op.equal t (.slice p len cap) (.slice none 0 0)).run P w = .ok p.isNone w := by
    unfold Op.equal Op.maxDepth Op.equalIn
    cases p <;> simp [run_underlying hu]
  simp [execOp, ho, hfa.ev hx, hfa.ev hy, eqGuard, binOp, he]
theorem sp_sclone (F : Heap) (a : Option Addr) (k c : Nat) (l : List Ord) (hl : l.length = k) (hk : k ≤ 65536) (h : SrcIs F a k 9 (rows Ord.cells l)) :
    Sp Try.prog F 43 [.slice a k c] [] (fun v h' => OwnS 24 9 v l.length (rows Ord.cells l) h') := by
  refine sp_of_code Try.func43 rfl rfl ?_
  (refine run_seq ?_; refine run_region ?_; refine xep rfl rfl ?_; refine runL_nil ?_; refine then_normal ?_; (iterate 2 refine run_seq ?_); refine run_region ?_; refine xep rfl rfl ?_)
  refine runL_ev rfl rfl rfl rfl (ev_eqNilS rfl rfl rfl (se rfl)) ?_
  (refine runL_nil ?_; refine then_normal ?_)
  cases a with
  | none =>
    have hk0 : k = 0 := by
      rcases h.2 with h | ⟨b, off, _, _, _, h, _⟩
      · exact h
      · cases h
    subst hk0
    have : l = [] := List.length_eq_zero_iff.1 hl
    subst this
    refine run_condT rfl rfl ?_
    (refine run_seq ?_; refine run_region ?_; refine xep rfl rfl ?_; refine runL_nil ?_; refine then_normal ?_; refine run_ret ?_; refine then_ret ?_)
    exact ⟨_, rfl, .nil _ _⟩
  | some ad =>
    refine run_condF rfl rfl ?_
    (refine run_skip ?_; refine then_normal ?_; refine run_seq ?_; refine run_region ?_)
    refine runL_buildSlice (l := []) rfl rfl rfl rfl rfl (se rfl) ze24 rfl rfl rfl rfl rfl (fun b => ?_)
    (refine xep rfl rfl ?_)
    refine runL_append [] rfl rfl rfl rfl rfl rfl rfl (se rfl) (se rfl) ze24 rfl (byt rfl) (OwnS.lit (l := []) (b := b) rfl) (fun _ => by simp only [List.append_nil]) h.up (rows_cells (fun _ => rfl) _) (by decide) (by decide) (by omega) ?_
    rintro v A own
    rw [Nat.zero_add, List.nil_append] at own
    (refine xep rfl rfl ?_; refine runL_nil ?_; refine then_normal ?_; refine run_ret ?_)
    rw [hl]
    exact ⟨_, rfl, by rw [List.append_nil]; exact own⟩
theorem sp_swaiting (F : Heap) (m : Nat) (M : Mk) (h : MkIn F m M) (hl : M.W.length ≤ 65536) : Sp Try.prog F 21 [.pointer (some ⟨m, 0, none⟩)] [] (fun v h' => OwnS 24 9 v M.W.length (rows Ord.cells M.W) h') := by
  obtain ⟨b, a, c, h1, h2, hs, hm⟩ := h
  have l1 : LoadsF F m (0 + 1) (.slice a M.W.length c) := ⟨_, _, _, hm, rfl⟩
  refine sp_of_code Try.func21 rfl rfl ?_
  (refine run_seq ?_; refine run_region ?_; refine xep rfl rfl ?_; refine runL_nil ?_; refine then_normal ?_; refine run_seq ?_; refine run_region ?_; (iterate 2 refine xep rfl rfl ?_); refine xel rfl (ev_fieldAddr rfl rfl (fo rfl)) ?_; refine xel rfl (ev_loadF rfl rfl (sc rfl) l1) ?_)
  refine runL_call0 rfl rfl rfl rfl rfl rfl rfl (pf rfl) (sp_sclone _ a _ c M.W rfl hl hs.up) ?_
  rintro v H own
  (refine xep rfl rfl ?_; refine runL_nil ?_; refine then_normal ?_; refine run_ret ?_)
  exact ⟨_, rfl, by rw [List.append_nil]; exact own⟩
end Go.Proofs.Ytfhpoagnfmgfkaa

set_option autoImplicit false
set_option linter.unusedSectionVars false
set_option linter.unusedSimpArgs false
set_option linter.unusedVariables false
set_option maxRecDepth 4000
set_option maxHeartbeats 64000000
namespace Go.Proofs.Ytfhpoagnfmgfkaa
open Go Go.SL Go.Proofs
variable [Base]
theorem sp_sFind (F : Heap) (m : Nat) (M : Mk) (h : MkIn F m M) (hw : BW M.B) (hl : M.W.length ≤ 65536) (t i : Int) :
    Sp Try.prog F 13 [.pointer (some ⟨m, 0, none⟩), .int .i64 t, .int .i64 i] [] (Ret (.tuple #[ov (mfind t i M).1, .bool (mfind t i M).2])) := by
  have q2 := fun G : Heap => sp_splace (G ++ F) m M h.up hl t i
  obtain ⟨b, a, c, h1, h2, hs, hm⟩ := h
  have l1 : LoadsF F m (0 + 0) (.pointer (some ⟨b, 0, none⟩)) := ⟨_, _, _, hm, rfl⟩
  have l2 : LoadsF F m (0 + 1) (.slice a M.W.length c) := ⟨_, _, _, hm, rfl⟩
  have q1 := fun G : Heap => sp_bFind (G ++ F) b M.B h1.up hw t i
  refine sp_of_codeR Try.func13 rfl rfl ?_
  (refine run_seq ?_; refine run_region ?_; refine runL_alloc rfl rfl rfl rfl rfl ze24 (fun _ => ?_); refine xep rfl rfl ?_; refine runL_nil ?_; refine then_normal ?_; (iterate 2 refine run_seq ?_); refine run_region ?_; (iterate 2 refine xep rfl rfl ?_); refine xel rfl (ev_fieldAddr rfl rfl (fo rfl)) ?_; refine xel rfl (ev_loadF rfl rfl (sc rfl) l1) ?_; (iterate 2 refine xep rfl rfl ?_); refine xel rfl (ev_callQ rfl rfl rfl (pf rfl) (q1 ..)) ?_; (iterate 3 refine xep rfl rfl ?_); refine runL_alloc rfl rfl rfl rfl rfl ze24 (fun _ => ?_); refine runL_store0 rfl rfl rfl rfl rfl (sz rfl) rfl rfl rfl rfl rfl ?_; refine xep rfl rfl ?_; refine runL_nil ?_; refine then_normal ?_; refine run_seq ?_; refine run_region ?_; refine xep rfl rfl ?_; refine runL_nil ?_; refine then_normal ?_)
  rename_i b6 b8
  unfold mfind
  cases hf : (bfind t i M.B).2 with
  | true =>
    refine run_condT rfl rfl ?_
    refine RunC.perm (h' := [blk b8 (bfind t i M.B).1.cells 24, blk b6 o0.cells 24]) (fun x => rfl) ?_
    (refine run_seq ?_; refine run_region ?_; refine xel rfl (ev_loadAK rfl rfl (ag rfl) (sz rfl) (memF (.head _)) rfl) ?_; refine runL_store1 rfl rfl rfl rfl rfl (sz rfl) rfl rfl rfl rfl rfl ?_; refine xep rfl rfl ?_; refine runL_nil ?_; refine then_normal ?_; refine run_ret ?_; refine then_ret ?_)
    exact ⟨_, .agg rfl (memF (.tail _ (.head _))) (ag rfl) (sz rfl) rfl (.tmp rfl .nil), by rw [if_pos rfl]; rfl⟩
  | false =>
    refine run_condF rfl rfl ?_
    refine RunC.perm (h' := [blk b8 (bfind t i M.B).1.cells 24, blk b6 o0.cells 24]) (fun x => rfl) ?_
    (refine run_skip ?_; refine then_normal ?_; (iterate 2 refine run_seq ?_); refine run_region ?_; (iterate 3 refine xep rfl rfl ?_); refine xel rfl (ev_callQ rfl rfl rfl (pf rfl) (q2 ..)) ?_; refine xep rfl rfl ?_; refine runL_nil ?_; refine then_normal ?_; refine run_seq ?_; refine run_region ?_; (iterate 2 refine xep rfl rfl ?_); refine runL_nil ?_; refine then_normal ?_)
    rcases idxI_cases (isO t i) M.W with ⟨hk, hno⟩ | ⟨k, x, hk, hx, hp, hn⟩
    · have e : M.W.findIdx? (isO t i) = none := by rw [List.findIdx?_eq_none_iff]; exact hno
      rw [hk, e]
      refine run_condF rfl rfl ?_
      (refine run_skip ?_; refine then_normal ?_; refine run_seq ?_; refine run_region ?_; refine xel rfl (ev_build rfl pl24 rfl) ?_; refine runL_store1 rfl rfl rfl rfl rfl (sz rfl) rfl rfl rfl rfl rfl ?_; refine xep rfl rfl ?_; refine runL_nil ?_; refine then_normal ?_; refine run_ret ?_)
      exact ⟨_, .agg rfl (memF (.tail _ (.head _))) (ag rfl) (sz rfl) rfl (.tmp rfl .nil), by rw [if_neg (by simp)]; rfl⟩
    · have hlt := (List.getElem?_eq_some_iff.1 hx).1
      have e : M.W.findIdx? (isO t i) = some k := by
        rw [List.findIdx?_eq_some_iff_getElem]
        refine ⟨hlt, by rw [(List.getElem?_eq_some_iff.1 hx).2]; exact hp, fun j hj => ?_⟩
        have := hn j _ hj (List.getElem?_eq_getElem (by omega))
        rw [this]; simp
      rw [hk, e]
      obtain ⟨b2, off, _, _, _, rfl, _⟩ := hs.pos (by omega)
      have l3 := SrcIs.row oc_len hs rfl hx
      refine run_condT rfl (decide_eq_true (by omega)) ?_
      (refine run_seq ?_; refine run_region ?_; (iterate 2 refine xep rfl rfl ?_); refine xel rfl (ev_fieldAddr rfl rfl (fo rfl)) ?_; refine xel rfl (ev_loadF rfl rfl (sc rfl) l2) ?_; refine xep rfl rfl ?_; refine xel rfl (ev_indexAddr rfl rfl rfl (se rfl) (by omega) (by omega)) ?_; refine xel rfl (ev_loadAF rfl rfl (ag rfl) (sz rfl) l3 rfl) ?_; refine runL_store1 rfl rfl rfl rfl rfl (sz rfl) rfl rfl rfl rfl rfl ?_; refine xep rfl rfl ?_; refine runL_nil ?_; refine then_normal ?_; refine run_ret ?_; refine then_ret ?_)
      exact ⟨_, .agg rfl (memF (.tail _ (.head _))) (ag rfl) (sz rfl) rfl (.tmp rfl .nil), by rw [if_neg (by simp)]; dsimp only; rw [hx]; rfl⟩
theorem sp_srefused (F : Heap) (m : Nat) (M : Mk) (h : MkIn F m M) (hw : MW M) (o : Ord) (hk : InI o.kind) :
    Sp Try.prog F 37 [.pointer (some ⟨m, 0, none⟩), ov o] [] (Ret (.int .i64 (mrefused o M))) := by
  have hl : M.W.length ≤ 64 := by have := hw.len; unfold mlen at this; omega
  have hln := hw.len
  have q1 := fun F => sp_right F o hk
  have q2 := fun G : Heap => sp_sFind (G ++ F) m M h.up hw.b (by omega) o.trader o.id
  have q3 := fun G : Heap => sp_slen (G ++ F) m M h.up hw.b hw.len
  refine sp_of_code Try.func37 rfl rfl ?_
  (refine run_seq ?_; refine run_region ?_; refine runL_box rfl rfl rfl rfl rfl rfl (fun _ => ?_); refine xep rfl rfl ?_; refine runL_nil ?_; refine then_normal ?_; (iterate 2 refine run_seq ?_); refine run_region ?_; refine xel rfl (ev_loadAK rfl rfl (ag rfl) (sz rfl) (memF (.head _)) rfl) ?_; refine xel rfl (ev_callQ rfl rfl rfl (pf rfl) (q1 ..)) ?_; refine xep rfl rfl ?_; refine runL_nil ?_; refine then_normal ?_)
  rename_i b3
  by_cases c1 : right o ≠ 0
  · have e : mrefused o M = 1 := by unfold mrefused; rw [if_pos c1]
    rw [e]
    refine run_condT rfl (by simp [c1]) ?_
    (refine run_seq ?_; refine run_region ?_; refine xep rfl rfl ?_; refine runL_nil ?_; refine then_normal ?_; refine run_ret ?_; refine then_ret ?_)
    exact ⟨_, rfl, rfl⟩
  · have c1' : right o = 0 := by omega
    refine run_condF rfl (by simp [c1']) ?_
    refine RunC.perm (h' := [blk b3 o.cells 24]) (fun x => rfl) ?_
    (refine run_skip ?_; refine then_normal ?_; (iterate 2 refine run_seq ?_); refine run_region ?_; refine xep rfl rfl ?_; refine xel rfl (ev_fieldAddr rfl rfl (fo rfl)) ?_; refine xel rfl (ev_loadK rfl rfl (sc rfl) (memF (.head _)) rfl) ?_; refine xel rfl (ev_fieldAddr rfl rfl (fo rfl)) ?_; refine xel rfl (ev_loadK rfl rfl (sc rfl) (memF (.head _)) rfl) ?_; refine xel rfl (ev_callQ rfl rfl rfl (pf rfl) (q2 ..)) ?_; (iterate 3 refine xep rfl rfl ?_); refine runL_alloc rfl rfl rfl rfl rfl ze24 (fun _ => ?_); refine runL_store0 rfl rfl rfl rfl rfl (sz rfl) rfl rfl rfl rfl rfl ?_; refine xep rfl rfl ?_; refine runL_nil ?_; refine then_normal ?_; refine run_seq ?_; refine run_region ?_; refine xep rfl rfl ?_; refine runL_nil ?_; refine then_normal ?_)
    rename_i b5
    cases c2 : (mfind o.trader o.id M).2 with
    | true =>
      have e : mrefused o M = 5 := by unfold mrefused; rw [if_neg c1, if_pos c2]
      rw [e]
      refine run_condT rfl rfl ?_
      (refine run_seq ?_; refine run_region ?_; refine xep rfl rfl ?_; refine runL_nil ?_; refine then_normal ?_; refine run_ret ?_; refine then_ret ?_)
      exact ⟨_, rfl, rfl⟩
    | false =>
      refine run_condF rfl rfl ?_
      refine RunC.perm (h' := [blk b5 (mfind o.trader o.id M).1.cells 24, blk b3 o.cells 24]) (fun x => rfl) ?_
      (refine run_skip ?_; refine then_normal ?_; (iterate 2 refine run_seq ?_); refine run_region ?_; refine xep rfl rfl ?_; refine xel rfl (ev_callQ rfl rfl rfl (pf rfl) (q3 ..)) ?_; (iterate 2 refine xep rfl rfl ?_); refine xgl rfl rfl (fun hq => ev_fieldAddr rfl rfl (fo rfl)) ?_; refine xgl rfl rfl (fun hq => ev_loadK rfl rfl (sc rfl) (memF (.tail _ (.head _))) rfl) ?_; (iterate 2 refine xgp rfl rfl rfl ?_); refine xgl rfl rfl (fun hq => ev_fieldAddr rfl rfl (fo rfl)) ?_; refine xgl rfl rfl (fun hq => ev_loadK rfl rfl (sc rfl) (memF (.tail _ (.head _))) rfl) ?_; (iterate 3 refine xgp rfl rfl rfl ?_); refine xgl rfl rfl (fun hq => ev_fieldAddr rfl rfl (fo rfl)) ?_; refine xgl rfl rfl (fun hq => ev_loadK rfl rfl (sc rfl) (memF (.tail _ (.head _))) rfl) ?_; (iterate 2 refine xgp rfl rfl rfl ?_); refine xep rfl rfl ?_; refine runL_nil ?_; refine then_normal ?_)
      by_cases c3 : 64 ≤ mlen M ∧ (0 < o.stop ∨ o.kind = 1 ∨ o.kind = 5)
      · have e : mrefused o M = 4 := by unfold mrefused; rw [if_neg c1, if_neg (by rw [c2]; simp), if_pos c3]
        rw [e]
        refine run_condT rfl ?_ ?_
        · have h64 : decide ((64 : Int) ≤ (mlen M : Nat)) = true := decide_eq_true (by omega)
          rw [h64]
          rcases c3.2 with h | h | h <;> simp [h]
        (refine run_seq ?_; refine run_region ?_; refine xep rfl rfl ?_; refine runL_nil ?_; refine then_normal ?_; refine run_ret ?_; refine then_ret ?_)
        exact ⟨_, rfl, rfl⟩
      · have e : mrefused o M = 0 := by unfold mrefused; rw [if_neg c1, if_neg (by rw [c2]; simp), if_neg c3]
        rw [e]
        refine run_condF rfl ?_ ?_
        · by_cases h64 : 64 ≤ mlen M
          · have h9 : ¬ (0 < o.stop ∨ o.kind = 1 ∨ o.kind = 5) := fun h => c3 ⟨h64, h⟩
            have n1 : ¬ 0 < o.stop := fun h => h9 (.inl h)
            have n2 : ¬ o.kind = 1 := fun h => h9 (.inr (.inl h))
            have n3 : ¬ o.kind = 5 := fun h => h9 (.inr (.inr h))
            simp [n1, n2, n3]
          · rw [decide_eq_false (by omega : ¬ (64 : Int) ≤ (mlen M : Nat))]; rfl
        (refine run_skip ?_; refine then_normal ?_; refine run_seq ?_; refine run_region ?_; refine xep rfl rfl ?_; refine runL_nil ?_; refine then_normal ?_; refine run_ret ?_)
        exact ⟨_, rfl, rfl⟩
end Go.Proofs.Ytfhpoagnfmgfkaa

set_option autoImplicit false
set_option linter.unusedSectionVars false
set_option linter.unusedSimpArgs false
set_option linter.unusedVariables false
set_option maxRecDepth 4000
set_option maxHeartbeats 64000000
namespace Go.Proofs.Ytfhpoagnfmgfkaa
open Go Go.SL Go.Proofs
def zOut : List Value := [.int .i64 0, .int .i64 0, .int .i64 0, .int .i64 0, .int .i64 0, .int .i64 0, .int .i64 0, .int .i64 0, .int .i64 0, .slice none 0 0, .int .i64 0, .bool false, .bool false, .bool false, .int .i64 0]
variable [Base]
theorem sp_senter (F HB : Heap) (m b : Nat) (a0 : Option Addr) (k0 c0 : Nat) (hm : blk m [.pointer (some ⟨b, 0, none⟩), .slice a0 k0 c0] 67 ∈ F) (B : Bk) (hH : BkH b B HB) (hw : BW B) (o : Ord) (hk : InI o.kind) (hn : 0 ≤ B.no) (hn2 : B.no ≤ 1099511627776) :
    Sp Try.prog F 40 [.pointer (some ⟨m, 0, none⟩), ov o] HB (fun v h' => ∃ a c A H', v = .agg ⟨outV a c (menter o B).1⟩ ∧ OwnS 61 21 (.slice a (menter o B).1.fs.length c) (menter o B).1.fs.length (rows fcell (menter o B).1.fs) A ∧ BkH b (menter o B).2 H' ∧ h' = H' ++ A) := by
  have cA := fun G => sp_badd G HB b B hH hw (bare o) hk hn hn2
  refine Sp.up ?_
  refine sp_of_codeR Try.func40 rfl rfl ?_
  (refine run_seq ?_; refine run_region ?_; refine runL_box rfl rfl rfl rfl rfl rfl (fun _ => ?_); refine runL_alloc rfl rfl rfl rfl rfl ze51 (fun _ => ?_); refine runL_nil ?_; refine then_normal ?_; refine run_seq ?_; refine run_region ?_; refine xel rfl (ev_loadAK rfl rfl (ag rfl) (sz rfl) (memF (.tail _ (.head _))) rfl) ?_; refine runL_alloc rfl rfl rfl rfl rfl ze24 (fun _ => ?_); refine runL_store0 rfl rfl rfl rfl rfl (sz rfl) rfl rfl rfl rfl rfl ?_; refine runL_nil ?_; refine then_normal ?_; refine run_seq ?_; refine run_region ?_; refine xel rfl (ev_fieldAddr rfl rfl (fo rfl)) ?_; refine runL_store0 rfl rfl rfl rfl rfl (sz rfl) rfl rfl rfl rfl rfl ?_; refine runL_nil ?_; refine then_normal ?_; refine run_seq ?_)
  rename_i b3 b4 b5
  refine RunC.perm (h' := HB ++ [blk b5 (bare o).cells 24, blk b4 zOut 51, blk b3 o.cells 24]) (fun y => by show cnt y (blk b5 (bare o).cells 24 :: blk b4 zOut 51 :: blk b3 o.cells 24 :: HB) = _; (first | rfl | (simp only [List.append_eq, cnt_append, cnt_cons, cnt_nil, blk]; omega) | (simp only [List.append_eq, cnt_append, cnt_cons, cnt_nil, blk]; done))) ?_
  have l1 : LoadsF ([blk b5 (bare o).cells 24, blk b4 zOut 51, blk b3 o.cells 24] ++ F) m (0 + 0) (.pointer (some ⟨b, 0, none⟩)) := ⟨_, _, _, List.mem_append_right _ hm, rfl⟩
  have l2 : AggF ([blk b5 (bare o).cells 24, blk b4 zOut 51, blk b3 o.cells 24] ++ F) b5 0 (bare o).cells := ⟨_, _, _, memF (.head _), Nat.le_refl _, rfl⟩
  unfold menter
  generalize hX : badd (bare o) B = X at *
  refine run_region_D3 (σ := (Option Addr × Nat × Heap × Heap) × Nat) 7 1 [3, 4] (fun s => [(14, .agg ⟨outV s.1.1 s.1.2.1 X.1⟩), (6, .pointer (some ⟨s.2, 0, none⟩))])
    (fun s => blk s.2 zOut 51 :: (s.1.2.2.2 ++ s.1.2.2.1))
    (fun s => OwnS 61 21 (.slice s.1.1 X.1.fs.length s.1.2.1) X.1.fs.length (rows fcell X.1.fs) s.1.2.2.1 ∧ BkH b X.2 s.1.2.2.2) mo rfl (by kernel_rfl) rfl ?_ ?_
  · (refine runD_q 0 rfl rfl (by kernel_rfl) ?_; refine ⟨_, fun _ => ev_pure rfl, ?_⟩; refine runD_q 1 rfl rfl (by kernel_rfl) ?_; refine ⟨_, fun _ => ev_pure rfl, ?_⟩; refine runD_q 2 rfl rfl (by kernel_rfl) ?_; refine ⟨_, fun _ => ev_fieldAddr rfl rfl (fo rfl), ?_⟩; refine runD_q 3 rfl rfl (by kernel_rfl) ?_; refine ⟨_, fun _ => ev_loadF rfl rfl (sc rfl) l1, ?_⟩; refine runD_q 4 rfl rfl (by kernel_rfl) ?_; refine ⟨_, fun _ => ev_loadAK rfl rfl (ag rfl) (sz rfl) (memR (memF (.head _))) rfl, ?_⟩)
    refine runD_2 5 6 (by kernel_rfl) (oneD rfl rfl rfl ?_) (oneD rfl rfl rfl ?_)
    · refine runL_callZ [] HB rfl rfl rfl rfl rfl rfl rfl (pf rfl) (fun x => by (first | rfl | (simp only [List.append_eq, cnt_append, cnt_cons, cnt_nil, blk]; omega) | (simp only [List.append_eq, cnt_append, cnt_cons, cnt_nil, blk]; done))) (cA _) ?_
      rintro v _ ⟨a1, c1, A1, H1, rfl, own1, hH1, rfl⟩
      (refine runL_nil ?_; refine endS_d rfl ?_; refine runD_1 6 (by kernel_rfl) rfl rfl rfl ?_; refine runL_alloc rfl rfl rfl rfl rfl ze51 (fun _ => ?_); refine runL_nil ?_; refine endS_d rfl ?_; refine runD_done (by kernel_rfl) ?_)
      rename_i b6
      exact midX ((a1, c1, A1, H1), b6) ⟨own1, hH1⟩ rfl (fun x => by simp only [List.append_eq, cnt_append, cnt_cons, cnt_nil, blk, zOut, outV, menter, bare, Ord.cells]; try omega)
    · (refine runL_alloc rfl rfl rfl rfl rfl ze51 (fun _ => ?_); refine runL_nil ?_; refine endS_d rfl ?_; refine runD_1 5 (by kernel_rfl) rfl rfl rfl ?_)
      rename_i b6
      refine RunL.perm (h' := blk b6 zOut 51 :: HB) (fun x => by simp only [List.append_eq, cnt_append, cnt_cons, cnt_nil, blk, zOut, outV, menter, bare, Ord.cells]; try omega) ?_
      refine runL_callZ [blk b6 zOut 51] HB rfl rfl rfl rfl rfl rfl rfl (pf rfl) (fun x => by (first | rfl | (simp only [List.append_eq, cnt_append, cnt_cons, cnt_nil, blk]; omega) | (simp only [List.append_eq, cnt_append, cnt_cons, cnt_nil, blk]; done))) (cA _) ?_
      rintro v _ ⟨a1, c1, A1, H1, rfl, own1, hH1, rfl⟩
      (refine runL_nil ?_; refine endS_d rfl ?_; refine runD_done (by kernel_rfl) ?_)
      exact midX ((a1, c1, A1, H1), b6) ⟨own1, hH1⟩ rfl (fun x => by simp only [List.append_eq, cnt_append, cnt_cons, cnt_nil, blk, zOut, outV, menter, bare, Ord.cells]; try omega)
  · rintro ⟨⟨a1, c1, A1, H1⟩, b6⟩ ⟨own1, hH1⟩
    dsimp only at own1 hH1 ⊢
    refine RunD.same (M' := blk b6 zOut 51 :: blk b4 zOut 51 :: blk b3 o.cells 24 :: (H1 ++ A1 ++ [blk b5 (bare o).cells 24])) (fun _ _ h => h) (fun x => by simp only [List.append_eq, cnt_append, cnt_cons, cnt_nil, blk, zOut, outV, menter, bare, Ord.cells]; try omega) ?_
    (refine runD_1 7 (by kernel_rfl) rfl rfl rfl ?_; refine runL_store0 rfl rfl rfl rfl rfl (sz rfl) rfl rfl rfl rfl rfl ?_; refine runL_nil ?_; refine endS_n rfl ?_; refine runD_done (by kernel_rfl) ?_; refine then_normal ?_; refine run_seq ?_; refine run_region ?_; refine xel rfl (ev_loadAK rfl rfl (ag rfl) (sz rfl) (memF (.tail _ (.tail _ (.head _)))) rfl) ?_; refine xel rfl (ev_fieldAddr rfl rfl (fo rfl)) ?_; refine runL_store0 rfl rfl rfl rfl rfl (sz rfl) rfl rfl rfl rfl rfl ?_; refine runL_nil ?_; refine then_normal ?_; refine run_seq ?_; refine run_region ?_; refine xel rfl (ev_loadAK rfl rfl (ag rfl) (sz rfl) (memF (.head _)) rfl) ?_; refine runL_store1 rfl rfl rfl rfl rfl (sz rfl) rfl rfl rfl rfl rfl ?_; refine runL_nil ?_; refine then_normal ?_; refine run_ret ?_)
    exact ⟨_, .agg rfl (memF (.tail _ (.head _))) (ag rfl) (sz rfl) rfl .nil, H1 ++ A1, [blk b6 (outV a1 c1 ⟨o, X.1.fs, X.1.left, X.1.rests, X.1.waits, X.1.self, X.1.err⟩) 51, blk b4 (outV a1 c1 ⟨o, X.1.fs, X.1.left, X.1.rests, X.1.waits, X.1.self, X.1.err⟩) 51, blk b3 o.cells 24, blk b5 (bare o).cells 24], ⟨a1, c1, A1, H1, rfl, own1, hH1, rfl⟩, fun y => by show cnt y (blk b6 (outV a1 c1 ⟨o, X.1.fs, X.1.left, X.1.rests, X.1.waits, X.1.self, X.1.err⟩) 51 :: blk b4 (outV a1 c1 ⟨o, X.1.fs, X.1.left, X.1.rests, X.1.waits, X.1.self, X.1.err⟩) 51 :: blk b3 o.cells 24 :: (H1 ++ A1 ++ [blk b5 (bare o).cells 24])) = _; (first | rfl | (simp only [List.append_eq, cnt_append, cnt_cons, cnt_nil, blk]; omega) | (simp only [List.append_eq, cnt_append, cnt_cons, cnt_nil, blk]; done))⟩
end Go.Proofs.Ytfhpoagnfmgfkaa

set_option autoImplicit false
set_option linter.unusedSectionVars false
set_option linter.unusedSimpArgs false
set_option linter.unusedVariables false
set_option maxRecDepth 4000
set_option maxHeartbeats 100000000
namespace Go.Proofs.Ytfhpoagnfmgfkaa
open Go Go.SL Go.Proofs
theorem mtrig_none {n : Nat} {M : Mk} (h : M.W.findIdx? (fun o => hit o M.B.last) = none) : mtrig n M = ([], M) := by
  cases n with
  | zero => rfl
  | succ n => unfold mtrig; rw [h]
theorem mtrig_some {n k : Nat} {M : Mk} {o : Ord} (h : M.W.findIdx? (fun o => hit o M.B.last) = some k) (ho : M.W[k]? = some o) : mtrig (n + 1) M = ((menter o M.B).1 :: (mtrig n ⟨(menter o M.B).2, M.W.take k ++ M.W.drop (k + 1)⟩).1, (mtrig n ⟨(menter o M.B).2, M.W.take k ++ M.W.drop (k + 1)⟩).2) := by
  conv => lhs; unfold mtrig
  rw [h]
  dsimp only
  rw [ho]
variable [Base]
/-- What is so while those that wait are triggered. -/
structure TrigI (m : Nat) (M : Mk) (ts : List ((Option Addr × Nat) × Out)) (N : Mk) : Prop where
  w : MW N
  is : mtrig M.W.length M = (ts.map (·.2) ++ (mtrig N.W.length N).1, (mtrig N.W.length N).2)
  len : ts.length + N.W.length ≤ 64
  no : N.B.no ≤ 1099443470336 + ts.length * 1048576
theorem sp_strig (F H : Heap) (m : Nat) (M : Mk) (hH : MkH m M H) (hw : MW M) (hn2 : M.B.no ≤ 1099443470336) :
    Sp Try.prog F 41 [.pointer (some ⟨m, 0, none⟩)] H (fun v h' => ∃ a c ts A HF H', v = .slice a ts.length c ∧ ts.map (·.2) = (mtrig M.W.length M).1 ∧ ts.length ≤ 64 ∧ OwnS 51 15 (.slice a ts.length c) ts.length (rows orow ts) A ∧ FsH ts HF ∧ MkH m (mtrig M.W.length M).2 H' ∧ h' = H' ++ A ++ HF) := by
  have hW : M.W.length ≤ 64 := by have := hw.len; unfold mlen at this; omega
  refine Sp.up ?_
  refine sp_of_code Try.func41 rfl rfl ?_
  (refine run_seq ?_; refine run_region ?_; refine runL_box rfl rfl rfl rfl rfl rfl (fun _ => ?_); refine xep rfl rfl ?_; refine runL_nil ?_; refine then_normal ?_; refine run_seq ?_; refine run_region ?_; refine xep rfl rfl ?_; refine runL_nil ?_; refine then_normal ?_; refine run_block ?_)
  rename_i c1
  refine run_loopK (σ := (Mk × List ((Option Addr × Nat) × Out)) × (Option Addr × Nat × Heap) × Heap × Heap) [1, 3] (fun s => [(1, .pointer (some ⟨c1, 0, none⟩)), (3, .slice s.2.1.1 s.1.2.length s.2.1.2.1)])
    (fun s => blk c1 [.pointer (some ⟨m, 0, none⟩)] 31 :: (s.2.2.2 ++ (s.2.1.2.2 ++ s.2.2.1)))
    (fun s => TrigI m M s.1.2 s.1.1 ∧ OwnS 51 15 (.slice s.2.1.1 s.1.2.length s.2.1.2.1) s.1.2.length (rows orow s.1.2) s.2.1.2.2 ∧ FsH s.1.2 s.2.2.1 ∧ MkH m s.1.1 s.2.2.2)
    (fun s => s.1.1.W.length) ((M, []), (none, 0, []), [], H) ⟨⟨hw, by simp, by simpa using hW, by simpa using hn2⟩, .nil _ _, rfl, hH⟩ rfl (fun x => by show cnt x (blk c1 [.pointer (some ⟨m, 0, none⟩)] 31 :: H) = _; (first | rfl | (simp only [List.append_eq, cnt_append, cnt_cons, cnt_nil, blk]; omega) | (simp only [List.append_eq, cnt_append, cnt_cons, cnt_nil, blk]; done))) ?_
  rintro ⟨⟨N, ts⟩, ⟨ao, co, A⟩, HF, HM⟩ ⟨hI, own, hF, hMH⟩
  dsimp only at hI own hF hMH ⊢
  obtain ⟨b, aw, cw, HB, AW, hB, ownW, rfl⟩ := hMH
  have hNl : N.W.length ≤ 64 := by have := hI.len; omega
  (refine run_block ?_; refine run_seq ?_; refine run_region ?_; refine xel rfl (ev_loadK rfl rfl (sc rfl) (memF (.head _)) rfl) ?_; refine xep rfl rfl ?_; refine xel rfl (ev_fieldAddr rfl rfl (fo rfl)) ?_; refine xel rfl (ev_loadK rfl rfl (sc rfl) (memF (.tail _ (.head _))) rfl) ?_; refine xel rfl (ev_makeFunc rfl rfl) ?_)
  have hm0 : ∀ G : Heap, blk m [.pointer (some ⟨b, 0, none⟩), .slice aw N.W.length cw] 67 ∈ (blk c1 [.pointer (some ⟨m, 0, none⟩)] 31 :: ((blk m [.pointer (some ⟨b, 0, none⟩), .slice aw N.W.length cw] 67 :: (HB ++ AW)) ++ (A ++ HF))) ++ G := fun G => by simp
  refine runL_ev rfl rfl rfl rfl (ev_callQ rfl rfl rfl (pf rfl) (sp_idxOrd _ aw N.W.length cw Ord.cells oc_len N.W rfl (by omega) (ownW.src fun x mx => by simp [mx]) 58 (pf rfl) _ (fun o => hit o N.B.last) fun x _ => sp_strig1 _ c1 m b aw N.W.length cw N.B x ⟨_, _, _, memF (.head _), rfl⟩ (hm0 F) (hB.in fun y my => by simp [my]))) ?_
  (refine xep rfl rfl ?_; refine runL_nil ?_; refine then_normal ?_; (iterate 2 refine run_seq ?_); refine run_region ?_; (iterate 2 refine xep rfl rfl ?_); refine runL_nil ?_; refine then_normal ?_)
  rcases idxI_cases (fun o => hit o N.B.last) N.W with ⟨hk, hno⟩ | ⟨k, o, hk, ho, hp, hnp⟩
  · rw [hk]
    have hfi : N.W.findIdx? (fun o => hit o N.B.last) = none := by rw [List.findIdx?_eq_none_iff]; exact hno
    have his := hI.is
    rw [mtrig_none hfi, List.append_nil] at his
    refine run_condT rfl rfl ?_
    (refine run_seq ?_; refine run_region ?_; (iterate 2 refine xep rfl rfl ?_); refine runL_nil ?_; refine then_normal ?_; refine run_ret ?_; refine then_ret ?_; refine in_ret ?_; refine then_ret ?_; refine in_ret ?_)
    refine ⟨_, rfl, (blk m [.pointer (some ⟨b, 0, none⟩), .slice aw N.W.length cw] 67 :: (HB ++ AW)) ++ A ++ HF, [blk c1 [.pointer (some ⟨m, 0, none⟩)] 31], ⟨ao, co, ts, A, HF, blk m [.pointer (some ⟨b, 0, none⟩), .slice aw N.W.length cw] 67 :: (HB ++ AW), rfl, by rw [his], by have := hI.len; omega, own, hF, by rw [his]; exact ⟨b, aw, cw, HB, AW, hB, ownW, rfl⟩, rfl⟩, fun y => by (first | rfl | (simp only [List.append_eq, cnt_append, cnt_cons, cnt_nil, blk]; omega) | (simp only [List.append_eq, cnt_append, cnt_cons, cnt_nil, blk]; done))⟩
  · rw [hk]
    have hlt := (List.getElem?_eq_some_iff.1 ho).1
    have hfi : N.W.findIdx? (fun o => hit o N.B.last) = some k := by
      rw [List.findIdx?_eq_some_iff_getElem]
      refine ⟨hlt, by rw [(List.getElem?_eq_some_iff.1 ho).2]; exact hp, fun j hj => ?_⟩
      have := hnp j _ hj (List.getElem?_eq_getElem (by omega))
      rw [this]; simp
    obtain ⟨b2, rest, cap', hv, rfl, hl2, hr2, hk2⟩ := ownW.pos (by omega)
    cases hv
    refine run_condF rfl (decide_eq_false (by omega)) ?_
    have r1 : RowAt (rows Ord.cells N.W ++ rest) (0 + (k : Int).toNat * 9) o.cells := by
      rw [Nat.zero_add]; exact rows_at oc_len ho rest
    (refine run_skip ?_; refine then_normal ?_)
    refine RunC.perm (h' := blk c1 [.pointer (some ⟨m, 0, none⟩)] 31 :: blk m [.pointer (some ⟨b, 0, none⟩), .slice (some ⟨b2, 0, none⟩) N.W.length cw] 67 :: blk b2 (rows Ord.cells N.W ++ rest) 24 :: (HB ++ A ++ HF)) (fun y => by (first | rfl | (simp only [List.append_eq, cnt_append, cnt_cons, cnt_nil, blk]; omega) | (simp only [List.append_eq, cnt_append, cnt_cons, cnt_nil, blk]; done))) ?_
    (refine run_seq ?_; refine run_region ?_; refine xel rfl (ev_loadK rfl rfl (sc rfl) (memF (.head _)) rfl) ?_; refine xep rfl rfl ?_; refine xel rfl (ev_fieldAddr rfl rfl (fo rfl)) ?_; refine xel rfl (ev_loadK rfl rfl (sc rfl) (memF (.tail _ (.head _))) rfl) ?_; refine xep rfl rfl ?_; refine xel rfl (ev_indexAddr rfl rfl rfl (se rfl) (by omega) (by omega)) ?_; refine xel rfl (ev_loadAR rfl rfl (ag rfl) (sz rfl) (memF (.tail _ (.tail _ (.head _)))) r1 rfl) ?_; refine runL_alloc rfl rfl rfl rfl rfl ze24 (fun _ => ?_); refine runL_store0 rfl rfl rfl rfl rfl (sz rfl) rfl rfl rfl rfl rfl ?_; refine runL_nil ?_; refine then_normal ?_; refine run_seq ?_)
    rename_i x5
    refine RunC.perm (h' := [blk b2 (rows Ord.cells N.W ++ rest) 24] ++ (blk x5 o.cells 24 :: blk c1 [.pointer (some ⟨m, 0, none⟩)] 31 :: blk m [.pointer (some ⟨b, 0, none⟩), .slice (some ⟨b2, 0, none⟩) N.W.length cw] 67 :: (HB ++ A ++ HF))) (fun y => by show cnt y (blk x5 o.cells 24 :: blk c1 [.pointer (some ⟨m, 0, none⟩)] 31 :: blk m [.pointer (some ⟨b, 0, none⟩), .slice (some ⟨b2, 0, none⟩) N.W.length cw] 67 :: blk b2 (rows Ord.cells N.W ++ rest) 24 :: (HB ++ A ++ HF)) = _; (first | rfl | (simp only [List.append_eq, cnt_append, cnt_cons, cnt_nil, blk]; omega) | (simp only [List.append_eq, cnt_append, cnt_cons, cnt_nil, blk]; done))) ?_
    have l1 : LoadsF ((blk x5 o.cells 24 :: blk c1 [.pointer (some ⟨m, 0, none⟩)] 31 :: blk m [.pointer (some ⟨b, 0, none⟩), .slice (some ⟨b2, 0, none⟩) N.W.length cw] 67 :: (HB ++ A ++ HF)) ++ F) c1 0 (.pointer (some ⟨m, 0, none⟩)) := ⟨_, _, _, memF (.tail _ (.head _)), rfl⟩
    have l2 : LoadsF ((blk x5 o.cells 24 :: blk c1 [.pointer (some ⟨m, 0, none⟩)] 31 :: blk m [.pointer (some ⟨b, 0, none⟩), .slice (some ⟨b2, 0, none⟩) N.W.length cw] 67 :: (HB ++ A ++ HF)) ++ F) m (0 + 1) (.slice (some ⟨b2, 0, none⟩) N.W.length cw) := ⟨_, _, _, memF (.tail _ (.tail _ (.head _))), rfl⟩
    have hN := cut_len ho
    refine run_region_D3 (σ := Option Addr × Nat × Heap) 9 3 [1, 3, 5] (fun s => [(30, .slice s.1 (N.W.take k ++ N.W.drop (k + 1)).length s.2.1), (22, .pointer (some ⟨m, 0, none⟩))])
      (fun s => s.2.2) (fun s => OwnS 24 9 (.slice s.1 (N.W.take k ++ N.W.drop (k + 1)).length s.2.1) (N.W.take k ++ N.W.drop (k + 1)).length (rows Ord.cells (N.W.take k ++ N.W.drop (k + 1))) s.2.2) mo rfl (by kernel_rfl) rfl ?_ ?_
    · (refine runD_q 0 rfl rfl (by kernel_rfl) ?_; refine ⟨_, fun _ => ev_loadK rfl rfl (sc rfl) (memR (memF (.tail _ (.head _)))) rfl, ?_⟩; refine runD_q 1 rfl rfl (by kernel_rfl) ?_; refine ⟨_, fun _ => ev_loadK rfl rfl (sc rfl) (memR (memF (.tail _ (.head _)))) rfl, ?_⟩; refine runD_q 2 rfl rfl (by kernel_rfl) ?_; refine ⟨_, fun _ => ev_pure rfl, ?_⟩; refine runD_q 3 rfl rfl (by kernel_rfl) ?_; refine ⟨_, fun _ => ev_fieldAddr rfl rfl (fo rfl), ?_⟩; refine runD_q 4 rfl rfl (by kernel_rfl) ?_; refine ⟨_, fun _ => ev_loadK rfl rfl (sc rfl) (memR (memF (.tail _ (.tail _ (.head _))))) rfl, ?_⟩; refine runD_q 5 rfl rfl (by kernel_rfl) ?_; refine ⟨_, fun _ => ev_pure rfl, ?_⟩; refine runD_q 6 rfl rfl (by kernel_rfl) ?_; refine ⟨_, fun _ => ev_pure rfl, ?_⟩; refine runD_q 7 rfl rfl (by kernel_rfl) ?_; refine ⟨_, fun _ => ev_add rfl rfl rfl (by omega), ?_⟩; refine runD_1 8 (by kernel_rfl) rfl rfl rfl ?_)
      refine runL_callZ [] [blk b2 (rows Ord.cells N.W ++ rest) 24] rfl rfl rfl rfl rfl rfl rfl (pf rfl) (fun y => rfl) (sp_delOrd _ _ _ _ _ _ ownW (rows_cells (fun _ => rfl) _) k (k + 1) (by omega) (by omega)) ?_
      rintro v A' own'
      rw [rows_take oc_len N.W (by omega), rows_drop oc_len N.W (by omega), ← rows_append] at own'
      have hlen : N.W.length - (k + 1 - k) = (N.W.take k ++ N.W.drop (k + 1)).length := by omega
      rw [hlen] at own'
      obtain ⟨a5, c5, rfl, own5⟩ := own'.at
      (refine runL_nil ?_; refine endS_d rfl ?_; refine runD_done (by kernel_rfl) ?_)
      exact midX (a5, c5, A') own5 rfl (fun x => by (first | rfl | (simp only [List.append_eq, cnt_append, cnt_cons, cnt_nil, blk]; omega) | (simp only [List.append_eq, cnt_append, cnt_cons, cnt_nil, blk]; done)))
    · rintro ⟨a5, c5, A'⟩ own5
      dsimp only at own5 ⊢
      have hmem : ∀ x ∈ N.W.take k ++ N.W.drop (k + 1), x ∈ N.W := fun x mx => cut_mem mx
      refine RunD.same (M' := blk m [.pointer (some ⟨b, 0, none⟩), .slice (some ⟨b2, 0, none⟩) N.W.length cw] 67 :: (blk x5 o.cells 24 :: blk c1 [.pointer (some ⟨m, 0, none⟩)] 31 :: (A' ++ HB ++ A ++ HF))) (fun _ _ h => h) (fun x => by (first | rfl | (simp only [List.append_eq, cnt_append, cnt_cons, cnt_nil, blk]; omega) | (simp only [List.append_eq, cnt_append, cnt_cons, cnt_nil, blk]; done))) ?_
      (refine runD_q 9 rfl rfl (by kernel_rfl) ?_; refine ⟨_, fun _ => ev_pure rfl, ?_⟩; refine runD_q 10 rfl rfl (by kernel_rfl) ?_; refine ⟨_, fun _ => ev_fieldAddr rfl rfl (fo rfl), ?_⟩; refine runD_1 11 (by kernel_rfl) rfl rfl rfl ?_; refine runL_store0 rfl rfl rfl rfl rfl (sz rfl) rfl rfl rfl rfl rfl ?_; refine runL_nil ?_; refine endS_n rfl ?_; refine runD_done (by kernel_rfl) ?_; refine then_normal ?_; refine run_region ?_; refine xep rfl rfl ?_; refine xel rfl (ev_loadK rfl rfl (sc rfl) (memF (.tail _ (.tail _ (.head _)))) rfl) ?_; refine xel rfl (ev_loadAK rfl rfl (ag rfl) (sz rfl) (memF (.tail _ (.head _))) rfl) ?_)
      have hkI : InI o.kind := by have := hI.w.w o (List.mem_of_getElem? ho); unfold rightP at this; unfold InI; omega
      have hno := hI.no
      have hlen2 := hI.len
      have hme := menter_ok (o := o) hI.w.b hI.w.no
      have hwn := hI.w.no
      have hwl := hI.w.len
      unfold mlen at hwl
      refine runL_callZ (blk m [.pointer (some ⟨b, 0, none⟩), .slice a5 (N.W.take k ++ N.W.drop (k + 1)).length c5] 67 :: (blk x5 o.cells 24 :: blk c1 [.pointer (some ⟨m, 0, none⟩)] 31 :: (A' ++ A ++ HF))) HB rfl rfl rfl rfl rfl rfl rfl (pf rfl) (fun y => by (first | rfl | (simp only [List.append_eq, cnt_append, cnt_cons, cnt_nil, blk]; omega) | (simp only [List.append_eq, cnt_append, cnt_cons, cnt_nil, blk]; done))) (sp_senter _ HB m b a5 _ c5 (List.mem_cons_self ..) N.B hB hI.w.b o hkI hI.w.no (by omega)) ?_
      rintro v _ ⟨a7, c7, A7, H7, rfl, own7, hB7, rfl⟩
      skip
      refine runL_buildSlice (l := outV a7 c7 (menter o N.B).1) rfl rfl rfl rfl rfl (se rfl) ze51 rfl rfl rfl rfl rfl (fun b37 => ?_)
      skip
      refine runL_append (sl := outV a7 c7 (menter o N.B).1) (blk b37 (outV a7 c7 (menter o N.B).1) 51 :: (blk m [.pointer (some ⟨b, 0, none⟩), .slice a5 (N.W.take k ++ N.W.drop (k + 1)).length c5] 67 :: (blk x5 o.cells 24 :: blk c1 [.pointer (some ⟨m, 0, none⟩)] 31 :: (A' ++ HF ++ H7 ++ A7)))) rfl rfl rfl rfl rfl rfl rfl (se rfl) (se rfl) ze51 rfl (byt rfl) own (fun y => by (first | rfl | (simp only [List.append_eq, cnt_append, cnt_cons, cnt_nil, blk]; omega) | (simp only [List.append_eq, cnt_append, cnt_cons, cnt_nil, blk]; done))) ⟨rfl, .inr ⟨b37, 0, _, _, _, rfl, memF (.head _), by simp [outV], rfl⟩⟩ rfl (by decide) (by decide) (by omega) ?_
      rintro v' A8 own'
      obtain ⟨a8, c8, rfl, own8⟩ := (own'.snoc (f := orow) (x := ((a7, c7), (menter o N.B).1)) rfl).at
      (refine xep rfl rfl ?_; refine runL_nil ?_; refine in_normal ?_; refine then_normal ?_)
      refine ⟨((⟨(menter o N.B).2, N.W.take k ++ N.W.drop (k + 1)⟩, ts ++ [((a7, c7), (menter o N.B).1)]), (a8, c8, A8), HF ++ A7, blk m [.pointer (some ⟨b, 0, none⟩), .slice a5 (N.W.take k ++ N.W.drop (k + 1)).length c5] 67 :: (H7 ++ A')), ⟨⟨⟨hme.1, by show 0 ≤ (menter o N.B).2.no; omega, ?_, fun x mx => hI.w.w x (cut_mem mx)⟩, ?_, ?_, ?_⟩, own8, FsH.append hF ⟨A7, [], own7, rfl, by rw [List.append_nil]⟩, b, a5, c5, H7, A', hB7, own5, rfl⟩, by show (N.W.take k ++ N.W.drop (k + 1)).length < N.W.length; omega, rfl, blk b37 (outV a7 c7 (menter o N.B).1) 51 :: [blk x5 o.cells 24], fun y => by (first | rfl | (simp only [List.append_eq, cnt_append, cnt_cons, cnt_nil, blk]; omega) | (simp only [List.append_eq, cnt_append, cnt_cons, cnt_nil, blk]; done))⟩
      · show lenL (menter o N.B).2.buys + lenL (menter o N.B).2.sells + (N.W.take k ++ N.W.drop (k + 1)).length ≤ 64
        have h4 := hme.2.2.2
        have h5 : (if rests o = true then 1 else 0) ≤ 1 := by by_cases hre : rests o = true <;> simp [hre]
        omega
      · have his := hI.is
        rw [← hN, mtrig_some hfi ho] at his
        rw [his]; simp
      · show (ts ++ [_]).length + (N.W.take k ++ N.W.drop (k + 1)).length ≤ 64
        rw [List.length_append, List.length_singleton]; omega
      · have h6 : ((ts ++ [((a7, c7), (menter o N.B).1)]).length : Int) = ts.length + 1 := by simp
        dsimp only
        rw [h6]; omega
end Go.Proofs.Ytfhpoagnfmgfkaa

set_option autoImplicit false
set_option linter.unusedSectionVars false
set_option linter.unusedSimpArgs false
set_option linter.unusedVariables false
set_option maxRecDepth 4000
set_option maxHeartbeats 200000000
namespace Go.Proofs.Ytfhpoagnfmgfkaa
open Go Go.SL Go.Proofs
variable [Base]
theorem sp_sadd (F H : Heap) (m : Nat) (M : Mk) (hH : MkH m M H) (hw : MW M) (hn2 : M.B.no ≤ 1099442421760) (o : Ord) (hk : InI o.kind) :
    Sp Try.prog F 18 [.pointer (some ⟨m, 0, none⟩), ov o] H (fun v h' => ∃ a c ts A HF H', v = .slice a ts.length c ∧ ts.map (·.2) = (madd o M).1 ∧ ts.length ≤ 65 ∧ OwnS 51 15 (.slice a ts.length c) ts.length (rows orow ts) A ∧ FsH ts HF ∧ MkH m (madd o M).2 H' ∧ h' = H' ++ A ++ HF) := by
  have hln := hw.len
  have hWl : M.W.length ≤ 64 := by unfold mlen at hln; omega
  have hok := mfirst_ok (o := o) hw
  unfold madd
  refine Sp.up ?_
  refine sp_of_code Try.func18 rfl rfl ?_
  (refine run_seq ?_; refine run_region ?_; refine runL_box rfl rfl rfl rfl rfl rfl (fun _ => ?_); refine xep rfl rfl ?_; refine runL_nil ?_; refine then_normal ?_; refine run_seq ?_)
  rename_i b3
  refine RunC.perm (h' := [] ++ (H ++ [blk b3 o.cells 24])) (fun y => by show cnt y (blk b3 o.cells 24 :: H) = _; (first | rfl | (simp only [List.append_eq, cnt_append, cnt_cons, cnt_nil, blk]; omega) | (simp only [List.append_eq, cnt_append, cnt_cons, cnt_nil, blk]; done))) ?_
  refine run_midO (σ := Nat) [0, 3] (fun b5 => [(5, .pointer (some ⟨b5, 0, none⟩))]) (fun b5 => blk b5 (outV none 0 ⟨o, [], o.qty, false, false, false, mrefused o M⟩) 51 :: (H ++ [blk b3 o.cells 24])) (fun _ => True) rfl ?_ ?_
  · refine RunC.freezeR ?_
    have l1 : AggF ((H ++ [blk b3 o.cells 24]) ++ F) b3 0 o.cells := ⟨_, _, _, List.mem_append_left _ (List.mem_append_right _ (List.mem_cons_self ..)), Nat.le_refl _, rfl⟩
    have l2 := l1.at 6 _ rfl
    have q1 := fun G : Heap => sp_srefused (G ++ ((H ++ [blk b3 o.cells 24]) ++ F)) m M (hH.in fun y my => by simp [my]) hw o hk
    refine run_region_D mo ?_
    (refine runD_q 0 rfl rfl (by kernel_rfl) ?_; refine ⟨_, fun _ => ev_loadAF rfl rfl (ag rfl) (sz rfl) l1 rfl, ?_⟩; refine runD_q 1 rfl rfl (by kernel_rfl) ?_; refine ⟨_, fun _ => ev_fieldAddr rfl rfl (fo rfl), ?_⟩; refine runD_q 2 rfl rfl (by kernel_rfl) ?_; refine ⟨_, fun _ => ev_loadF rfl rfl (sc rfl) l2, ?_⟩; refine runD_q 3 rfl rfl (by kernel_rfl) ?_; refine ⟨_, fun _ => ev_pure rfl, ?_⟩; refine runD_q 4 rfl rfl (by kernel_rfl) ?_; refine ⟨_, fun _ => ev_loadAF rfl rfl (ag rfl) (sz rfl) l1 rfl, ?_⟩; refine runD_q 5 rfl rfl (by kernel_rfl) ?_; refine ⟨_, fun _ => ev_callQ rfl rfl rfl (pf rfl) (q1 ..), ?_⟩; refine runD_q 6 rfl rfl (by kernel_rfl) ?_; refine ⟨_, fun _ => ev_build rfl pl51 rfl, ?_⟩; refine runD_1 7 (by kernel_rfl) rfl rfl rfl ?_; refine runL_alloc rfl rfl rfl rfl rfl ze51 (fun _ => ?_); refine runL_nil ?_; refine endS_d rfl ?_; refine runD_1 8 (by kernel_rfl) rfl rfl rfl ?_; refine runL_store0 rfl rfl rfl rfl rfl (sz rfl) rfl rfl rfl rfl rfl ?_; refine runL_nil ?_; refine endS_n rfl ?_; refine runD_done (by kernel_rfl) ?_)
    rename_i b5
    exact midN b5 [] trivial rfl (fun x => by show cnt x (blk b5 (outV none 0 ⟨o, [], o.qty, false, false, false, mrefused o M⟩) 51 :: (H ++ [blk b3 o.cells 24])) = _; (first | rfl | (simp only [List.append_eq, cnt_append, cnt_cons, cnt_nil, blk]; omega) | (simp only [List.append_eq, cnt_append, cnt_cons, cnt_nil, blk]; done)))
  · intro fr h' hmid
    refine midN_out hmid ?_
    clear hmid
    rintro b5 -
    refine run_seq ?_
    refine run_midO (σ := (Option Addr × Nat × Heap) × Heap) [0, 5] (fun _ => [])
      (fun s => blk b5 (outV s.1.1 s.1.2.1 (mfirst o M).1) 51 :: (s.2 ++ s.1.2.2))
      (fun s => OwnS 61 21 (.slice s.1.1 (mfirst o M).1.fs.length s.1.2.1) (mfirst o M).1.fs.length (rows fcell (mfirst o M).1.fs) s.1.2.2 ∧ MkH m (mfirst o M).2 s.2) rfl ?_ ?_
    · generalize hr : mrefused o M = r
      (refine run_block ?_; refine run_seq ?_; refine run_region ?_; refine xel rfl (ev_fieldAddr rfl rfl (fo rfl)) ?_; refine xel rfl (ev_loadK rfl rfl (sc rfl) (memF (.head _)) rfl) ?_; (iterate 2 refine xep rfl rfl ?_); refine runL_nil ?_; refine then_normal ?_)
      by_cases c1 : r ≠ 0
      · have e : mfirst o M = (⟨o, [], o.qty, false, false, false, r⟩, M) := by unfold mfirst; rw [if_pos (by rw [hr]; exact c1), hr]
        rw [e]
        refine run_condT rfl (by simp [c1]) ?_
        (refine run_skip ?_; refine in_normal ?_)
        exact midN ((none, 0, []), H) [blk b3 o.cells 24] ⟨.nil _ _, hH⟩ rfl (fun x => by (first | rfl | (simp only [List.append_eq, cnt_append, cnt_cons, cnt_nil, blk]; omega) | (simp only [List.append_eq, cnt_append, cnt_cons, cnt_nil, blk]; done)))
      · have c1' : r = 0 := by omega
        subst c1'
        refine run_condF rfl (by simp) ?_
        obtain ⟨b, aw, cw, HB, AW, hB, ownW, rfl⟩ := hH
        skip
        refine run_seq ?_
        refine run_midO (σ := Unit) [0, 3, 5] (fun _ => [(20, .bool (decide (0 < o.stop) && !hit o M.B.last))])
          (fun _ => blk b5 (outV none 0 ⟨o, [], o.qty, false, false, false, 0⟩) 51 :: (blk m [.pointer (some ⟨b, 0, none⟩), .slice aw M.W.length cw] 67 :: (HB ++ AW) ++ [blk b3 o.cells 24])) (fun _ => True) rfl ?_ ?_
        · refine RunC.freeze ?_
          have hBin : BkIn ((blk b5 (outV none 0 ⟨o, [], o.qty, false, false, false, 0⟩) 51 :: (blk m [.pointer (some ⟨b, 0, none⟩), .slice aw M.W.length cw] 67 :: (HB ++ AW) ++ [blk b3 o.cells 24])) ++ F) b M.B := hB.in fun y my => by simp [my]
          have l1 : LoadsF ((blk b5 (outV none 0 ⟨o, [], o.qty, false, false, false, 0⟩) 51 :: (blk m [.pointer (some ⟨b, 0, none⟩), .slice aw M.W.length cw] 67 :: (HB ++ AW) ++ [blk b3 o.cells 24])) ++ F) m (0 + 0) (.pointer (some ⟨b, 0, none⟩)) := ⟨_, _, _, memF (.tail _ (.head _)), rfl⟩
          have l3 : AggF ((blk b5 (outV none 0 ⟨o, [], o.qty, false, false, false, 0⟩) 51 :: (blk m [.pointer (some ⟨b, 0, none⟩), .slice aw M.W.length cw] 67 :: (HB ++ AW) ++ [blk b3 o.cells 24])) ++ F) b3 0 o.cells := ⟨_, _, _, List.mem_append_left _ (List.mem_cons_of_mem _ (List.mem_append_right _ (List.mem_cons_self ..))), Nat.le_refl _, rfl⟩
          have l4 := l3.at 8 _ rfl
          have q1 := fun G : Heap => sp_blast (G ++ ((blk b5 (outV none 0 ⟨o, [], o.qty, false, false, false, 0⟩) 51 :: (blk m [.pointer (some ⟨b, 0, none⟩), .slice aw M.W.length cw] 67 :: (HB ++ AW) ++ [blk b3 o.cells 24])) ++ F)) b M.B (hBin.mono fun y m => by simp only [List.mem_append] at m ⊢; exact .inr m)
          have q2 := fun F => sp_hit F o M.B.last
          by_cases c3 : 0 < o.stop
          · have hgd : decide (0 < o.stop) = true := decide_eq_true c3
            refine run_region_D mo ?_
            (refine runD_q 0 rfl rfl (by kernel_rfl) ?_; refine ⟨_, fun _ => ev_fieldAddr rfl rfl (fo rfl), ?_⟩; refine runD_q 1 rfl rfl (by kernel_rfl) ?_; refine ⟨_, fun _ => ev_loadF rfl rfl (sc rfl) l4, ?_⟩; refine runD_q 2 rfl rfl (by kernel_rfl) ?_; refine ⟨_, fun _ => ev_pure rfl, ?_⟩; refine runD_q 3 rfl rfl (by kernel_rfl) ?_; refine ⟨_, fun _ => ev_pure rfl, ?_⟩; refine runD_gq 4 rfl rfl rfl rfl rfl rfl hgd (by kernel_rfl) ?_; refine ⟨_, fun _ => ev_loadAF rfl rfl (ag rfl) (sz rfl) l3 rfl, ?_⟩; refine runD_gq 5 rfl rfl rfl rfl rfl rfl hgd (by kernel_rfl) ?_; refine ⟨_, fun _ => ev_pure rfl, ?_⟩; refine runD_gq 6 rfl rfl rfl rfl rfl rfl hgd (by kernel_rfl) ?_; refine ⟨_, fun _ => ev_pure rfl, ?_⟩; refine runD_gq 7 rfl rfl rfl rfl rfl rfl hgd (by kernel_rfl) ?_; refine ⟨_, fun _ => ev_fieldAddr rfl rfl (fo rfl), ?_⟩; refine runD_gq 8 rfl rfl rfl rfl rfl rfl hgd (by kernel_rfl) ?_; refine ⟨_, fun _ => ev_loadK rfl rfl (sc rfl) (memR (memF (.tail _ (.head _)))) rfl, ?_⟩; refine runD_gq 9 rfl rfl rfl rfl rfl rfl hgd (by kernel_rfl) ?_; refine ⟨_, fun _ => ev_callQ rfl rfl rfl (pf rfl) (q1 ..), ?_⟩; refine runD_gq 10 rfl rfl rfl rfl rfl rfl hgd (by kernel_rfl) ?_; refine ⟨_, fun _ => ev_callQ rfl rfl rfl (pf rfl) (q2 ..), ?_⟩; refine runD_gq 11 rfl rfl rfl rfl rfl rfl hgd (by kernel_rfl) ?_; refine ⟨_, fun _ => ev_pure rfl, ?_⟩; refine runD_q 12 rfl rfl (by kernel_rfl) ?_; refine ⟨_, fun _ => ev_pure rfl, ?_⟩; refine runD_q 13 rfl rfl (by kernel_rfl) ?_; refine ⟨_, fun _ => ev_pure rfl, ?_⟩; refine runD_done (by kernel_rfl) ?_)
            exact midN () [] trivial (by rw [hgd]; rfl) (fun x => by (first | rfl | (simp only [List.append_eq, cnt_append, cnt_cons, cnt_nil, blk]; omega) | (simp only [List.append_eq, cnt_append, cnt_cons, cnt_nil, blk]; done)))
          · have hge : decide (0 < o.stop) = false := decide_eq_false c3
            refine run_region_D mo ?_
            (refine runD_q 0 rfl rfl (by kernel_rfl) ?_; refine ⟨_, fun _ => ev_fieldAddr rfl rfl (fo rfl), ?_⟩; refine runD_q 1 rfl rfl (by kernel_rfl) ?_; refine ⟨_, fun _ => ev_loadF rfl rfl (sc rfl) l4, ?_⟩; refine runD_q 2 rfl rfl (by kernel_rfl) ?_; refine ⟨_, fun _ => ev_pure rfl, ?_⟩; refine runD_q 3 rfl rfl (by kernel_rfl) ?_; refine ⟨_, fun _ => ev_pure rfl, ?_⟩; refine runD_gn 4 rfl rfl rfl rfl rfl rfl hge (by kernel_rfl) ?_; refine runD_gn 5 rfl rfl rfl rfl rfl rfl hge (by kernel_rfl) ?_; refine runD_gn 6 rfl rfl rfl rfl rfl rfl hge (by kernel_rfl) ?_; refine runD_gn 7 rfl rfl rfl rfl rfl rfl hge (by kernel_rfl) ?_; refine runD_gn 8 rfl rfl rfl rfl rfl rfl hge (by kernel_rfl) ?_; refine runD_gn 9 rfl rfl rfl rfl rfl rfl hge (by kernel_rfl) ?_; refine runD_gn 10 rfl rfl rfl rfl rfl rfl hge (by kernel_rfl) ?_; refine runD_gn 11 rfl rfl rfl rfl rfl rfl hge (by kernel_rfl) ?_; refine runD_q 12 rfl rfl (by kernel_rfl) ?_; refine ⟨_, fun _ => ev_pickF rfl rfl hge rfl, ?_⟩; refine runD_q 13 rfl rfl (by kernel_rfl) ?_; refine ⟨_, fun _ => ev_pure rfl, ?_⟩; refine runD_done (by kernel_rfl) ?_)
            exact midN () [] trivial (by rw [hge]; rfl) (fun x => by (first | rfl | (simp only [List.append_eq, cnt_append, cnt_cons, cnt_nil, blk]; omega) | (simp only [List.append_eq, cnt_append, cnt_cons, cnt_nil, blk]; done)))
        · intro fr h' hmid
          (refine then_normal ?_)
          refine midN_out hmid ?_
          clear hmid
          rintro ⟨⟩ -
          by_cases c2 : 0 < o.stop ∧ hit o M.B.last = false
          · refine run_condT rfl (by simp [c2.1, c2.2]) ?_
            have e : mfirst o M = (⟨o, [], o.qty, false, true, false, 0⟩, ⟨M.B, M.W ++ [o]⟩) := by unfold mfirst; rw [if_neg (by rw [hr]; decide), if_pos c2]
            rw [e]
            refine RunC.perm (h' := AW ++ (blk m [.pointer (some ⟨b, 0, none⟩), .slice aw M.W.length cw] 67 :: blk b3 o.cells 24 :: blk b5 (outV none 0 ⟨o, [], o.qty, false, false, false, 0⟩) 51 :: HB)) (fun y => by (first | rfl | (simp only [List.append_eq, cnt_append, cnt_cons, cnt_nil, blk]; omega) | (simp only [List.append_eq, cnt_append, cnt_cons, cnt_nil, blk]; done))) ?_
            skip
            have l1 : LoadsF ((blk m [.pointer (some ⟨b, 0, none⟩), .slice aw M.W.length cw] 67 :: blk b3 o.cells 24 :: blk b5 (outV none 0 ⟨o, [], o.qty, false, false, false, 0⟩) 51 :: HB) ++ F) m (0 + 1) (.slice aw M.W.length cw) := ⟨_, _, _, memF (.head _), rfl⟩
            have l2 : AggF ((blk m [.pointer (some ⟨b, 0, none⟩), .slice aw M.W.length cw] 67 :: blk b3 o.cells 24 :: blk b5 (outV none 0 ⟨o, [], o.qty, false, false, false, 0⟩) 51 :: HB) ++ F) b3 0 o.cells := ⟨_, _, _, memF (.tail _ (.head _)), Nat.le_refl _, rfl⟩
            refine run_seq ?_
            refine run_region_D3 (σ := (Option Addr × Nat × Heap) × Nat) 8 3 [0, 5] (fun s => [(41, .slice s.1.1 (M.W ++ [o]).length s.1.2.1), (34, .pointer (some ⟨m, 0, none⟩))])
              (fun s => s.1.2.2 ++ [blk s.2 o.cells 24]) (fun s => OwnS 24 9 (.slice s.1.1 (M.W ++ [o]).length s.1.2.1) (M.W ++ [o]).length (rows Ord.cells (M.W ++ [o])) s.1.2.2) mo rfl (by kernel_rfl) rfl ?_ ?_
            · (refine runD_q 0 rfl rfl (by kernel_rfl) ?_; refine ⟨_, fun _ => ev_pure rfl, ?_⟩; refine runD_q 1 rfl rfl (by kernel_rfl) ?_; refine ⟨_, fun _ => ev_pure rfl, ?_⟩; refine runD_q 2 rfl rfl (by kernel_rfl) ?_; refine ⟨_, fun _ => ev_pure rfl, ?_⟩; refine runD_q 3 rfl rfl (by kernel_rfl) ?_; refine ⟨_, fun _ => ev_fieldAddr rfl rfl (fo rfl), ?_⟩; refine runD_q 4 rfl rfl (by kernel_rfl) ?_; refine ⟨_, fun _ => ev_loadK rfl rfl (sc rfl) (memR (memF (.head _))) rfl, ?_⟩; refine runD_q 5 rfl rfl (by kernel_rfl) ?_; refine ⟨_, fun _ => ev_loadAK rfl rfl (ag rfl) (sz rfl) (memR (memF (.tail _ (.head _)))) rfl, ?_⟩; refine runD_1 6 (by kernel_rfl) rfl rfl rfl ?_)
              refine runL_buildSlice (l := o.cells) rfl rfl rfl rfl rfl (se rfl) ze24 rfl rfl rfl rfl rfl (fun b40 => ?_)
              (refine runL_nil ?_; refine endS_d rfl ?_; refine runD_1 7 (by kernel_rfl) rfl rfl rfl ?_)
              refine runL_append (sl := o.cells) [blk b40 o.cells 24] rfl rfl rfl rfl rfl rfl rfl (se rfl) (se rfl) ze24 rfl (byt rfl) ownW (fun y => by (first | rfl | (simp only [List.append_eq, cnt_append, cnt_cons, cnt_nil, blk]; omega) | (simp only [List.append_eq, cnt_append, cnt_cons, cnt_nil, blk]; done))) ⟨rfl, .inr ⟨b40, 0, _, _, _, rfl, memF (.head _), by simp [Ord.cells], rfl⟩⟩ rfl (by decide) (by decide) (by omega) ?_
              rintro v' A8 own'
              obtain ⟨a8, c8, rfl, own8⟩ := (own'.snoc (f := Ord.cells) (x := o) rfl).at
              (refine runL_nil ?_; refine endS_d rfl ?_; refine runD_done (by kernel_rfl) ?_)
              exact midX ((a8, c8, A8), b40) own8 rfl (fun x => by (first | rfl | (simp only [List.append_eq, cnt_append, cnt_cons, cnt_nil, blk]; omega) | (simp only [List.append_eq, cnt_append, cnt_cons, cnt_nil, blk]; done)))
            · rintro ⟨⟨a8, c8, A8⟩, b40⟩ own8
              dsimp only at own8 ⊢
              refine RunD.same (M' := blk m [.pointer (some ⟨b, 0, none⟩), .slice aw M.W.length cw] 67 :: blk b5 (outV none 0 ⟨o, [], o.qty, false, false, false, 0⟩) 51 :: blk b3 o.cells 24 :: (HB ++ A8 ++ [blk b40 o.cells 24])) (fun _ _ h => h) (fun x => by (first | rfl | (simp only [List.append_eq, cnt_append, cnt_cons, cnt_nil, blk]; omega) | (simp only [List.append_eq, cnt_append, cnt_cons, cnt_nil, blk]; done))) ?_
              (refine runD_q 8 rfl rfl (by kernel_rfl) ?_; refine ⟨_, fun _ => ev_pure rfl, ?_⟩; refine runD_q 9 rfl rfl (by kernel_rfl) ?_; refine ⟨_, fun _ => ev_fieldAddr rfl rfl (fo rfl), ?_⟩; refine runD_1 10 (by kernel_rfl) rfl rfl rfl ?_; refine runL_store0 rfl rfl rfl rfl rfl (sz rfl) rfl rfl rfl rfl rfl ?_; refine runL_nil ?_; refine endS_n rfl ?_; refine runD_done (by kernel_rfl) ?_; refine then_normal ?_; refine run_region ?_; refine xel rfl (ev_fieldAddr rfl rfl (fo rfl)) ?_; refine runL_store1 rfl rfl rfl rfl rfl (sz rfl) rfl rfl rfl rfl rfl ?_; refine runL_nil ?_; refine in_normal ?_)
              exact midN ((none, 0, []), blk m [.pointer (some ⟨b, 0, none⟩), .slice a8 (M.W ++ [o]).length c8] 67 :: (HB ++ A8)) [blk b3 o.cells 24, blk b40 o.cells 24] ⟨.nil _ _, b, a8, c8, HB, A8, hB, own8, rfl⟩ rfl (fun x => by
                simp only [List.append_eq, cnt_append, cnt_cons, cnt_nil, blk, outV, Ord.cells]; omega)
          · refine run_condF rfl (by rw [Bool.and_eq_false_iff]; by_cases c3 : 0 < o.stop <;> simp_all) ?_
            have e : mfirst o M = ((menter o M.B).1, ⟨(menter o M.B).2, M.W⟩) := by unfold mfirst; rw [if_neg (by rw [hr]; decide), if_neg c2]
            rw [e]
            refine RunC.perm (h' := blk b3 o.cells 24 :: blk m [.pointer (some ⟨b, 0, none⟩), .slice aw M.W.length cw] 67 :: blk b5 (outV none 0 ⟨o, [], o.qty, false, false, false, 0⟩) 51 :: (HB ++ AW)) (fun y => by (first | rfl | (simp only [List.append_eq, cnt_append, cnt_cons, cnt_nil, blk]; omega) | (simp only [List.append_eq, cnt_append, cnt_cons, cnt_nil, blk]; done))) ?_
            (refine run_region ?_; refine xep rfl rfl ?_; refine xel rfl (ev_loadAK rfl rfl (ag rfl) (sz rfl) (memF (.head _)) rfl) ?_)
            refine runL_callZ (blk b3 o.cells 24 :: blk m [.pointer (some ⟨b, 0, none⟩), .slice aw M.W.length cw] 67 :: blk b5 (outV none 0 ⟨o, [], o.qty, false, false, false, 0⟩) 51 :: AW) HB rfl rfl rfl rfl rfl rfl rfl (pf rfl) (fun y => by (first | rfl | (simp only [List.append_eq, cnt_append, cnt_cons, cnt_nil, blk]; omega) | (simp only [List.append_eq, cnt_append, cnt_cons, cnt_nil, blk]; done))) (sp_senter _ HB m b aw _ cw (memF (.tail _ (.head _))) M.B hB hw.b o hk hw.no (by omega)) ?_
            rintro v _ ⟨a7, c7, A7, H7, rfl, own7, hB7, rfl⟩
            (refine runL_store2 rfl rfl rfl rfl rfl (sz rfl) rfl rfl rfl rfl rfl ?_; refine runL_nil ?_; refine in_normal ?_)
            exact midN ((a7, c7, A7), blk m [.pointer (some ⟨b, 0, none⟩), .slice aw M.W.length cw] 67 :: (H7 ++ AW)) [blk b3 o.cells 24] ⟨own7, b, aw, cw, H7, AW, hB7, ownW, rfl⟩ rfl (fun x => by
              simp only [List.append_eq, cnt_append, cnt_cons, cnt_nil, blk, outV, Ord.cells]; omega)
    · intro fr h' hmid
      (refine then_normal ?_)
      refine midN_out hmid ?_
      clear hmid
      rintro ⟨⟨a1, c1, A1⟩, H1⟩ ⟨own1, hH1⟩
      dsimp only at own1 hH1 ⊢
      obtain ⟨hw1, hno1, hno2⟩ := hok
      generalize mfirst o M = X at *
      refine RunC.perm (h' := H1 ++ (A1 ++ [blk b5 (outV a1 c1 X.1) 51])) (fun y => by (first | rfl | (simp only [List.append_eq, cnt_append, cnt_cons, cnt_nil, blk]; omega) | (simp only [List.append_eq, cnt_append, cnt_cons, cnt_nil, blk]; done))) ?_
      refine RunC.freezeR ?_
      have l1 : AggF ((A1 ++ [blk b5 (outV a1 c1 X.1) 51]) ++ F) b5 0 (outV a1 c1 X.1) := ⟨_, _, _, List.mem_append_left _ (List.mem_append_right _ (List.mem_cons_self ..)), Nat.le_refl _, rfl⟩
      have cT := fun G => sp_strig G H1 m X.2 hH1 hw1 (by omega)
      refine run_seq ?_
      refine run_region_D mo ?_
      (refine runD_q 0 rfl rfl (by kernel_rfl) ?_; refine ⟨_, fun _ => ev_loadAF rfl rfl (ag rfl) (sz rfl) l1 rfl, ?_⟩; refine runD_q 2 rfl rfl (by kernel_rfl) ?_; refine ⟨_, fun _ => ev_pure rfl, ?_⟩)
      refine runD_2 1 3 (by kernel_rfl) (oneD rfl rfl rfl ?_) (oneD rfl rfl rfl ?_)
      · refine runL_buildSlice (l := outV a1 c1 X.1) rfl rfl rfl rfl rfl (se rfl) ze51 rfl rfl rfl rfl rfl (fun b46 => ?_)
        (refine runL_nil ?_; refine endS_d rfl ?_; refine runD_1 3 (by kernel_rfl) rfl rfl rfl ?_)
        refine runL_callZ [blk b46 (outV a1 c1 X.1) 51] H1 rfl rfl rfl rfl rfl rfl rfl (pf rfl) (fun y => by (first | rfl | (simp only [List.append_eq, cnt_append, cnt_cons, cnt_nil, blk]; omega) | (simp only [List.append_eq, cnt_append, cnt_cons, cnt_nil, blk]; done))) (cT _) ?_
        rintro v _ ⟨a, c, ts, A, HF, H', rfl, hts, hlen, own, hF, hH', rfl⟩
        (refine runL_nil ?_; refine endS_d rfl ?_; refine runD_1 4 (by kernel_rfl) rfl rfl rfl ?_)
        refine runL_append (sl := rows orow ts) (A ++ H' ++ HF) rfl rfl rfl rfl rfl rfl rfl (se rfl) (se rfl) ze51 rfl (byt rfl) (OwnS.lit (l := outV a1 c1 X.1) (b := b46) rfl) (fun y => by (first | rfl | (simp only [List.append_eq, cnt_append, cnt_cons, cnt_nil, blk]; omega) | (simp only [List.append_eq, cnt_append, cnt_cons, cnt_nil, blk]; done))) (own.src fun x mx => by simp [mx]) (rows_cells (fun _ => rfl) _) (by decide) (by decide) (by omega) ?_
        rintro v' A8 own'
        obtain ⟨a8, c8, rfl, own8⟩ := (own' : OwnS 51 15 v' (1 + ts.length) (rows orow (((a1, c1), X.1) :: ts)) A8).at
        rw [Nat.add_comm 1] at own8 ⊢
        (refine runL_nil ?_; refine endS_d rfl ?_; refine runD_q 5 rfl rfl (by kernel_rfl) ?_; refine ⟨_, fun _ => ev_pure rfl, ?_⟩; refine runD_done (by kernel_rfl) ?_; refine then_normal ?_; refine run_ret ?_)
        refine ⟨_, rfl, H' ++ A8 ++ (A1 ++ HF), [blk b5 (outV a1 c1 X.1) 51] ++ A, ⟨a8, c8, ((a1, c1), X.1) :: ts, A8, A1 ++ HF, H', rfl, by rw [List.map_cons, hts], by rw [List.length_cons]; omega, own8, ⟨A1, HF, own1, hF, rfl⟩, hH', rfl⟩, fun y => by (first | rfl | (simp only [List.append_eq, cnt_append, cnt_cons, cnt_nil, blk]; omega) | (simp only [List.append_eq, cnt_append, cnt_cons, cnt_nil, blk]; done))⟩
      · refine runL_callZ [] H1 rfl rfl rfl rfl rfl rfl rfl (pf rfl) (fun y => by (first | rfl | (simp only [List.append_eq, cnt_append, cnt_cons, cnt_nil, blk]; omega) | (simp only [List.append_eq, cnt_append, cnt_cons, cnt_nil, blk]; done))) (cT _) ?_
        rintro v _ ⟨a, c, ts, A, HF, H', rfl, hts, hlen, own, hF, hH', rfl⟩
        (refine runL_nil ?_; refine endS_d rfl ?_; refine runD_1 1 (by kernel_rfl) rfl rfl rfl ?_)
        refine runL_buildSlice (l := outV a1 c1 X.1) rfl rfl rfl rfl rfl (se rfl) ze51 rfl rfl rfl rfl rfl (fun b46 => ?_)
        (refine runL_nil ?_; refine endS_d rfl ?_; refine runD_1 4 (by kernel_rfl) rfl rfl rfl ?_)
        refine runL_append (sl := rows orow ts) (A ++ H' ++ HF) rfl rfl rfl rfl rfl rfl rfl (se rfl) (se rfl) ze51 rfl (byt rfl) (OwnS.lit (l := outV a1 c1 X.1) (b := b46) rfl) (fun y => by (first | rfl | (simp only [List.append_eq, cnt_append, cnt_cons, cnt_nil, blk]; omega) | (simp only [List.append_eq, cnt_append, cnt_cons, cnt_nil, blk]; done))) (own.src fun x mx => by simp [mx]) (rows_cells (fun _ => rfl) _) (by decide) (by decide) (by omega) ?_
        rintro v' A8 own'
        obtain ⟨a8, c8, rfl, own8⟩ := (own' : OwnS 51 15 v' (1 + ts.length) (rows orow (((a1, c1), X.1) :: ts)) A8).at
        rw [Nat.add_comm 1] at own8 ⊢
        (refine runL_nil ?_; refine endS_d rfl ?_; refine runD_q 5 rfl rfl (by kernel_rfl) ?_; refine ⟨_, fun _ => ev_pure rfl, ?_⟩; refine runD_done (by kernel_rfl) ?_; refine then_normal ?_; refine run_ret ?_)
        refine ⟨_, rfl, H' ++ A8 ++ (A1 ++ HF), [blk b5 (outV a1 c1 X.1) 51] ++ A, ⟨a8, c8, ((a1, c1), X.1) :: ts, A8, A1 ++ HF, H', rfl, by rw [List.map_cons, hts], by rw [List.length_cons]; omega, own8, ⟨A1, HF, own1, hF, rfl⟩, hH', rfl⟩, fun y => by (first | rfl | (simp only [List.append_eq, cnt_append, cnt_cons, cnt_nil, blk]; omega) | (simp only [List.append_eq, cnt_append, cnt_cons, cnt_nil, blk]; done))⟩
end Go.Proofs.Ytfhpoagnfmgfkaa

set_option autoImplicit false
set_option linter.unusedSectionVars false
set_option linter.unusedSimpArgs false
set_option linter.unusedVariables false
set_option maxRecDepth 4000
set_option maxHeartbeats 64000000
namespace Go.Proofs.Ytfhpoagnfmgfkaa
open Go Go.SL Go.Proofs
variable [Base]
theorem sp_sremove (F H : Heap) (m : Nat) (M : Mk) (hH : MkH m M H) (hw : BW M.B) (hl : M.W.length ≤ 65536) (t i : Int) :
    Sp Try.prog F 17 [.pointer (some ⟨m, 0, none⟩), .int .i64 t, .int .i64 i] H (fun v h' => v = .tuple #[ov (mremove t i M).1, .bool (mremove t i M).2.1] ∧ MkH m (mremove t i M).2.2 h') := by
  obtain ⟨b, aw, cw, HB, AW, hB, ownW, rfl⟩ := hH
  refine Sp.up ?_
  refine sp_of_codeR Try.func17 rfl rfl ?_
  (refine run_seq ?_; refine run_region ?_; refine runL_alloc rfl rfl rfl rfl rfl ze24 (fun _ => ?_); refine xep rfl rfl ?_; refine runL_nil ?_; refine then_normal ?_; (iterate 2 refine run_seq ?_); refine run_region ?_; (iterate 2 refine xep rfl rfl ?_); refine xel rfl (ev_fieldAddr rfl rfl (fo rfl)) ?_; refine xel rfl (ev_loadK rfl rfl (sc rfl) (memF (.tail _ (.head _))) rfl) ?_; (iterate 2 refine xep rfl rfl ?_))
  rename_i b6
  refine RunL.perm (h' := blk m [.pointer (some ⟨b, 0, none⟩), .slice aw M.W.length cw] 67 :: blk b6 o0.cells 24 :: (HB ++ AW)) (fun y => by show cnt y (blk b6 o0.cells 24 :: (blk m [.pointer (some ⟨b, 0, none⟩), .slice aw M.W.length cw] 67 :: (HB ++ AW))) = _; (first | rfl | (simp only [List.append_eq, cnt_append, cnt_cons, cnt_nil, blk]; omega) | (simp only [List.append_eq, cnt_append, cnt_cons, cnt_nil, blk]; done))) ?_
  skip
  refine runL_callZ (blk m [.pointer (some ⟨b, 0, none⟩), .slice aw M.W.length cw] 67 :: blk b6 o0.cells 24 :: AW) HB rfl rfl rfl rfl rfl rfl rfl (pf rfl) (fun y => by (first | rfl | (simp only [List.append_eq, cnt_append, cnt_cons, cnt_nil, blk]; omega) | (simp only [List.append_eq, cnt_append, cnt_cons, cnt_nil, blk]; done))) (sp_bremove _ HB b M.B hB hw t i) ?_
  rintro v HB2 ⟨rfl, hB2⟩
  ((iterate 3 refine xep rfl rfl ?_); refine runL_alloc rfl rfl rfl rfl rfl ze24 (fun _ => ?_); refine runL_store0 rfl rfl rfl rfl rfl (sz rfl) rfl rfl rfl rfl rfl ?_; refine xep rfl rfl ?_; refine runL_nil ?_; refine then_normal ?_; refine run_seq ?_; refine run_region ?_; refine xep rfl rfl ?_; refine runL_nil ?_; refine then_normal ?_)
  rename_i b8
  generalize hX : bremove t i M.B = X at *
  obtain ⟨o1, is1, B2⟩ := X
  dsimp only at hB2 ⊢
  refine RunC.perm (h' := blk b8 o1.cells 24 :: blk b6 o0.cells 24 :: blk m [.pointer (some ⟨b, 0, none⟩), .slice aw M.W.length cw] 67 :: (HB2 ++ AW)) (fun y => by
    show cnt y (blk b8 o1.cells 24 :: (blk m [.pointer (some ⟨b, 0, none⟩), .slice aw M.W.length cw] 67 :: blk b6 o0.cells 24 :: AW ++ HB2)) = _
    (first | rfl | (simp only [List.append_eq, cnt_append, cnt_cons, cnt_nil, blk]; omega) | (simp only [List.append_eq, cnt_append, cnt_cons, cnt_nil, blk]; done))) ?_
  cases is1 with
  | true =>
    have e : mremove t i M = (o1, true, ⟨B2, M.W⟩) := by unfold mremove; rw [hX, if_pos rfl]
    rw [e]
    refine run_condT rfl rfl ?_
    (refine run_seq ?_; refine run_region ?_; refine xel rfl (ev_loadAK rfl rfl (ag rfl) (sz rfl) (memF (.head _)) rfl) ?_; refine runL_store1 rfl rfl rfl rfl rfl (sz rfl) rfl rfl rfl rfl rfl ?_; refine xep rfl rfl ?_; refine runL_nil ?_; refine then_normal ?_; refine run_ret ?_; refine then_ret ?_)
    exact ⟨_, .agg rfl (memF (.tail _ (.head _))) (ag rfl) (sz rfl) rfl (.tmp rfl .nil), blk m [.pointer (some ⟨b, 0, none⟩), .slice aw M.W.length cw] 67 :: (HB2 ++ AW), [blk b8 o1.cells 24, blk b6 o1.cells 24], ⟨rfl, b, aw, cw, HB2, AW, hB2, ownW, rfl⟩, fun y => by
      show cnt y (blk b8 o1.cells 24 :: blk b6 o1.cells 24 :: _) = _
      (first | rfl | (simp only [List.append_eq, cnt_append, cnt_cons, cnt_nil, blk]; omega) | (simp only [List.append_eq, cnt_append, cnt_cons, cnt_nil, blk]; done))⟩
  | false =>
    refine run_condF rfl rfl ?_
    (refine run_skip ?_; refine then_normal ?_; refine run_seq ?_; refine run_region ?_; (iterate 3 refine xep rfl rfl ?_))
    have hcw : M.W.length ≤ cw := by
      obtain ⟨_, _, hv, h2⟩ := ownW.form
      cases hv; exact h2
    refine runL_ev rfl rfl rfl rfl (ev_callQ rfl rfl rfl (pf rfl) (sp_splace _ m ⟨B2, M.W⟩ ⟨b, aw, cw, hB2.in fun y my => by simp [my], hcw, ownW.src fun x mx => by simp [mx], by simp⟩ hl t i)) ?_
    (refine xep rfl rfl ?_; refine runL_nil ?_; refine then_normal ?_; (iterate 2 refine run_seq ?_); refine run_region ?_; (iterate 2 refine xep rfl rfl ?_); refine runL_nil ?_; refine then_normal ?_)
    rcases idxI_cases (isO t i) M.W with ⟨hk, hno⟩ | ⟨k, x, hk, hx, hp, hn⟩
    · have e : mremove t i M = (o0, false, ⟨B2, M.W⟩) := by
        unfold mremove
        rw [hX, if_neg (by simp), List.findIdx?_eq_none_iff.2 hno]
      rw [e]
      dsimp only
      rw [hk]
      refine run_condT rfl rfl ?_
      (refine run_seq ?_; refine run_region ?_; refine xel rfl (ev_build rfl pl24 rfl) ?_; refine runL_store1 rfl rfl rfl rfl rfl (sz rfl) rfl rfl rfl rfl rfl ?_; refine xep rfl rfl ?_; refine runL_nil ?_; refine then_normal ?_; refine run_ret ?_; refine then_ret ?_)
      exact ⟨_, .agg rfl (memF (.tail _ (.head _))) (ag rfl) (sz rfl) rfl (.tmp rfl .nil), blk m [.pointer (some ⟨b, 0, none⟩), .slice aw M.W.length cw] 67 :: (HB2 ++ AW), [blk b8 o1.cells 24, blk b6 o0.cells 24], ⟨rfl, b, aw, cw, HB2, AW, hB2, ownW, rfl⟩, fun y => by
        show cnt y (blk b8 o1.cells 24 :: blk b6 o0.cells 24 :: _) = _
        (first | rfl | (simp only [List.append_eq, cnt_append, cnt_cons, cnt_nil, blk]; omega) | (simp only [List.append_eq, cnt_append, cnt_cons, cnt_nil, blk]; done))⟩
    · have hlt := (List.getElem?_eq_some_iff.1 hx).1
      have e0 : M.W.findIdx? (isO t i) = some k := by
        rw [List.findIdx?_eq_some_iff_getElem]
        refine ⟨hlt, by rw [(List.getElem?_eq_some_iff.1 hx).2]; exact hp, fun j hj => ?_⟩
        have := hn j _ hj (List.getElem?_eq_getElem (by omega))
        rw [this]; simp
      have e : mremove t i M = (x, true, ⟨B2, M.W.take k ++ M.W.drop (k + 1)⟩) := by
        unfold mremove
        rw [hX, if_neg (by simp), e0]
        dsimp only
        rw [hx]
      rw [e]
      dsimp only
      rw [hk]
      refine run_condF rfl (decide_eq_false (by omega)) ?_
      obtain ⟨b2, rest, cap', hv, rfl, hl2, hr2, hk2⟩ := ownW.pos (by omega)
      cases hv
      have r1 : RowAt (rows Ord.cells M.W ++ rest) (0 + (k : Int).toNat * 9) x.cells := by
        rw [Nat.zero_add]; exact rows_at oc_len hx rest
      refine RunC.perm (h' := blk b2 (rows Ord.cells M.W ++ rest) 24 :: blk m [.pointer (some ⟨b, 0, none⟩), .slice (some ⟨b2, 0, none⟩) M.W.length cw] 67 :: blk b6 o0.cells 24 :: blk b8 o1.cells 24 :: HB2) (fun y => by (first | rfl | (simp only [List.append_eq, cnt_append, cnt_cons, cnt_nil, blk]; omega) | (simp only [List.append_eq, cnt_append, cnt_cons, cnt_nil, blk]; done))) ?_
      (refine run_skip ?_; refine then_normal ?_; refine run_seq ?_; refine run_region ?_; (iterate 2 refine xep rfl rfl ?_); refine xel rfl (ev_fieldAddr rfl rfl (fo rfl)) ?_; refine xel rfl (ev_loadK rfl rfl (sc rfl) (memF (.tail _ (.head _))) rfl) ?_; refine xep rfl rfl ?_; refine xel rfl (ev_indexAddr rfl rfl rfl (se rfl) (by omega) (by omega)) ?_; refine xel rfl (ev_loadAR rfl rfl (ag rfl) (sz rfl) (memF (.head _)) r1 rfl) ?_; refine runL_alloc rfl rfl rfl rfl rfl ze24 (fun _ => ?_); refine runL_store0 rfl rfl rfl rfl rfl (sz rfl) rfl rfl rfl rfl rfl ?_; refine runL_nil ?_; refine then_normal ?_; refine run_seq ?_; refine run_region ?_; (iterate 3 refine xep rfl rfl ?_); refine xel rfl (ev_fieldAddr rfl rfl (fo rfl)) ?_; refine xel rfl (ev_loadK rfl rfl (sc rfl) (memF (.tail _ (.tail _ (.head _)))) rfl) ?_; (iterate 2 refine xep rfl rfl ?_); refine xel rfl (ev_add rfl rfl rfl (by omega)) ?_)
      rename_i b11
      refine runL_callZ (blk b11 x.cells 24 :: blk m [.pointer (some ⟨b, 0, none⟩), .slice (some ⟨b2, 0, none⟩) M.W.length cw] 67 :: blk b6 o0.cells 24 :: blk b8 o1.cells 24 :: HB2) [blk b2 (rows Ord.cells M.W ++ rest) 24] rfl rfl rfl rfl rfl rfl rfl (pf rfl) (fun y => by
        show cnt y (blk b11 x.cells 24 :: blk b2 (rows Ord.cells M.W ++ rest) 24 :: blk m [.pointer (some ⟨b, 0, none⟩), .slice (some ⟨b2, 0, none⟩) M.W.length cw] 67 :: blk b6 o0.cells 24 :: blk b8 o1.cells 24 :: HB2) = _
        (first | rfl | (simp only [List.append_eq, cnt_append, cnt_cons, cnt_nil, blk]; omega) | (simp only [List.append_eq, cnt_append, cnt_cons, cnt_nil, blk]; done))) (sp_delOrd _ _ _ _ _ _ ownW (rows_cells (fun _ => rfl) _) k (k + 1) (by omega) (by omega)) ?_
      rintro v A' own'
      rw [rows_take oc_len M.W (by omega), rows_drop oc_len M.W (by omega), ← rows_append] at own'
      have hlen : M.W.length - (k + 1 - k) = (M.W.take k ++ M.W.drop (k + 1)).length := by
        rw [List.length_append, List.length_take, List.length_drop]; omega
      rw [hlen] at own'
      obtain ⟨a5, c5, rfl, own5⟩ := own'.at
      generalize M.W.take k ++ M.W.drop (k + 1) = W2 at *
      (refine xep rfl rfl ?_; refine xel rfl (ev_fieldAddr rfl rfl (fo rfl)) ?_; refine runL_store1 rfl rfl rfl rfl rfl (sz rfl) rfl rfl rfl rfl rfl ?_; refine runL_nil ?_; refine then_normal ?_; refine run_seq ?_; refine run_region ?_; refine xel rfl (ev_loadAK rfl rfl (ag rfl) (sz rfl) (memF (.head _)) rfl) ?_; refine runL_store2 rfl rfl rfl rfl rfl (sz rfl) rfl rfl rfl rfl rfl ?_; refine xep rfl rfl ?_; refine runL_nil ?_; refine then_normal ?_; refine run_ret ?_)
      exact ⟨_, .agg rfl (memF (.tail _ (.tail _ (.head _)))) (ag rfl) (sz rfl) rfl (.tmp rfl .nil), blk m [.pointer (some ⟨b, 0, none⟩), .slice a5 W2.length c5] 67 :: (HB2 ++ A'), [blk b11 x.cells 24, blk b6 x.cells 24, blk b8 o1.cells 24], ⟨rfl, b, a5, c5, HB2, A', hB2, own5, rfl⟩, fun y => by
        simp only [List.append_eq, cnt_append, cnt_cons, cnt_nil, blk, Ord.cells]; omega⟩
end Go.Proofs.Ytfhpoagnfmgfkaa
