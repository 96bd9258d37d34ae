/- Contracts of functions of the given program over its translation, each proved by walking its text; used by the laws' rows. It proves no given statement by itself. -/
import Derived.Test.YtmelpobcpcmdoaaGreatSLRMk2
import Derived.Test.YtmelpobcpcmdoaaGreatSLRBk8
import Derived.Test.YtmelpobcpcmdoaaGreatSLPlJX
set_option autoImplicit false
set_option linter.unusedSectionVars false
set_option linter.unusedSimpArgs false
set_option linter.unusedVariables false
set_option maxRecDepth 4000
set_option maxHeartbeats 200000000
namespace Go.Proofs.YtmelpobcpcmdoaaGreat
open Go Go.SL Go.Proofs
/-- The first place from s on. -/
def kFrom {α : Type} (p : α → Bool) (l : List α) (s : Nat) : Int := match (l.drop s).findIdx? p with
  | none => -1
  | some k => ((s + k : Nat) : Int)
theorem kFrom_end {α : Type} (p : α → Bool) (l : List α) : kFrom p l l.length = -1 := by
  unfold kFrom; rw [List.drop_length]; rfl
theorem kFrom_step {α : Type} {p : α → Bool} {l : List α} {s : Nat} {x : α} (h : l[s]? = some x) : kFrom p l s = if p x = true then (s : Int) else kFrom p l (s + 1) := by
  have hlt := (List.getElem?_eq_some_iff.1 h).1
  have hx := (List.getElem?_eq_some_iff.1 h).2
  unfold kFrom
  rw [List.drop_eq_getElem_cons hlt, hx, List.findIdx?_cons]
  cases hp : p x with
  | true => simp
  | false =>
    simp only [Bool.false_eq_true, if_false]
    cases (l.drop (s + 1)).findIdx? p with
    | none => rfl
    | some k => simp only [Option.map_some]; congr 1; omega
theorem kFrom_zero {α : Type} (p : α → Bool) (l : List α) : kFrom p l 0 = idxI p l := by
  unfold kFrom idxI
  rw [List.drop_zero]
  cases l.findIdx? p with
  | none => rfl
  | some k => simp
theorem kFrom_in {α : Type} (p : α → Bool) (l : List α) (s : Nat) (hs : s ≤ l.length) : -1 ≤ kFrom p l s ∧ kFrom p l s ≤ l.length := by
  unfold kFrom
  cases h : (l.drop s).findIdx? p with
  | none => dsimp only; omega
  | some k =>
    rw [List.findIdx?_eq_some_iff_getElem] at h
    obtain ⟨hk, -⟩ := h
    rw [List.length_drop] at hk
    dsimp only; omega
variable [Base]
theorem sp_rcasc (F H : Heap) (m : Nat) (M : Mk) (hH : RmH m M H) (hw : MW M) (hn2 : M.B.no ≤ 1099443470336) :
    Sp Tryz.prog F 35 [.pointer (some ⟨m, 0, none⟩)] H (fun v h' => ∃ a c ts A HF H', v = .slice a ts.length c ∧ ts.map (·.2) = (mtrig M.W.length M).1 ∧ ts.length ≤ 64 ∧ OwnS 66 15 (.slice a ts.length c) ts.length (rows orow ts) A ∧ FsH ts HF ∧ RmH m (mtrig M.W.length M).2 H' ∧ h' = H' ++ A ++ HF) := by
  have hW : M.W.length ≤ 64 := by have := hw.len; unfold mlen at this; omega
  refine Sp.up ?_
  refine sp_of_code Tryz.func35 rfl rfl ?_
  (refine run_seq ?_; refine run_region ?_; refine xep rfl rfl ?_; refine runL_nil ?_; refine then_normal ?_; refine run_seq ?_; refine run_region ?_; refine xep rfl rfl ?_; refine runL_nil ?_; refine then_normal ?_; refine run_block ?_)
  refine run_loopK (σ := (Mk × List ((Option Addr × Nat) × Out)) × (Option Addr × Nat × Heap) × Heap × Heap) [0, 3] (fun s => [(0, .pointer (some ⟨m, 0, none⟩)), (3, .slice s.2.1.1 s.1.2.length s.2.1.2.1)])
    (fun s => s.2.2.2 ++ (s.2.1.2.2 ++ s.2.2.1))
    (fun s => TrigI m M s.1.2 s.1.1 ∧ OwnS 66 15 (.slice s.2.1.1 s.1.2.length s.2.1.2.1) s.1.2.length (rows orow s.1.2) s.2.1.2.2 ∧ FsH s.1.2 s.2.2.1 ∧ RmH m s.1.1 s.2.2.2)
    (fun s => s.1.1.W.length) ((M, []), (none, 0, []), [], H) ⟨⟨hw, by simp, by simpa using hW, by simpa using hn2⟩, .nil _ _, rfl, hH⟩ rfl (fun x => by show cnt x H = cnt x (H ++ ([] ++ [])); (first | rfl | (simp only [List.append_eq, cnt_append, cnt_cons, cnt_nil, blk]; omega) | (simp only [List.append_eq, cnt_append, cnt_cons, cnt_nil, blk]; done))) ?_
  rintro ⟨⟨N, ts⟩, ⟨ao, co, A⟩, HF, HM⟩ ⟨hI, own, hF, hMH⟩
  dsimp only at hI own hF hMH ⊢
  obtain ⟨b, aw, cw, HB, AW, hB, ownW, rfl⟩ := hMH
  have hNl : N.W.length ≤ 64 := by have := hI.len; omega
  have hcw : N.W.length ≤ cw := by
    obtain ⟨_, _, hv, h2⟩ := ownW.form
    cases hv; exact h2
  obtain ⟨v0, v1, HB0, HB1, hB0, hB1, rfl⟩ := hB
  have hB : RbH b N.B (blk b [.slice none 0 0, v0, v1, .int .i64 N.B.last, .int .i64 N.B.no] 60 :: (HB0 ++ HB1)) := ⟨v0, v1, HB0, HB1, hB0, hB1, rfl⟩
  clear hB0 hB1
  obtain ⟨HH, hHH⟩ : ∃ HH, HH = blk m [.pointer (some ⟨b, 0, none⟩), .slice aw N.W.length cw] 62 :: blk b [.slice none 0 0, v0, v1, .int .i64 N.B.last, .int .i64 N.B.no] 60 :: (HB0 ++ HB1 ++ AW ++ (A ++ HF)) := ⟨_, rfl⟩
  refine RunC.perm (h' := blk m [.pointer (some ⟨b, 0, none⟩), .slice aw N.W.length cw] 62 :: blk b [.slice none 0 0, v0, v1, .int .i64 N.B.last, .int .i64 N.B.no] 60 :: (HB0 ++ HB1 ++ AW ++ (A ++ HF))) (fun x => by (first | rfl | (simp only [List.append_eq, cnt_append, cnt_cons, cnt_nil, blk]; omega) | (simp only [List.append_eq, cnt_append, cnt_cons, cnt_nil, blk]; done))) ?_
  (refine run_block ?_; refine run_seq ?_; refine run_region ?_; refine xep rfl rfl ?_; refine runL_nil ?_; refine then_normal ?_; (iterate 2 refine run_seq ?_); refine run_region ?_; (iterate 2 refine xep rfl rfl ?_); refine xel rfl (ev_fieldAddr rfl rfl (fo rfl)) ?_; refine xel rfl (ev_loadK rfl rfl (sc rfl) (memF (.head _)) rfl) ?_; refine xel rfl (ev_len rfl rfl (se rfl)) ?_; refine xel rfl (ev_sub rfl rfl rfl (by omega)) ?_; refine xep rfl rfl ?_; refine runL_nil ?_; refine then_normal ?_; refine run_block ?_)
  rw [← hHH]
  refine run_loopK (σ := Nat) [0, 3, 4, 5] (fun s => [(0, .pointer (some ⟨m, 0, none⟩)), (3, .slice ao ts.length co), (4, .int .i64 (kFrom (fun o => hit o N.B.last) N.W s)), (5, .int .i64 ((s : Int) - 1))])
    (fun _ => HH) (fun s => s ≤ N.W.length) (fun s => s) N.W.length (Nat.le_refl _) (by rw [kFrom_end]; rfl) (fun _ => rfl) ?_
  intro s gs
  have hkin := kFrom_in (fun o => hit o N.B.last) N.W s gs
  ((iterate 2 refine run_seq ?_); refine run_region ?_; (iterate 2 refine xep rfl rfl ?_); refine runL_nil ?_; refine then_normal ?_)
  (refine run_cond rfl (fun hc => ?_) (fun hc => ?_) <;> (try simp only [z0, z1, z2, z3, z4, z5, z6, z7, z8, z9, Bool.not_true, Bool.not_false, Bool.false_or, Bool.true_and, true_and, and_true, false_or, or_false, reduceCtorEq, Bool.false_eq_true] at hc))
  · obtain ⟨n, rfl⟩ : ∃ n, s = n + 1 := ⟨s - 1, by omega⟩
    obtain ⟨x, hx⟩ : ∃ x, N.W[n]? = some x := ⟨N.W[n]'(by omega), List.getElem?_eq_getElem _⟩
    have hst := kFrom_step (p := fun o => hit o N.B.last) hx
    (refine run_skip ?_; refine then_normal ?_; refine run_seq ?_; refine run_block ?_; refine run_seq ?_)
    refine run_midO (σ := Unit) [0, 3, 4, 5] (fun _ => [(33, .bool (hit x N.B.last))]) (fun _ => HH) (fun _ => True) rfl ?_ ?_
    · have hsrc := ownW.src (H := HH ++ F) fun y my => by rw [hHH]; simp [my]
      obtain ⟨b2, off, _, _, _, rfl, _⟩ := hsrc.pos (by omega)
      refine RunC.freeze ?_
      have l1 : LoadsF (HH ++ F) m (0 + 1) (.slice (some ⟨b2, off, none⟩) N.W.length cw) := ⟨_, _, _, by rw [hHH]; exact memF (.head _), rfl⟩
      have l2 : LoadsF (HH ++ F) m (0 + 0) (.pointer (some ⟨b, 0, none⟩)) := ⟨_, _, _, by rw [hHH]; exact memF (.head _), rfl⟩
      have l3 : LoadsF (HH ++ F) b (0 + 3) (.int .i64 N.B.last) := ⟨_, _, _, by rw [hHH]; exact memF (.tail _ (.head _)), rfl⟩
      have l4 : AggF (HH ++ F) b2 (off + (((n + 1 : Nat) : Int) - 1).toNat * 9) x.cells := by
        have := SrcIs.row oc_len hsrc rfl hx
        rw [show (((n + 1 : Nat) : Int) - 1).toNat = n by omega]; exact this
      have q1 := fun F => rp_hit F x N.B.last
      refine run_region_D mo ?_
      (refine runD_q 0 rfl rfl (by kernel_rfl) ?_; refine ⟨_, fun _ => ev_pure rfl, ?_⟩; refine runD_q 1 rfl rfl (by kernel_rfl) ?_; refine ⟨_, fun _ => ev_pure rfl, ?_⟩; refine runD_q 2 rfl rfl (by kernel_rfl) ?_; refine ⟨_, fun _ => ev_fieldAddr rfl rfl (fo rfl), ?_⟩; refine runD_q 3 rfl rfl (by kernel_rfl) ?_; refine ⟨_, fun _ => ev_loadF rfl rfl (sc rfl) l1, ?_⟩; refine runD_q 4 rfl rfl (by kernel_rfl) ?_; refine ⟨_, fun _ => ev_pure rfl, ?_⟩; refine runD_q 5 rfl rfl (by kernel_rfl) ?_; refine ⟨_, fun _ => ev_indexAddr rfl rfl rfl (se rfl) (by omega) (by omega), ?_⟩; refine runD_q 6 rfl rfl (by kernel_rfl) ?_; refine ⟨_, fun _ => ev_loadAF rfl rfl (ag rfl) (sz rfl) l4 rfl, ?_⟩; refine runD_q 7 rfl rfl (by kernel_rfl) ?_; refine ⟨_, fun _ => ev_pure rfl, ?_⟩; refine runD_q 8 rfl rfl (by kernel_rfl) ?_; refine ⟨_, fun _ => ev_pure rfl, ?_⟩; refine runD_q 9 rfl rfl (by kernel_rfl) ?_; refine ⟨_, fun _ => ev_fieldAddr rfl rfl (fo rfl), ?_⟩; refine runD_q 10 rfl rfl (by kernel_rfl) ?_; refine ⟨_, fun _ => ev_loadF rfl rfl (sc rfl) l2, ?_⟩; refine runD_q 11 rfl rfl (by kernel_rfl) ?_; refine ⟨_, fun _ => ev_pure rfl, ?_⟩; refine runD_q 12 rfl rfl (by kernel_rfl) ?_; refine ⟨_, fun _ => ev_fieldAddr rfl rfl (fo rfl), ?_⟩; refine runD_q 13 rfl rfl (by kernel_rfl) ?_; refine ⟨_, fun _ => ev_loadF rfl rfl (sc rfl) l3, ?_⟩; refine runD_q 14 rfl rfl (by kernel_rfl) ?_; refine ⟨_, fun _ => ev_callQ rfl rfl rfl (pf rfl) (q1 ..), ?_⟩; refine runD_done (by kernel_rfl) ?_)
      exact midN () [] trivial rfl (fun x => by (first | rfl | (simp only [List.append_eq, cnt_append, cnt_cons, cnt_nil, blk]; omega) | (simp only [List.append_eq, cnt_append, cnt_cons, cnt_nil, blk]; done)))
    intro fr' h' hm
    (refine then_normal ?_)
    refine midN_out hm ?_
    clear hm
    rintro ⟨⟩ -
    by_cases hh : hit x N.B.last = true
    · rw [if_pos hh] at hst
      refine run_condT rfl hh ?_
      (refine run_region ?_; (iterate 2 refine xep rfl rfl ?_); refine runL_nil ?_; refine in_normal ?_; refine then_normal ?_; refine run_region ?_; refine xep rfl rfl ?_; refine xel rfl (ev_sub rfl rfl rfl (by omega)) ?_; refine xep rfl rfl ?_; refine runL_nil ?_; refine then_normal ?_)
      refine ⟨n, by omega, by omega, ?_, [], fun x => by (first | rfl | (simp only [List.append_eq, cnt_append, cnt_cons, cnt_nil, blk]; omega) | (simp only [List.append_eq, cnt_append, cnt_cons, cnt_nil, blk]; done))⟩
      rw [hst, show (((n + 1 : Nat) : Int) - 1) = (n : Int) by omega]
      rfl
    · rw [if_neg hh] at hst
      refine run_condF rfl (by simpa using hh) ?_
      (refine run_skip ?_; refine in_normal ?_; refine then_normal ?_; refine run_region ?_; refine xep rfl rfl ?_; refine xel rfl (ev_sub rfl rfl rfl (by omega)) ?_; refine xep rfl rfl ?_; refine runL_nil ?_; refine then_normal ?_)
      refine ⟨n, by omega, by omega, ?_, [], fun x => by (first | rfl | (simp only [List.append_eq, cnt_append, cnt_cons, cnt_nil, blk]; omega) | (simp only [List.append_eq, cnt_append, cnt_cons, cnt_nil, blk]; done))⟩
      rw [hst, show (((n + 1 : Nat) : Int) - 1) = (n : Int) by omega]
      rfl
  · have : s = 0 := by omega
    subst this
    (refine run_exit ?_; (iterate 2 refine then_exit ?_); refine in_exit ?_; refine then_normal ?_)
    rw [kFrom_zero]
    ((iterate 2 refine run_seq ?_); refine run_region ?_; (iterate 2 refine xep rfl rfl ?_); refine runL_nil ?_; refine then_normal ?_)
    rcases idxI_cases (fun o => hit o N.B.last) N.W with ⟨hk, hno⟩ | ⟨k, o, hk, ho, hp, hnp⟩
    · rw [hk]
      have hfi : N.W.findIdx? (fun o => hit o N.B.last) = none := by rw [List.findIdx?_eq_none_iff]; exact hno
      have his := hI.is
      rw [mtrig_none hfi, List.append_nil] at his
      refine run_condT rfl rfl ?_
      (refine run_seq ?_; refine run_region ?_; (iterate 2 refine xep rfl rfl ?_); refine runL_nil ?_; refine then_normal ?_; refine run_ret ?_; refine then_ret ?_; refine in_ret ?_; refine then_ret ?_; refine in_ret ?_)
      refine ⟨_, rfl, (blk m [.pointer (some ⟨b, 0, none⟩), .slice aw N.W.length cw] 62 :: ((blk b [.slice none 0 0, v0, v1, .int .i64 N.B.last, .int .i64 N.B.no] 60 :: (HB0 ++ HB1)) ++ AW)) ++ A ++ HF, [], ⟨ao, co, ts, A, HF, blk m [.pointer (some ⟨b, 0, none⟩), .slice aw N.W.length cw] 62 :: ((blk b [.slice none 0 0, v0, v1, .int .i64 N.B.last, .int .i64 N.B.no] 60 :: (HB0 ++ HB1)) ++ AW), rfl, by rw [his], by have := hI.len; omega, own, hF, by rw [his]; exact ⟨b, aw, cw, _, AW, hB, ownW, rfl⟩, rfl⟩, fun y => by rw [hHH]; (first | rfl | (simp only [List.append_eq, cnt_append, cnt_cons, cnt_nil, blk]; omega) | (simp only [List.append_eq, cnt_append, cnt_cons, cnt_nil, blk]; done))⟩
    · rw [hk]
      have hlt := (List.getElem?_eq_some_iff.1 ho).1
      have hfi := idx_some ho hp hnp
      obtain ⟨b2, rest, cap', hv, rfl, hl2, hr2, hk2⟩ := ownW.pos (by omega)
      cases hv
      refine run_condF rfl (decide_eq_false (by omega)) ?_
      have r1 : RowAt (rows Ord.cells N.W ++ rest) (0 + (k : Int).toNat * 9) o.cells := by
        rw [Nat.zero_add]; exact rows_at oc_len ho rest
      obtain ⟨HBX, hHBX⟩ : ∃ HBX, HBX = blk b [.slice none 0 0, v0, v1, .int .i64 N.B.last, .int .i64 N.B.no] 60 :: (HB0 ++ HB1) := ⟨_, rfl⟩
      rw [← hHBX] at hB
      refine RunC.perm (h' := blk m [.pointer (some ⟨b, 0, none⟩), .slice (some ⟨b2, 0, none⟩) N.W.length cw] 62 :: blk b2 (rows Ord.cells N.W ++ rest) 35 :: (HBX ++ A ++ HF)) (fun y => by rw [hHH, hHBX]; (first | rfl | (simp only [List.append_eq, cnt_append, cnt_cons, cnt_nil, blk]; omega) | (simp only [List.append_eq, cnt_append, cnt_cons, cnt_nil, blk]; done))) ?_
      (refine run_skip ?_; refine then_normal ?_; refine run_seq ?_; refine run_region ?_; (iterate 2 refine xep rfl rfl ?_); refine xel rfl (ev_fieldAddr rfl rfl (fo rfl)) ?_; refine xel rfl (ev_loadK rfl rfl (sc rfl) (memF (.head _)) rfl) ?_; refine xep rfl rfl ?_; refine xel rfl (ev_indexAddr rfl rfl rfl (se rfl) (by omega) (by omega)) ?_; refine xel rfl (ev_loadAR rfl rfl (ag rfl) (sz rfl) (memF (.tail _ (.head _))) r1 rfl) ?_; refine runL_alloc rfl rfl rfl rfl rfl ze35 (fun _ => ?_); refine runL_store0 rfl rfl rfl rfl rfl (sz rfl) rfl rfl rfl rfl rfl ?_; refine runL_nil ?_; refine then_normal ?_; refine run_seq ?_)
      rename_i x6
      obtain ⟨AA, hAA⟩ : ∃ AA, AA = blk x6 o.cells 35 :: blk m [.pointer (some ⟨b, 0, none⟩), .slice (some ⟨b2, 0, none⟩) N.W.length cw] 62 :: ([blk b2 (rows Ord.cells N.W ++ rest) 35] ++ (HBX ++ A ++ HF)) := ⟨_, rfl⟩
      refine RunC.perm (h' := [] ++ AA) (fun y => by rw [hAA]; rfl) ?_
      have src := ownW.src (H := AA ++ F) fun y my => by rw [hAA]; simp at my; simp [my]
      have l1 : LoadsF (AA ++ F) m (0 + 1) (.slice (some ⟨b2, 0, none⟩) N.W.length cw) := ⟨_, _, _, by rw [hAA]; exact memF (.tail _ (.head _)), rfl⟩
      have hN := cut_len ho
      have s1 := src.take (k := k) (by omega)
      rw [rows_take oc_len _ (by omega)] at s1
      have s2 := src.drop (k := k + 1) (cap := cw) (by omega) hcw
      rw [rows_drop oc_len _ (by omega)] at s2
      clear r1
      refine run_region_D3 (σ := Option Addr × Nat × Heap) 17 3 [0, 3, 6] (fun s => [(61, .slice s.1 (N.W.take k ++ N.W.drop (k + 1)).length s.2.1), (45, .pointer (some ⟨m, 0, none⟩))])
        (fun s => s.2.2) (fun s => OwnS 35 9 (.slice s.1 (N.W.take k ++ N.W.drop (k + 1)).length s.2.1) (N.W.take k ++ N.W.drop (k + 1)).length (rows Ord.cells (N.W.take k ++ N.W.drop (k + 1))) s.2.2) mo rfl (by kernel_rfl) rfl ?_ ?_
      · (refine runD_q 0 rfl rfl (by kernel_rfl) ?_; refine ⟨_, fun _ => ev_pure rfl, ?_⟩; refine runD_q 2 rfl rfl (by kernel_rfl) ?_; refine ⟨_, fun _ => ev_pure rfl, ?_⟩; refine runD_q 3 rfl rfl (by kernel_rfl) ?_; refine ⟨_, fun _ => ev_pure rfl, ?_⟩; refine runD_q 4 rfl rfl (by kernel_rfl) ?_; refine ⟨_, fun _ => ev_fieldAddr rfl rfl (fo rfl), ?_⟩; refine runD_q 5 rfl rfl (by kernel_rfl) ?_; refine ⟨_, fun _ => ev_loadF rfl rfl (sc rfl) l1, ?_⟩; refine runD_q 6 rfl rfl (by kernel_rfl) ?_; refine ⟨_, fun _ => ev_pure rfl, ?_⟩; refine runD_q 7 rfl rfl (by kernel_rfl) ?_; refine ⟨_, fun _ => ev_sliceHi rfl rfl rfl (se rfl) (by omega) (by omega), ?_⟩; refine runD_q 9 rfl rfl (by kernel_rfl) ?_; refine ⟨_, fun _ => ev_pure rfl, ?_⟩; refine runD_q 10 rfl rfl (by kernel_rfl) ?_; refine ⟨_, fun _ => ev_pure rfl, ?_⟩; refine runD_q 11 rfl rfl (by kernel_rfl) ?_; refine ⟨_, fun _ => ev_fieldAddr rfl rfl (fo rfl), ?_⟩; refine runD_q 12 rfl rfl (by kernel_rfl) ?_; refine ⟨_, fun _ => ev_loadF rfl rfl (sc rfl) l1, ?_⟩; refine runD_q 13 rfl rfl (by kernel_rfl) ?_; refine ⟨_, fun _ => ev_pure rfl, ?_⟩; refine runD_q 14 rfl rfl (by kernel_rfl) ?_; refine ⟨_, fun _ => ev_add rfl rfl rfl (by omega), ?_⟩; refine runD_q 15 rfl rfl (by kernel_rfl) ?_; refine ⟨_, fun _ => ev_sliceLo rfl rfl rfl (se rfl) (by omega) (by omega), ?_⟩; refine runD_1 1 (by kernel_rfl) rfl rfl rfl ?_)
        refine runL_buildSlice (n := 9) (l := []) rfl rfl rfl rfl rfl (se rfl) ze35 rfl rfl rfl rfl rfl (fun b5 => ?_)
        (refine runL_nil ?_; refine endS_d rfl ?_; refine runD_1 8 (by kernel_rfl) rfl rfl rfl ?_)
        refine runL_append (sl := rows Ord.cells (N.W.take k)) [] rfl rfl rfl rfl rfl rfl rfl (se rfl) (se rfl) ze35 rfl (byt rfl) (OwnS.lit (l := []) rfl) (fun y => by (first | rfl | (simp only [List.append_eq, cnt_append, cnt_cons, cnt_nil, blk]; omega) | (simp only [List.append_eq, cnt_append, cnt_cons, cnt_nil, blk]; done))) (s1.mono fun x m => by simp [m]) (rows_cells oc_cells _) (by decide) (by decide) (by simp only [Int.toNat_natCast]; omega) ?_
        rintro v' A' own'
        obtain ⟨a6, c6, rfl, own6⟩ := own'.at
        (refine runL_nil ?_; refine endS_d rfl ?_; refine runD_1 16 (by kernel_rfl) rfl rfl rfl ?_)
        refine runL_append (sl := rows Ord.cells (N.W.drop (k + 1))) [] rfl rfl rfl rfl rfl rfl rfl (se rfl) (se rfl) ze35 rfl (byt rfl) own6 (fun y => by (first | rfl | (simp only [List.append_eq, cnt_append, cnt_cons, cnt_nil, blk]; omega) | (simp only [List.append_eq, cnt_append, cnt_cons, cnt_nil, blk]; done))) (s2.mono fun x m => by simp [m]) (rows_cells oc_cells _) (by decide) (by decide) (by simp only [Int.toNat_natCast]; omega) ?_
        rintro v' A'' own''
        rw [List.nil_append, ← rows_append, show 0 + (k : Int).toNat + (N.W.length - ((k : Int) + 1).toNat) = (N.W.take k ++ N.W.drop (k + 1)).length by omega] at own''
        obtain ⟨a7, c7, rfl, own7⟩ := own''.at
        (refine runL_nil ?_; refine endS_d rfl ?_; refine runD_done (by kernel_rfl) ?_)
        exact midX (a7, c7, A'') own7 rfl (fun y => by (first | rfl | (simp only [List.append_eq, cnt_append, cnt_cons, cnt_nil, blk]; omega) | (simp only [List.append_eq, cnt_append, cnt_cons, cnt_nil, blk]; done)))
      · rintro ⟨a7, c7, A7⟩ own7
        dsimp only at own7 ⊢
        subst hAA
        refine RunD.same (M' := blk m [.pointer (some ⟨b, 0, none⟩), .slice (some ⟨b2, 0, none⟩) N.W.length cw] 62 :: blk x6 o.cells 35 :: ([blk b2 (rows Ord.cells N.W ++ rest) 35] ++ (HBX ++ A ++ HF) ++ A7)) (fun _ _ h => h) (fun x => by (first | rfl | (simp only [List.append_eq, cnt_append, cnt_cons, cnt_nil, blk]; omega) | (simp only [List.append_eq, cnt_append, cnt_cons, cnt_nil, blk]; done))) ?_
        (refine runD_q 17 rfl rfl (by kernel_rfl) ?_; refine ⟨_, fun _ => ev_pure rfl, ?_⟩; refine runD_q 18 rfl rfl (by kernel_rfl) ?_; refine ⟨_, fun _ => ev_fieldAddr rfl rfl (fo rfl), ?_⟩; refine runD_1 19 (by kernel_rfl) rfl rfl rfl ?_; refine runL_store0 rfl rfl rfl rfl rfl (sz rfl) rfl rfl rfl rfl rfl ?_; refine runL_nil ?_; refine endS_n rfl ?_; refine runD_done (by kernel_rfl) ?_; refine then_normal ?_; refine run_seq ?_; refine run_region ?_; refine xel rfl (ev_loadAK rfl rfl (ag rfl) (sz rfl) (memF (.tail _ (.head _))) rfl) ?_; refine runL_alloc rfl rfl rfl rfl rfl ze35 (fun _ => ?_); refine runL_store0 rfl rfl rfl rfl rfl (sz rfl) rfl rfl rfl rfl rfl ?_; refine runL_nil ?_; refine then_normal ?_; refine run_seq ?_; refine run_region ?_; refine xel rfl (ev_fieldAddr rfl rfl (fo rfl)) ?_; refine runL_store0 rfl rfl rfl rfl rfl (sz rfl) rfl rfl rfl rfl rfl ?_; refine runL_nil ?_; refine then_normal ?_; refine run_seq ?_)
        rename_i b7
        have hkI : InI o.kind := by have := hI.w.w o (List.mem_of_getElem? ho); unfold rightP at this; unfold InI; omega
        have hno := hI.no
        have hlen2 := hI.len
        have hme := menter_ok (o := o) hI.w.b hI.w.no
        have hwn := hI.w.no
        have hwl := hI.w.len
        unfold mlen at hwl
        have cA := fun G => sp_rbadd G HBX b N.B hB hI.w.b (bare o) hkI hI.w.no (by omega)
        have hmen : menter o N.B = (⟨o, (badd (bare o) N.B).1.fs, (badd (bare o) N.B).1.left, (badd (bare o) N.B).1.rests, (badd (bare o) N.B).1.waits, (badd (bare o) N.B).1.self, (badd (bare o) N.B).1.err⟩, (badd (bare o) N.B).2) := rfl
        generalize hX : badd (bare o) N.B = X at *
        obtain ⟨AA, hAA⟩ : ∃ AA, AA = blk b7 (bare o).cells 35 :: blk x6 o.cells 35 :: blk m [.pointer (some ⟨b, 0, none⟩), .slice a7 (N.W.take k ++ N.W.drop (k + 1)).length c7] 62 :: ([blk b2 (rows Ord.cells N.W ++ rest) 35] ++ (A ++ HF) ++ A7) := ⟨_, rfl⟩
        refine RunC.perm (h' := HBX ++ AA) (fun x => by
          rw [hAA]
          show cnt x (blk b7 (bare o).cells 35 :: blk m [.pointer (some ⟨b, 0, none⟩), .slice a7 (N.W.take k ++ N.W.drop (k + 1)).length c7] 62 :: blk x6 o.cells 35 :: ([blk b2 (rows Ord.cells N.W ++ rest) 35] ++ (HBX ++ A ++ HF) ++ A7)) = _
          (first | rfl | (simp only [List.append_eq, cnt_append, cnt_cons, cnt_nil, blk]; omega) | (simp only [List.append_eq, cnt_append, cnt_cons, cnt_nil, blk]; done))) ?_
        refine run_midO (σ := (Option Addr × Nat × Heap × Heap) × Nat) [0, 3, 6] (fun s => [(8, .pointer (some ⟨s.2, 0, none⟩))]) (fun s => blk s.2 (outV s.1.1 s.1.2.1 X.1) 66 :: blk x6 o.cells 35 :: blk m [.pointer (some ⟨b, 0, none⟩), .slice a7 (N.W.take k ++ N.W.drop (k + 1)).length c7] 62 :: (s.1.2.2.2 ++ (s.1.2.2.1 ++ (A ++ HF) ++ A7)))
          (fun s => OwnS 93 21 (.slice s.1.1 X.1.fs.length s.1.2.1) X.1.fs.length (rows fcell X.1.fs) s.1.2.2.1 ∧ RbH b X.2 s.1.2.2.2) rfl ?_ ?_
        · refine RunC.freezeR ?_
          have l1 : LoadsF (AA ++ F) m (0 + 0) (.pointer (some ⟨b, 0, none⟩)) := ⟨_, _, _, by rw [hAA]; exact memF (.tail _ (.tail _ (.head _))), rfl⟩
          have l2 : AggF (AA ++ F) b7 0 (bare o).cells := ⟨_, _, _, by rw [hAA]; exact memF (.head _), Nat.le_refl _, rfl⟩
          refine run_region_D mo ?_
          (refine runD_q 0 rfl rfl (by kernel_rfl) ?_; refine ⟨_, fun _ => ev_pure rfl, ?_⟩; refine runD_q 1 rfl rfl (by kernel_rfl) ?_; refine ⟨_, fun _ => ev_pure rfl, ?_⟩; refine runD_q 2 rfl rfl (by kernel_rfl) ?_; refine ⟨_, fun _ => ev_fieldAddr rfl rfl (fo rfl), ?_⟩; refine runD_q 3 rfl rfl (by kernel_rfl) ?_; refine ⟨_, fun _ => ev_loadF rfl rfl (sc rfl) l1, ?_⟩; refine runD_q 4 rfl rfl (by kernel_rfl) ?_; refine ⟨_, fun _ => ev_loadAF rfl rfl (ag rfl) (sz rfl) l2 rfl, ?_⟩)
          refine runD_2 5 6 (by kernel_rfl) (oneD rfl rfl rfl ?_) (oneD rfl rfl rfl ?_)
          · refine runL_callZ [] HBX rfl rfl rfl rfl rfl rfl rfl (pf rfl) (fun x => by (first | rfl | (simp only [List.append_eq, cnt_append, cnt_cons, cnt_nil, blk]; omega) | (simp only [List.append_eq, cnt_append, cnt_cons, cnt_nil, blk]; done))) (cA _) ?_
            rintro v _ ⟨a1, c1, A1, H1, rfl, own1, hH1, rfl⟩
            (refine runL_nil ?_; refine endS_d rfl ?_; refine runD_1 6 (by kernel_rfl) rfl rfl rfl ?_; refine runL_alloc rfl rfl rfl rfl rfl ze66 (fun _ => ?_); refine runL_nil ?_; refine endS_d rfl ?_; refine runD_1 7 (by kernel_rfl) rfl rfl rfl ?_; refine runL_store0 rfl rfl rfl rfl rfl (sz rfl) rfl rfl rfl rfl rfl ?_; refine runL_nil ?_; refine endS_n rfl ?_; refine runD_done (by kernel_rfl) ?_)
            rename_i b8
            exact midN ((a1, c1, A1, H1), b8) [blk b7 (bare o).cells 35, blk b2 (rows Ord.cells N.W ++ rest) 35] ⟨own1, hH1⟩ rfl (fun x => by rw [hAA]; simp only [List.append_eq, cnt_append, cnt_cons, cnt_nil, blk, zOut, outV, menter, bare, Ord.cells]; try omega)
          · (refine runL_alloc rfl rfl rfl rfl rfl ze66 (fun _ => ?_); refine runL_nil ?_; refine endS_d rfl ?_; refine runD_1 5 (by kernel_rfl) rfl rfl rfl ?_)
            rename_i b8
            refine RunL.perm (h' := blk b8 zOut 66 :: HBX) (fun x => by simp only [List.append_eq, cnt_append, cnt_cons, cnt_nil, blk, zOut, outV, menter, bare, Ord.cells]; try omega) ?_
            refine runL_callZ [blk b8 zOut 66] HBX rfl rfl rfl rfl rfl rfl rfl (pf rfl) (fun x => by (first | rfl | (simp only [List.append_eq, cnt_append, cnt_cons, cnt_nil, blk]; omega) | (simp only [List.append_eq, cnt_append, cnt_cons, cnt_nil, blk]; done))) (cA _) ?_
            rintro v _ ⟨a1, c1, A1, H1, rfl, own1, hH1, rfl⟩
            (refine runL_nil ?_; refine endS_d rfl ?_; refine runD_1 7 (by kernel_rfl) rfl rfl rfl ?_; refine runL_store0 rfl rfl rfl rfl rfl (sz rfl) rfl rfl rfl rfl rfl ?_; refine runL_nil ?_; refine endS_n rfl ?_; refine runD_done (by kernel_rfl) ?_)
            exact midN ((a1, c1, A1, H1), b8) [blk b7 (bare o).cells 35, blk b2 (rows Ord.cells N.W ++ rest) 35] ⟨own1, hH1⟩ rfl (fun x => by rw [hAA]; simp only [List.append_eq, cnt_append, cnt_cons, cnt_nil, blk, zOut, outV, menter, bare, Ord.cells]; try omega)
        · intro fr' h' hm
          (refine then_normal ?_)
          refine midN_out hm ?_
          clear hm hAA AA
          rintro ⟨⟨a1, c1, A1, H1⟩, b8⟩ ⟨own1, hH1⟩
          dsimp only at own1 hH1 ⊢
          have hlt2 : ts.length + 1 ≤ 64 := by omega
          (refine run_seq ?_; refine run_region ?_; refine xel rfl (ev_loadAK rfl rfl (ag rfl) (sz rfl) (memF (.tail _ (.head _))) rfl) ?_; refine xel rfl (ev_fieldAddr rfl rfl (fo rfl)) ?_; refine runL_store0 rfl rfl rfl rfl rfl (sz rfl) rfl rfl rfl rfl rfl ?_; refine runL_nil ?_; refine then_normal ?_; refine run_region ?_; refine xep rfl rfl ?_; refine xel rfl (ev_loadAK rfl rfl (ag rfl) (sz rfl) (memF (.head _)) rfl) ?_)
          refine runL_buildSlice (l := outV a1 c1 ⟨o, X.1.fs, X.1.left, X.1.rests, X.1.waits, X.1.self, X.1.err⟩) rfl rfl rfl rfl rfl (se rfl) ze66 rfl rfl rfl rfl rfl (fun b37 => ?_)
          skip
          refine runL_append (sl := outV a1 c1 ⟨o, X.1.fs, X.1.left, X.1.rests, X.1.waits, X.1.self, X.1.err⟩) (blk b37 (outV a1 c1 ⟨o, X.1.fs, X.1.left, X.1.rests, X.1.waits, X.1.self, X.1.err⟩) 66 :: blk b8 (outV a1 c1 ⟨o, X.1.fs, X.1.left, X.1.rests, X.1.waits, X.1.self, X.1.err⟩) 66 :: blk x6 o.cells 35 :: blk m [.pointer (some ⟨b, 0, none⟩), .slice a7 (N.W.take k ++ N.W.drop (k + 1)).length c7] 62 :: (H1 ++ (A1 ++ HF ++ A7))) rfl rfl rfl rfl rfl rfl rfl (se rfl) (se rfl) ze66 rfl (byt rfl) own (fun y => by
            show cnt y (blk b37 (outV a1 c1 ⟨o, X.1.fs, X.1.left, X.1.rests, X.1.waits, X.1.self, X.1.err⟩) 66 :: blk b8 (outV a1 c1 ⟨o, X.1.fs, X.1.left, X.1.rests, X.1.waits, X.1.self, X.1.err⟩) 66 :: blk x6 o.cells 35 :: blk m [.pointer (some ⟨b, 0, none⟩), .slice a7 (N.W.take k ++ N.W.drop (k + 1)).length c7] 62 :: (H1 ++ (A1 ++ (A ++ HF) ++ A7))) = _
            (first | rfl | (simp only [List.append_eq, cnt_append, cnt_cons, cnt_nil, blk]; omega) | (simp only [List.append_eq, cnt_append, cnt_cons, cnt_nil, blk]; done))) ⟨rfl, .inr ⟨b37, 0, _, _, _, rfl, memF (.head _), by simp [outV], rfl⟩⟩ rfl (by decide) (by decide) (by omega) ?_
          rintro v' A8 own'
          obtain ⟨a8, c8, rfl, own8⟩ := (own'.snoc (f := orow) (x := ((a1, c1), (⟨o, X.1.fs, X.1.left, X.1.rests, X.1.waits, X.1.self, X.1.err⟩ : Out))) rfl).at
          (refine xep rfl rfl ?_; refine runL_nil ?_; refine in_normal ?_; refine then_normal ?_)
          refine ⟨((⟨X.2, (N.W.take k ++ N.W.drop (k + 1))⟩, ts ++ [((a1, c1), (⟨o, X.1.fs, X.1.left, X.1.rests, X.1.waits, X.1.self, X.1.err⟩ : Out))]), (a8, c8, A8), HF ++ A1, blk m [.pointer (some ⟨b, 0, none⟩), .slice a7 (N.W.take k ++ N.W.drop (k + 1)).length c7] 62 :: (H1 ++ A7)), ⟨⟨⟨?_, ?_, ?_, fun x mx => hI.w.w x (cut_mem mx)⟩, ?_, ?_, ?_⟩, own8, FsH.append hF ⟨A1, [], own1, rfl, by rw [List.append_nil]⟩, b, a7, c7, H1, A7, hH1, own7, rfl⟩, by show (N.W.take k ++ N.W.drop (k + 1)).length < N.W.length; omega, rfl, blk b37 (outV a1 c1 ⟨o, X.1.fs, X.1.left, X.1.rests, X.1.waits, X.1.self, X.1.err⟩) 66 :: blk b8 (outV a1 c1 ⟨o, X.1.fs, X.1.left, X.1.rests, X.1.waits, X.1.self, X.1.err⟩) 66 :: [blk x6 o.cells 35], fun y => by (first | rfl | (simp only [List.append_eq, cnt_append, cnt_cons, cnt_nil, blk]; omega) | (simp only [List.append_eq, cnt_append, cnt_cons, cnt_nil, blk]; done))⟩
          · have := hme.1; rw [hmen] at this; exact this
          · have := hme.2.1; rw [hmen] at this; show 0 ≤ X.2.no; dsimp only at this; omega
          · show lenL X.2.buys + lenL X.2.sells + (N.W.take k ++ N.W.drop (k + 1)).length ≤ 64
            have h4 := hme.2.2.2
            rw [hmen] at h4
            dsimp only at h4
            have h5 : (if rests o = true then 1 else 0) ≤ 1 := by by_cases hre : rests o = true <;> simp [hre]
            omega
          · have his := hI.is
            rw [← hN, mtrig_some hfi ho, hmen] at his
            rw [his]; simp
          · show (ts ++ [_]).length + (N.W.take k ++ N.W.drop (k + 1)).length ≤ 64
            rw [List.length_append, List.length_singleton]; omega
          · have h6 : ((ts ++ [((a1, c1), (⟨o, X.1.fs, X.1.left, X.1.rests, X.1.waits, X.1.self, X.1.err⟩ : Out))]).length : Int) = ts.length + 1 := by simp
            have h7 := hme.2.2.1
            rw [hmen] at h7
            dsimp only at h7 ⊢
            rw [h6]; omega
end Go.Proofs.YtmelpobcpcmdoaaGreat
