/- Contracts of functions of the given program over its translation, each proved by walking its text; used by the laws' rows. It proves no given statement by itself. -/
import Derived.Test.YtmelpobcpcmdoaaGreatSLPlSCX
import Derived.Test.YtmelpobcpcmdoaaGreatSLPlJX
set_option autoImplicit false
set_option linter.unusedSectionVars false
set_option linter.unusedSimpArgs false
set_option linter.unusedVariables false
set_option maxRecDepth 4000
set_option maxHeartbeats 16000000
namespace Go.Proofs.YtmelpobcpcmdoaaGreat
open Go Go.SL Go.Proofs
/-! Orders that are there were right, but for their quantity. -/
def okP (o : Ord) : Prop := 0 ≤ o.trader ∧ o.trader ≤ 31 ∧ 0 ≤ o.firm ∧ o.firm ≤ 7 ∧ 0 ≤ o.id ∧ o.id ≤ 1073741824 ∧ 1 ≤ o.side ∧ o.side ≤ 2 ∧ 1 ≤ o.kind ∧ o.kind ≤ 5 ∧ 0 ≤ o.show_ ∧ 0 ≤ o.stop ∧ o.stop ≤ 1048576 ∧ (o.kind = 2 → o.price = 0) ∧ (o.kind ≠ 2 → 1 ≤ o.price ∧ o.price ≤ 1048576) ∧ (o.show_ = 0 ∨ o.kind = 1 ∨ o.kind = 5)
theorem okP_right {o : Ord} (h : rightP o) : okP o := by
  obtain ⟨h1, h2, h3, h4, h5, h6, h7, h8, h9, h10, h11, h12, h13, h14, h15, h16, h17, h18, h19⟩ := h
  exact ⟨h1, h2, h3, h4, h5, h6, h7, h8, h9, h10, h13, h15, h16, h17, h18, h19⟩
theorem okP_wq {o : Ord} {n : Int} (h : okP o) : okP (wq o n) := h
theorem okP_wqs {o : Ord} {n s : Int} (h : okP o) (hs : 0 ≤ s) (h0 : o.show_ = 0 → s = 0) : okP (wqs o n s) := by
  obtain ⟨h1, h2, h3, h4, h5, h6, h7, h8, h9, h10, h13, h15, h16, h17, h18, h19⟩ := h
  refine ⟨h1, h2, h3, h4, h5, h6, h7, h8, h9, h10, hs, h15, h16, h17, h18, ?_⟩
  rcases h19 with h | h
  · exact .inl (h0 h)
  · exact .inr h
def RL (l : List Lv) : Prop := ∀ lv ∈ l, ∀ e ∈ lv.es, okP e.o
def RB (B : Bk) : Prop := RL (B.side 1) ∧ RL (B.side 2)
theorem RB.side {B : Bk} (h : RB B) {s : Int} (hs : s = 1 ∨ s = 2) : RL (B.side s) := by
  rcases hs with rfl | rfl
  · exact h.1
  · exact h.2
theorem RB.of {B : Bk} {s : Int} (hs : s = 1 ∨ s = 2) (h1 : RL (B.side s)) (h2 : RL (B.side (3 - s))) : RB B := by
  rcases hs with rfl | rfl
  · exact ⟨h1, h2⟩
  · exact ⟨h2, h1⟩
variable [Base]
theorem badd_RB {o : Ord} {B : Bk} (hw : BW B) (h : RB B) (ho : rightP o) : RB (badd o B).2 := by
  by_cases h0 : brefused o B = 0
  · have hs : o.side = 1 ∨ o.side = 2 := by unfold rightP at ho; omega
    have hq : 0 ≤ o.qty ∧ 0 ≤ o.show_ := by unfold rightP at ho; omega
    have M := match_sub (B.side (3 - o.side)) o B.last B.no (hw.side _).1 hq.1
    have MI := match_is (B.side (3 - o.side)) o B.last B.no (hw.side _).1 hq.1
    have A := add_is hs h0
    generalize matchL o (B.side (3 - o.side)) B.last B.no = m at *
    have h3 : (3 : Int) - o.side = 1 ∨ 3 - o.side = 2 := by omega
    have hm : RL m.lvs := by
      intro lv ml e me
      obtain ⟨lv2, ml2, -, h2⟩ := M.sub lv ml
      obtain ⟨e2, me2, n, e3⟩ := h2 e me
      rw [e3]
      exact okP_wq (h.side h3 lv2 ml2 e2 me2)
    refine RB.of hs ?_ (by rw [A.theirs]; exact hm)
    rw [A.mine]
    split
    · intro lv ml e me
      rcases (rest_mem ml).2 e me with ⟨e1, -⟩ | ⟨x, mx, -, me2⟩
      · rw [e1]
        have := MI.qty
        exact okP_wqs (okP_right ho) (by omega) (fun hz => by omega)
      · exact h.side hs x mx e me2
    · exact h.side hs
  · rw [refused_is h0]; exact h
structure RP (M : Mk) : Prop where
  b : RB M.B
theorem trig_RB : ∀ (n : Nat) (M : Mk), MW M → RB M.B → RB (mtrig n M).2.B
  | 0, M, _, h => h
  | n + 1, M, hw, h => by
    unfold mtrig
    cases hf : M.W.findIdx? (fun o => hit o M.B.last) with
    | none => exact h
    | some k =>
      dsimp only
      cases ho : M.W[k]? with
      | none => exact h
      | some o =>
        dsimp only
        have hr := hw.w o (List.mem_of_getElem? ho)
        have e := menter_ok (o := o) hw.b hw.no
        have hc := cut_len ho
        have hl := hw.len
        have hn := hw.no
        unfold mlen at hl
        exact trig_RB n _ ⟨e.1, by show 0 ≤ (menter o M.B).2.no; omega, by
          unfold mlen
          have := e.2.2.2
          dsimp only
          split at this <;> omega, fun x m => hw.w x (cut_mem m)⟩ (badd_RB hw.b h (bare_right hr))
theorem madd_RB {o : Ord} {M : Mk} (hw : MW M) (h : RB M.B) : RB (madd o M).2.B := by
  have h1 : RB (mfirst o M).2.B := by
    unfold mfirst
    split
    · exact h
    · rename_i hr
      have hr := (refused_no (o := o) (M := M) (by omega)).1
      split
      · exact h
      · exact badd_RB hw.b h (bare_right hr)
  exact trig_RB _ _ (mfirst_ok (o := o) hw).1 h1
theorem all_ok {M : Mk} (hw : MW M) (h : RB M.B) {x : Ord} (hx : x ∈ mall M) : okP x := by
  unfold mall at hx
  rcases List.mem_append.1 hx with hx | hx
  · obtain ⟨lv, ml, e, me, rfl⟩ := orders_mem.1 hx
    exact h.1 lv ml e me
  · rcases List.mem_append.1 hx with hx | hx
    · obtain ⟨lv, ml, e, me, rfl⟩ := orders_mem.1 hx
      exact h.2 lv ml e me
    · exact okP_right (hw.w x hx)
/-- A market of numbers' orders. -/
def mfill (rs : List (List Int)) (k : Nat) : Mk := (rs.take k).foldl (fun M r => (madd (kS r) M).2) emptyM
/-- What is so of a market that was filled. -/
structure FilOk (k : Nat) (M : Mk) : Prop where
  w : MW M
  u : Uq M
  r : RB M.B
  s : Wst M
  g : Gd M.B
  no : M.B.no ≤ k * 68157440
  done : ∀ x ∈ M.W, hit x M.B.last = false
end Go.Proofs.YtmelpobcpcmdoaaGreat

set_option autoImplicit false
set_option linter.unusedSectionVars false
set_option linter.unusedSimpArgs false
set_option linter.unusedVariables false
set_option maxRecDepth 4000
set_option maxHeartbeats 16000000
namespace Go.Proofs.YtmelpobcpcmdoaaGreat
open Go Go.SL Go.Proofs
/-! A mass cancel. -/
def tbit (T x : Int) : Bool := decide (bits .and .u64 (T.fdiv (2 ^ min x.toNat IntKind.u64.bits)) 1 = 1)
def massM (f : Int → Bool) (M : Mk) (l : List Ord) : Mk := l.foldl (fun M x => if f x.trader = true then (mremove x.trader x.id M).2.2 else M) M
def wentL (f : Int → Bool) (l : List Ord) : List Ord := l.filter fun x => f x.trader
def stayL (f : Int → Bool) (l : List Ord) : List Ord := l.filter fun x => !f x.trader
def openS (t : Int) (l : List Ord) : Int := sumO (l.filter fun x => decide (x.trader = t))
theorem filter_take {p : Ord → Bool} {l : List Ord} {j : Nat} {x : Ord} (h : l[j]? = some x) : (l.take (j + 1)).filter p = (l.take j).filter p ++ (if p x = true then [x] else []) := by
  have hi := (List.getElem?_eq_some_iff.1 h).1
  rw [List.take_succ_eq_append_getElem hi, (List.getElem?_eq_some_iff.1 h).2, List.filter_append]
  congr 1
  by_cases hp : p x = true
  · rw [if_pos hp, List.filter_cons_of_pos hp]; rfl
  · rw [if_neg hp, List.filter_cons_of_neg hp]; rfl
theorem openS_take {t : Int} {l : List Ord} {j : Nat} {x : Ord} (h : l[j]? = some x) : openS t (l.take (j + 1)) = openS t (l.take j) + (if x.trader = t then x.qty else 0) := by
  unfold openS
  rw [filter_take h, sumO_append]
  by_cases hx : x.trader = t
  · rw [if_pos (decide_eq_true hx), if_pos hx]
    show _ + (x.qty + 0) = _
    omega
  · rw [if_neg (by rw [decide_eq_false hx]; simp), if_neg hx]; rfl
theorem openS_in {t : Int} {l : List Ord} (h : ∀ x ∈ l, 1 ≤ x.qty ∧ x.qty ≤ 1048576) : ∀ j, j ≤ l.length → 0 ≤ openS t (l.take j) ∧ openS t (l.take j) ≤ 1048576 * j
  | 0, _ => by simp [openS, sumO]
  | j + 1, hj => by
    have ih := openS_in h (t := t) j (by omega)
    obtain ⟨x, hx⟩ : ∃ x, l[j]? = some x := ⟨l[j]'(by omega), List.getElem?_eq_getElem _⟩
    have hq := h x (List.mem_of_getElem? hx)
    rw [openS_take hx]
    push_cast
    split <;> omega
variable [Base]
theorem massM_take {f : Int → Bool} {M : Mk} {l : List Ord} {j : Nat} {x : Ord} (h : l[j]? = some x) : massM f M (l.take (j + 1)) = if f x.trader = true then (mremove x.trader x.id (massM f M (l.take j))).2.2 else massM f M (l.take j) := by
  have hi := (List.getElem?_eq_some_iff.1 h).1
  unfold massM
  rw [List.take_succ_eq_append_getElem hi, List.foldl_append, (List.getElem?_eq_some_iff.1 h).2]; rfl
theorem mass_is {f : Int → Bool} {M : Mk} (hw : MW M) (hu : Uq M) : ∀ j, j ≤ (mall M).length → mall (massM f M ((mall M).take j)) = stayL f ((mall M).take j) ++ (mall M).drop j ∧ MW (massM f M ((mall M).take j)) ∧ Uq (massM f M ((mall M).take j)) ∧ (massM f M ((mall M).take j)).B.no = M.B.no
  | 0, _ => ⟨rfl, hw, hu, rfl⟩
  | j + 1, hj => by
    obtain ⟨i1, i2, i3, i4⟩ := mass_is (f := f) hw hu j (by omega)
    obtain ⟨x, hx⟩ : ∃ x, (mall M)[j]? = some x := ⟨(mall M)[j]'(by omega), List.getElem?_eq_getElem _⟩
    have hd : (mall M).drop j = x :: (mall M).drop (j + 1) := by
      have hj2 := (List.getElem?_eq_some_iff.1 hx).1
      rw [List.drop_eq_getElem_cons hj2, (List.getElem?_eq_some_iff.1 hx).2]
    rw [massM_take hx]
    unfold stayL
    rw [filter_take hx]
    unfold stayL at i1
    rw [hd] at i1
    generalize massM f M ((mall M).take j) = N at *
    generalize ((mall M).take j).filter (fun x => !f x.trader) = P at *
    by_cases hf : f x.trader = true
    · rw [if_pos hf, if_neg (by rw [hf]; simp), List.append_nil]
      have hk : (mall N)[P.length]? = some x := by rw [i1]; simp
      obtain ⟨-, -, r3, r4, -⟩ := mremove_at i2 i3 hk
      refine ⟨?_, r4, mremove_Uq i2 i3, by rw [mremove_no]; exact i4⟩
      rw [r3, i1, List.take_left, List.drop_append, List.drop_eq_nil_of_le (by omega)]
      have : P.length + 1 - P.length = 1 := by omega
      rw [this]; rfl
    · rw [if_neg hf, if_pos (by simp [hf])]
      refine ⟨?_, i2, i3, i4⟩
      rw [i1]; simp
end Go.Proofs.YtmelpobcpcmdoaaGreat

set_option autoImplicit false
set_option linter.unusedSectionVars false
set_option linter.unusedSimpArgs false
set_option linter.unusedVariables false
set_option maxRecDepth 4000
set_option maxHeartbeats 64000000
namespace Go.Proofs.YtmelpobcpcmdoaaGreat
open Go Go.SL Go.Proofs
variable [Base]
theorem sp_sremove (F H : Heap) (m : Nat) (M : Mk) (hH : MkH m M H) (hw : BW M.B) (hl : M.W.length ≤ 65536) (t i : Int) :
    Sp Tryz.prog F 41 [.pointer (some ⟨m, 0, none⟩), .int .i64 t, .int .i64 i] H (fun v h' => v = .tuple #[ov (mremove t i M).1, .bool (mremove t i M).2.1] ∧ MkH m (mremove t i M).2.2 h') := by
  obtain ⟨b, aw, cw, HB, AW, hB, ownW, rfl⟩ := hH
  refine Sp.up ?_
  refine sp_of_codeR Tryz.func41 rfl rfl ?_
  (refine run_seq ?_; refine run_region ?_; refine runL_alloc rfl rfl rfl rfl rfl ze35 (fun _ => ?_); refine xep rfl rfl ?_; refine runL_nil ?_; refine then_normal ?_; (iterate 2 refine run_seq ?_); refine run_region ?_; (iterate 2 refine xep rfl rfl ?_); refine xel rfl (ev_fieldAddr rfl rfl (fo rfl)) ?_; refine xel rfl (ev_loadK rfl rfl (sc rfl) (memF (.tail _ (.head _))) rfl) ?_; (iterate 2 refine xep rfl rfl ?_))
  rename_i b6
  refine RunL.perm (h' := blk m [.pointer (some ⟨b, 0, none⟩), .slice aw M.W.length cw] 55 :: blk b6 o0.cells 35 :: (HB ++ AW)) (fun y => by show cnt y (blk b6 o0.cells 35 :: (blk m [.pointer (some ⟨b, 0, none⟩), .slice aw M.W.length cw] 55 :: (HB ++ AW))) = _; (first | rfl | (simp only [List.append_eq, cnt_append, cnt_cons, cnt_nil, blk]; omega) | (simp only [List.append_eq, cnt_append, cnt_cons, cnt_nil, blk]; done))) ?_
  skip
  refine runL_callZ (blk m [.pointer (some ⟨b, 0, none⟩), .slice aw M.W.length cw] 55 :: blk b6 o0.cells 35 :: AW) HB rfl rfl rfl rfl rfl rfl rfl (pf rfl) (fun y => by (first | rfl | (simp only [List.append_eq, cnt_append, cnt_cons, cnt_nil, blk]; omega) | (simp only [List.append_eq, cnt_append, cnt_cons, cnt_nil, blk]; done))) (sp_bremove _ HB b M.B hB hw t i) ?_
  rintro v HB2 ⟨rfl, hB2⟩
  ((iterate 3 refine xep rfl rfl ?_); refine runL_alloc rfl rfl rfl rfl rfl ze35 (fun _ => ?_); refine runL_store0 rfl rfl rfl rfl rfl (sz rfl) rfl rfl rfl rfl rfl ?_; refine xep rfl rfl ?_; refine runL_nil ?_; refine then_normal ?_; refine run_seq ?_; refine run_region ?_; refine xep rfl rfl ?_; refine runL_nil ?_; refine then_normal ?_)
  rename_i b8
  generalize hX : bremove t i M.B = X at *
  obtain ⟨o1, is1, B2⟩ := X
  dsimp only at hB2 ⊢
  refine RunC.perm (h' := blk b8 o1.cells 35 :: blk b6 o0.cells 35 :: blk m [.pointer (some ⟨b, 0, none⟩), .slice aw M.W.length cw] 55 :: (HB2 ++ AW)) (fun y => by
    show cnt y (blk b8 o1.cells 35 :: (blk m [.pointer (some ⟨b, 0, none⟩), .slice aw M.W.length cw] 55 :: blk b6 o0.cells 35 :: AW ++ HB2)) = _
    (first | rfl | (simp only [List.append_eq, cnt_append, cnt_cons, cnt_nil, blk]; omega) | (simp only [List.append_eq, cnt_append, cnt_cons, cnt_nil, blk]; done))) ?_
  cases is1 with
  | true =>
    have e : mremove t i M = (o1, true, ⟨B2, M.W⟩) := by unfold mremove; rw [hX, if_pos rfl]
    rw [e]
    refine run_condT rfl rfl ?_
    (refine run_seq ?_; refine run_region ?_; refine xel rfl (ev_loadAK rfl rfl (ag rfl) (sz rfl) (memF (.head _)) rfl) ?_; refine runL_store1 rfl rfl rfl rfl rfl (sz rfl) rfl rfl rfl rfl rfl ?_; refine xep rfl rfl ?_; refine runL_nil ?_; refine then_normal ?_; refine run_ret ?_; refine then_ret ?_)
    exact ⟨_, .agg rfl (memF (.tail _ (.head _))) (ag rfl) (sz rfl) rfl (.tmp rfl .nil), blk m [.pointer (some ⟨b, 0, none⟩), .slice aw M.W.length cw] 55 :: (HB2 ++ AW), [blk b8 o1.cells 35, blk b6 o1.cells 35], ⟨rfl, b, aw, cw, HB2, AW, hB2, ownW, rfl⟩, fun y => by
      show cnt y (blk b8 o1.cells 35 :: blk b6 o1.cells 35 :: _) = _
      (first | rfl | (simp only [List.append_eq, cnt_append, cnt_cons, cnt_nil, blk]; omega) | (simp only [List.append_eq, cnt_append, cnt_cons, cnt_nil, blk]; done))⟩
  | false =>
    refine run_condF rfl rfl ?_
    (refine run_skip ?_; refine then_normal ?_; refine run_seq ?_; refine run_region ?_; (iterate 3 refine xep rfl rfl ?_))
    have hcw : M.W.length ≤ cw := by
      obtain ⟨_, _, hv, h2⟩ := ownW.form
      cases hv; exact h2
    refine runL_ev rfl rfl rfl rfl (ev_callQ rfl rfl rfl (pf rfl) (sp_splace _ m ⟨B2, M.W⟩ ⟨b, aw, cw, hB2.in fun y my => by simp [my], hcw, ownW.src fun x mx => by simp [mx], by simp⟩ hl t i)) ?_
    (refine xep rfl rfl ?_; refine runL_nil ?_; refine then_normal ?_; (iterate 2 refine run_seq ?_); refine run_region ?_; (iterate 2 refine xep rfl rfl ?_); refine runL_nil ?_; refine then_normal ?_)
    rcases idxI_cases (isO t i) M.W with ⟨hk, hno⟩ | ⟨k, x, hk, hx, hp, hn⟩
    · have e : mremove t i M = (o0, false, ⟨B2, M.W⟩) := by
        unfold mremove
        rw [hX, if_neg (by simp), List.findIdx?_eq_none_iff.2 hno]
      rw [e]
      dsimp only
      rw [hk]
      refine run_condT rfl rfl ?_
      (refine run_seq ?_; refine run_region ?_; refine xel rfl (ev_build rfl pl35 rfl) ?_; refine runL_store1 rfl rfl rfl rfl rfl (sz rfl) rfl rfl rfl rfl rfl ?_; refine xep rfl rfl ?_; refine runL_nil ?_; refine then_normal ?_; refine run_ret ?_; refine then_ret ?_)
      exact ⟨_, .agg rfl (memF (.tail _ (.head _))) (ag rfl) (sz rfl) rfl (.tmp rfl .nil), blk m [.pointer (some ⟨b, 0, none⟩), .slice aw M.W.length cw] 55 :: (HB2 ++ AW), [blk b8 o1.cells 35, blk b6 o0.cells 35], ⟨rfl, b, aw, cw, HB2, AW, hB2, ownW, rfl⟩, fun y => by
        show cnt y (blk b8 o1.cells 35 :: blk b6 o0.cells 35 :: _) = _
        (first | rfl | (simp only [List.append_eq, cnt_append, cnt_cons, cnt_nil, blk]; omega) | (simp only [List.append_eq, cnt_append, cnt_cons, cnt_nil, blk]; done))⟩
    · have hlt := (List.getElem?_eq_some_iff.1 hx).1
      have e0 : M.W.findIdx? (isO t i) = some k := by
        rw [List.findIdx?_eq_some_iff_getElem]
        refine ⟨hlt, by rw [(List.getElem?_eq_some_iff.1 hx).2]; exact hp, fun j hj => ?_⟩
        have := hn j _ hj (List.getElem?_eq_getElem (by omega))
        rw [this]; simp
      have e : mremove t i M = (x, true, ⟨B2, M.W.take k ++ M.W.drop (k + 1)⟩) := by
        unfold mremove
        rw [hX, if_neg (by simp), e0]
        dsimp only
        rw [hx]
      rw [e]
      dsimp only
      rw [hk]
      refine run_condF rfl (decide_eq_false (by omega)) ?_
      obtain ⟨b2, rest, cap', hv, rfl, hl2, hr2, hk2⟩ := ownW.pos (by omega)
      cases hv
      have r1 : RowAt (rows Ord.cells M.W ++ rest) (0 + (k : Int).toNat * 9) x.cells := by
        rw [Nat.zero_add]; exact rows_at oc_len hx rest
      refine RunC.perm (h' := blk b2 (rows Ord.cells M.W ++ rest) 35 :: blk m [.pointer (some ⟨b, 0, none⟩), .slice (some ⟨b2, 0, none⟩) M.W.length cw] 55 :: blk b6 o0.cells 35 :: blk b8 o1.cells 35 :: HB2) (fun y => by (first | rfl | (simp only [List.append_eq, cnt_append, cnt_cons, cnt_nil, blk]; omega) | (simp only [List.append_eq, cnt_append, cnt_cons, cnt_nil, blk]; done))) ?_
      (refine run_skip ?_; refine then_normal ?_; refine run_seq ?_; refine run_region ?_; (iterate 2 refine xep rfl rfl ?_); refine xel rfl (ev_fieldAddr rfl rfl (fo rfl)) ?_; refine xel rfl (ev_loadK rfl rfl (sc rfl) (memF (.tail _ (.head _))) rfl) ?_; refine xep rfl rfl ?_; refine xel rfl (ev_indexAddr rfl rfl rfl (se rfl) (by omega) (by omega)) ?_; refine xel rfl (ev_loadAR rfl rfl (ag rfl) (sz rfl) (memF (.head _)) r1 rfl) ?_; refine runL_alloc rfl rfl rfl rfl rfl ze35 (fun _ => ?_); refine runL_store0 rfl rfl rfl rfl rfl (sz rfl) rfl rfl rfl rfl rfl ?_; refine runL_nil ?_; refine then_normal ?_; refine run_seq ?_; refine run_region ?_; (iterate 3 refine xep rfl rfl ?_); refine xel rfl (ev_fieldAddr rfl rfl (fo rfl)) ?_; refine xel rfl (ev_loadK rfl rfl (sc rfl) (memF (.tail _ (.tail _ (.head _)))) rfl) ?_; (iterate 2 refine xep rfl rfl ?_); refine xel rfl (ev_add rfl rfl rfl (by omega)) ?_)
      rename_i b11
      refine runL_callZ (blk b11 x.cells 35 :: blk m [.pointer (some ⟨b, 0, none⟩), .slice (some ⟨b2, 0, none⟩) M.W.length cw] 55 :: blk b6 o0.cells 35 :: blk b8 o1.cells 35 :: HB2) [blk b2 (rows Ord.cells M.W ++ rest) 35] rfl rfl rfl rfl rfl rfl rfl (pf rfl) (fun y => by
        show cnt y (blk b11 x.cells 35 :: blk b2 (rows Ord.cells M.W ++ rest) 35 :: blk m [.pointer (some ⟨b, 0, none⟩), .slice (some ⟨b2, 0, none⟩) M.W.length cw] 55 :: blk b6 o0.cells 35 :: blk b8 o1.cells 35 :: HB2) = _
        (first | rfl | (simp only [List.append_eq, cnt_append, cnt_cons, cnt_nil, blk]; omega) | (simp only [List.append_eq, cnt_append, cnt_cons, cnt_nil, blk]; done))) (sp_delOrd _ _ _ _ _ _ ownW (rows_cells (fun _ => rfl) _) k (k + 1) (by omega) (by omega)) ?_
      rintro v A' own'
      rw [rows_take oc_len M.W (by omega), rows_drop oc_len M.W (by omega), ← rows_append] at own'
      have hlen : M.W.length - (k + 1 - k) = (M.W.take k ++ M.W.drop (k + 1)).length := by
        rw [List.length_append, List.length_take, List.length_drop]; omega
      rw [hlen] at own'
      obtain ⟨a5, c5, rfl, own5⟩ := own'.at
      generalize M.W.take k ++ M.W.drop (k + 1) = W2 at *
      (refine xep rfl rfl ?_; refine xel rfl (ev_fieldAddr rfl rfl (fo rfl)) ?_; refine runL_store1 rfl rfl rfl rfl rfl (sz rfl) rfl rfl rfl rfl rfl ?_; refine runL_nil ?_; refine then_normal ?_; refine run_seq ?_; refine run_region ?_; refine xel rfl (ev_loadAK rfl rfl (ag rfl) (sz rfl) (memF (.head _)) rfl) ?_; refine runL_store2 rfl rfl rfl rfl rfl (sz rfl) rfl rfl rfl rfl rfl ?_; refine xep rfl rfl ?_; refine runL_nil ?_; refine then_normal ?_; refine run_ret ?_)
      exact ⟨_, .agg rfl (memF (.tail _ (.tail _ (.head _)))) (ag rfl) (sz rfl) rfl (.tmp rfl .nil), blk m [.pointer (some ⟨b, 0, none⟩), .slice a5 W2.length c5] 55 :: (HB2 ++ A'), [blk b11 x.cells 35, blk b6 x.cells 35, blk b8 o1.cells 35], ⟨rfl, b, a5, c5, HB2, A', hB2, own5, rfl⟩, fun y => by
        simp only [List.append_eq, cnt_append, cnt_cons, cnt_nil, blk, Ord.cells]; omega⟩
end Go.Proofs.YtmelpobcpcmdoaaGreat

set_option autoImplicit false
set_option linter.unusedSectionVars false
set_option linter.unusedSimpArgs false
set_option linter.unusedVariables false
set_option maxRecDepth 4000
set_option maxHeartbeats 200000000
namespace Go.Proofs.YtmelpobcpcmdoaaGreat
open Go Go.SL Go.Proofs
variable [Base]
theorem sp_sadd (F H : Heap) (m : Nat) (M : Mk) (hH : MkH m M H) (hw : MW M) (hn2 : M.B.no ≤ 1099442421760) (o : Ord) (hk : InI o.kind) :
    Sp Tryz.prog F 7 [.pointer (some ⟨m, 0, none⟩), ov o] H (fun v h' => ∃ a c ts A HF H', v = .slice a ts.length c ∧ ts.map (·.2) = (madd o M).1 ∧ ts.length ≤ 65 ∧ OwnS 66 15 (.slice a ts.length c) ts.length (rows orow ts) A ∧ FsH ts HF ∧ MkH m (madd o M).2 H' ∧ h' = H' ++ A ++ HF) := by
  have hln := hw.len
  have hWl : M.W.length ≤ 64 := by unfold mlen at hln; omega
  have hok := mfirst_ok (o := o) hw
  unfold madd
  refine Sp.up ?_
  refine sp_of_code Tryz.func7 rfl rfl ?_
  (refine run_seq ?_; refine run_region ?_; refine runL_box rfl rfl rfl rfl rfl rfl (fun _ => ?_); refine xep rfl rfl ?_; refine runL_nil ?_; refine then_normal ?_; refine run_seq ?_)
  rename_i b3
  refine RunC.perm (h' := [] ++ (H ++ [blk b3 o.cells 35])) (fun y => by show cnt y (blk b3 o.cells 35 :: H) = _; (first | rfl | (simp only [List.append_eq, cnt_append, cnt_cons, cnt_nil, blk]; omega) | (simp only [List.append_eq, cnt_append, cnt_cons, cnt_nil, blk]; done))) ?_
  refine run_midO (σ := Nat) [0, 3] (fun b5 => [(5, .pointer (some ⟨b5, 0, none⟩))]) (fun b5 => blk b5 (outV none 0 ⟨o, [], o.qty, false, false, false, mrefused o M⟩) 66 :: (H ++ [blk b3 o.cells 35])) (fun _ => True) rfl ?_ ?_
  · refine RunC.freezeR ?_
    have l1 : AggF ((H ++ [blk b3 o.cells 35]) ++ F) b3 0 o.cells := ⟨_, _, _, List.mem_append_left _ (List.mem_append_right _ (List.mem_cons_self ..)), Nat.le_refl _, rfl⟩
    have l2 := l1.at 6 _ rfl
    have q1 := fun G : Heap => sp_srefused (G ++ ((H ++ [blk b3 o.cells 35]) ++ F)) m M (hH.in fun y my => by simp [my]) hw o hk
    refine run_region_D mo ?_
    (refine runD_q 0 rfl rfl (by kernel_rfl) ?_; refine ⟨_, fun _ => ev_loadAF rfl rfl (ag rfl) (sz rfl) l1 rfl, ?_⟩; refine runD_q 1 rfl rfl (by kernel_rfl) ?_; refine ⟨_, fun _ => ev_fieldAddr rfl rfl (fo rfl), ?_⟩; refine runD_q 2 rfl rfl (by kernel_rfl) ?_; refine ⟨_, fun _ => ev_loadF rfl rfl (sc rfl) l2, ?_⟩; refine runD_q 3 rfl rfl (by kernel_rfl) ?_; refine ⟨_, fun _ => ev_pure rfl, ?_⟩; refine runD_q 4 rfl rfl (by kernel_rfl) ?_; refine ⟨_, fun _ => ev_loadAF rfl rfl (ag rfl) (sz rfl) l1 rfl, ?_⟩; refine runD_q 5 rfl rfl (by kernel_rfl) ?_; refine ⟨_, fun _ => ev_callQ rfl rfl rfl (pf rfl) (q1 ..), ?_⟩; refine runD_q 6 rfl rfl (by kernel_rfl) ?_; refine ⟨_, fun _ => ev_build rfl pl66 rfl, ?_⟩; refine runD_1 7 (by kernel_rfl) rfl rfl rfl ?_; refine runL_alloc rfl rfl rfl rfl rfl ze66 (fun _ => ?_); refine runL_nil ?_; refine endS_d rfl ?_; refine runD_1 8 (by kernel_rfl) rfl rfl rfl ?_; refine runL_store0 rfl rfl rfl rfl rfl (sz rfl) rfl rfl rfl rfl rfl ?_; refine runL_nil ?_; refine endS_n rfl ?_; refine runD_done (by kernel_rfl) ?_)
    rename_i b5
    exact midN b5 [] trivial rfl (fun x => by show cnt x (blk b5 (outV none 0 ⟨o, [], o.qty, false, false, false, mrefused o M⟩) 66 :: (H ++ [blk b3 o.cells 35])) = _; (first | rfl | (simp only [List.append_eq, cnt_append, cnt_cons, cnt_nil, blk]; omega) | (simp only [List.append_eq, cnt_append, cnt_cons, cnt_nil, blk]; done)))
  · intro fr h' hmid
    refine midN_out hmid ?_
    clear hmid
    rintro b5 -
    refine run_seq ?_
    refine run_midO (σ := (Option Addr × Nat × Heap) × Heap) [0, 5] (fun _ => [])
      (fun s => blk b5 (outV s.1.1 s.1.2.1 (mfirst o M).1) 66 :: (s.2 ++ s.1.2.2))
      (fun s => OwnS 93 21 (.slice s.1.1 (mfirst o M).1.fs.length s.1.2.1) (mfirst o M).1.fs.length (rows fcell (mfirst o M).1.fs) s.1.2.2 ∧ MkH m (mfirst o M).2 s.2) rfl ?_ ?_
    · generalize hr : mrefused o M = r
      (refine run_block ?_; refine run_seq ?_; refine run_region ?_; refine xel rfl (ev_fieldAddr rfl rfl (fo rfl)) ?_; refine xel rfl (ev_loadK rfl rfl (sc rfl) (memF (.head _)) rfl) ?_; (iterate 2 refine xep rfl rfl ?_); refine runL_nil ?_; refine then_normal ?_)
      by_cases c1 : r ≠ 0
      · have e : mfirst o M = (⟨o, [], o.qty, false, false, false, r⟩, M) := by unfold mfirst; rw [if_pos (by rw [hr]; exact c1), hr]
        rw [e]
        refine run_condT rfl (by simp [c1]) ?_
        (refine run_skip ?_; refine in_normal ?_)
        exact midN ((none, 0, []), H) [blk b3 o.cells 35] ⟨.nil _ _, hH⟩ rfl (fun x => by (first | rfl | (simp only [List.append_eq, cnt_append, cnt_cons, cnt_nil, blk]; omega) | (simp only [List.append_eq, cnt_append, cnt_cons, cnt_nil, blk]; done)))
      · have c1' : r = 0 := by omega
        subst c1'
        refine run_condF rfl (by simp) ?_
        obtain ⟨b, aw, cw, HB, AW, hB, ownW, rfl⟩ := hH
        skip
        refine run_seq ?_
        refine run_midO (σ := Unit) [0, 3, 5] (fun _ => [(20, .bool (decide (0 < o.stop) && !hit o M.B.last))])
          (fun _ => blk b5 (outV none 0 ⟨o, [], o.qty, false, false, false, 0⟩) 66 :: (blk m [.pointer (some ⟨b, 0, none⟩), .slice aw M.W.length cw] 55 :: (HB ++ AW) ++ [blk b3 o.cells 35])) (fun _ => True) rfl ?_ ?_
        · refine RunC.freeze ?_
          have hBin : BkIn ((blk b5 (outV none 0 ⟨o, [], o.qty, false, false, false, 0⟩) 66 :: (blk m [.pointer (some ⟨b, 0, none⟩), .slice aw M.W.length cw] 55 :: (HB ++ AW) ++ [blk b3 o.cells 35])) ++ F) b M.B := hB.in fun y my => by simp [my]
          have l1 : LoadsF ((blk b5 (outV none 0 ⟨o, [], o.qty, false, false, false, 0⟩) 66 :: (blk m [.pointer (some ⟨b, 0, none⟩), .slice aw M.W.length cw] 55 :: (HB ++ AW) ++ [blk b3 o.cells 35])) ++ F) m (0 + 0) (.pointer (some ⟨b, 0, none⟩)) := ⟨_, _, _, memF (.tail _ (.head _)), rfl⟩
          have l3 : AggF ((blk b5 (outV none 0 ⟨o, [], o.qty, false, false, false, 0⟩) 66 :: (blk m [.pointer (some ⟨b, 0, none⟩), .slice aw M.W.length cw] 55 :: (HB ++ AW) ++ [blk b3 o.cells 35])) ++ F) b3 0 o.cells := ⟨_, _, _, List.mem_append_left _ (List.mem_cons_of_mem _ (List.mem_append_right _ (List.mem_cons_self ..))), Nat.le_refl _, rfl⟩
          have l4 := l3.at 8 _ rfl
          have q1 := fun G : Heap => sp_blast (G ++ ((blk b5 (outV none 0 ⟨o, [], o.qty, false, false, false, 0⟩) 66 :: (blk m [.pointer (some ⟨b, 0, none⟩), .slice aw M.W.length cw] 55 :: (HB ++ AW) ++ [blk b3 o.cells 35])) ++ F)) b M.B (hBin.mono fun y m => by simp only [List.mem_append] at m ⊢; exact .inr m)
          have q2 := fun F => sp_hit F o M.B.last
          by_cases c3 : 0 < o.stop
          · have hgd : decide (0 < o.stop) = true := decide_eq_true c3
            refine run_region_D mo ?_
            (refine runD_q 0 rfl rfl (by kernel_rfl) ?_; refine ⟨_, fun _ => ev_fieldAddr rfl rfl (fo rfl), ?_⟩; refine runD_q 1 rfl rfl (by kernel_rfl) ?_; refine ⟨_, fun _ => ev_loadF rfl rfl (sc rfl) l4, ?_⟩; refine runD_q 2 rfl rfl (by kernel_rfl) ?_; refine ⟨_, fun _ => ev_pure rfl, ?_⟩; refine runD_q 3 rfl rfl (by kernel_rfl) ?_; refine ⟨_, fun _ => ev_pure rfl, ?_⟩; refine runD_gq 4 rfl rfl rfl rfl rfl rfl hgd (by kernel_rfl) ?_; refine ⟨_, fun _ => ev_loadAF rfl rfl (ag rfl) (sz rfl) l3 rfl, ?_⟩; refine runD_gq 5 rfl rfl rfl rfl rfl rfl hgd (by kernel_rfl) ?_; refine ⟨_, fun _ => ev_pure rfl, ?_⟩; refine runD_gq 6 rfl rfl rfl rfl rfl rfl hgd (by kernel_rfl) ?_; refine ⟨_, fun _ => ev_pure rfl, ?_⟩; refine runD_gq 7 rfl rfl rfl rfl rfl rfl hgd (by kernel_rfl) ?_; refine ⟨_, fun _ => ev_fieldAddr rfl rfl (fo rfl), ?_⟩; refine runD_gq 8 rfl rfl rfl rfl rfl rfl hgd (by kernel_rfl) ?_; refine ⟨_, fun _ => ev_loadK rfl rfl (sc rfl) (memR (memF (.tail _ (.head _)))) rfl, ?_⟩; refine runD_gq 9 rfl rfl rfl rfl rfl rfl hgd (by kernel_rfl) ?_; refine ⟨_, fun _ => ev_callQ rfl rfl rfl (pf rfl) (q1 ..), ?_⟩; refine runD_gq 10 rfl rfl rfl rfl rfl rfl hgd (by kernel_rfl) ?_; refine ⟨_, fun _ => ev_callQ rfl rfl rfl (pf rfl) (q2 ..), ?_⟩; refine runD_gq 11 rfl rfl rfl rfl rfl rfl hgd (by kernel_rfl) ?_; refine ⟨_, fun _ => ev_pure rfl, ?_⟩; refine runD_q 12 rfl rfl (by kernel_rfl) ?_; refine ⟨_, fun _ => ev_pure rfl, ?_⟩; refine runD_q 13 rfl rfl (by kernel_rfl) ?_; refine ⟨_, fun _ => ev_pure rfl, ?_⟩; refine runD_done (by kernel_rfl) ?_)
            exact midN () [] trivial (by rw [hgd]; rfl) (fun x => by (first | rfl | (simp only [List.append_eq, cnt_append, cnt_cons, cnt_nil, blk]; omega) | (simp only [List.append_eq, cnt_append, cnt_cons, cnt_nil, blk]; done)))
          · have hge : decide (0 < o.stop) = false := decide_eq_false c3
            refine run_region_D mo ?_
            (refine runD_q 0 rfl rfl (by kernel_rfl) ?_; refine ⟨_, fun _ => ev_fieldAddr rfl rfl (fo rfl), ?_⟩; refine runD_q 1 rfl rfl (by kernel_rfl) ?_; refine ⟨_, fun _ => ev_loadF rfl rfl (sc rfl) l4, ?_⟩; refine runD_q 2 rfl rfl (by kernel_rfl) ?_; refine ⟨_, fun _ => ev_pure rfl, ?_⟩; refine runD_q 3 rfl rfl (by kernel_rfl) ?_; refine ⟨_, fun _ => ev_pure rfl, ?_⟩; refine runD_gn 4 rfl rfl rfl rfl rfl rfl hge (by kernel_rfl) ?_; refine runD_gn 5 rfl rfl rfl rfl rfl rfl hge (by kernel_rfl) ?_; refine runD_gn 6 rfl rfl rfl rfl rfl rfl hge (by kernel_rfl) ?_; refine runD_gn 7 rfl rfl rfl rfl rfl rfl hge (by kernel_rfl) ?_; refine runD_gn 8 rfl rfl rfl rfl rfl rfl hge (by kernel_rfl) ?_; refine runD_gn 9 rfl rfl rfl rfl rfl rfl hge (by kernel_rfl) ?_; refine runD_gn 10 rfl rfl rfl rfl rfl rfl hge (by kernel_rfl) ?_; refine runD_gn 11 rfl rfl rfl rfl rfl rfl hge (by kernel_rfl) ?_; refine runD_q 12 rfl rfl (by kernel_rfl) ?_; refine ⟨_, fun _ => ev_pickF rfl rfl hge rfl, ?_⟩; refine runD_q 13 rfl rfl (by kernel_rfl) ?_; refine ⟨_, fun _ => ev_pure rfl, ?_⟩; refine runD_done (by kernel_rfl) ?_)
            exact midN () [] trivial (by rw [hge]; rfl) (fun x => by (first | rfl | (simp only [List.append_eq, cnt_append, cnt_cons, cnt_nil, blk]; omega) | (simp only [List.append_eq, cnt_append, cnt_cons, cnt_nil, blk]; done)))
        · intro fr h' hmid
          (refine then_normal ?_)
          refine midN_out hmid ?_
          clear hmid
          rintro ⟨⟩ -
          by_cases c2 : 0 < o.stop ∧ hit o M.B.last = false
          · refine run_condT rfl (by simp [c2.1, c2.2]) ?_
            have e : mfirst o M = (⟨o, [], o.qty, false, true, false, 0⟩, ⟨M.B, M.W ++ [o]⟩) := by unfold mfirst; rw [if_neg (by rw [hr]; decide), if_pos c2]
            rw [e]
            refine RunC.perm (h' := AW ++ (blk m [.pointer (some ⟨b, 0, none⟩), .slice aw M.W.length cw] 55 :: blk b3 o.cells 35 :: blk b5 (outV none 0 ⟨o, [], o.qty, false, false, false, 0⟩) 66 :: HB)) (fun y => by (first | rfl | (simp only [List.append_eq, cnt_append, cnt_cons, cnt_nil, blk]; omega) | (simp only [List.append_eq, cnt_append, cnt_cons, cnt_nil, blk]; done))) ?_
            skip
            have l1 : LoadsF ((blk m [.pointer (some ⟨b, 0, none⟩), .slice aw M.W.length cw] 55 :: blk b3 o.cells 35 :: blk b5 (outV none 0 ⟨o, [], o.qty, false, false, false, 0⟩) 66 :: HB) ++ F) m (0 + 1) (.slice aw M.W.length cw) := ⟨_, _, _, memF (.head _), rfl⟩
            have l2 : AggF ((blk m [.pointer (some ⟨b, 0, none⟩), .slice aw M.W.length cw] 55 :: blk b3 o.cells 35 :: blk b5 (outV none 0 ⟨o, [], o.qty, false, false, false, 0⟩) 66 :: HB) ++ F) b3 0 o.cells := ⟨_, _, _, memF (.tail _ (.head _)), Nat.le_refl _, rfl⟩
            refine run_seq ?_
            refine run_region_D3 (σ := (Option Addr × Nat × Heap) × Nat) 8 3 [0, 5] (fun s => [(41, .slice s.1.1 (M.W ++ [o]).length s.1.2.1), (34, .pointer (some ⟨m, 0, none⟩))])
              (fun s => s.1.2.2 ++ [blk s.2 o.cells 35]) (fun s => OwnS 35 9 (.slice s.1.1 (M.W ++ [o]).length s.1.2.1) (M.W ++ [o]).length (rows Ord.cells (M.W ++ [o])) s.1.2.2) mo rfl (by kernel_rfl) rfl ?_ ?_
            · (refine runD_q 0 rfl rfl (by kernel_rfl) ?_; refine ⟨_, fun _ => ev_pure rfl, ?_⟩; refine runD_q 1 rfl rfl (by kernel_rfl) ?_; refine ⟨_, fun _ => ev_pure rfl, ?_⟩; refine runD_q 2 rfl rfl (by kernel_rfl) ?_; refine ⟨_, fun _ => ev_pure rfl, ?_⟩; refine runD_q 3 rfl rfl (by kernel_rfl) ?_; refine ⟨_, fun _ => ev_fieldAddr rfl rfl (fo rfl), ?_⟩; refine runD_q 4 rfl rfl (by kernel_rfl) ?_; refine ⟨_, fun _ => ev_loadK rfl rfl (sc rfl) (memR (memF (.head _))) rfl, ?_⟩; refine runD_q 5 rfl rfl (by kernel_rfl) ?_; refine ⟨_, fun _ => ev_loadAK rfl rfl (ag rfl) (sz rfl) (memR (memF (.tail _ (.head _)))) rfl, ?_⟩; refine runD_1 6 (by kernel_rfl) rfl rfl rfl ?_)
              refine runL_buildSlice (l := o.cells) rfl rfl rfl rfl rfl (se rfl) ze35 rfl rfl rfl rfl rfl (fun b40 => ?_)
              (refine runL_nil ?_; refine endS_d rfl ?_; refine runD_1 7 (by kernel_rfl) rfl rfl rfl ?_)
              refine runL_append (sl := o.cells) [blk b40 o.cells 35] rfl rfl rfl rfl rfl rfl rfl (se rfl) (se rfl) ze35 rfl (byt rfl) ownW (fun y => by (first | rfl | (simp only [List.append_eq, cnt_append, cnt_cons, cnt_nil, blk]; omega) | (simp only [List.append_eq, cnt_append, cnt_cons, cnt_nil, blk]; done))) ⟨rfl, .inr ⟨b40, 0, _, _, _, rfl, memF (.head _), by simp [Ord.cells], rfl⟩⟩ rfl (by decide) (by decide) (by omega) ?_
              rintro v' A8 own'
              obtain ⟨a8, c8, rfl, own8⟩ := (own'.snoc (f := Ord.cells) (x := o) rfl).at
              (refine runL_nil ?_; refine endS_d rfl ?_; refine runD_done (by kernel_rfl) ?_)
              exact midX ((a8, c8, A8), b40) own8 rfl (fun x => by (first | rfl | (simp only [List.append_eq, cnt_append, cnt_cons, cnt_nil, blk]; omega) | (simp only [List.append_eq, cnt_append, cnt_cons, cnt_nil, blk]; done)))
            · rintro ⟨⟨a8, c8, A8⟩, b40⟩ own8
              dsimp only at own8 ⊢
              refine RunD.same (M' := blk m [.pointer (some ⟨b, 0, none⟩), .slice aw M.W.length cw] 55 :: blk b5 (outV none 0 ⟨o, [], o.qty, false, false, false, 0⟩) 66 :: blk b3 o.cells 35 :: (HB ++ A8 ++ [blk b40 o.cells 35])) (fun _ _ h => h) (fun x => by (first | rfl | (simp only [List.append_eq, cnt_append, cnt_cons, cnt_nil, blk]; omega) | (simp only [List.append_eq, cnt_append, cnt_cons, cnt_nil, blk]; done))) ?_
              (refine runD_q 8 rfl rfl (by kernel_rfl) ?_; refine ⟨_, fun _ => ev_pure rfl, ?_⟩; refine runD_q 9 rfl rfl (by kernel_rfl) ?_; refine ⟨_, fun _ => ev_fieldAddr rfl rfl (fo rfl), ?_⟩; refine runD_1 10 (by kernel_rfl) rfl rfl rfl ?_; refine runL_store0 rfl rfl rfl rfl rfl (sz rfl) rfl rfl rfl rfl rfl ?_; refine runL_nil ?_; refine endS_n rfl ?_; refine runD_done (by kernel_rfl) ?_; refine then_normal ?_; refine run_region ?_; refine xel rfl (ev_fieldAddr rfl rfl (fo rfl)) ?_; refine runL_store1 rfl rfl rfl rfl rfl (sz rfl) rfl rfl rfl rfl rfl ?_; refine runL_nil ?_; refine in_normal ?_)
              exact midN ((none, 0, []), blk m [.pointer (some ⟨b, 0, none⟩), .slice a8 (M.W ++ [o]).length c8] 55 :: (HB ++ A8)) [blk b3 o.cells 35, blk b40 o.cells 35] ⟨.nil _ _, b, a8, c8, HB, A8, hB, own8, rfl⟩ rfl (fun x => by
                simp only [List.append_eq, cnt_append, cnt_cons, cnt_nil, blk, outV, Ord.cells]; omega)
          · refine run_condF rfl (by rw [Bool.and_eq_false_iff]; by_cases c3 : 0 < o.stop <;> simp_all) ?_
            have e : mfirst o M = ((menter o M.B).1, ⟨(menter o M.B).2, M.W⟩) := by unfold mfirst; rw [if_neg (by rw [hr]; decide), if_neg c2]
            rw [e]
            refine RunC.perm (h' := blk b3 o.cells 35 :: blk m [.pointer (some ⟨b, 0, none⟩), .slice aw M.W.length cw] 55 :: blk b5 (outV none 0 ⟨o, [], o.qty, false, false, false, 0⟩) 66 :: (HB ++ AW)) (fun y => by (first | rfl | (simp only [List.append_eq, cnt_append, cnt_cons, cnt_nil, blk]; omega) | (simp only [List.append_eq, cnt_append, cnt_cons, cnt_nil, blk]; done))) ?_
            (refine run_region ?_; refine xep rfl rfl ?_; refine xel rfl (ev_loadAK rfl rfl (ag rfl) (sz rfl) (memF (.head _)) rfl) ?_)
            refine runL_callZ (blk b3 o.cells 35 :: blk m [.pointer (some ⟨b, 0, none⟩), .slice aw M.W.length cw] 55 :: blk b5 (outV none 0 ⟨o, [], o.qty, false, false, false, 0⟩) 66 :: AW) HB rfl rfl rfl rfl rfl rfl rfl (pf rfl) (fun y => by (first | rfl | (simp only [List.append_eq, cnt_append, cnt_cons, cnt_nil, blk]; omega) | (simp only [List.append_eq, cnt_append, cnt_cons, cnt_nil, blk]; done))) (sp_senter _ HB m b aw _ cw (memF (.tail _ (.head _))) M.B hB hw.b o hk hw.no (by omega)) ?_
            rintro v _ ⟨a7, c7, A7, H7, rfl, own7, hB7, rfl⟩
            (refine runL_store2 rfl rfl rfl rfl rfl (sz rfl) rfl rfl rfl rfl rfl ?_; refine runL_nil ?_; refine in_normal ?_)
            exact midN ((a7, c7, A7), blk m [.pointer (some ⟨b, 0, none⟩), .slice aw M.W.length cw] 55 :: (H7 ++ AW)) [blk b3 o.cells 35] ⟨own7, b, aw, cw, H7, AW, hB7, ownW, rfl⟩ rfl (fun x => by
              simp only [List.append_eq, cnt_append, cnt_cons, cnt_nil, blk, outV, Ord.cells]; omega)
    · intro fr h' hmid
      (refine then_normal ?_)
      refine midN_out hmid ?_
      clear hmid
      rintro ⟨⟨a1, c1, A1⟩, H1⟩ ⟨own1, hH1⟩
      dsimp only at own1 hH1 ⊢
      obtain ⟨hw1, hno1, hno2⟩ := hok
      generalize mfirst o M = X at *
      refine RunC.perm (h' := H1 ++ (A1 ++ [blk b5 (outV a1 c1 X.1) 66])) (fun y => by (first | rfl | (simp only [List.append_eq, cnt_append, cnt_cons, cnt_nil, blk]; omega) | (simp only [List.append_eq, cnt_append, cnt_cons, cnt_nil, blk]; done))) ?_
      refine RunC.freezeR ?_
      have l1 : AggF ((A1 ++ [blk b5 (outV a1 c1 X.1) 66]) ++ F) b5 0 (outV a1 c1 X.1) := ⟨_, _, _, List.mem_append_left _ (List.mem_append_right _ (List.mem_cons_self ..)), Nat.le_refl _, rfl⟩
      have cT := fun G => sp_strig G H1 m X.2 hH1 hw1 (by omega)
      refine run_seq ?_
      refine run_region_D mo ?_
      (refine runD_q 0 rfl rfl (by kernel_rfl) ?_; refine ⟨_, fun _ => ev_loadAF rfl rfl (ag rfl) (sz rfl) l1 rfl, ?_⟩; refine runD_q 2 rfl rfl (by kernel_rfl) ?_; refine ⟨_, fun _ => ev_pure rfl, ?_⟩)
      refine runD_2 1 3 (by kernel_rfl) (oneD rfl rfl rfl ?_) (oneD rfl rfl rfl ?_)
      · refine runL_buildSlice (l := outV a1 c1 X.1) rfl rfl rfl rfl rfl (se rfl) ze66 rfl rfl rfl rfl rfl (fun b46 => ?_)
        (refine runL_nil ?_; refine endS_d rfl ?_; refine runD_1 3 (by kernel_rfl) rfl rfl rfl ?_)
        refine runL_callZ [blk b46 (outV a1 c1 X.1) 66] H1 rfl rfl rfl rfl rfl rfl rfl (pf rfl) (fun y => by (first | rfl | (simp only [List.append_eq, cnt_append, cnt_cons, cnt_nil, blk]; omega) | (simp only [List.append_eq, cnt_append, cnt_cons, cnt_nil, blk]; done))) (cT _) ?_
        rintro v _ ⟨a, c, ts, A, HF, H', rfl, hts, hlen, own, hF, hH', rfl⟩
        (refine runL_nil ?_; refine endS_d rfl ?_; refine runD_1 4 (by kernel_rfl) rfl rfl rfl ?_)
        refine runL_append (sl := rows orow ts) (A ++ H' ++ HF) rfl rfl rfl rfl rfl rfl rfl (se rfl) (se rfl) ze66 rfl (byt rfl) (OwnS.lit (l := outV a1 c1 X.1) (b := b46) rfl) (fun y => by (first | rfl | (simp only [List.append_eq, cnt_append, cnt_cons, cnt_nil, blk]; omega) | (simp only [List.append_eq, cnt_append, cnt_cons, cnt_nil, blk]; done))) (own.src fun x mx => by simp [mx]) (rows_cells (fun _ => rfl) _) (by decide) (by decide) (by omega) ?_
        rintro v' A8 own'
        obtain ⟨a8, c8, rfl, own8⟩ := (own' : OwnS 66 15 v' (1 + ts.length) (rows orow (((a1, c1), X.1) :: ts)) A8).at
        rw [Nat.add_comm 1] at own8 ⊢
        (refine runL_nil ?_; refine endS_d rfl ?_; refine runD_q 5 rfl rfl (by kernel_rfl) ?_; refine ⟨_, fun _ => ev_pure rfl, ?_⟩; refine runD_done (by kernel_rfl) ?_; refine then_normal ?_; refine run_ret ?_)
        refine ⟨_, rfl, H' ++ A8 ++ (A1 ++ HF), [blk b5 (outV a1 c1 X.1) 66] ++ A, ⟨a8, c8, ((a1, c1), X.1) :: ts, A8, A1 ++ HF, H', rfl, by rw [List.map_cons, hts], by rw [List.length_cons]; omega, own8, ⟨A1, HF, own1, hF, rfl⟩, hH', rfl⟩, fun y => by (first | rfl | (simp only [List.append_eq, cnt_append, cnt_cons, cnt_nil, blk]; omega) | (simp only [List.append_eq, cnt_append, cnt_cons, cnt_nil, blk]; done))⟩
      · refine runL_callZ [] H1 rfl rfl rfl rfl rfl rfl rfl (pf rfl) (fun y => by (first | rfl | (simp only [List.append_eq, cnt_append, cnt_cons, cnt_nil, blk]; omega) | (simp only [List.append_eq, cnt_append, cnt_cons, cnt_nil, blk]; done))) (cT _) ?_
        rintro v _ ⟨a, c, ts, A, HF, H', rfl, hts, hlen, own, hF, hH', rfl⟩
        (refine runL_nil ?_; refine endS_d rfl ?_; refine runD_1 1 (by kernel_rfl) rfl rfl rfl ?_)
        refine runL_buildSlice (l := outV a1 c1 X.1) rfl rfl rfl rfl rfl (se rfl) ze66 rfl rfl rfl rfl rfl (fun b46 => ?_)
        (refine runL_nil ?_; refine endS_d rfl ?_; refine runD_1 4 (by kernel_rfl) rfl rfl rfl ?_)
        refine runL_append (sl := rows orow ts) (A ++ H' ++ HF) rfl rfl rfl rfl rfl rfl rfl (se rfl) (se rfl) ze66 rfl (byt rfl) (OwnS.lit (l := outV a1 c1 X.1) (b := b46) rfl) (fun y => by (first | rfl | (simp only [List.append_eq, cnt_append, cnt_cons, cnt_nil, blk]; omega) | (simp only [List.append_eq, cnt_append, cnt_cons, cnt_nil, blk]; done))) (own.src fun x mx => by simp [mx]) (rows_cells (fun _ => rfl) _) (by decide) (by decide) (by omega) ?_
        rintro v' A8 own'
        obtain ⟨a8, c8, rfl, own8⟩ := (own' : OwnS 66 15 v' (1 + ts.length) (rows orow (((a1, c1), X.1) :: ts)) A8).at
        rw [Nat.add_comm 1] at own8 ⊢
        (refine runL_nil ?_; refine endS_d rfl ?_; refine runD_q 5 rfl rfl (by kernel_rfl) ?_; refine ⟨_, fun _ => ev_pure rfl, ?_⟩; refine runD_done (by kernel_rfl) ?_; refine then_normal ?_; refine run_ret ?_)
        refine ⟨_, rfl, H' ++ A8 ++ (A1 ++ HF), [blk b5 (outV a1 c1 X.1) 66] ++ A, ⟨a8, c8, ((a1, c1), X.1) :: ts, A8, A1 ++ HF, H', rfl, by rw [List.map_cons, hts], by rw [List.length_cons]; omega, own8, ⟨A1, HF, own1, hF, rfl⟩, hH', rfl⟩, fun y => by (first | rfl | (simp only [List.append_eq, cnt_append, cnt_cons, cnt_nil, blk]; omega) | (simp only [List.append_eq, cnt_append, cnt_cons, cnt_nil, blk]; done))⟩
end Go.Proofs.YtmelpobcpcmdoaaGreat
