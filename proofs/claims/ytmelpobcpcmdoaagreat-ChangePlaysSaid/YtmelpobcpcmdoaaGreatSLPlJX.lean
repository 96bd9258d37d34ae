/- Contracts of functions of the given program over its translation, each proved by walking its text; used by the laws' rows. It proves no given statement by itself. -/
import Derived.Test.YtmelpobcpcmdoaaGreatSLLaw10bX
import Derived.Test.YtmelpobcpcmdoaaGreatSLSlcOX
import Derived.Test.YtmelpobcpcmdoaaGreatSLDraw2
set_option autoImplicit false
set_option linter.unusedSectionVars false
set_option linter.unusedSimpArgs false
set_option linter.unusedVariables false
set_option maxRecDepth 4000
namespace Go.Proofs.YtmelpobcpcmdoaaGreat
open Go Go.SL Go.Proofs
variable [Base]
theorem restK_spec (o : Ord) (l : List Lv) : (∀ lv ∈ l.take (restK o l), better o.side lv.p o.price = true) ∧ ∀ lv, l[restK o l]? = some lv → better o.side lv.p o.price = false := by
  unfold restK
  cases h : l.findIdx? fun lv => !better o.side lv.p o.price with
  | none =>
    rw [List.findIdx?_eq_none_iff] at h
    refine ⟨fun lv m => ?_, fun lv hl => ?_⟩
    · have := h lv (List.mem_of_mem_take m)
      simpa using this
    · simp at hl
  | some k =>
    rw [List.findIdx?_eq_some_iff_getElem] at h
    obtain ⟨hk, h1, h2⟩ := h
    refine ⟨fun lv m => ?_, fun lv hl => ?_⟩
    · obtain ⟨j, hj, e⟩ := List.mem_take_iff_getElem.1 m
      have := h2 j (by simp only [Option.getD_some] at hj; omega)
      rw [e] at this
      simpa using this
    · simp only [Option.getD_some] at hl
      rw [(List.getElem?_eq_some_iff.1 hl).2] at h1
      simpa using h1
/-- Where an order comes to rest. -/
theorem restL_form (o : Ord) (l : List Lv) : ∃ a b, (∀ lv ∈ a, better o.side lv.p o.price = true) ∧
    ((∃ lv, lv.p = o.price ∧ l = a ++ lv :: b ∧ restL o l = a ++ ⟨lv.p, lv.es ++ [⟨o, tip o⟩]⟩ :: b) ∨
    (l = a ++ b ∧ restL o l = a ++ ⟨o.price, [⟨o, tip o⟩]⟩ :: b ∧ ∀ lv, b.head? = some lv → better o.side o.price lv.p = true)) := by
  have hk := restK_le o l
  obtain ⟨s1, s2⟩ := restK_spec o l
  obtain ⟨lv, h0, h1, h2⟩ := restP_get o l
  have hr : restL o l = (restP o l).set (restK o l) ⟨lv.p, lv.es ++ [⟨o, tip o⟩]⟩ := by unfold restL; rw [h0]
  cases hi : restI o l with
  | false =>
    have e : restP o l = l := by unfold restP; rw [if_neg (by rw [hi]; simp)]
    have hl := h1 hi
    refine ⟨l.take (restK o l), l.drop (restK o l + 1), s1, .inl ⟨lv, ?_, split_at hl, ?_⟩⟩
    · unfold restI at hi
      rw [hl] at hi
      simpa using hi
    · rw [hr, e, List.set_eq_take_append_cons_drop, if_pos (List.getElem?_eq_some_iff.1 hl).1]
  | true =>
    have e : restP o l = l.take (restK o l) ++ ⟨o.price, []⟩ :: l.drop (restK o l) := by unfold restP; rw [if_pos hi]
    refine ⟨l.take (restK o l), l.drop (restK o l), s1, .inr ⟨(List.take_append_drop ..).symm, ?_, ?_⟩⟩
    · rw [hr, e, h2 hi, List.set_append_right _ _ (by rw [List.length_take]; omega), List.length_take, Nat.min_eq_left hk, Nat.sub_self]; rfl
    · intro x hx
      rw [List.head?_drop] at hx
      refine better_tot (s2 x hx) ?_
      unfold restI at hi
      rw [hx] at hi
      simpa using hi
theorem rest_mem {o : Ord} {l : List Lv} {lv : Lv} (h : lv ∈ restL o l) : (lv.p = o.price ∨ ∃ x ∈ l, lv.p = x.p) ∧ ∀ e ∈ lv.es, (e.o = o ∧ lv.p = o.price) ∨ ∃ x ∈ l, lv.p = x.p ∧ e ∈ x.es := by
  obtain ⟨a, b, -, h1⟩ := restL_form o l
  rcases h1 with ⟨x, hx, e1, e2⟩ | ⟨e1, e2, -⟩
  · rw [e2] at h
    have old : ∀ y, y ∈ a ∨ y ∈ b → (y.p = o.price ∨ ∃ x ∈ l, y.p = x.p) ∧ ∀ e ∈ y.es, (e.o = o ∧ y.p = o.price) ∨ ∃ x ∈ l, y.p = x.p ∧ e ∈ x.es := by
      intro y hy
      have : y ∈ l := by rw [e1]; rcases hy with h | h <;> simp [h]
      exact ⟨.inr ⟨y, this, rfl⟩, fun e me => .inr ⟨y, this, rfl, me⟩⟩
    rcases List.mem_append.1 h with h | h
    · exact old lv (.inl h)
    · rcases List.mem_cons.1 h with rfl | h
      · have hm : x ∈ l := by rw [e1]; simp
        refine ⟨.inl hx, fun e me => ?_⟩
        rcases List.mem_append.1 me with me | me
        · exact .inr ⟨x, hm, rfl, me⟩
        · simp only [List.mem_singleton] at me
          subst me; exact .inl ⟨rfl, hx⟩
      · exact old lv (.inr h)
  · rw [e2] at h
    have old : ∀ y, y ∈ a ∨ y ∈ b → (y.p = o.price ∨ ∃ x ∈ l, y.p = x.p) ∧ ∀ e ∈ y.es, (e.o = o ∧ y.p = o.price) ∨ ∃ x ∈ l, y.p = x.p ∧ e ∈ x.es := by
      intro y hy
      have : y ∈ l := by rw [e1]; rcases hy with h | h <;> simp [h]
      exact ⟨.inr ⟨y, this, rfl⟩, fun e me => .inr ⟨y, this, rfl, me⟩⟩
    rcases List.mem_append.1 h with h | h
    · exact old lv (.inl h)
    · rcases List.mem_cons.1 h with rfl | h
      · refine ⟨.inl rfl, fun e me => ?_⟩
        simp only [List.mem_singleton] at me
        subst me; exact .inl ⟨rfl, rfl⟩
      · exact old lv (.inr h)
/-- One side of a book and the other: sorted, at their prices, apart. -/
structure SdOk (s : Int) (mine theirs : List Lv) : Prop where
  s1 : Srt s mine
  a1 : AtS s mine
  s2 : Srt (3 - s) theirs
  a2 : AtS (3 - s) theirs
  ap : ∀ x ∈ mine, ∀ y ∈ theirs, better s y.p x.p = true
theorem SdOk.swap {s : Int} {a b : List Lv} (hs : s = 1 ∨ s = 2) (h : SdOk s a b) : SdOk (3 - s) b a := by
  refine ⟨h.s2, h.a2, by rw [show 3 - (3 - s) = s by omega]; exact h.s1, by rw [show 3 - (3 - s) = s by omega]; exact h.a1, fun x mx y my => ?_⟩
  have := h.ap y my x mx
  unfold better at this ⊢
  rcases hs with rfl | rfl <;> simp_all
theorem rests_kind {o : Ord} (h : rests o = true) : o.kind = 1 ∨ o.kind = 5 := by
  unfold rests at h; simpa using h
/-- A book as it ought to be. -/
def Gd (B : Bk) : Prop := SdOk 1 B.buys B.sells
theorem Gd.side {B : Bk} (h : Gd B) {s : Int} (hs : s = 1 ∨ s = 2) : SdOk s (B.side s) (B.side (3 - s)) := by
  rcases hs with rfl | rfl
  · exact h
  · exact SdOk.swap (.inl rfl) h
theorem Gd.of {B : Bk} {s : Int} (hs : s = 1 ∨ s = 2) (h : SdOk s (B.side s) (B.side (3 - s))) : Gd B := by
  rcases hs with rfl | rfl
  · exact h
  · exact SdOk.swap (.inr rfl) h
/-- What an order that is taken does to the two sides. -/
structure AddIs (o : Ord) (B : Bk) (m : MR) : Prop where
  out : (badd o B).1 = ⟨o, m.fs, m.qty, decide (0 < m.qty) && !m.self && rests o, false, m.self, 0⟩
  theirs : (badd o B).2.side (3 - o.side) = m.lvs
  mine : (badd o B).2.side o.side = if (decide (0 < m.qty) && !m.self && rests o) = true then restL (wqs o m.qty (min o.show_ m.qty)) (B.side o.side) else B.side o.side
  last : (badd o B).2.last = m.last
  no : (badd o B).2.no = m.no
theorem add_is {o : Ord} {B : Bk} (hs : o.side = 1 ∨ o.side = 2) (h0 : brefused o B = 0) : AddIs o B (matchL o (B.side (3 - o.side)) B.last B.no) := by
  have e : badd o B = (⟨o, (matchL o (B.side (3 - o.side)) B.last B.no).fs, (matchL o (B.side (3 - o.side)) B.last B.no).qty, decide (0 < (matchL o (B.side (3 - o.side)) B.last B.no).qty) && !(matchL o (B.side (3 - o.side)) B.last B.no).self && rests o, false, (matchL o (B.side (3 - o.side)) B.last B.no).self, 0⟩,
      if (decide (0 < (matchL o (B.side (3 - o.side)) B.last B.no).qty) && !(matchL o (B.side (3 - o.side)) B.last B.no).self && rests o) = true then ((B.put (3 - o.side) (matchL o (B.side (3 - o.side)) B.last B.no).lvs).tell (matchL o (B.side (3 - o.side)) B.last B.no).last (matchL o (B.side (3 - o.side)) B.last B.no).no).put o.side (restL (wqs o (matchL o (B.side (3 - o.side)) B.last B.no).qty (min o.show_ (matchL o (B.side (3 - o.side)) B.last B.no).qty)) (((B.put (3 - o.side) (matchL o (B.side (3 - o.side)) B.last B.no).lvs).tell (matchL o (B.side (3 - o.side)) B.last B.no).last (matchL o (B.side (3 - o.side)) B.last B.no).no).side o.side))
      else (B.put (3 - o.side) (matchL o (B.side (3 - o.side)) B.last B.no).lvs).tell (matchL o (B.side (3 - o.side)) B.last B.no).last (matchL o (B.side (3 - o.side)) B.last B.no).no) := by
    unfold badd
    rw [if_neg (by rw [h0]; simp)]
  rw [show matchL o (B.side (3 - o.side)) B.last B.no = matchL o (B.side (3 - o.side)) B.last B.no from rfl] at e
  generalize matchL o (B.side (3 - o.side)) B.last B.no = m at *
  generalize hr : (decide (0 < m.qty) && !m.self && rests o) = r at *
  refine ⟨by rw [e, hr], ?_, ?_, ?_, ?_⟩
  all_goals rw [e]
  all_goals rcases hs with h | h <;> rw [h] <;> cases r <;> first | rfl | (rw [hr]; rfl)
theorem refused_is {o : Ord} {B : Bk} (h : brefused o B ≠ 0) : badd o B = (⟨o, [], o.qty, false, false, false, brefused o B⟩, B) := by
  unfold badd; rw [if_pos h]
end Go.Proofs.YtmelpobcpcmdoaaGreat

set_option autoImplicit false
set_option linter.unusedSectionVars false
set_option linter.unusedSimpArgs false
set_option linter.unusedVariables false
set_option maxRecDepth 4000
set_option maxHeartbeats 16000000
namespace Go.Proofs.YtmelpobcpcmdoaaGreat
open Go Go.SL Go.Proofs
theorem bare_right {o : Ord} (h : rightP o) : rightP (bare o) := by
  obtain ⟨h1, h2, h3, h4, h5, h6, h7, h8, h9, h10, h11, h12, h13, h14, h15, h16, h17, h18, h19⟩ := h
  exact ⟨h1, h2, h3, h4, h5, h6, h7, h8, h9, h10, h11, h12, h13, h14, Int.le_refl _, by show (0 : Int) ≤ 1048576; decide, h17, h18, h19⟩
theorem side_len (B : Bk) {s : Int} (hs : s = 1 ∨ s = 2) : lenL B.buys + lenL B.sells = lenL (B.side s) + lenL (B.side (3 - s)) := by
  rcases hs with rfl | rfl
  · rfl
  · exact Nat.add_comm _ _
theorem cut_len {W : List Ord} {k : Nat} {o : Ord} (h : W[k]? = some o) : (W.take k ++ W.drop (k + 1)).length + 1 = W.length := by
  have := (List.getElem?_eq_some_iff.1 h).1
  rw [List.length_append, List.length_take, List.length_drop]; omega
theorem cut_mem {W : List Ord} {k : Nat} {o : Ord} (h : o ∈ W.take k ++ W.drop (k + 1)) : o ∈ W := by
  rcases List.mem_append.1 h with h | h
  · exact List.mem_of_mem_take h
  · exact List.mem_of_mem_drop h
variable [Base]
theorem badd_lenL {o : Ord} {B : Bk} (hw : BW B) : lenL (badd o B).2.buys + lenL (badd o B).2.sells ≤ lenL B.buys + lenL B.sells + (if rests o = true then 1 else 0) := by
  by_cases h0 : brefused o B = 0
  · have hr := right_zero (refused_zero h0).1
    have hs : o.side = 1 ∨ o.side = 2 := by unfold rightP at hr; omega
    have hq : 1 ≤ o.qty ∧ o.qty ≤ 1048576 ∧ 0 ≤ o.show_ := by unfold rightP at hr; omega
    have M := match_is (B.side (3 - o.side)) o B.last B.no (hw.side _).1 (by omega)
    have A := add_is hs h0
    generalize matchL o (B.side (3 - o.side)) B.last B.no = m at *
    have h1 := side_len B hs
    have h2 := side_len (badd o B).2 hs
    have h3 := A.theirs
    have h4 := A.mine
    have h5 := M.len
    have h6 := hw.side o.side
    rw [h2, h3, h4, h1]
    split
    · rename_i hc
      simp only [Bool.and_eq_true, decide_eq_true_eq] at hc
      have hmq := M.qty
      have := (restL_is (o := wqs o m.qty (min o.show_ m.qty)) h6.1 (by omega) (by show 1 ≤ m.qty ∧ m.qty ≤ 1048576; omega) (by show 0 ≤ min o.show_ m.qty; omega)).2
      rw [this, if_pos hc.2]; omega
    · omega
  · rw [refused_is h0]; dsimp only; omega
theorem menter_ok {o : Ord} {M : Mk} (hw : BW M.B) (hn : 0 ≤ M.B.no) : BW (menter o M.B).2 ∧ M.B.no ≤ (menter o M.B).2.no ∧ (menter o M.B).2.no ≤ M.B.no + 1048576 ∧ lenL (menter o M.B).2.buys + lenL (menter o M.B).2.sells ≤ lenL M.B.buys + lenL M.B.sells + (if rests o = true then 1 else 0) := by
  have h := badd_BW (o := bare o) hw hn
  have h2 := badd_lenL (o := bare o) hw
  exact ⟨h.1, h.2.1, h.2.2, h2⟩
theorem mtrig_ok : ∀ (n : Nat) (M : Mk), MW M → MW (mtrig n M).2 ∧ M.B.no ≤ (mtrig n M).2.B.no ∧ (mtrig n M).2.B.no ≤ M.B.no + n * 1048576 ∧ (mtrig n M).1.length ≤ n
  | 0, M, h => ⟨h, Int.le_refl _, by show M.B.no ≤ M.B.no + ((0 : Nat) : Int) * 1048576; omega, Nat.le_refl _⟩
  | n + 1, M, h => by
    unfold mtrig
    cases hf : M.W.findIdx? (fun o => hit o M.B.last) with
    | none => exact ⟨h, Int.le_refl _, by dsimp only; push_cast; omega, Nat.zero_le _⟩
    | some k =>
      dsimp only
      cases ho : M.W[k]? with
      | none => exact ⟨h, Int.le_refl _, by dsimp only; push_cast; omega, Nat.zero_le _⟩
      | some o =>
        dsimp only
        have e := menter_ok (o := o) h.b h.no
        have hc := cut_len ho
        have hl := h.len
        unfold mlen at hl
        have ih := mtrig_ok n ⟨(menter o M.B).2, M.W.take k ++ M.W.drop (k + 1)⟩ ⟨e.1, by have := h.no; show 0 ≤ (menter o M.B).2.no; omega, by
          unfold mlen
          have := e.2.2.2
          dsimp only
          split at this <;> omega, fun x m => h.w x (cut_mem m)⟩
        obtain ⟨i1, i2, i3, i4⟩ := ih
        dsimp only at i2 i3 ⊢
        refine ⟨i1, by omega, by push_cast; omega, by rw [List.length_cons]; omega⟩
theorem mfirst_ok {o : Ord} {M : Mk} (h : MW M) : MW (mfirst o M).2 ∧ M.B.no ≤ (mfirst o M).2.B.no ∧ (mfirst o M).2.B.no ≤ M.B.no + 1048576 := by
  unfold mfirst
  split
  · exact ⟨h, Int.le_refl _, by dsimp only; omega⟩
  · rename_i hr
    have hr : mrefused o M = 0 := by omega
    unfold mrefused at hr
    split at hr
    · cases hr
    · rename_i hright
      have hright : rightP o := right_zero (by omega)
      split at hr
      · cases hr
      · split at hr
        · cases hr
        · rename_i hfull
          have hl := h.len
          split
          · rename_i hw
            refine ⟨⟨h.b, h.no, ?_, ?_⟩, Int.le_refl _, by dsimp only; omega⟩
            · unfold mlen at hl hfull ⊢
              simp only [List.length_append, List.length_singleton]
              omega
            · intro x m
              rcases List.mem_append.1 m with m | m
              · exact h.w x m
              · simp only [List.mem_singleton] at m
                subst m; exact hright
          · have e := menter_ok (o := o) h.b h.no
            refine ⟨⟨e.1, by have := h.no; show 0 ≤ (menter o M.B).2.no; omega, ?_, h.w⟩, e.2.1, e.2.2.1⟩
            have h4 := e.2.2.2
            unfold mlen at hl hfull ⊢
            dsimp only
            by_cases hre : rests o = true
            · rw [if_pos hre] at h4
              have := rests_kind hre
              omega
            · rw [if_neg hre] at h4; omega
theorem madd_ok {o : Ord} {M : Mk} (h : MW M) : MW (madd o M).2 ∧ M.B.no ≤ (madd o M).2.B.no ∧ (madd o M).2.B.no ≤ M.B.no + 68157440 ∧ (madd o M).1.length ≤ 65 := by
  obtain ⟨h1, h2, h3⟩ := mfirst_ok (o := o) h
  obtain ⟨i1, i2, i3, i4⟩ := mtrig_ok (mfirst o M).2.W.length _ h1
  have hl := h1.len
  unfold mlen at hl
  unfold madd
  exact ⟨i1, by dsimp only; omega, by dsimp only; omega, by rw [List.length_cons]; omega⟩
theorem emptyM_ok : MW emptyM := ⟨empty_BW, Int.le_refl _, by decide, fun _ m => nomatch m⟩
end Go.Proofs.YtmelpobcpcmdoaaGreat

set_option autoImplicit false
set_option linter.unusedSectionVars false
set_option linter.unusedSimpArgs false
set_option linter.unusedVariables false
set_option maxRecDepth 4000
set_option maxHeartbeats 64000000
namespace Go.Proofs.YtmelpobcpcmdoaaGreat
open Go Go.SL Go.Proofs
def zOut : List Value := [.int .i64 0, .int .i64 0, .int .i64 0, .int .i64 0, .int .i64 0, .int .i64 0, .int .i64 0, .int .i64 0, .int .i64 0, .slice none 0 0, .int .i64 0, .bool false, .bool false, .bool false, .int .i64 0]
variable [Base]
theorem sp_senter (F HB : Heap) (m b : Nat) (a0 : Option Addr) (k0 c0 : Nat) (hm : blk m [.pointer (some ⟨b, 0, none⟩), .slice a0 k0 c0] 55 ∈ F) (B : Bk) (hH : BkH b B HB) (hw : BW B) (o : Ord) (hk : InI o.kind) (hn : 0 ≤ B.no) (hn2 : B.no ≤ 1099511627776) :
    Sp Tryz.prog F 25 [.pointer (some ⟨m, 0, none⟩), ov o] HB (fun v h' => ∃ a c A H', v = .agg ⟨outV a c (menter o B).1⟩ ∧ OwnS 93 21 (.slice a (menter o B).1.fs.length c) (menter o B).1.fs.length (rows fcell (menter o B).1.fs) A ∧ BkH b (menter o B).2 H' ∧ h' = H' ++ A) := by
  have cA := fun G => sp_badd G HB b B hH hw (bare o) hk hn hn2
  refine Sp.up ?_
  refine sp_of_codeR Tryz.func25 rfl rfl ?_
  (refine run_seq ?_; refine run_region ?_; refine runL_box rfl rfl rfl rfl rfl rfl (fun _ => ?_); refine runL_alloc rfl rfl rfl rfl rfl ze66 (fun _ => ?_); refine runL_nil ?_; refine then_normal ?_; refine run_seq ?_; refine run_region ?_; refine xel rfl (ev_loadAK rfl rfl (ag rfl) (sz rfl) (memF (.tail _ (.head _))) rfl) ?_; refine runL_alloc rfl rfl rfl rfl rfl ze35 (fun _ => ?_); refine runL_store0 rfl rfl rfl rfl rfl (sz rfl) rfl rfl rfl rfl rfl ?_; refine runL_nil ?_; refine then_normal ?_; refine run_seq ?_; refine run_region ?_; refine xel rfl (ev_fieldAddr rfl rfl (fo rfl)) ?_; refine runL_store0 rfl rfl rfl rfl rfl (sz rfl) rfl rfl rfl rfl rfl ?_; refine runL_nil ?_; refine then_normal ?_; refine run_seq ?_)
  rename_i b3 b4 b5
  refine RunC.perm (h' := HB ++ [blk b5 (bare o).cells 35, blk b4 zOut 66, blk b3 o.cells 35]) (fun y => by show cnt y (blk b5 (bare o).cells 35 :: blk b4 zOut 66 :: blk b3 o.cells 35 :: HB) = _; (first | rfl | (simp only [List.append_eq, cnt_append, cnt_cons, cnt_nil, blk]; omega) | (simp only [List.append_eq, cnt_append, cnt_cons, cnt_nil, blk]; done))) ?_
  have l1 : LoadsF ([blk b5 (bare o).cells 35, blk b4 zOut 66, blk b3 o.cells 35] ++ F) m (0 + 0) (.pointer (some ⟨b, 0, none⟩)) := ⟨_, _, _, List.mem_append_right _ hm, rfl⟩
  have l2 : AggF ([blk b5 (bare o).cells 35, blk b4 zOut 66, blk b3 o.cells 35] ++ F) b5 0 (bare o).cells := ⟨_, _, _, memF (.head _), Nat.le_refl _, rfl⟩
  unfold menter
  generalize hX : badd (bare o) B = X at *
  refine run_region_D3 (σ := (Option Addr × Nat × Heap × Heap) × Nat) 7 1 [3, 4] (fun s => [(14, .agg ⟨outV s.1.1 s.1.2.1 X.1⟩), (6, .pointer (some ⟨s.2, 0, none⟩))])
    (fun s => blk s.2 zOut 66 :: (s.1.2.2.2 ++ s.1.2.2.1))
    (fun s => OwnS 93 21 (.slice s.1.1 X.1.fs.length s.1.2.1) X.1.fs.length (rows fcell X.1.fs) s.1.2.2.1 ∧ BkH b X.2 s.1.2.2.2) mo rfl (by kernel_rfl) rfl ?_ ?_
  · (refine runD_q 0 rfl rfl (by kernel_rfl) ?_; refine ⟨_, fun _ => ev_pure rfl, ?_⟩; refine runD_q 1 rfl rfl (by kernel_rfl) ?_; refine ⟨_, fun _ => ev_pure rfl, ?_⟩; refine runD_q 2 rfl rfl (by kernel_rfl) ?_; refine ⟨_, fun _ => ev_fieldAddr rfl rfl (fo rfl), ?_⟩; refine runD_q 3 rfl rfl (by kernel_rfl) ?_; refine ⟨_, fun _ => ev_loadF rfl rfl (sc rfl) l1, ?_⟩; refine runD_q 4 rfl rfl (by kernel_rfl) ?_; refine ⟨_, fun _ => ev_loadAK rfl rfl (ag rfl) (sz rfl) (memR (memF (.head _))) rfl, ?_⟩)
    refine runD_2 5 6 (by kernel_rfl) (oneD rfl rfl rfl ?_) (oneD rfl rfl rfl ?_)
    · refine runL_callZ [] HB rfl rfl rfl rfl rfl rfl rfl (pf rfl) (fun x => by (first | rfl | (simp only [List.append_eq, cnt_append, cnt_cons, cnt_nil, blk]; omega) | (simp only [List.append_eq, cnt_append, cnt_cons, cnt_nil, blk]; done))) (cA _) ?_
      rintro v _ ⟨a1, c1, A1, H1, rfl, own1, hH1, rfl⟩
      (refine runL_nil ?_; refine endS_d rfl ?_; refine runD_1 6 (by kernel_rfl) rfl rfl rfl ?_; refine runL_alloc rfl rfl rfl rfl rfl ze66 (fun _ => ?_); refine runL_nil ?_; refine endS_d rfl ?_; refine runD_done (by kernel_rfl) ?_)
      rename_i b6
      exact midX ((a1, c1, A1, H1), b6) ⟨own1, hH1⟩ rfl (fun x => by simp only [List.append_eq, cnt_append, cnt_cons, cnt_nil, blk, zOut, outV, menter, bare, Ord.cells]; try omega)
    · (refine runL_alloc rfl rfl rfl rfl rfl ze66 (fun _ => ?_); refine runL_nil ?_; refine endS_d rfl ?_; refine runD_1 5 (by kernel_rfl) rfl rfl rfl ?_)
      rename_i b6
      refine RunL.perm (h' := blk b6 zOut 66 :: HB) (fun x => by simp only [List.append_eq, cnt_append, cnt_cons, cnt_nil, blk, zOut, outV, menter, bare, Ord.cells]; try omega) ?_
      refine runL_callZ [blk b6 zOut 66] HB rfl rfl rfl rfl rfl rfl rfl (pf rfl) (fun x => by (first | rfl | (simp only [List.append_eq, cnt_append, cnt_cons, cnt_nil, blk]; omega) | (simp only [List.append_eq, cnt_append, cnt_cons, cnt_nil, blk]; done))) (cA _) ?_
      rintro v _ ⟨a1, c1, A1, H1, rfl, own1, hH1, rfl⟩
      (refine runL_nil ?_; refine endS_d rfl ?_; refine runD_done (by kernel_rfl) ?_)
      exact midX ((a1, c1, A1, H1), b6) ⟨own1, hH1⟩ rfl (fun x => by simp only [List.append_eq, cnt_append, cnt_cons, cnt_nil, blk, zOut, outV, menter, bare, Ord.cells]; try omega)
  · rintro ⟨⟨a1, c1, A1, H1⟩, b6⟩ ⟨own1, hH1⟩
    dsimp only at own1 hH1 ⊢
    refine RunD.same (M' := blk b6 zOut 66 :: blk b4 zOut 66 :: blk b3 o.cells 35 :: (H1 ++ A1 ++ [blk b5 (bare o).cells 35])) (fun _ _ h => h) (fun x => by simp only [List.append_eq, cnt_append, cnt_cons, cnt_nil, blk, zOut, outV, menter, bare, Ord.cells]; try omega) ?_
    (refine runD_1 7 (by kernel_rfl) rfl rfl rfl ?_; refine runL_store0 rfl rfl rfl rfl rfl (sz rfl) rfl rfl rfl rfl rfl ?_; refine runL_nil ?_; refine endS_n rfl ?_; refine runD_done (by kernel_rfl) ?_; refine then_normal ?_; refine run_seq ?_; refine run_region ?_; refine xel rfl (ev_loadAK rfl rfl (ag rfl) (sz rfl) (memF (.tail _ (.tail _ (.head _)))) rfl) ?_; refine xel rfl (ev_fieldAddr rfl rfl (fo rfl)) ?_; refine runL_store0 rfl rfl rfl rfl rfl (sz rfl) rfl rfl rfl rfl rfl ?_; refine runL_nil ?_; refine then_normal ?_; refine run_seq ?_; refine run_region ?_; refine xel rfl (ev_loadAK rfl rfl (ag rfl) (sz rfl) (memF (.head _)) rfl) ?_; refine runL_store1 rfl rfl rfl rfl rfl (sz rfl) rfl rfl rfl rfl rfl ?_; refine runL_nil ?_; refine then_normal ?_; refine run_ret ?_)
    exact ⟨_, .agg rfl (memF (.tail _ (.head _))) (ag rfl) (sz rfl) rfl .nil, H1 ++ A1, [blk b6 (outV a1 c1 ⟨o, X.1.fs, X.1.left, X.1.rests, X.1.waits, X.1.self, X.1.err⟩) 66, blk b4 (outV a1 c1 ⟨o, X.1.fs, X.1.left, X.1.rests, X.1.waits, X.1.self, X.1.err⟩) 66, blk b3 o.cells 35, blk b5 (bare o).cells 35], ⟨a1, c1, A1, H1, rfl, own1, hH1, rfl⟩, fun y => by show cnt y (blk b6 (outV a1 c1 ⟨o, X.1.fs, X.1.left, X.1.rests, X.1.waits, X.1.self, X.1.err⟩) 66 :: blk b4 (outV a1 c1 ⟨o, X.1.fs, X.1.left, X.1.rests, X.1.waits, X.1.self, X.1.err⟩) 66 :: blk b3 o.cells 35 :: (H1 ++ A1 ++ [blk b5 (bare o).cells 35])) = _; (first | rfl | (simp only [List.append_eq, cnt_append, cnt_cons, cnt_nil, blk]; omega) | (simp only [List.append_eq, cnt_append, cnt_cons, cnt_nil, blk]; done))⟩
end Go.Proofs.YtmelpobcpcmdoaaGreat

set_option autoImplicit false
set_option linter.unusedSectionVars false
set_option linter.unusedSimpArgs false
set_option linter.unusedVariables false
set_option maxRecDepth 4000
set_option maxHeartbeats 100000000
namespace Go.Proofs.YtmelpobcpcmdoaaGreat
open Go Go.SL Go.Proofs
theorem mtrig_none {n : Nat} {M : Mk} (h : M.W.findIdx? (fun o => hit o M.B.last) = none) : mtrig n M = ([], M) := by
  cases n with
  | zero => rfl
  | succ n => unfold mtrig; rw [h]
theorem mtrig_some {n k : Nat} {M : Mk} {o : Ord} (h : M.W.findIdx? (fun o => hit o M.B.last) = some k) (ho : M.W[k]? = some o) : mtrig (n + 1) M = ((menter o M.B).1 :: (mtrig n ⟨(menter o M.B).2, M.W.take k ++ M.W.drop (k + 1)⟩).1, (mtrig n ⟨(menter o M.B).2, M.W.take k ++ M.W.drop (k + 1)⟩).2) := by
  conv => lhs; unfold mtrig
  rw [h]
  dsimp only
  rw [ho]
variable [Base]
/-- What is so while those that wait are triggered. -/
structure TrigI (m : Nat) (M : Mk) (ts : List ((Option Addr × Nat) × Out)) (N : Mk) : Prop where
  w : MW N
  is : mtrig M.W.length M = (ts.map (·.2) ++ (mtrig N.W.length N).1, (mtrig N.W.length N).2)
  len : ts.length + N.W.length ≤ 64
  no : N.B.no ≤ 1099443470336 + ts.length * 1048576
theorem sp_strig (F H : Heap) (m : Nat) (M : Mk) (hH : MkH m M H) (hw : MW M) (hn2 : M.B.no ≤ 1099443470336) :
    Sp Tryz.prog F 26 [.pointer (some ⟨m, 0, none⟩)] H (fun v h' => ∃ a c ts A HF H', v = .slice a ts.length c ∧ ts.map (·.2) = (mtrig M.W.length M).1 ∧ ts.length ≤ 64 ∧ OwnS 66 15 (.slice a ts.length c) ts.length (rows orow ts) A ∧ FsH ts HF ∧ MkH m (mtrig M.W.length M).2 H' ∧ h' = H' ++ A ++ HF) := by
  have hW : M.W.length ≤ 64 := by have := hw.len; unfold mlen at this; omega
  refine Sp.up ?_
  refine sp_of_code Tryz.func26 rfl rfl ?_
  (refine run_seq ?_; refine run_region ?_; refine runL_box rfl rfl rfl rfl rfl rfl (fun _ => ?_); refine xep rfl rfl ?_; refine runL_nil ?_; refine then_normal ?_; refine run_seq ?_; refine run_region ?_; refine xep rfl rfl ?_; refine runL_nil ?_; refine then_normal ?_; refine run_block ?_)
  rename_i c1
  refine run_loopK (σ := (Mk × List ((Option Addr × Nat) × Out)) × (Option Addr × Nat × Heap) × Heap × Heap) [1, 3] (fun s => [(1, .pointer (some ⟨c1, 0, none⟩)), (3, .slice s.2.1.1 s.1.2.length s.2.1.2.1)])
    (fun s => blk c1 [.pointer (some ⟨m, 0, none⟩)] 23 :: (s.2.2.2 ++ (s.2.1.2.2 ++ s.2.2.1)))
    (fun s => TrigI m M s.1.2 s.1.1 ∧ OwnS 66 15 (.slice s.2.1.1 s.1.2.length s.2.1.2.1) s.1.2.length (rows orow s.1.2) s.2.1.2.2 ∧ FsH s.1.2 s.2.2.1 ∧ MkH m s.1.1 s.2.2.2)
    (fun s => s.1.1.W.length) ((M, []), (none, 0, []), [], H) ⟨⟨hw, by simp, by simpa using hW, by simpa using hn2⟩, .nil _ _, rfl, hH⟩ rfl (fun x => by show cnt x (blk c1 [.pointer (some ⟨m, 0, none⟩)] 23 :: H) = _; (first | rfl | (simp only [List.append_eq, cnt_append, cnt_cons, cnt_nil, blk]; omega) | (simp only [List.append_eq, cnt_append, cnt_cons, cnt_nil, blk]; done))) ?_
  rintro ⟨⟨N, ts⟩, ⟨ao, co, A⟩, HF, HM⟩ ⟨hI, own, hF, hMH⟩
  dsimp only at hI own hF hMH ⊢
  obtain ⟨b, aw, cw, HB, AW, hB, ownW, rfl⟩ := hMH
  have hNl : N.W.length ≤ 64 := by have := hI.len; omega
  (refine run_block ?_; refine run_seq ?_; refine run_region ?_; refine xel rfl (ev_loadK rfl rfl (sc rfl) (memF (.head _)) rfl) ?_; refine xep rfl rfl ?_; refine xel rfl (ev_fieldAddr rfl rfl (fo rfl)) ?_; refine xel rfl (ev_loadK rfl rfl (sc rfl) (memF (.tail _ (.head _))) rfl) ?_; refine xel rfl (ev_makeFunc rfl rfl) ?_)
  have hm0 : ∀ G : Heap, blk m [.pointer (some ⟨b, 0, none⟩), .slice aw N.W.length cw] 55 ∈ (blk c1 [.pointer (some ⟨m, 0, none⟩)] 23 :: ((blk m [.pointer (some ⟨b, 0, none⟩), .slice aw N.W.length cw] 55 :: (HB ++ AW)) ++ (A ++ HF))) ++ G := fun G => by simp
  refine runL_ev rfl rfl rfl rfl (ev_callQ rfl rfl rfl (pf rfl) (sp_idxOrd _ aw N.W.length cw Ord.cells oc_len N.W rfl (by omega) (ownW.src fun x mx => by simp [mx]) 54 (pf rfl) _ (fun o => hit o N.B.last) fun x _ => sp_strig1 _ c1 m b aw N.W.length cw N.B x ⟨_, _, _, memF (.head _), rfl⟩ (hm0 F) (hB.in fun y my => by simp [my]))) ?_
  (refine xep rfl rfl ?_; refine runL_nil ?_; refine then_normal ?_; (iterate 2 refine run_seq ?_); refine run_region ?_; (iterate 2 refine xep rfl rfl ?_); refine runL_nil ?_; refine then_normal ?_)
  rcases idxI_cases (fun o => hit o N.B.last) N.W with ⟨hk, hno⟩ | ⟨k, o, hk, ho, hp, hnp⟩
  · rw [hk]
    have hfi : N.W.findIdx? (fun o => hit o N.B.last) = none := by rw [List.findIdx?_eq_none_iff]; exact hno
    have his := hI.is
    rw [mtrig_none hfi, List.append_nil] at his
    refine run_condT rfl rfl ?_
    (refine run_seq ?_; refine run_region ?_; (iterate 2 refine xep rfl rfl ?_); refine runL_nil ?_; refine then_normal ?_; refine run_ret ?_; refine then_ret ?_; refine in_ret ?_; refine then_ret ?_; refine in_ret ?_)
    refine ⟨_, rfl, (blk m [.pointer (some ⟨b, 0, none⟩), .slice aw N.W.length cw] 55 :: (HB ++ AW)) ++ A ++ HF, [blk c1 [.pointer (some ⟨m, 0, none⟩)] 23], ⟨ao, co, ts, A, HF, blk m [.pointer (some ⟨b, 0, none⟩), .slice aw N.W.length cw] 55 :: (HB ++ AW), rfl, by rw [his], by have := hI.len; omega, own, hF, by rw [his]; exact ⟨b, aw, cw, HB, AW, hB, ownW, rfl⟩, rfl⟩, fun y => by (first | rfl | (simp only [List.append_eq, cnt_append, cnt_cons, cnt_nil, blk]; omega) | (simp only [List.append_eq, cnt_append, cnt_cons, cnt_nil, blk]; done))⟩
  · rw [hk]
    have hlt := (List.getElem?_eq_some_iff.1 ho).1
    have hfi : N.W.findIdx? (fun o => hit o N.B.last) = some k := by
      rw [List.findIdx?_eq_some_iff_getElem]
      refine ⟨hlt, by rw [(List.getElem?_eq_some_iff.1 ho).2]; exact hp, fun j hj => ?_⟩
      have := hnp j _ hj (List.getElem?_eq_getElem (by omega))
      rw [this]; simp
    obtain ⟨b2, rest, cap', hv, rfl, hl2, hr2, hk2⟩ := ownW.pos (by omega)
    cases hv
    refine run_condF rfl (decide_eq_false (by omega)) ?_
    have r1 : RowAt (rows Ord.cells N.W ++ rest) (0 + (k : Int).toNat * 9) o.cells := by
      rw [Nat.zero_add]; exact rows_at oc_len ho rest
    (refine run_skip ?_; refine then_normal ?_)
    refine RunC.perm (h' := blk c1 [.pointer (some ⟨m, 0, none⟩)] 23 :: blk m [.pointer (some ⟨b, 0, none⟩), .slice (some ⟨b2, 0, none⟩) N.W.length cw] 55 :: blk b2 (rows Ord.cells N.W ++ rest) 35 :: (HB ++ A ++ HF)) (fun y => by (first | rfl | (simp only [List.append_eq, cnt_append, cnt_cons, cnt_nil, blk]; omega) | (simp only [List.append_eq, cnt_append, cnt_cons, cnt_nil, blk]; done))) ?_
    (refine run_seq ?_; refine run_region ?_; refine xel rfl (ev_loadK rfl rfl (sc rfl) (memF (.head _)) rfl) ?_; refine xep rfl rfl ?_; refine xel rfl (ev_fieldAddr rfl rfl (fo rfl)) ?_; refine xel rfl (ev_loadK rfl rfl (sc rfl) (memF (.tail _ (.head _))) rfl) ?_; refine xep rfl rfl ?_; refine xel rfl (ev_indexAddr rfl rfl rfl (se rfl) (by omega) (by omega)) ?_; refine xel rfl (ev_loadAR rfl rfl (ag rfl) (sz rfl) (memF (.tail _ (.tail _ (.head _)))) r1 rfl) ?_; refine runL_alloc rfl rfl rfl rfl rfl ze35 (fun _ => ?_); refine runL_store0 rfl rfl rfl rfl rfl (sz rfl) rfl rfl rfl rfl rfl ?_; refine runL_nil ?_; refine then_normal ?_; refine run_seq ?_)
    rename_i x5
    refine RunC.perm (h' := [blk b2 (rows Ord.cells N.W ++ rest) 35] ++ (blk x5 o.cells 35 :: blk c1 [.pointer (some ⟨m, 0, none⟩)] 23 :: blk m [.pointer (some ⟨b, 0, none⟩), .slice (some ⟨b2, 0, none⟩) N.W.length cw] 55 :: (HB ++ A ++ HF))) (fun y => by show cnt y (blk x5 o.cells 35 :: blk c1 [.pointer (some ⟨m, 0, none⟩)] 23 :: blk m [.pointer (some ⟨b, 0, none⟩), .slice (some ⟨b2, 0, none⟩) N.W.length cw] 55 :: blk b2 (rows Ord.cells N.W ++ rest) 35 :: (HB ++ A ++ HF)) = _; (first | rfl | (simp only [List.append_eq, cnt_append, cnt_cons, cnt_nil, blk]; omega) | (simp only [List.append_eq, cnt_append, cnt_cons, cnt_nil, blk]; done))) ?_
    have l1 : LoadsF ((blk x5 o.cells 35 :: blk c1 [.pointer (some ⟨m, 0, none⟩)] 23 :: blk m [.pointer (some ⟨b, 0, none⟩), .slice (some ⟨b2, 0, none⟩) N.W.length cw] 55 :: (HB ++ A ++ HF)) ++ F) c1 0 (.pointer (some ⟨m, 0, none⟩)) := ⟨_, _, _, memF (.tail _ (.head _)), rfl⟩
    have l2 : LoadsF ((blk x5 o.cells 35 :: blk c1 [.pointer (some ⟨m, 0, none⟩)] 23 :: blk m [.pointer (some ⟨b, 0, none⟩), .slice (some ⟨b2, 0, none⟩) N.W.length cw] 55 :: (HB ++ A ++ HF)) ++ F) m (0 + 1) (.slice (some ⟨b2, 0, none⟩) N.W.length cw) := ⟨_, _, _, memF (.tail _ (.tail _ (.head _))), rfl⟩
    have hN := cut_len ho
    refine run_region_D3 (σ := Option Addr × Nat × Heap) 9 3 [1, 3, 5] (fun s => [(30, .slice s.1 (N.W.take k ++ N.W.drop (k + 1)).length s.2.1), (22, .pointer (some ⟨m, 0, none⟩))])
      (fun s => s.2.2) (fun s => OwnS 35 9 (.slice s.1 (N.W.take k ++ N.W.drop (k + 1)).length s.2.1) (N.W.take k ++ N.W.drop (k + 1)).length (rows Ord.cells (N.W.take k ++ N.W.drop (k + 1))) s.2.2) mo rfl (by kernel_rfl) rfl ?_ ?_
    · (refine runD_q 0 rfl rfl (by kernel_rfl) ?_; refine ⟨_, fun _ => ev_loadK rfl rfl (sc rfl) (memR (memF (.tail _ (.head _)))) rfl, ?_⟩; refine runD_q 1 rfl rfl (by kernel_rfl) ?_; refine ⟨_, fun _ => ev_loadK rfl rfl (sc rfl) (memR (memF (.tail _ (.head _)))) rfl, ?_⟩; refine runD_q 2 rfl rfl (by kernel_rfl) ?_; refine ⟨_, fun _ => ev_pure rfl, ?_⟩; refine runD_q 3 rfl rfl (by kernel_rfl) ?_; refine ⟨_, fun _ => ev_fieldAddr rfl rfl (fo rfl), ?_⟩; refine runD_q 4 rfl rfl (by kernel_rfl) ?_; refine ⟨_, fun _ => ev_loadK rfl rfl (sc rfl) (memR (memF (.tail _ (.tail _ (.head _))))) rfl, ?_⟩; refine runD_q 5 rfl rfl (by kernel_rfl) ?_; refine ⟨_, fun _ => ev_pure rfl, ?_⟩; refine runD_q 6 rfl rfl (by kernel_rfl) ?_; refine ⟨_, fun _ => ev_pure rfl, ?_⟩; refine runD_q 7 rfl rfl (by kernel_rfl) ?_; refine ⟨_, fun _ => ev_add rfl rfl rfl (by omega), ?_⟩; refine runD_1 8 (by kernel_rfl) rfl rfl rfl ?_)
      refine runL_callZ [] [blk b2 (rows Ord.cells N.W ++ rest) 35] rfl rfl rfl rfl rfl rfl rfl (pf rfl) (fun y => rfl) (sp_delOrd _ _ _ _ _ _ ownW (rows_cells (fun _ => rfl) _) k (k + 1) (by omega) (by omega)) ?_
      rintro v A' own'
      rw [rows_take oc_len N.W (by omega), rows_drop oc_len N.W (by omega), ← rows_append] at own'
      have hlen : N.W.length - (k + 1 - k) = (N.W.take k ++ N.W.drop (k + 1)).length := by omega
      rw [hlen] at own'
      obtain ⟨a5, c5, rfl, own5⟩ := own'.at
      (refine runL_nil ?_; refine endS_d rfl ?_; refine runD_done (by kernel_rfl) ?_)
      exact midX (a5, c5, A') own5 rfl (fun x => by (first | rfl | (simp only [List.append_eq, cnt_append, cnt_cons, cnt_nil, blk]; omega) | (simp only [List.append_eq, cnt_append, cnt_cons, cnt_nil, blk]; done)))
    · rintro ⟨a5, c5, A'⟩ own5
      dsimp only at own5 ⊢
      have hmem : ∀ x ∈ N.W.take k ++ N.W.drop (k + 1), x ∈ N.W := fun x mx => cut_mem mx
      refine RunD.same (M' := blk m [.pointer (some ⟨b, 0, none⟩), .slice (some ⟨b2, 0, none⟩) N.W.length cw] 55 :: (blk x5 o.cells 35 :: blk c1 [.pointer (some ⟨m, 0, none⟩)] 23 :: (A' ++ HB ++ A ++ HF))) (fun _ _ h => h) (fun x => by (first | rfl | (simp only [List.append_eq, cnt_append, cnt_cons, cnt_nil, blk]; omega) | (simp only [List.append_eq, cnt_append, cnt_cons, cnt_nil, blk]; done))) ?_
      (refine runD_q 9 rfl rfl (by kernel_rfl) ?_; refine ⟨_, fun _ => ev_pure rfl, ?_⟩; refine runD_q 10 rfl rfl (by kernel_rfl) ?_; refine ⟨_, fun _ => ev_fieldAddr rfl rfl (fo rfl), ?_⟩; refine runD_1 11 (by kernel_rfl) rfl rfl rfl ?_; refine runL_store0 rfl rfl rfl rfl rfl (sz rfl) rfl rfl rfl rfl rfl ?_; refine runL_nil ?_; refine endS_n rfl ?_; refine runD_done (by kernel_rfl) ?_; refine then_normal ?_; refine run_region ?_; refine xep rfl rfl ?_; refine xel rfl (ev_loadK rfl rfl (sc rfl) (memF (.tail _ (.tail _ (.head _)))) rfl) ?_; refine xel rfl (ev_loadAK rfl rfl (ag rfl) (sz rfl) (memF (.tail _ (.head _))) rfl) ?_)
      have hkI : InI o.kind := by have := hI.w.w o (List.mem_of_getElem? ho); unfold rightP at this; unfold InI; omega
      have hno := hI.no
      have hlen2 := hI.len
      have hme := menter_ok (o := o) hI.w.b hI.w.no
      have hwn := hI.w.no
      have hwl := hI.w.len
      unfold mlen at hwl
      refine runL_callZ (blk m [.pointer (some ⟨b, 0, none⟩), .slice a5 (N.W.take k ++ N.W.drop (k + 1)).length c5] 55 :: (blk x5 o.cells 35 :: blk c1 [.pointer (some ⟨m, 0, none⟩)] 23 :: (A' ++ A ++ HF))) HB rfl rfl rfl rfl rfl rfl rfl (pf rfl) (fun y => by (first | rfl | (simp only [List.append_eq, cnt_append, cnt_cons, cnt_nil, blk]; omega) | (simp only [List.append_eq, cnt_append, cnt_cons, cnt_nil, blk]; done))) (sp_senter _ HB m b a5 _ c5 (List.mem_cons_self ..) N.B hB hI.w.b o hkI hI.w.no (by omega)) ?_
      rintro v _ ⟨a7, c7, A7, H7, rfl, own7, hB7, rfl⟩
      skip
      refine runL_buildSlice (l := outV a7 c7 (menter o N.B).1) rfl rfl rfl rfl rfl (se rfl) ze66 rfl rfl rfl rfl rfl (fun b37 => ?_)
      skip
      refine runL_append (sl := outV a7 c7 (menter o N.B).1) (blk b37 (outV a7 c7 (menter o N.B).1) 66 :: (blk m [.pointer (some ⟨b, 0, none⟩), .slice a5 (N.W.take k ++ N.W.drop (k + 1)).length c5] 55 :: (blk x5 o.cells 35 :: blk c1 [.pointer (some ⟨m, 0, none⟩)] 23 :: (A' ++ HF ++ H7 ++ A7)))) rfl rfl rfl rfl rfl rfl rfl (se rfl) (se rfl) ze66 rfl (byt rfl) own (fun y => by (first | rfl | (simp only [List.append_eq, cnt_append, cnt_cons, cnt_nil, blk]; omega) | (simp only [List.append_eq, cnt_append, cnt_cons, cnt_nil, blk]; done))) ⟨rfl, .inr ⟨b37, 0, _, _, _, rfl, memF (.head _), by simp [outV], rfl⟩⟩ rfl (by decide) (by decide) (by omega) ?_
      rintro v' A8 own'
      obtain ⟨a8, c8, rfl, own8⟩ := (own'.snoc (f := orow) (x := ((a7, c7), (menter o N.B).1)) rfl).at
      (refine xep rfl rfl ?_; refine runL_nil ?_; refine in_normal ?_; refine then_normal ?_)
      refine ⟨((⟨(menter o N.B).2, N.W.take k ++ N.W.drop (k + 1)⟩, ts ++ [((a7, c7), (menter o N.B).1)]), (a8, c8, A8), HF ++ A7, blk m [.pointer (some ⟨b, 0, none⟩), .slice a5 (N.W.take k ++ N.W.drop (k + 1)).length c5] 55 :: (H7 ++ A')), ⟨⟨⟨hme.1, by show 0 ≤ (menter o N.B).2.no; omega, ?_, fun x mx => hI.w.w x (cut_mem mx)⟩, ?_, ?_, ?_⟩, own8, FsH.append hF ⟨A7, [], own7, rfl, by rw [List.append_nil]⟩, b, a5, c5, H7, A', hB7, own5, rfl⟩, by show (N.W.take k ++ N.W.drop (k + 1)).length < N.W.length; omega, rfl, blk b37 (outV a7 c7 (menter o N.B).1) 66 :: [blk x5 o.cells 35], fun y => by (first | rfl | (simp only [List.append_eq, cnt_append, cnt_cons, cnt_nil, blk]; omega) | (simp only [List.append_eq, cnt_append, cnt_cons, cnt_nil, blk]; done))⟩
      · show lenL (menter o N.B).2.buys + lenL (menter o N.B).2.sells + (N.W.take k ++ N.W.drop (k + 1)).length ≤ 64
        have h4 := hme.2.2.2
        have h5 : (if rests o = true then 1 else 0) ≤ 1 := by by_cases hre : rests o = true <;> simp [hre]
        omega
      · have his := hI.is
        rw [← hN, mtrig_some hfi ho] at his
        rw [his]; simp
      · show (ts ++ [_]).length + (N.W.take k ++ N.W.drop (k + 1)).length ≤ 64
        rw [List.length_append, List.length_singleton]; omega
      · have h6 : ((ts ++ [((a7, c7), (menter o N.B).1)]).length : Int) = ts.length + 1 := by simp
        dsimp only
        rw [h6]; omega
end Go.Proofs.YtmelpobcpcmdoaaGreat
