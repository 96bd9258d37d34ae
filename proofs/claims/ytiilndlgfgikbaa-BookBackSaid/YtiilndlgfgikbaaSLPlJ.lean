/- Contracts of functions of the given program over its translation, each proved by walking its text; used by the laws' rows. It proves no given statement by itself. -/
import Derived.Test.YtiilndlgfgikbaaSLPlI
set_option autoImplicit false
set_option linter.unusedSectionVars false
set_option linter.unusedSimpArgs false
set_option linter.unusedVariables false
set_option maxRecDepth 4000
namespace Go.Proofs.Ytiilndlgfgikbaa
open Go Go.SL Go.Proofs
variable [Base]
theorem restK_spec (o : Ord) (l : List Lv) : (∀ lv ∈ l.take (restK o l), better o.side lv.p o.price = true) ∧ ∀ lv, l[restK o l]? = some lv → better o.side lv.p o.price = false := by
  unfold restK
  cases h : l.findIdx? fun lv => !better o.side lv.p o.price with
  | none =>
    rw [List.findIdx?_eq_none_iff] at h
    refine ⟨fun lv m => ?_, fun lv hl => ?_⟩
    · have := h lv (List.mem_of_mem_take m)
      simpa using this
    · simp at hl
  | some k =>
    rw [List.findIdx?_eq_some_iff_getElem] at h
    obtain ⟨hk, h1, h2⟩ := h
    refine ⟨fun lv m => ?_, fun lv hl => ?_⟩
    · obtain ⟨j, hj, e⟩ := List.mem_take_iff_getElem.1 m
      have := h2 j (by simp only [Option.getD_some] at hj; omega)
      rw [e] at this
      simpa using this
    · simp only [Option.getD_some] at hl
      rw [(List.getElem?_eq_some_iff.1 hl).2] at h1
      simpa using h1
/-- Where an order comes to rest. -/
theorem restL_form (o : Ord) (l : List Lv) : ∃ a b, (∀ lv ∈ a, better o.side lv.p o.price = true) ∧
    ((∃ lv, lv.p = o.price ∧ l = a ++ lv :: b ∧ restL o l = a ++ ⟨lv.p, lv.es ++ [⟨o, tip o⟩]⟩ :: b) ∨
    (l = a ++ b ∧ restL o l = a ++ ⟨o.price, [⟨o, tip o⟩]⟩ :: b ∧ ∀ lv, b.head? = some lv → better o.side o.price lv.p = true)) := by
  have hk := restK_le o l
  obtain ⟨s1, s2⟩ := restK_spec o l
  obtain ⟨lv, h0, h1, h2⟩ := restP_get o l
  have hr : restL o l = (restP o l).set (restK o l) ⟨lv.p, lv.es ++ [⟨o, tip o⟩]⟩ := by unfold restL; rw [h0]
  cases hi : restI o l with
  | false =>
    have e : restP o l = l := by unfold restP; rw [if_neg (by rw [hi]; simp)]
    have hl := h1 hi
    refine ⟨l.take (restK o l), l.drop (restK o l + 1), s1, .inl ⟨lv, ?_, split_at hl, ?_⟩⟩
    · unfold restI at hi
      rw [hl] at hi
      simpa using hi
    · rw [hr, e, List.set_eq_take_append_cons_drop, if_pos (List.getElem?_eq_some_iff.1 hl).1]
  | true =>
    have e : restP o l = l.take (restK o l) ++ ⟨o.price, []⟩ :: l.drop (restK o l) := by unfold restP; rw [if_pos hi]
    refine ⟨l.take (restK o l), l.drop (restK o l), s1, .inr ⟨(List.take_append_drop ..).symm, ?_, ?_⟩⟩
    · rw [hr, e, h2 hi, List.set_append_right _ _ (by rw [List.length_take]; omega), List.length_take, Nat.min_eq_left hk, Nat.sub_self]; rfl
    · intro x hx
      rw [List.head?_drop] at hx
      refine better_tot (s2 x hx) ?_
      unfold restI at hi
      rw [hx] at hi
      simpa using hi
theorem restL_sum (o : Ord) (l : List Lv) : sumL (restL o l) = sumL l + o.qty := by
  obtain ⟨a, b, -, h⟩ := restL_form o l
  rcases h with ⟨lv, -, e1, e2⟩ | ⟨e1, e2, -⟩
  · rw [e2]; conv => rhs; rw [e1]
    simp only [sumL_append, sumL, sumE_append, sumE]; omega
  · rw [e2]; conv => rhs; rw [e1]
    simp only [sumL_append, sumL, sumE]; omega
theorem srt_rest {o : Ord} {l : List Lv} (h : Srt o.side l) : Srt o.side (restL o l) := by
  obtain ⟨a, b, ha, h1⟩ := restL_form o l
  rcases h1 with ⟨lv, -, e1, e2⟩ | ⟨e1, e2, hb⟩
  · have e : (restL o l).map (·.p) = l.map (·.p) := by
      rw [e2]; conv => rhs; rw [e1]
      simp
    unfold Srt at h ⊢
    rw [e]; exact h
  · unfold Srt at h ⊢
    rw [e2]
    rw [e1] at h
    rw [List.map_append] at h ⊢
    obtain ⟨p1, p2, p3⟩ := List.pairwise_append.1 h
    have hb2 : ∀ p ∈ b.map (·.p), better o.side o.price p = true := by
      intro p m
      cases b with
      | nil => cases m
      | cons x b =>
        have hx := hb x rfl
        rw [List.map_cons] at m p2
        rcases List.mem_cons.1 m with rfl | m
        · exact hx
        · exact better_trans hx ((List.pairwise_cons.1 p2).1 p m)
    refine List.pairwise_append.2 ⟨p1, List.pairwise_cons.2 ⟨hb2, p2⟩, fun x mx y my => ?_⟩
    rw [List.map_cons] at my
    rcases List.mem_cons.1 my with rfl | my
    · obtain ⟨lv, m, rfl⟩ := List.mem_map.1 mx
      exact ha lv m
    · exact p3 x mx y my
theorem rest_mem {o : Ord} {l : List Lv} {lv : Lv} (h : lv ∈ restL o l) : (lv.p = o.price ∨ ∃ x ∈ l, lv.p = x.p) ∧ ∀ e ∈ lv.es, (e.o = o ∧ lv.p = o.price) ∨ ∃ x ∈ l, lv.p = x.p ∧ e ∈ x.es := by
  obtain ⟨a, b, -, h1⟩ := restL_form o l
  rcases h1 with ⟨x, hx, e1, e2⟩ | ⟨e1, e2, -⟩
  · rw [e2] at h
    have old : ∀ y, y ∈ a ∨ y ∈ b → (y.p = o.price ∨ ∃ x ∈ l, y.p = x.p) ∧ ∀ e ∈ y.es, (e.o = o ∧ y.p = o.price) ∨ ∃ x ∈ l, y.p = x.p ∧ e ∈ x.es := by
      intro y hy
      have : y ∈ l := by rw [e1]; rcases hy with h | h <;> simp [h]
      exact ⟨.inr ⟨y, this, rfl⟩, fun e me => .inr ⟨y, this, rfl, me⟩⟩
    rcases List.mem_append.1 h with h | h
    · exact old lv (.inl h)
    · rcases List.mem_cons.1 h with rfl | h
      · have hm : x ∈ l := by rw [e1]; simp
        refine ⟨.inl hx, fun e me => ?_⟩
        rcases List.mem_append.1 me with me | me
        · exact .inr ⟨x, hm, rfl, me⟩
        · simp only [List.mem_singleton] at me
          subst me; exact .inl ⟨rfl, hx⟩
      · exact old lv (.inr h)
  · rw [e2] at h
    have old : ∀ y, y ∈ a ∨ y ∈ b → (y.p = o.price ∨ ∃ x ∈ l, y.p = x.p) ∧ ∀ e ∈ y.es, (e.o = o ∧ y.p = o.price) ∨ ∃ x ∈ l, y.p = x.p ∧ e ∈ x.es := by
      intro y hy
      have : y ∈ l := by rw [e1]; rcases hy with h | h <;> simp [h]
      exact ⟨.inr ⟨y, this, rfl⟩, fun e me => .inr ⟨y, this, rfl, me⟩⟩
    rcases List.mem_append.1 h with h | h
    · exact old lv (.inl h)
    · rcases List.mem_cons.1 h with rfl | h
      · refine ⟨.inl rfl, fun e me => ?_⟩
        simp only [List.mem_singleton] at me
        subst me; exact .inl ⟨rfl, rfl⟩
      · exact old lv (.inr h)
/-- One side of a book and the other: sorted, at their prices, apart. -/
structure SdOk (s : Int) (mine theirs : List Lv) : Prop where
  s1 : Srt s mine
  a1 : AtS s mine
  s2 : Srt (3 - s) theirs
  a2 : AtS (3 - s) theirs
  ap : ∀ x ∈ mine, ∀ y ∈ theirs, better s y.p x.p = true
theorem SdOk.swap {s : Int} {a b : List Lv} (hs : s = 1 ∨ s = 2) (h : SdOk s a b) : SdOk (3 - s) b a := by
  refine ⟨h.s2, h.a2, by rw [show 3 - (3 - s) = s by omega]; exact h.s1, by rw [show 3 - (3 - s) = s by omega]; exact h.a1, fun x mx y my => ?_⟩
  have := h.ap y my x mx
  unfold better at this ⊢
  rcases hs with rfl | rfl <;> simp_all
theorem srt_drop {s : Int} {l m : List Lv} (h : Srt s l) {k : Nat} (e : m.map (·.p) = (l.map (·.p)).drop k) : Srt s m := by
  unfold Srt SrtP at h ⊢
  rw [e]; exact h.sublist (List.drop_sublist ..)
theorem at_sub {s : Int} {l m : List Lv} (h : AtS s l) (e : SubL m l) : AtS s m := by
  intro x mx y my
  obtain ⟨z, mz, e1, e2⟩ := e x mx
  obtain ⟨w, mw, n, e3⟩ := e2 y my
  have := h z mz w mw
  rw [e3, e1]; exact this
theorem crosses_better {o : Ord} {p : Int} (hk : o.kind ≠ 2) (hs : o.side = 1 ∨ o.side = 2) : crosses o p = !better o.side p o.price := by
  unfold crosses better
  rw [if_neg hk]
  rcases hs with h | h <;> simp [h] <;> rw [Bool.eq_iff_iff] <;> simp
theorem rests_kind {o : Ord} (h : rests o = true) : o.kind = 1 ∨ o.kind = 5 := by
  unfold rests at h; simpa using h
theorem apart_of {o : Ord} {l : List Lv} (hk : o.kind ≠ 2) (hs : o.side = 1 ∨ o.side = 2) (h : Srt (3 - o.side) l) (hm : meets o l = false) : ∀ y ∈ l, better o.side y.p o.price = true := by
  cases l with
  | nil => intro y m; cases m
  | cons x l =>
    have hx : crosses o x.p = false := hm
    rw [crosses_better hk hs] at hx
    have hx : better o.side x.p o.price = true := by simpa using hx
    intro y m
    rcases List.mem_cons.1 m with rfl | m
    · exact hx
    · have := (List.pairwise_cons.1 h).1 y.p (List.mem_map_of_mem m)
      unfold better at this hx ⊢
      rcases hs with h | h <;> simp_all <;> omega
theorem sdOk_match {s : Int} {a b c : List Lv} (h : SdOk s a b) {k : Nat} (e1 : c.map (·.p) = (b.map (·.p)).drop k) (e2 : SubL c b) : SdOk s a c := by
  refine ⟨h.s1, h.a1, srt_drop h.s2 e1, at_sub h.a2 e2, fun x mx y my => ?_⟩
  obtain ⟨z, mz, e, -⟩ := e2 y my
  rw [e]; exact h.ap x mx z mz
theorem sdOk_rest {o : Ord} {a b : List Lv} (h : SdOk o.side a b) (ha : ∀ y ∈ b, better o.side y.p o.price = true) : SdOk o.side (restL o a) b := by
  refine ⟨srt_rest h.s1, fun x mx e me => ?_, h.s2, h.a2, fun x mx y my => ?_⟩
  · rcases (rest_mem mx).2 e me with ⟨rfl, h2⟩ | ⟨z, mz, e1, e2⟩
    · exact ⟨rfl, h2.symm⟩
    · rw [e1]; exact h.a1 z mz e e2
  · rcases (rest_mem mx).1 with e | ⟨z, mz, e⟩
    · rw [e]; exact ha y my
    · rw [e]; exact h.ap z mz y my
/-- A book as it ought to be. -/
def Gd (B : Bk) : Prop := SdOk 1 B.buys B.sells
theorem Gd.side {B : Bk} (h : Gd B) {s : Int} (hs : s = 1 ∨ s = 2) : SdOk s (B.side s) (B.side (3 - s)) := by
  rcases hs with rfl | rfl
  · exact h
  · exact SdOk.swap (.inl rfl) h
theorem Gd.of {B : Bk} {s : Int} (hs : s = 1 ∨ s = 2) (h : SdOk s (B.side s) (B.side (3 - s))) : Gd B := by
  rcases hs with rfl | rfl
  · exact h
  · exact SdOk.swap (.inr rfl) h
theorem empty_Gd : Gd empty := ⟨.nil, (fun _ m => nomatch m), .nil, (fun _ m => nomatch m), fun _ m => nomatch m⟩
theorem put_side {B : Bk} {s : Int} (hs : s = 1 ∨ s = 2) (l : List Lv) : (B.put s l).side s = l := by
  rcases hs with rfl | rfl <;> rfl
theorem put_other {B : Bk} {s : Int} (hs : s = 1 ∨ s = 2) (l : List Lv) : (B.put s l).side (3 - s) = B.side (3 - s) := by
  rcases hs with rfl | rfl <;> rfl
theorem put_tell_side {B : Bk} {s : Int} (l : List Lv) (x y : Int) : (B.tell x y).side s = B.side s := rfl
/-- What an order that is taken does to the two sides. -/
structure AddIs (o : Ord) (B : Bk) (m : MR) : Prop where
  out : (badd o B).1 = ⟨o, m.fs, m.qty, decide (0 < m.qty) && !m.self && rests o, false, m.self, 0⟩
  theirs : (badd o B).2.side (3 - o.side) = m.lvs
  mine : (badd o B).2.side o.side = if (decide (0 < m.qty) && !m.self && rests o) = true then restL (wqs o m.qty (min o.show_ m.qty)) (B.side o.side) else B.side o.side
  last : (badd o B).2.last = m.last
  no : (badd o B).2.no = m.no
theorem add_is {o : Ord} {B : Bk} (hs : o.side = 1 ∨ o.side = 2) (h0 : brefused o B = 0) : AddIs o B (matchL o (B.side (3 - o.side)) B.last B.no) := by
  have e : badd o B = (⟨o, (matchL o (B.side (3 - o.side)) B.last B.no).fs, (matchL o (B.side (3 - o.side)) B.last B.no).qty, decide (0 < (matchL o (B.side (3 - o.side)) B.last B.no).qty) && !(matchL o (B.side (3 - o.side)) B.last B.no).self && rests o, false, (matchL o (B.side (3 - o.side)) B.last B.no).self, 0⟩,
      if (decide (0 < (matchL o (B.side (3 - o.side)) B.last B.no).qty) && !(matchL o (B.side (3 - o.side)) B.last B.no).self && rests o) = true then ((B.put (3 - o.side) (matchL o (B.side (3 - o.side)) B.last B.no).lvs).tell (matchL o (B.side (3 - o.side)) B.last B.no).last (matchL o (B.side (3 - o.side)) B.last B.no).no).put o.side (restL (wqs o (matchL o (B.side (3 - o.side)) B.last B.no).qty (min o.show_ (matchL o (B.side (3 - o.side)) B.last B.no).qty)) (((B.put (3 - o.side) (matchL o (B.side (3 - o.side)) B.last B.no).lvs).tell (matchL o (B.side (3 - o.side)) B.last B.no).last (matchL o (B.side (3 - o.side)) B.last B.no).no).side o.side))
      else (B.put (3 - o.side) (matchL o (B.side (3 - o.side)) B.last B.no).lvs).tell (matchL o (B.side (3 - o.side)) B.last B.no).last (matchL o (B.side (3 - o.side)) B.last B.no).no) := by
    unfold badd
    rw [if_neg (by rw [h0]; simp)]
  rw [show matchL o (B.side (3 - o.side)) B.last B.no = matchL o (B.side (3 - o.side)) B.last B.no from rfl] at e
  generalize matchL o (B.side (3 - o.side)) B.last B.no = m at *
  generalize hr : (decide (0 < m.qty) && !m.self && rests o) = r at *
  refine ⟨by rw [e, hr], ?_, ?_, ?_, ?_⟩
  all_goals rw [e]
  all_goals rcases hs with h | h <;> rw [h] <;> cases r <;> first | rfl | (rw [hr]; rfl)
theorem refused_is {o : Ord} {B : Bk} (h : brefused o B ≠ 0) : badd o B = (⟨o, [], o.qty, false, false, false, brefused o B⟩, B) := by
  unfold badd; rw [if_pos h]
theorem badd_Gd {o : Ord} {B : Bk} (hw : BW B) (hg : Gd B) (hr : rightP o) : Gd (badd o B).2 := by
  by_cases h0 : brefused o B = 0
  · have hs : o.side = 1 ∨ o.side = 2 := by unfold rightP at hr; omega
    have hq : 0 ≤ o.qty := by unfold rightP at hr; omega
    have M := match_sub (B.side (3 - o.side)) o B.last B.no (hw.side _).1 hq
    have A := add_is hs h0
    have S := hg.side hs
    generalize matchL o (B.side (3 - o.side)) B.last B.no = m at *
    obtain ⟨k, hk⟩ := M.ps
    have S2 := sdOk_match S hk M.sub
    refine Gd.of hs ?_
    rw [A.theirs, A.mine]
    split
    · rename_i hc
      simp only [Bool.and_eq_true, decide_eq_true_eq, Bool.not_eq_true'] at hc
      have hk2 : o.kind ≠ 2 := by have := rests_kind hc.2; omega
      have := apart_of (o := o) hk2 hs S2.s2 (M.stop hc.1.1 hc.1.2)
      exact sdOk_rest (o := wqs o m.qty (min o.show_ m.qty)) S2 this
    · exact S2
  · rw [refused_is h0]; exact hg
theorem bfill_Gd (rs : List (List Int)) (k : Nat) : Gd (bfill rs k) :=
  (bfill_ind (I := fun B => BW B ∧ 0 ≤ B.no ∧ Gd B) ⟨empty_BW, (by show (0 : Int) ≤ 0; decide), empty_Gd⟩ (fun r B h => ⟨(badd_BW h.1 h.2.1).1, by have := (badd_BW (o := kO r) h.1 h.2.1).2; omega, badd_Gd h.1 h.2.2 (kO_right r).1⟩) rs k).2.2
end Go.Proofs.Ytiilndlgfgikbaa
