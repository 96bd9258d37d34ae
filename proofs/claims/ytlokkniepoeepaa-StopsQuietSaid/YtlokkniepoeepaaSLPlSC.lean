/- Contracts of functions of the given program over its translation, each proved by walking its text; used by the laws' rows. It proves no given statement by itself. -/
import Derived.Test.YtlokkniepoeepaaSLPlC
import Derived.Test.YtlokkniepoeepaaSLSlcOX
import Derived.Test.YtlokkniepoeepaaSLStK
import Derived.Test.YtlokkniepoeepaaSLSt6
set_option autoImplicit false
set_option linter.unusedSectionVars false
set_option linter.unusedSimpArgs false
set_option linter.unusedVariables false
set_option maxRecDepth 4000
set_option maxHeartbeats 16000000
namespace Go.Proofs.Ytlokkniepoeepaa
open Go Go.SL Go.Proofs
/-- What an outcome takes away; of an order that was refused at once nothing. -/
def goneO (first : Bool) (x : Out) : Int := 2 * sumF x.fs + (if x.rests = false ∧ x.waits = false ∧ (first = false ∨ x.err = 0) then x.left else 0)
def goneL : Bool → List Out → Int
  | _, [] => 0
  | b, x :: r => goneO b x + goneL false r
def cameO (x : Out) : Int := if x.err = 0 then x.order.qty else 0
def cameL : List Out → Int
  | [] => 0
  | x :: _ => cameO x
def sumB (B : Bk) : Int := sumO (ordersL (B.side 1)) + sumO (ordersL (B.side 2))
def sumM (M : Mk) : Int := sumB M.B + sumO M.W
theorem sumM_all (M : Mk) : sumO (mall M) = sumM M := by
  unfold mall sumM sumB
  rw [sumO_append, sumO_append]; omega
theorem sumB_side (B : Bk) {s : Int} (hs : s = 1 ∨ s = 2) : sumB B = sumO (ordersL (B.side s)) + sumO (ordersL (B.side (3 - s))) := by
  rcases hs with rfl | rfl
  · rfl
  · unfold sumB
    show _ = sumO (ordersL (B.side 2)) + sumO (ordersL (B.side 1)); omega
theorem goneL_take : ∀ (l : List Out) (b : Bool) (k : Nat) (x : Out), l[k]? = some x → goneL b (l.take (k + 1)) = goneL b (l.take k) + goneO (b && decide (k = 0)) x
  | [], _, _, _, h => by simp at h
  | y :: r, b, 0, x, h => by
    simp only [List.getElem?_cons_zero, Option.some.injEq] at h
    subst h
    simp [goneL]
  | y :: r, b, k + 1, x, h => by
    simp only [List.getElem?_cons_succ] at h
    have ih := goneL_take r false k x h
    simp only [List.take_succ_cons, goneL, ih]
    simp; omega
/-- An outcome's numbers. -/
structure OutOk (x : Out) : Prop where
  part : ∀ i, 0 ≤ sumF (x.fs.take i) ∧ sumF (x.fs.take i) ≤ sumF x.fs
  got : 0 ≤ sumF x.fs ∧ sumF x.fs ≤ x.order.qty
  left : x.left = x.order.qty - sumF x.fs
  qty : 1 ≤ x.order.qty ∧ x.order.qty ≤ 1048576
  num : x.fs.length ≤ 1048576
  each : ∀ f ∈ x.fs, 1 ≤ f.qty ∧ f.qty ≤ 1048576
theorem goneO_pos {x : Out} (h : OutOk x) (b : Bool) : 0 ≤ goneO b x ∧ goneO b x ≤ 2 * x.order.qty := by
  have h1 := h.got
  have h2 := h.left
  unfold goneO
  split <;> omega
theorem goneL_part {l : List Out} (h : ∀ x ∈ l, OutOk x) : ∀ (b : Bool) (k : Nat), 0 ≤ goneL b (l.take k) ∧ goneL b (l.take k) ≤ goneL b l := by
  induction l with
  | nil => intro b k; simp [goneL]
  | cons x l ih =>
    intro b k
    have hx := goneO_pos (h x (List.mem_cons_self ..)) b
    have h2 := fun k => ih (fun y m => h y (List.mem_cons_of_mem _ m)) false k
    cases k with
    | zero =>
      have := h2 l.length
      rw [List.take_length] at this
      simp only [List.take_zero, goneL]; omega
    | succ k =>
      have := h2 k
      simp only [List.take_succ_cons, goneL]; omega
variable [Base]
theorem badd_waits (o : Ord) (B : Bk) : (badd o B).1.waits = false := by
  unfold badd
  split <;> rfl
theorem badd_order' (o : Ord) (B : Bk) : (badd o B).1.order = o := by
  unfold badd
  split <;> rfl
theorem fls_each {firm oth no q : Int} {l : List Fl} (h : FlsOk firm oth no q l) (hq : sumF l ≤ q) (hq2 : q ≤ 1048576) : ∀ f ∈ l, 1 ≤ f.qty ∧ f.qty ≤ 1048576 := by
  intro f hf
  obtain ⟨i, hi, e⟩ := List.getElem_of_mem hf
  have hx : l[i]? = some f := by rw [List.getElem?_eq_getElem hi, e]
  have h1 := flsOk_at h hx
  have h2 := sumF_take hx
  have h3 := flsOk_le h i
  have h4 := flsOk_le h (i + 1)
  omega
theorem enter_ok {o : Ord} {B : Bk} (hw : BW B) (hg : Gd B) (hr : rightP o) : OutOk (menter o B).1 := by
  have hb := bare_right hr
  have C := count_is hw hg hb
  have hq : 1 ≤ o.qty ∧ o.qty ≤ 1048576 := by unfold rightP at hr; omega
  exact ⟨fun i => flsOk_le C.chain i, C.got, C.left, hq, C.num, fls_each C.chain (by have := C.got; exact this.2) hq.2⟩
theorem enter_counts {o : Ord} {B : Bk} (hw : BW B) (hg : Gd B) (hr : rightP o) :
    sumB (menter o B).2 + goneO false (menter o B).1 = sumB B + o.qty ∧ sumB (menter o B).2 + goneO true (menter o B).1 = sumB B + cameO (menter o B).1 := by
  have hb := bare_right hr
  have hs : (bare o).side = 1 ∨ (bare o).side = 2 := by unfold rightP at hb; omega
  have C := count_is hw hg hb
  have hwt := badd_waits (bare o) B
  have e1 := sumB_side B hs
  have e2 := sumB_side (badd (bare o) B).2 hs
  have c1 := C.mine
  have c2 := C.theirs
  have c3 := C.left
  have c4 := C.err
  have eq : (bare o).qty = o.qty := rfl
  unfold menter goneO cameO
  dsimp only
  rw [hwt, e1, e2, c1, c2]
  generalize badd (bare o) B = X at *
  rw [eq] at c3
  cases hrs : X.1.rests with
  | true =>
    have he : X.1.err = 0 := by
      apply Classical.byContradiction
      intro h
      have := (c4 h).2.2.1
      rw [hrs] at this; cases this
    rw [if_pos rfl, if_neg (by simp), if_neg (by simp), if_pos he]
    omega
  | false =>
    rw [if_neg (by simp), if_pos (by simp)]
    by_cases he : X.1.err = 0
    · rw [if_pos (by simp [he]), if_pos he]; omega
    · rw [if_neg (by simp [he]), if_neg he]
      have h := c4 he
      rw [h.1] at c3 ⊢
      simp only [sumF] at c3 ⊢
      omega
theorem menter_Gd {o : Ord} {B : Bk} (hw : BW B) (hg : Gd B) (hr : rightP o) : Gd (menter o B).2 := badd_Gd hw hg (bare_right hr)
theorem sumO_cut {W : List Ord} {k : Nat} {o : Ord} (h : W[k]? = some o) : sumO (W.take k ++ W.drop (k + 1)) + o.qty = sumO W := by
  have hk := (List.getElem?_eq_some_iff.1 h).1
  have e : W[k] = o := (List.getElem?_eq_some_iff.1 h).2
  have hs : W = W.take k ++ o :: W.drop (k + 1) := by
    conv => lhs; rw [← List.take_append_drop k W, List.drop_eq_getElem_cons hk, e]
  conv => rhs; rw [hs]
  rw [sumO_append, sumO_append]
  show _ + sumO _ + o.qty = _ + (o.qty + sumO _)
  omega
theorem trig_counts : ∀ (n : Nat) (M : Mk), MW M → Gd M.B → Gd (mtrig n M).2.B ∧ sumM (mtrig n M).2 + goneL false (mtrig n M).1 = sumM M ∧ ∀ x ∈ (mtrig n M).1, OutOk x
  | 0, M, _, hg => ⟨hg, by unfold mtrig goneL; dsimp only; omega, fun _ m => nomatch m⟩
  | n + 1, M, h, hg => by
    unfold mtrig
    cases hf : M.W.findIdx? (fun o => hit o M.B.last) with
    | none => exact ⟨hg, by unfold goneL; dsimp only; omega, fun _ m => nomatch m⟩
    | some k =>
      dsimp only
      cases ho : M.W[k]? with
      | none => exact ⟨hg, by unfold goneL; dsimp only; omega, fun _ m => nomatch m⟩
      | some o =>
        dsimp only
        have hr := h.w o (List.mem_of_getElem? ho)
        have e := menter_ok (o := o) h.b h.no
        have hc := cut_len ho
        have hl := h.len
        have hn := h.no
        unfold mlen at hl
        have hw2 : MW ⟨(menter o M.B).2, M.W.take k ++ M.W.drop (k + 1)⟩ := ⟨e.1, by show 0 ≤ (menter o M.B).2.no; omega, by
          unfold mlen
          have := e.2.2.2
          dsimp only
          split at this <;> omega, fun x m => h.w x (cut_mem m)⟩
        obtain ⟨i1, i2, i3⟩ := trig_counts n _ hw2 (menter_Gd h.b hg hr)
        have c := (enter_counts h.b hg hr).1
        have hcut := sumO_cut ho
        refine ⟨i1, ?_, fun x m => ?_⟩
        · unfold sumM at i2 ⊢
          simp only [goneL]
          dsimp only at i2
          omega
        · rcases List.mem_cons.1 m with rfl | m
          · exact enter_ok h.b hg hr
          · exact i3 x m
/-- What a market takes in is what goes, and what is there. -/
theorem add_counts {o : Ord} {M : Mk} (h : MW M) (hg : Gd M.B) (hr : rightP o) : Gd (madd o M).2.B ∧ sumM (madd o M).2 + goneL true (madd o M).1 = sumM M + cameL (madd o M).1 ∧ ∀ x ∈ (madd o M).1, OutOk x := by
  have hq : 1 ≤ o.qty ∧ o.qty ≤ 1048576 := by unfold rightP at hr; omega
  have hf : Gd (mfirst o M).2.B ∧ sumM (mfirst o M).2 + goneO true (mfirst o M).1 = sumM M + cameO (mfirst o M).1 ∧ OutOk (mfirst o M).1 := by
    unfold mfirst
    split
    · rename_i hne
      refine ⟨hg, ?_, ⟨fun i => by simp [sumF], by show (0 : Int) ≤ 0 ∧ (0 : Int) ≤ o.qty; omega, by show o.qty = o.qty - 0; omega, hq, Nat.zero_le _, fun _ m => nomatch m⟩⟩
      unfold goneO cameO
      dsimp only
      rw [if_neg (by simp [hne]), if_neg hne]
      simp [sumF]
    · split
      · refine ⟨hg, ?_, ⟨fun i => by simp [sumF], by show (0 : Int) ≤ 0 ∧ (0 : Int) ≤ o.qty; omega, by show o.qty = o.qty - 0; omega, hq, Nat.zero_le _, fun _ m => nomatch m⟩⟩
        unfold goneO cameO sumM
        dsimp only
        rw [if_neg (by simp), if_pos rfl, sumO_append]
        simp only [sumF, sumO]; omega
      · have c := (enter_counts h.b hg hr).2
        refine ⟨menter_Gd h.b hg hr, ?_, enter_ok h.b hg hr⟩
        unfold sumM
        dsimp only
        omega
  obtain ⟨f1, f2, f3⟩ := hf
  have hw := (mfirst_ok (o := o) h).1
  obtain ⟨i1, i2, i3⟩ := trig_counts (mfirst o M).2.W.length _ hw f1
  unfold madd
  refine ⟨i1, ?_, fun x m => ?_⟩
  · simp only [goneL, cameL]; omega
  · rcases List.mem_cons.1 m with rfl | m
    · exact f3
    · exact i3 x m
theorem sumM_pos {M : Mk} (h : MW M) : (∀ i, 0 ≤ sumO ((mall M).take i) ∧ sumO ((mall M).take i) ≤ 1048576 * ((mall M).length : Nat)) ∧ ∀ x ∈ mall M, 1 ≤ x.qty ∧ x.qty ≤ 1048576 := by
  have he : ∀ x ∈ mall M, 1 ≤ x.qty ∧ x.qty ≤ 1048576 := by
    intro x m
    unfold mall at m
    rcases List.mem_append.1 m with m | m
    · exact orders_qty (h.b.side 1).1 m
    · rcases List.mem_append.1 m with m | m
      · exact orders_qty (h.b.side 2).1 m
      · have := h.w x m
        unfold rightP at this; omega
  exact ⟨fun i => sumO_part he i, he⟩
theorem cameL_in {l : List Out} (h : ∀ x ∈ l, OutOk x) : 0 ≤ cameL l ∧ cameL l ≤ 1048576 := by
  match l, h with
  | [], _ => simp [cameL]
  | y :: r, h =>
    have hq := (h y (List.mem_cons_self ..)).qty
    show 0 ≤ cameO y ∧ cameO y ≤ 1048576
    unfold cameO
    split <;> omega
end Go.Proofs.Ytlokkniepoeepaa
