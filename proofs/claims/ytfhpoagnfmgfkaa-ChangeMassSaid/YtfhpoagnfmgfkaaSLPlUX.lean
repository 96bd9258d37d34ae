/- Contracts of functions of the given program over its translation, each proved by walking its text; used by the laws' rows. It proves no given statement by itself. -/
import Derived.Test.YtfhpoagnfmgfkaaSLPlKX
import Derived.Test.YtfhpoagnfmgfkaaSLSlcOX
import Derived.Test.YtfhpoagnfmgfkaaSLStK
import Derived.Test.YtfhpoagnfmgfkaaSLSt6
import Derived.Test.YtfhpoagnfmgfkaaSLBk5X
set_option autoImplicit false
set_option linter.unusedSectionVars false
set_option linter.unusedSimpArgs false
set_option linter.unusedVariables false
set_option maxRecDepth 4000
namespace Go.Proofs.Ytfhpoagnfmgfkaa
open Go Go.SL Go.Proofs
theorem orders_mem {l : List Lv} {x : Ord} : x ∈ ordersL l ↔ ∃ lv ∈ l, ∃ e ∈ lv.es, e.o = x := by
  induction l with
  | nil => simp [ordersL]
  | cons y l ih => simp [ordersL, ih]
theorem orders_price {s : Int} {l : List Lv} (h : AtS s l) {x : Ord} (hx : x ∈ ordersL l) : x.side = s ∧ ∃ lv ∈ l, x.price = lv.p := by
  obtain ⟨lv, m, e, me, rfl⟩ := orders_mem.1 hx
  exact ⟨(h lv m e me).1, lv, m, (h lv m e me).2⟩
theorem orders_sorted {s : Int} : ∀ {l : List Lv}, Srt s l → AtS s l → (ordersL l).Pairwise (fun a b => better s b.price a.price = false)
  | [], _, _ => .nil
  | lv :: r, h1, h2 => by
    have hp := List.pairwise_cons.1 h1
    have ha : AtS s r := fun x m => h2 x (List.mem_cons_of_mem _ m)
    refine List.pairwise_append.2 ⟨?_, orders_sorted hp.2 ha, fun x mx y my => ?_⟩
    · refine List.Pairwise.imp_of_mem (R := fun _ _ => True) (fun {x y} hx hy _ => ?_) (List.pairwise_of_forall fun _ _ => trivial)
      obtain ⟨e, me, rfl⟩ := List.mem_map.1 hx
      obtain ⟨f, mf, rfl⟩ := List.mem_map.1 hy
      rw [(h2 lv (List.mem_cons_self ..) e me).2, (h2 lv (List.mem_cons_self ..) f mf).2]; exact better_self _ _
    · obtain ⟨e, me, rfl⟩ := List.mem_map.1 mx
      obtain ⟨-, z, mz, hz⟩ := orders_price ha my
      rw [(h2 lv (List.mem_cons_self ..) e me).2, hz]
      exact better_not (hp.1 z.p (List.mem_map_of_mem mz))
theorem sorted_at {s : Int} {l : List Ord} (h : l.Pairwise (fun a b => better s b.price a.price = false)) {i j : Nat} {x y : Ord} (hx : l[i]? = some x) (hy : l[j]? = some y) (hij : i < j) : better s y.price x.price = false := by
  obtain ⟨hi, rfl⟩ := List.getElem?_eq_some_iff.1 hx
  obtain ⟨hj, rfl⟩ := List.getElem?_eq_some_iff.1 hy
  exact List.pairwise_iff_getElem.1 h i j hi hj hij
theorem gd_apart {B : Bk} (h : Gd B) {x y : Ord} (hx : x ∈ ordersL (B.side 1)) (hy : y ∈ ordersL (B.side 2)) : x.price < y.price := by
  obtain ⟨-, a, ma, ea⟩ := orders_price h.a1 hx
  obtain ⟨-, b, mb, eb⟩ := orders_price (s := 2) h.a2 hy
  have := h.ap a ma b mb
  rw [ea, eb]
  simpa [better] using this
def sumO : List Ord → Int
  | [] => 0
  | o :: r => o.qty + sumO r
theorem sumO_append (l m : List Ord) : sumO (l ++ m) = sumO l + sumO m := by
  induction l with
  | nil => simp [sumO]
  | cons x l ih => simp only [List.cons_append, sumO, ih]; omega
theorem sumO_orders (l : List Lv) : sumO (ordersL l) = sumL l := by
  induction l with
  | nil => rfl
  | cons x l ih =>
    simp only [ordersL, sumO_append, ih, sumL]
    congr 1
    induction x.es with
    | nil => rfl
    | cons e es ih => simp only [List.map_cons, sumO, sumE, ih]
theorem sumO_take {l : List Ord} {i : Nat} {x : Ord} (h : l[i]? = some x) : sumO (l.take (i + 1)) = sumO (l.take i) + x.qty := by
  have hi := (List.getElem?_eq_some_iff.1 h).1
  have hx := (List.getElem?_eq_some_iff.1 h).2
  rw [List.take_succ_eq_append_getElem hi, sumO_append, hx]; simp [sumO]
theorem orders_qty {l : List Lv} (h : ∀ lv ∈ l, lv.Ok) {x : Ord} (hx : x ∈ ordersL l) : 1 ≤ x.qty ∧ x.qty ≤ 1048576 := by
  obtain ⟨lv, m, e, me, rfl⟩ := orders_mem.1 hx
  have := (h lv m).1.2 e me
  omega
theorem sumO_part {l : List Ord} (h : ∀ x ∈ l, 1 ≤ x.qty ∧ x.qty ≤ 1048576) (i : Nat) : 0 ≤ sumO (l.take i) ∧ sumO (l.take i) ≤ 1048576 * (l.length : Nat) := by
  have gen : ∀ m : List Ord, (∀ x ∈ m, 1 ≤ x.qty ∧ x.qty ≤ 1048576) → 0 ≤ sumO m ∧ sumO m ≤ 1048576 * (m.length : Nat) := by
    intro m hm
    induction m with
    | nil => exact ⟨Int.le_refl _, Int.le_refl _⟩
    | cons y m ih =>
      have h1 := ih fun z hz => hm z (List.mem_cons_of_mem _ hz)
      have h2 := hm y (List.mem_cons_self ..)
      simp only [sumO, List.length_cons]; push_cast; omega
  have h1 := gen (l.take i) fun x m => h x (List.mem_of_mem_take m)
  have : (l.take i).length ≤ l.length := by rw [List.length_take]; omega
  omega
end Go.Proofs.Ytfhpoagnfmgfkaa

set_option autoImplicit false
set_option linter.unusedSectionVars false
set_option linter.unusedSimpArgs false
set_option linter.unusedVariables false
set_option maxRecDepth 4000
set_option maxHeartbeats 16000000
namespace Go.Proofs.Ytfhpoagnfmgfkaa
open Go Go.SL Go.Proofs
theorem sumF_take {l : List Fl} {i : Nat} {x : Fl} (h : l[i]? = some x) : sumF (l.take (i + 1)) = sumF (l.take i) + x.qty := by
  have hi := (List.getElem?_eq_some_iff.1 h).1
  have hx := (List.getElem?_eq_some_iff.1 h).2
  rw [List.take_succ_eq_append_getElem hi, sumF_append, hx]; simp [sumF]
/-- One trade of a chain. -/
theorem flsOk_at {firm oth no q : Int} {l : List Fl} (h : FlsOk firm oth no q l) {i : Nat} {f : Fl} (hf : l[i]? = some f) : 1 ≤ f.qty ∧ f.maker.firm ≠ firm ∧ f.maker.side = oth ∧ f.no = no + i + 1 ∧ f.price = f.maker.price ∧ f.taker.qty = q - sumF (l.take i) := by
  have hi := (List.getElem?_eq_some_iff.1 hf).1
  have e : l = l.take i ++ f :: l.drop (i + 1) := by rw [← drop_cons hf, List.take_append_drop]
  rw [e] at h
  have h2 := ((flsOk_append _ _ _ _).1 h).2
  rw [List.length_take, Nat.min_eq_left (by omega)] at h2
  exact ⟨h2.1, h2.2.1, h2.2.2.1, h2.2.2.2.1, h2.2.2.2.2.1, h2.2.2.2.2.2.1⟩
theorem flsOk_le {firm oth : Int} : ∀ {l : List Fl} {no q : Int}, FlsOk firm oth no q l → ∀ i, 0 ≤ sumF (l.take i) ∧ sumF (l.take i) ≤ sumF l
  | [], _, _, _, i => by simp [sumF]
  | f :: r, no, q, h, 0 => by
    have := flsOk_le h.2.2.2.2.2.2 r.length
    rw [List.take_length] at this
    have h1 := h.1
    simp only [List.take_zero, sumF]; omega
  | f :: r, no, q, h, i + 1 => by
    have := flsOk_le h.2.2.2.2.2.2 i
    have h1 := h.1
    simp only [List.take_succ_cons, sumF]; omega
variable [Base]
/-- What is so of what comes of an order. -/
structure CountIs (o : Ord) (B : Bk) : Prop where
  chain : FlsOk o.firm (3 - o.side) B.no o.qty (badd o B).1.fs
  num : (badd o B).1.fs.length ≤ 1048576
  got : 0 ≤ sumF (badd o B).1.fs ∧ sumF (badd o B).1.fs ≤ o.qty
  err : (badd o B).1.err ≠ 0 → (badd o B).1.fs = [] ∧ (badd o B).1.left = o.qty ∧ (badd o B).1.rests = false ∧ (badd o B).2 = B
  left : (badd o B).1.left = o.qty - sumF (badd o B).1.fs
  mine : sumO (ordersL ((badd o B).2.side o.side)) = sumO (ordersL (B.side o.side)) + (if (badd o B).1.rests = true then (badd o B).1.left else 0)
  theirs : sumO (ordersL ((badd o B).2.side (3 - o.side))) = sumO (ordersL (B.side (3 - o.side))) - sumF (badd o B).1.fs
  no : (badd o B).2.no = B.no + (badd o B).1.fs.length
theorem count_is {o : Ord} {B : Bk} (hw : BW B) (hg : Gd B) (hr : rightP o) : CountIs o B := by
  have hs : o.side = 1 ∨ o.side = 2 := by unfold rightP at hr; omega
  have hq : 1 ≤ o.qty ∧ o.qty ≤ 1048576 := by unfold rightP at hr; omega
  by_cases h0 : brefused o B = 0
  · have hok := (hw.side (3 - o.side)).1
    have M := match_sub (B.side (3 - o.side)) o B.last B.no hok (by omega)
    have MI := match_is (B.side (3 - o.side)) o B.last B.no hok (by omega)
    have MF := match_fls (oth := 3 - o.side) (B.side (3 - o.side)) o B.last B.no hok (hg.side hs).a2 (by omega)
    have A := add_is hs h0
    generalize matchL o (B.side (3 - o.side)) B.last B.no = m at *
    obtain ⟨a1, a2, a3, a4, a5⟩ := A
    have e1 := M.qty
    have e2 := M.sum
    have e3 := MI.qty
    have e4 := MI.num
    refine ⟨?_, ?_, ?_, ?_, ?_, ?_, ?_, ?_⟩
    · rw [a1]; exact MF
    · rw [a1]; show m.fs.length ≤ _; omega
    · rw [a1]; show 0 ≤ sumF m.fs ∧ sumF m.fs ≤ _; omega
    · rw [a1]; intro h; exact absurd rfl h
    · rw [a1]; exact e1
    · rw [a3, a1]
      dsimp only
      split
      · rw [sumO_orders, sumO_orders, restL_sum]; rfl
      · omega
    · rw [a2, a1, sumO_orders, sumO_orders]; show sumL m.lvs = _ - sumF m.fs; omega
    · rw [a5, a1]; exact MI.no
  · have e := refused_is h0
    refine ⟨?_, ?_, ?_, ?_, ?_, ?_, ?_, ?_⟩
    all_goals rw [e]
    · trivial
    · exact Nat.zero_le _
    · show (0 : Int) ≤ 0 ∧ (0 : Int) ≤ o.qty; omega
    · intro _; exact ⟨rfl, rfl, rfl, rfl⟩
    · show o.qty = o.qty - 0; omega
    · show _ = _ + (if false = true then o.qty else 0); simp
    · simp [sumF]
    · show B.no = B.no + ((0 : Nat) : Int); omega
end Go.Proofs.Ytfhpoagnfmgfkaa

set_option autoImplicit false
set_option linter.unusedSectionVars false
set_option linter.unusedSimpArgs false
set_option linter.unusedVariables false
set_option maxRecDepth 4000
set_option maxHeartbeats 16000000
namespace Go.Proofs.Ytfhpoagnfmgfkaa
open Go Go.SL Go.Proofs
/-- What an outcome takes away; of an order that was refused at once nothing. -/
def goneO (first : Bool) (x : Out) : Int := 2 * sumF x.fs + (if x.rests = false ∧ x.waits = false ∧ (first = false ∨ x.err = 0) then x.left else 0)
def goneL : Bool → List Out → Int
  | _, [] => 0
  | b, x :: r => goneO b x + goneL false r
def cameO (x : Out) : Int := if x.err = 0 then x.order.qty else 0
def cameL : List Out → Int
  | [] => 0
  | x :: _ => cameO x
def sumB (B : Bk) : Int := sumO (ordersL (B.side 1)) + sumO (ordersL (B.side 2))
def sumM (M : Mk) : Int := sumB M.B + sumO M.W
theorem sumM_all (M : Mk) : sumO (mall M) = sumM M := by
  unfold mall sumM sumB
  rw [sumO_append, sumO_append]; omega
theorem sumB_side (B : Bk) {s : Int} (hs : s = 1 ∨ s = 2) : sumB B = sumO (ordersL (B.side s)) + sumO (ordersL (B.side (3 - s))) := by
  rcases hs with rfl | rfl
  · rfl
  · unfold sumB
    show _ = sumO (ordersL (B.side 2)) + sumO (ordersL (B.side 1)); omega
theorem goneL_take : ∀ (l : List Out) (b : Bool) (k : Nat) (x : Out), l[k]? = some x → goneL b (l.take (k + 1)) = goneL b (l.take k) + goneO (b && decide (k = 0)) x
  | [], _, _, _, h => by simp at h
  | y :: r, b, 0, x, h => by
    simp only [List.getElem?_cons_zero, Option.some.injEq] at h
    subst h
    simp [goneL]
  | y :: r, b, k + 1, x, h => by
    simp only [List.getElem?_cons_succ] at h
    have ih := goneL_take r false k x h
    simp only [List.take_succ_cons, goneL, ih]
    simp; omega
/-- An outcome's numbers. -/
structure OutOk (x : Out) : Prop where
  part : ∀ i, 0 ≤ sumF (x.fs.take i) ∧ sumF (x.fs.take i) ≤ sumF x.fs
  got : 0 ≤ sumF x.fs ∧ sumF x.fs ≤ x.order.qty
  left : x.left = x.order.qty - sumF x.fs
  qty : 1 ≤ x.order.qty ∧ x.order.qty ≤ 1048576
  num : x.fs.length ≤ 1048576
  each : ∀ f ∈ x.fs, 1 ≤ f.qty ∧ f.qty ≤ 1048576
theorem goneO_pos {x : Out} (h : OutOk x) (b : Bool) : 0 ≤ goneO b x ∧ goneO b x ≤ 2 * x.order.qty := by
  have h1 := h.got
  have h2 := h.left
  unfold goneO
  split <;> omega
theorem goneL_part {l : List Out} (h : ∀ x ∈ l, OutOk x) : ∀ (b : Bool) (k : Nat), 0 ≤ goneL b (l.take k) ∧ goneL b (l.take k) ≤ goneL b l := by
  induction l with
  | nil => intro b k; simp [goneL]
  | cons x l ih =>
    intro b k
    have hx := goneO_pos (h x (List.mem_cons_self ..)) b
    have h2 := fun k => ih (fun y m => h y (List.mem_cons_of_mem _ m)) false k
    cases k with
    | zero =>
      have := h2 l.length
      rw [List.take_length] at this
      simp only [List.take_zero, goneL]; omega
    | succ k =>
      have := h2 k
      simp only [List.take_succ_cons, goneL]; omega
variable [Base]
theorem badd_waits (o : Ord) (B : Bk) : (badd o B).1.waits = false := by
  unfold badd
  split <;> rfl
theorem badd_order' (o : Ord) (B : Bk) : (badd o B).1.order = o := by
  unfold badd
  split <;> rfl
theorem fls_each {firm oth no q : Int} {l : List Fl} (h : FlsOk firm oth no q l) (hq : sumF l ≤ q) (hq2 : q ≤ 1048576) : ∀ f ∈ l, 1 ≤ f.qty ∧ f.qty ≤ 1048576 := by
  intro f hf
  obtain ⟨i, hi, e⟩ := List.getElem_of_mem hf
  have hx : l[i]? = some f := by rw [List.getElem?_eq_getElem hi, e]
  have h1 := flsOk_at h hx
  have h2 := sumF_take hx
  have h3 := flsOk_le h i
  have h4 := flsOk_le h (i + 1)
  omega
theorem enter_ok {o : Ord} {B : Bk} (hw : BW B) (hg : Gd B) (hr : rightP o) : OutOk (menter o B).1 := by
  have hb := bare_right hr
  have C := count_is hw hg hb
  have hq : 1 ≤ o.qty ∧ o.qty ≤ 1048576 := by unfold rightP at hr; omega
  exact ⟨fun i => flsOk_le C.chain i, C.got, C.left, hq, C.num, fls_each C.chain (by have := C.got; exact this.2) hq.2⟩
theorem enter_counts {o : Ord} {B : Bk} (hw : BW B) (hg : Gd B) (hr : rightP o) :
    sumB (menter o B).2 + goneO false (menter o B).1 = sumB B + o.qty ∧ sumB (menter o B).2 + goneO true (menter o B).1 = sumB B + cameO (menter o B).1 := by
  have hb := bare_right hr
  have hs : (bare o).side = 1 ∨ (bare o).side = 2 := by unfold rightP at hb; omega
  have C := count_is hw hg hb
  have hwt := badd_waits (bare o) B
  have e1 := sumB_side B hs
  have e2 := sumB_side (badd (bare o) B).2 hs
  have c1 := C.mine
  have c2 := C.theirs
  have c3 := C.left
  have c4 := C.err
  have eq : (bare o).qty = o.qty := rfl
  unfold menter goneO cameO
  dsimp only
  rw [hwt, e1, e2, c1, c2]
  generalize badd (bare o) B = X at *
  rw [eq] at c3
  cases hrs : X.1.rests with
  | true =>
    have he : X.1.err = 0 := by
      apply Classical.byContradiction
      intro h
      have := (c4 h).2.2.1
      rw [hrs] at this; cases this
    rw [if_pos rfl, if_neg (by simp), if_neg (by simp), if_pos he]
    omega
  | false =>
    rw [if_neg (by simp), if_pos (by simp)]
    by_cases he : X.1.err = 0
    · rw [if_pos (by simp [he]), if_pos he]; omega
    · rw [if_neg (by simp [he]), if_neg he]
      have h := c4 he
      rw [h.1] at c3 ⊢
      simp only [sumF] at c3 ⊢
      omega
theorem menter_Gd {o : Ord} {B : Bk} (hw : BW B) (hg : Gd B) (hr : rightP o) : Gd (menter o B).2 := badd_Gd hw hg (bare_right hr)
theorem sumO_cut {W : List Ord} {k : Nat} {o : Ord} (h : W[k]? = some o) : sumO (W.take k ++ W.drop (k + 1)) + o.qty = sumO W := by
  have hk := (List.getElem?_eq_some_iff.1 h).1
  have e : W[k] = o := (List.getElem?_eq_some_iff.1 h).2
  have hs : W = W.take k ++ o :: W.drop (k + 1) := by
    conv => lhs; rw [← List.take_append_drop k W, List.drop_eq_getElem_cons hk, e]
  conv => rhs; rw [hs]
  rw [sumO_append, sumO_append]
  show _ + sumO _ + o.qty = _ + (o.qty + sumO _)
  omega
theorem trig_counts : ∀ (n : Nat) (M : Mk), MW M → Gd M.B → Gd (mtrig n M).2.B ∧ sumM (mtrig n M).2 + goneL false (mtrig n M).1 = sumM M ∧ ∀ x ∈ (mtrig n M).1, OutOk x
  | 0, M, _, hg => ⟨hg, by unfold mtrig goneL; dsimp only; omega, fun _ m => nomatch m⟩
  | n + 1, M, h, hg => by
    unfold mtrig
    cases hf : M.W.findIdx? (fun o => hit o M.B.last) with
    | none => exact ⟨hg, by unfold goneL; dsimp only; omega, fun _ m => nomatch m⟩
    | some k =>
      dsimp only
      cases ho : M.W[k]? with
      | none => exact ⟨hg, by unfold goneL; dsimp only; omega, fun _ m => nomatch m⟩
      | some o =>
        dsimp only
        have hr := h.w o (List.mem_of_getElem? ho)
        have e := menter_ok (o := o) h.b h.no
        have hc := cut_len ho
        have hl := h.len
        have hn := h.no
        unfold mlen at hl
        have hw2 : MW ⟨(menter o M.B).2, M.W.take k ++ M.W.drop (k + 1)⟩ := ⟨e.1, by show 0 ≤ (menter o M.B).2.no; omega, by
          unfold mlen
          have := e.2.2.2
          dsimp only
          split at this <;> omega, fun x m => h.w x (cut_mem m)⟩
        obtain ⟨i1, i2, i3⟩ := trig_counts n _ hw2 (menter_Gd h.b hg hr)
        have c := (enter_counts h.b hg hr).1
        have hcut := sumO_cut ho
        refine ⟨i1, ?_, fun x m => ?_⟩
        · unfold sumM at i2 ⊢
          simp only [goneL]
          dsimp only at i2
          omega
        · rcases List.mem_cons.1 m with rfl | m
          · exact enter_ok h.b hg hr
          · exact i3 x m
/-- What a market takes in is what goes, and what is there. -/
theorem add_counts {o : Ord} {M : Mk} (h : MW M) (hg : Gd M.B) (hr : rightP o) : Gd (madd o M).2.B ∧ sumM (madd o M).2 + goneL true (madd o M).1 = sumM M + cameL (madd o M).1 ∧ ∀ x ∈ (madd o M).1, OutOk x := by
  have hq : 1 ≤ o.qty ∧ o.qty ≤ 1048576 := by unfold rightP at hr; omega
  have hf : Gd (mfirst o M).2.B ∧ sumM (mfirst o M).2 + goneO true (mfirst o M).1 = sumM M + cameO (mfirst o M).1 ∧ OutOk (mfirst o M).1 := by
    unfold mfirst
    split
    · rename_i hne
      refine ⟨hg, ?_, ⟨fun i => by simp [sumF], by show (0 : Int) ≤ 0 ∧ (0 : Int) ≤ o.qty; omega, by show o.qty = o.qty - 0; omega, hq, Nat.zero_le _, fun _ m => nomatch m⟩⟩
      unfold goneO cameO
      dsimp only
      rw [if_neg (by simp [hne]), if_neg hne]
      simp [sumF]
    · split
      · refine ⟨hg, ?_, ⟨fun i => by simp [sumF], by show (0 : Int) ≤ 0 ∧ (0 : Int) ≤ o.qty; omega, by show o.qty = o.qty - 0; omega, hq, Nat.zero_le _, fun _ m => nomatch m⟩⟩
        unfold goneO cameO sumM
        dsimp only
        rw [if_neg (by simp), if_pos rfl, sumO_append]
        simp only [sumF, sumO]; omega
      · have c := (enter_counts h.b hg hr).2
        refine ⟨menter_Gd h.b hg hr, ?_, enter_ok h.b hg hr⟩
        unfold sumM
        dsimp only
        omega
  obtain ⟨f1, f2, f3⟩ := hf
  have hw := (mfirst_ok (o := o) h).1
  obtain ⟨i1, i2, i3⟩ := trig_counts (mfirst o M).2.W.length _ hw f1
  unfold madd
  refine ⟨i1, ?_, fun x m => ?_⟩
  · simp only [goneL, cameL]; omega
  · rcases List.mem_cons.1 m with rfl | m
    · exact f3
    · exact i3 x m
theorem sumM_pos {M : Mk} (h : MW M) : (∀ i, 0 ≤ sumO ((mall M).take i) ∧ sumO ((mall M).take i) ≤ 1048576 * ((mall M).length : Nat)) ∧ ∀ x ∈ mall M, 1 ≤ x.qty ∧ x.qty ≤ 1048576 := by
  have he : ∀ x ∈ mall M, 1 ≤ x.qty ∧ x.qty ≤ 1048576 := by
    intro x m
    unfold mall at m
    rcases List.mem_append.1 m with m | m
    · exact orders_qty (h.b.side 1).1 m
    · rcases List.mem_append.1 m with m | m
      · exact orders_qty (h.b.side 2).1 m
      · have := h.w x m
        unfold rightP at this; omega
  exact ⟨fun i => sumO_part he i, he⟩
theorem cameL_in {l : List Out} (h : ∀ x ∈ l, OutOk x) : 0 ≤ cameL l ∧ cameL l ≤ 1048576 := by
  match l, h with
  | [], _ => simp [cameL]
  | y :: r, h =>
    have hq := (h y (List.mem_cons_self ..)).qty
    show 0 ≤ cameO y ∧ cameO y ≤ 1048576
    unfold cameO
    split <;> omega
end Go.Proofs.Ytfhpoagnfmgfkaa

set_option autoImplicit false
set_option linter.unusedSectionVars false
set_option linter.unusedSimpArgs false
set_option linter.unusedVariables false
set_option maxRecDepth 4000
set_option maxHeartbeats 16000000
namespace Go.Proofs.Ytfhpoagnfmgfkaa
open Go Go.SL Go.Proofs
/-! Nothing is there twice. -/
def cE (t i : Int) (es : List Ent) : Nat := (es.map (·.o)).countP (isO t i)
def cL (t i : Int) (l : List Lv) : Nat := (ordersL l).countP (isO t i)
def cB (t i : Int) (B : Bk) : Nat := cL t i (B.side 1) + cL t i (B.side 2)
def cM (t i : Int) (M : Mk) : Nat := cB t i M.B + M.W.countP (isO t i)
theorem cE_cons (t i : Int) (e : Ent) (l : List Ent) : cE t i (e :: l) = cE t i l + if isO t i e.o = true then 1 else 0 := by
  unfold cE
  rw [List.map_cons, List.countP_cons]
theorem cE_append (t i : Int) (l m : List Ent) : cE t i (l ++ m) = cE t i l + cE t i m := by
  unfold cE
  rw [List.map_append, List.countP_append]
theorem cL_cons (t i : Int) (lv : Lv) (l : List Lv) : cL t i (lv :: l) = cE t i lv.es + cL t i l := by
  unfold cL cE
  rw [ordersL, List.countP_append]
theorem cL_append (t i : Int) (l m : List Lv) : cL t i (l ++ m) = cL t i l + cL t i m := by
  induction l with
  | nil => simp [cL, ordersL]
  | cons x l ih => rw [List.cons_append, cL_cons, cL_cons, ih]; omega
theorem giveE_cnt (t i : Int) (e : Ent) (l : List Ent) (n : Int) : cE t i (giveE e l n) ≤ cE t i (e :: l) := by
  unfold giveE
  rw [cE_cons]
  split
  · rw [cE_cons]; exact Nat.le_refl _
  · split
    · rw [cE_append, cE_cons]
      show cE t i l + (0 + if isO t i e.o = true then 1 else 0) ≤ _
      omega
    · omega
theorem take_cnt (t i : Int) {firm : Int} (k : Nat) : ∀ (q : Int) (es : List Ent), q.toNat ≤ k → cE t i (take firm q es).2.2 ≤ cE t i es := by
  induction k with
  | zero =>
    intro q es hq
    rw [take_le (by omega)]
    exact Nat.le_refl _
  | succ k ih =>
    intro q es hq
    rw [take.eq_def]
    split
    · cases es with
      | nil => exact Nat.le_refl _
      | cons e l =>
        dsimp only
        split
        · exact Nat.le_refl _
        · split
          · rename_i hn
            have h1 := ih (q - min q e.seen) (giveE e l (min q e.seen)) (by omega)
            have h2 := giveE_cnt t i e l (min q e.seen)
            dsimp only; omega
          · exact Nat.le_refl _
    · exact Nat.le_refl _
theorem match_cnt (t i : Int) : ∀ (l : List Lv) (o : Ord) (last no : Int), cL t i (matchL o l last no).lvs ≤ cL t i l
  | [], _, _, _ => Nat.le_refl _
  | lv :: r, o, last, no => by
    have ht := take_cnt t i (firm := o.firm) o.qty.toNat o.qty lv.es (Nat.le_refl _)
    rw [cL_cons]
    unfold matchL
    split
    · split
      · dsimp only
        split
        · omega
        · rw [cL_cons]; dsimp only; omega
      · split
        · have := match_cnt t i r (wq o (o.qty - sumH (take o.firm o.qty lv.es).1)) (if (take o.firm o.qty lv.es).1 = [] then last else lv.p) (no + (take o.firm o.qty lv.es).1.length)
          show cL t i (matchL _ r _ _).lvs ≤ _
          omega
        · rw [cL_cons]; dsimp only; omega
    · rw [cL_cons]; exact Nat.le_refl _
variable [Base]
theorem rest_cnt (t i : Int) (o : Ord) (l : List Lv) : cL t i (restL o l) = cL t i l + if isO t i o = true then 1 else 0 := by
  obtain ⟨a, b, -, h⟩ := restL_form o l
  rcases h with ⟨lv, -, h1, h2⟩ | ⟨h1, h2, -⟩
  · rw [h2, h1, cL_append, cL_append, cL_cons, cL_cons]
    dsimp only
    rw [cE_append, cE_cons]
    show cL t i a + (cE t i lv.es + (0 + (if isO t i o = true then 1 else 0)) + cL t i b) = cL t i a + (cE t i lv.es + cL t i b) + (if isO t i o = true then 1 else 0)
    omega
  · rw [h2, h1, cL_append, cL_append, cL_cons]
    dsimp only
    rw [cE_cons]
    show cL t i a + (0 + (if isO t i o = true then 1 else 0) + cL t i b) = cL t i a + cL t i b + (if isO t i o = true then 1 else 0)
    omega
theorem cB_side (t i : Int) (B : Bk) {s : Int} (hs : s = 1 ∨ s = 2) : cB t i B = cL t i (B.side s) + cL t i (B.side (3 - s)) := by
  rcases hs with rfl | rfl
  · rfl
  · unfold cB
    show _ = cL t i (B.side 2) + cL t i (B.side 1); omega
theorem cE_zero {t i : Int} {es : List Ent} : cE t i es = 0 ↔ ∀ e ∈ es, ¬ (e.o.trader = t ∧ e.o.id = i) := by
  unfold cE
  rw [List.countP_eq_zero]
  constructor
  · intro h e m hh
    have := h e.o (List.mem_map_of_mem m)
    unfold isO at this
    rw [decide_eq_true hh.1, decide_eq_true hh.2] at this
    exact this rfl
  · intro h o m hh
    obtain ⟨e, me, rfl⟩ := List.mem_map.1 m
    unfold isO at hh
    rw [Bool.and_eq_true, decide_eq_true_eq, decide_eq_true_eq] at hh
    exact h e me hh
theorem cL_zero {t i : Int} : ∀ {l : List Lv}, cL t i l = 0 ↔ findL t i l = none
  | [] => by simp [cL, ordersL, findL]
  | lv :: r => by
    have ih := cL_zero (t := t) (i := i) (l := r)
    rw [cL_cons]
    unfold findL
    have hf : (lv.es.map (·.o)).find? (fun o => decide (o.trader = t) && decide (o.id = i)) = none ↔ cE t i lv.es = 0 := by
      unfold cE
      rw [List.find?_eq_none, List.countP_eq_zero]
      exact Iff.rfl
    cases h1 : (lv.es.map (·.o)).find? (fun o => decide (o.trader = t) && decide (o.id = i)) with
    | some o =>
      have hne : cE t i lv.es ≠ 0 := fun h => by rw [hf.2 h] at h1; cases h1
      dsimp only
      constructor
      · intro h; omega
      · intro h; cases h
    | none =>
      have h0 := hf.1 h1
      dsimp only
      cases h2 : findL t i r with
      | some x =>
        obtain ⟨k, o⟩ := x
        dsimp only
        constructor
        · intro h
          have := ih.1 (by omega)
          rw [h2] at this; cases this
        · intro h; cases h
      | none =>
        have := ih.2 h2
        dsimp only
        constructor
        · intro _; rfl
        · intro _; omega
theorem cB_zero {t i : Int} {B : Bk} : cB t i B = 0 ↔ (bfind t i B).2 = false := by
  unfold bfind findB cB
  have h1 : cL t i (B.side 1) = 0 ↔ findL t i B.buys = none := cL_zero
  have h2 : cL t i (B.side 2) = 0 ↔ findL t i B.sells = none := cL_zero
  cases e1 : findL t i B.buys with
  | some x =>
    obtain ⟨k, o⟩ := x
    dsimp only
    constructor
    · intro h
      have := h1.1 (by omega)
      rw [e1] at this; cases this
    · intro h; cases h
  | none =>
    have e3 := h1.2 e1
    cases e2 : findL t i B.sells with
    | some x =>
      obtain ⟨k, o⟩ := x
      dsimp only
      constructor
      · intro h
        have := h2.1 (by omega)
        rw [e2] at this; cases this
      · intro h; cases h
    | none =>
      have e4 := h2.2 e2
      dsimp only
      constructor
      · intro _; rfl
      · intro _; omega
theorem cM_all (t i : Int) (M : Mk) : (mall M).countP (isO t i) = cM t i M := by
  unfold mall cM cB cL
  rw [List.countP_append, List.countP_append]; omega
theorem cM_zero {t i : Int} {M : Mk} (h : (mfind t i M).2 = false) : cM t i M = 0 := by
  unfold mfind at h
  split at h
  · cases h
  · rename_i hb
    have hb0 := cB_zero.2 (show (bfind t i M.B).2 = false by simpa using hb)
    unfold cM
    cases hf : M.W.findIdx? (isO t i) with
    | none =>
      rw [List.findIdx?_eq_none_iff] at hf
      have : M.W.countP (isO t i) = 0 := by
        rw [List.countP_eq_zero]
        intro o m; rw [hf o m]; simp
      omega
    | some k =>
      rw [hf] at h
      dsimp only at h
      have hk := (List.findIdx?_eq_some_iff_getElem.1 hf).1
      rw [List.getElem?_eq_getElem hk] at h
      cases h
theorem add_cnt (t i : Int) {o : Ord} {B : Bk} : cB t i (badd o B).2 ≤ cB t i B + if isO t i o = true then 1 else 0 := by
  by_cases h0 : brefused o B = 0
  · have hr2 : right o = 0 := by
      unfold brefused at h0
      split at h0
      · cases h0
      · rename_i h; omega
    have hr := right_zero hr2
    have hs : o.side = 1 ∨ o.side = 2 := by unfold rightP at hr; omega
    have A := add_is hs h0
    have hm := match_cnt t i (B.side (3 - o.side)) o B.last B.no
    generalize matchL o (B.side (3 - o.side)) B.last B.no = m at *
    rw [cB_side t i _ hs, cB_side t i B hs, A.theirs, A.mine]
    split
    · rw [rest_cnt]
      have : isO t i (wqs o m.qty (min o.show_ m.qty)) = isO t i o := rfl
      rw [this]; omega
    · omega
  · rw [refused_is h0]
    dsimp only; omega
theorem enter_cnt (t i : Int) (o : Ord) (B : Bk) : cB t i (menter o B).2 ≤ cB t i B + if isO t i o = true then 1 else 0 := add_cnt t i (o := bare o)
theorem cut_cnt (t i : Int) {W : List Ord} {k : Nat} {o : Ord} (h : W[k]? = some o) : (W.take k ++ W.drop (k + 1)).countP (isO t i) + (if isO t i o = true then 1 else 0) = W.countP (isO t i) := by
  have hk := (List.getElem?_eq_some_iff.1 h).1
  have e : W[k] = o := (List.getElem?_eq_some_iff.1 h).2
  have hs : W = W.take k ++ o :: W.drop (k + 1) := by
    conv => lhs; rw [← List.take_append_drop k W, List.drop_eq_getElem_cons hk, e]
  conv => rhs; rw [hs]
  rw [List.countP_append, List.countP_append, List.countP_cons]; omega
theorem trig_cnt (t i : Int) : ∀ (n : Nat) (M : Mk), cM t i (mtrig n M).2 ≤ cM t i M
  | 0, M => Nat.le_refl _
  | n + 1, M => by
    unfold mtrig
    cases hf : M.W.findIdx? (fun o => hit o M.B.last) with
    | none => exact Nat.le_refl _
    | some k =>
      dsimp only
      cases ho : M.W[k]? with
      | none => exact Nat.le_refl _
      | some o =>
        dsimp only
        have h1 := trig_cnt t i n ⟨(menter o M.B).2, M.W.take k ++ M.W.drop (k + 1)⟩
        have h2 := enter_cnt t i o M.B
        have h3 := cut_cnt t i ho
        unfold cM at h1 ⊢
        dsimp only at h1
        omega
theorem isO_is {t i : Int} {o : Ord} (h : isO t i o = true) : o.trader = t ∧ o.id = i := by
  unfold isO at h
  rwa [Bool.and_eq_true, decide_eq_true_eq, decide_eq_true_eq] at h
/-- Nothing is there twice. -/
def Uq (M : Mk) : Prop := ∀ t i, cM t i M ≤ 1
theorem Uq.empty : Uq emptyM := fun _ _ => Nat.zero_le _
theorem refused_no {o : Ord} {M : Mk} (h : mrefused o M = 0) : rightP o ∧ cM o.trader o.id M = 0 := by
  unfold mrefused at h
  split at h
  · cases h
  · rename_i h1
    split at h
    · cases h
    · rename_i h2
      exact ⟨right_zero (by omega), cM_zero (by simpa using h2)⟩
theorem madd_Uq {o : Ord} {M : Mk} (h : Uq M) : Uq (madd o M).2 := by
  intro t i
  have h1 : cM t i (mfirst o M).2 ≤ 1 := by
    unfold mfirst
    split
    · exact h t i
    · rename_i hr
      have h0 := (refused_no (o := o) (M := M) (by omega)).2
      have ht := h t i
      split
      · unfold cM at h0 ht ⊢
        dsimp only
        rw [List.countP_append, List.countP_cons]
        by_cases hi : isO t i o = true
        · obtain ⟨rfl, rfl⟩ := isO_is hi
          rw [if_pos hi]
          show _ + (_ + (0 + 1)) ≤ 1
          omega
        · rw [if_neg hi]
          show _ + (_ + (0 + 0)) ≤ 1
          omega
      · have h2 := enter_cnt t i o M.B
        unfold cM at h0 ht ⊢
        dsimp only
        by_cases hi : isO t i o = true
        · obtain ⟨rfl, rfl⟩ := isO_is hi
          rw [if_pos hi] at h2
          omega
        · rw [if_neg hi] at h2
          omega
  have h2 := trig_cnt t i (mfirst o M).2.W.length (mfirst o M).2
  unfold madd
  dsimp only
  omega
/-- Two places of a list of orders with one key are one place. -/
theorem uq_at {l : List Ord} {t i : Int} (h : l.countP (isO t i) ≤ 1) {a c : Nat} {x y : Ord} (hx : l[a]? = some x) (hy : l[c]? = some y) (hp : isO t i x = true) (hq : isO t i y = true) : a = c := by
  induction l generalizing a c with
  | nil => simp at hx
  | cons z l ih =>
    rw [List.countP_cons] at h
    have pos : ∀ {k : Nat} {w : Ord}, l[k]? = some w → isO t i w = true → 1 ≤ l.countP (isO t i) := fun hw hp => List.countP_pos_iff.2 ⟨_, List.mem_of_getElem? hw, hp⟩
    cases a with
    | zero =>
      cases c with
      | zero => rfl
      | succ c =>
        simp only [List.getElem?_cons_zero, Option.some.injEq] at hx
        simp only [List.getElem?_cons_succ] at hy
        subst hx
        rw [if_pos hp] at h
        have := pos hy hq
        omega
    | succ a =>
      cases c with
      | zero =>
        simp only [List.getElem?_cons_zero, Option.some.injEq] at hy
        simp only [List.getElem?_cons_succ] at hx
        subst hy
        rw [if_pos hq] at h
        have := pos hx hp
        omega
      | succ c =>
        simp only [List.getElem?_cons_succ] at hx hy
        rw [ih (by split at h <;> omega) hx hy]
theorem isO_self (o : Ord) : isO o.trader o.id o = true := by unfold isO; simp
theorem Uq.at {M : Mk} (h : Uq M) {a c : Nat} {x y : Ord} (hx : (mall M)[a]? = some x) (hy : (mall M)[c]? = some y) (hk : x.trader = y.trader ∧ x.id = y.id) : a = c :=
  uq_at (t := x.trader) (i := x.id) (by rw [cM_all]; exact h _ _) hx hy (isO_self x) (by unfold isO; rw [hk.1, hk.2]; simp)
/-! What is left waiting isn't hit. -/
theorem trig_done : ∀ (n : Nat) (M : Mk), M.W.length ≤ n → ∀ x ∈ (mtrig n M).2.W, hit x (mtrig n M).2.B.last = false
  | 0, M, h, x, m => by
    have : M.W = [] := List.length_eq_zero_iff.1 (by omega)
    have m : x ∈ M.W := m
    rw [this] at m; cases m
  | n + 1, M, h, x, m => by
    unfold mtrig at m ⊢
    cases hf : M.W.findIdx? (fun o => hit o M.B.last) with
    | none =>
      rw [hf] at m
      rw [List.findIdx?_eq_none_iff] at hf
      exact hf x m
    | some k =>
      have hk := (List.findIdx?_eq_some_iff_getElem.1 hf).1
      have ho : M.W[k]? = some M.W[k] := List.getElem?_eq_getElem hk
      generalize M.W[k] = o at *
      rw [hf] at m
      dsimp only at m ⊢
      rw [ho] at m ⊢
      dsimp only at m ⊢
      exact trig_done n _ (by have := cut_len ho; dsimp only; omega) x m
theorem madd_done (o : Ord) (M : Mk) : ∀ x ∈ (madd o M).2.W, hit x (madd o M).2.B.last = false := trig_done _ _ (Nat.le_refl _)
/-- What waits has a stop. -/
def Wst (M : Mk) : Prop := ∀ o ∈ M.W, 0 < o.stop
theorem trig_stop : ∀ (n : Nat) (M : Mk), Wst M → Wst (mtrig n M).2 ∧ ∀ x ∈ (mtrig n M).1, x.order.stop ≠ 0 ∧ x.waits = false
  | 0, M, h => ⟨h, fun _ m => nomatch m⟩
  | n + 1, M, h => by
    unfold mtrig
    cases hf : M.W.findIdx? (fun o => hit o M.B.last) with
    | none => exact ⟨h, fun _ m => nomatch m⟩
    | some k =>
      dsimp only
      cases ho : M.W[k]? with
      | none => exact ⟨h, fun _ m => nomatch m⟩
      | some o =>
        dsimp only
        obtain ⟨i1, i2⟩ := trig_stop n ⟨(menter o M.B).2, M.W.take k ++ M.W.drop (k + 1)⟩ fun x m => h x (cut_mem m)
        refine ⟨i1, fun x m => ?_⟩
        rcases List.mem_cons.1 m with rfl | m
        · have := h o (List.mem_of_getElem? ho)
          exact ⟨by show o.stop ≠ 0; omega, badd_waits (bare o) M.B⟩
        · exact i2 x m
theorem madd_stop {o : Ord} {M : Mk} (h : Wst M) : Wst (madd o M).2 ∧ ∀ (k : Nat) (x : Out), 0 < k → (madd o M).1[k]? = some x → x.order.stop ≠ 0 ∧ x.waits = false := by
  have h1 : Wst (mfirst o M).2 := by
    unfold mfirst
    split
    · exact h
    · split
      · rename_i hs
        intro x m
        rcases List.mem_append.1 m with m | m
        · exact h x m
        · rw [List.mem_singleton] at m
          subst m; exact hs.1
      · exact h
  obtain ⟨i1, i2⟩ := trig_stop (mfirst o M).2.W.length _ h1
  unfold madd
  refine ⟨i1, fun k x hk hx => ?_⟩
  cases k with
  | zero => omega
  | succ k =>
    simp only [List.getElem?_cons_succ] at hx
    exact i2 x (List.mem_of_getElem? hx)
end Go.Proofs.Ytfhpoagnfmgfkaa

set_option autoImplicit false
set_option linter.unusedSectionVars false
set_option linter.unusedSimpArgs false
set_option linter.unusedVariables false
set_option maxRecDepth 4000
set_option maxHeartbeats 16000000
namespace Go.Proofs.Ytfhpoagnfmgfkaa
open Go Go.SL Go.Proofs
/-! What is there is found, and removed once. -/
theorem orders_at {l : List Lv} {k : Nat} {lv : Lv} (h : l[k]? = some lv) : ordersL l = ordersL (l.take k) ++ (lv.es.map (·.o) ++ ordersL (l.drop (k + 1))) := by
  induction l generalizing k with
  | nil => simp at h
  | cons x l ih =>
    cases k with
    | zero =>
      simp only [List.getElem?_cons_zero, Option.some.injEq] at h
      subst h
      simp [ordersL]
    | succ k =>
      simp only [List.getElem?_cons_succ] at h
      simp only [List.take_succ_cons, List.drop_succ_cons, ordersL]
      rw [ih h, List.append_assoc]
theorem ordersL_app (l m : List Lv) : ordersL (l ++ m) = ordersL l ++ ordersL m := by
  induction l with
  | nil => rfl
  | cons x l ih => simp only [List.cons_append, ordersL, ih, List.append_assoc]
theorem orders_cut {l : List Lv} {k : Nat} {lv : Lv} (h : l[k]? = some lv) (es : List Ent) :
    ordersL (if es = [] then l.eraseIdx k else l.set k ⟨lv.p, es⟩) = ordersL (l.take k) ++ (es.map (·.o) ++ ordersL (l.drop (k + 1))) := by
  have hk := (List.getElem?_eq_some_iff.1 h).1
  split
  · rename_i he
    rw [he, List.eraseIdx_eq_take_drop_succ, ordersL_app]; rfl
  · rw [List.set_eq_take_append_cons_drop, if_pos hk, ordersL_app, ordersL]
theorem lrem_split {t i : Int} {es : List Ent} {o : Ord} (h : (es.map (·.o)).find? (isO t i) = some o) : ∃ j x, es[j]? = some x ∧ isO t i x.o = true ∧ lrem t i es = (x.o, true, es.take j ++ es.drop (j + 1)) := by
  rcases hf : es.findIdx? (isIt t i) with _ | j
  · rw [List.findIdx?_eq_none_iff] at hf
    have hm := List.mem_of_find?_eq_some h
    have hp := List.find?_some h
    obtain ⟨e, me, rfl⟩ := List.mem_map.1 hm
    have := hf e me
    have hp : isIt t i e = true := hp
    rw [this] at hp; cases hp
  · obtain ⟨hj, hp, -⟩ := List.findIdx?_eq_some_iff_getElem.1 hf
    have hx : es[j]? = some es[j] := List.getElem?_eq_getElem hj
    refine ⟨j, es[j], hx, hp, ?_⟩
    unfold lrem
    rw [hf]
    dsimp only
    rw [hx]
/-- What a removal takes away. -/
structure RemIs (t i : Int) (M : Mk) (R : Ord × Bool × Mk) : Prop where
  yes : R.2.1 = true
  split : ∃ P Q, mall M = P ++ R.1 :: Q ∧ mall R.2.2 = P ++ Q
  key : isO t i R.1 = true
  len : mlen R.2.2 ≤ mlen M
theorem bk_len (B : Bk) : lenL B.buys + lenL B.sells = (ordersL (B.side 1)).length + (ordersL (B.side 2)).length := by
  have h1 := ordersL_len (B.side 1)
  have h2 := ordersL_len (B.side 2)
  have hs1 : lenL (B.side 1) = lenL B.buys := rfl
  have hs2 : lenL (B.side 2) = lenL B.sells := rfl
  omega
theorem lv_cut {lv : Lv} (h : lv.Ok) (j : Nat) (hn : lv.es.take j ++ lv.es.drop (j + 1) ≠ []) : (⟨lv.p, lv.es.take j ++ lv.es.drop (j + 1)⟩ : Lv).Ok := by
  obtain ⟨⟨h1, h2⟩, h3⟩ := h
  refine ⟨⟨?_, fun x m => ?_⟩, hn⟩
  · dsimp only
    rw [List.length_append, List.length_take, List.length_drop]; omega
  · rcases List.mem_append.1 m with m | m
    · exact h2 x (List.mem_of_mem_take m)
    · exact h2 x (List.mem_of_mem_drop m)
theorem lvs_cut {l : List Lv} (h : ∀ lv ∈ l, lv.Ok) {k : Nat} {lv : Lv} (hk : l[k]? = some lv) (j : Nat) : ∀ x ∈ (if lv.es.take j ++ lv.es.drop (j + 1) = [] then l.eraseIdx k else l.set k ⟨lv.p, lv.es.take j ++ lv.es.drop (j + 1)⟩), x.Ok := by
  intro x m
  split at m
  · exact h x (List.mem_of_mem_eraseIdx m)
  · rename_i hn
    rcases List.mem_or_eq_of_mem_set m with m | rfl
    · exact h x m
    · exact lv_cut (h lv (List.mem_of_getElem? hk)) j hn
theorem cut_spl {W : List Ord} {k : Nat} {o : Ord} (h : W[k]? = some o) : W = W.take k ++ o :: W.drop (k + 1) := by
  have hk := (List.getElem?_eq_some_iff.1 h).1
  have e : W[k] = o := (List.getElem?_eq_some_iff.1 h).2
  conv => lhs; rw [← List.take_append_drop k W, List.drop_eq_getElem_cons hk, e]
theorem mfind_non {t i : Int} {M : Mk} (h1 : (bfind t i M.B).2 = false) (h2 : M.W.findIdx? (isO t i) = none) : (mfind t i M).2 = false := by
  unfold mfind
  rw [if_neg (by rw [h1]; simp), h2]
variable [Base]
theorem brem_is {t i : Int} {M : Mk} (hw : BW M.B) (h : (bfind t i M.B).2 = true) : RemIs t i M ((bremove t i M.B).1, (bremove t i M.B).2.1, ⟨(bremove t i M.B).2.2, M.W⟩) ∧ BW (bremove t i M.B).2.2 ∧ (bremove t i M.B).2.2.no = M.B.no ∧ (bremove t i M.B).2.1 = true := by
  cases hf : findB t i M.B with
  | none =>
    unfold bfind at h
    rw [hf] at h; cases h
  | some r =>
    obtain ⟨s, k, o⟩ := r
    have hs := findB_side hf
    have hl : findL t i (M.B.side s) = some (k, o) := by
      unfold findB at hf
      split at hf
      · rename_i h1
        cases hf; exact h1
      · split at hf
        · rename_i h2
          cases hf; exact h2
        · cases hf
    obtain ⟨lv, hlv, hfo⟩ := findL_get hl
    obtain ⟨j, x, hx, hp, hr⟩ := lrem_split hfo
    have e : bremove t i M.B = (x.o, true, M.B.put s (if lv.es.take j ++ lv.es.drop (j + 1) = [] then (M.B.side s).eraseIdx k else (M.B.side s).set k ⟨lv.p, lv.es.take j ++ lv.es.drop (j + 1)⟩)) := by
      unfold bremove
      rw [hf]
      dsimp only
      rw [hlv]
      dsimp only
      rw [hr]
    have o1 := orders_at hlv
    have o2 := orders_cut hlv (lv.es.take j ++ lv.es.drop (j + 1))
    have hok := lvs_cut (hw.side s).1 hlv j
    have hsp : lv.es = lv.es.take j ++ x :: lv.es.drop (j + 1) := by
      have hj := (List.getElem?_eq_some_iff.1 hx).1
      have ex : lv.es[j] = x := (List.getElem?_eq_some_iff.1 hx).2
      conv => lhs; rw [← List.take_append_drop j lv.es, List.drop_eq_getElem_cons hj, ex]
    generalize (if lv.es.take j ++ lv.es.drop (j + 1) = [] then (M.B.side s).eraseIdx k else (M.B.side s).set k ⟨lv.p, lv.es.take j ++ lv.es.drop (j + 1)⟩) = nl at *
    rw [e]
    dsimp only
    have hsplit : ∃ P Q, ordersL (M.B.side s) = P ++ x.o :: Q ∧ ordersL nl = P ++ Q := by
      refine ⟨ordersL ((M.B.side s).take k) ++ (lv.es.take j).map (·.o), (lv.es.drop (j + 1)).map (·.o) ++ ordersL ((M.B.side s).drop (k + 1)), ?_, ?_⟩
      · rw [o1]
        conv => lhs; rw [hsp]
        simp
      · rw [o2]; simp
    obtain ⟨P, Q, e1, e2⟩ := hsplit
    have hlen : (ordersL nl).length + 1 = (ordersL (M.B.side s)).length := by rw [e1, e2]; simp; omega
    have hml := mall_len M
    have hb := bk_len M.B
    have h64 := hw.len
    rcases hs with rfl | rfl
    · have hl2 : lenL (M.B.put 1 nl).buys + lenL (M.B.put 1 nl).sells = (ordersL nl).length + (ordersL (M.B.side 2)).length := bk_len _
      refine ⟨⟨rfl, ⟨P, Q ++ (ordersL (M.B.side 2) ++ M.W), ?_, ?_⟩, hp, ?_⟩, ⟨hok, hw.sells, ?_⟩, rfl, rfl⟩
      · unfold mall; rw [e1]; simp
      · show ordersL nl ++ (ordersL (M.B.side 2) ++ M.W) = _
        rw [e2]; simp
      · unfold mlen; dsimp only; omega
      · omega
    · have hl2 : lenL (M.B.put 2 nl).buys + lenL (M.B.put 2 nl).sells = (ordersL (M.B.side 1)).length + (ordersL nl).length := bk_len _
      refine ⟨⟨rfl, ⟨ordersL (M.B.side 1) ++ P, Q ++ M.W, ?_, ?_⟩, hp, ?_⟩, ⟨hw.buys, hok, ?_⟩, rfl, rfl⟩
      · unfold mall; rw [e1]; simp
      · show ordersL (M.B.side 1) ++ (ordersL nl ++ M.W) = _
        rw [e2]; simp
      · unfold mlen; dsimp only; omega
      · omega
theorem brem_no {t i : Int} {B : Bk} (h : (bfind t i B).2 = false) : bremove t i B = (o0, false, B) := by
  cases hf : findB t i B with
  | none => unfold bremove; rw [hf]
  | some r =>
    obtain ⟨s, k, o⟩ := r
    unfold bfind at h
    rw [hf] at h; cases h
theorem mem_cM {x : Ord} {M : Mk} (h : x ∈ mall M) : 0 < cM x.trader x.id M := by
  rw [← cM_all]
  exact List.countP_pos_iff.2 ⟨x, h, isO_self x⟩
theorem findW {t i : Int} {W : List Ord} (h : 0 < W.countP (isO t i)) : ∃ k o, W.findIdx? (isO t i) = some k ∧ W[k]? = some o ∧ isO t i o = true := by
  cases hf : W.findIdx? (isO t i) with
  | none =>
    rw [List.findIdx?_eq_none_iff] at hf
    obtain ⟨o, m, hp⟩ := List.countP_pos_iff.1 h
    rw [hf o m] at hp; cases hp
  | some k =>
    obtain ⟨hk, hp, -⟩ := List.findIdx?_eq_some_iff_getElem.1 hf
    exact ⟨k, W[k], rfl, List.getElem?_eq_getElem hk, hp⟩
/-- What has a key that is there is removed. -/
theorem mrem_is {t i : Int} {M : Mk} (hw : MW M) (h : 0 < cM t i M) : RemIs t i M (mremove t i M) ∧ MW (mremove t i M).2.2 := by
  by_cases hb : (bfind t i M.B).2 = true
  · obtain ⟨h1, h2, h3, h4⟩ := brem_is (M := M) hw.b hb
    have e : mremove t i M = ((bremove t i M.B).1, (bremove t i M.B).2.1, ⟨(bremove t i M.B).2.2, M.W⟩) := by
      unfold mremove
      rw [if_pos h4, h4]
    rw [e]
    refine ⟨h1, ⟨h2, ?_, ?_, hw.w⟩⟩
    · dsimp only; rw [h3]; exact hw.no
    · have := h1.len
      have := hw.len
      dsimp only at *
      omega
  · have hb : (bfind t i M.B).2 = false := by simpa using hb
    have h0 := cB_zero.2 hb
    have hr := brem_no hb
    unfold cM at h
    obtain ⟨k, o, f1, f2, f3⟩ := findW (t := t) (i := i) (W := M.W) (by omega)
    have e : mremove t i M = (o, true, ⟨M.B, M.W.take k ++ M.W.drop (k + 1)⟩) := by
      unfold mremove
      rw [hr]
      dsimp only
      rw [if_neg (by simp), f1]
      dsimp only
      rw [f2]
    rw [e]
    have hs := cut_spl f2
    have hc := cut_len f2
    have hl : mlen ⟨M.B, M.W.take k ++ M.W.drop (k + 1)⟩ ≤ mlen M := by unfold mlen; dsimp only; omega
    refine ⟨⟨rfl, ⟨ordersL (M.B.side 1) ++ (ordersL (M.B.side 2) ++ M.W.take k), M.W.drop (k + 1), ?_, ?_⟩, f3, hl⟩, ⟨hw.b, hw.no, by have := hw.len; dsimp only; omega, fun x m => hw.w x (cut_mem m)⟩⟩
    · unfold mall
      conv => lhs; rw [hs]
      simp
    · unfold mall; simp
theorem split_here {l P Q : List Ord} {t i : Int} {x y : Ord} {k : Nat} (hu : l.countP (isO t i) ≤ 1) (hk : l[k]? = some x) (hx : isO t i x = true) (e : l = P ++ y :: Q) (hy : isO t i y = true) : y = x ∧ P ++ Q = l.take k ++ l.drop (k + 1) := by
  have hy2 : l[P.length]? = some y := by rw [e]; simp
  have hkk := uq_at hu hk hy2 hx hy
  subst hkk
  rw [hy2] at hk
  refine ⟨by cases hk; rfl, ?_⟩
  rw [e, List.take_left, List.drop_append, List.drop_eq_nil_of_le (by omega)]
  have : P.length + 1 - P.length = 1 := by omega
  rw [this]; rfl
/-- An order that is there is found as it stands. -/
theorem mfind_at {M : Mk} (hu : Uq M) {k : Nat} {x : Ord} (hk : (mall M)[k]? = some x) : mfind x.trader x.id M = (x, true) := by
  have hu1 : (mall M).countP (isO x.trader x.id) ≤ 1 := by rw [cM_all]; exact hu _ _
  have hpos := mem_cM (List.mem_of_getElem? hk)
  unfold mfind
  by_cases hb : (bfind x.trader x.id M.B).2 = true
  · rw [if_pos hb]
    cases hf : findB x.trader x.id M.B with
    | none =>
      unfold bfind at hb
      rw [hf] at hb; cases hb
    | some r =>
      obtain ⟨s, j, o⟩ := r
      have hs := findB_side hf
      have hl : findL x.trader x.id (M.B.side s) = some (j, o) := by
        unfold findB at hf
        split at hf
        · rename_i h1
          cases hf; exact h1
        · split at hf
          · rename_i h2
            cases hf; exact h2
          · cases hf
      obtain ⟨lv, hlv, hfo⟩ := findL_get hl
      have hp := List.find?_some hfo
      have hm : o ∈ ordersL (M.B.side s) := by
        rw [orders_at hlv]
        exact List.mem_append_right _ (List.mem_append_left _ (List.mem_of_find?_eq_some hfo))
      have hm2 : o ∈ mall M := by
        unfold mall
        rcases hs with rfl | rfl
        · exact List.mem_append_left _ hm
        · exact List.mem_append_right _ (List.mem_append_left _ hm)
      obtain ⟨c, hc, ec⟩ := List.getElem_of_mem hm2
      have hc2 : (mall M)[c]? = some o := by rw [List.getElem?_eq_getElem hc, ec]
      have := uq_at hu1 hk hc2 (isO_self x) hp
      subst this
      rw [hc2] at hk
      cases hk
      unfold bfind
      rw [hf]
  · rw [if_neg hb]
    have h0 := cB_zero.2 (show (bfind x.trader x.id M.B).2 = false by simpa using hb)
    unfold cM at hpos
    obtain ⟨j, o, f1, f2, f3⟩ := findW (t := x.trader) (i := x.id) (W := M.W) (by omega)
    rw [f1]
    dsimp only
    rw [f2]
    dsimp only
    have hm2 : o ∈ mall M := by
      unfold mall
      exact List.mem_append_right _ (List.mem_append_right _ (List.mem_of_getElem? f2))
    obtain ⟨c, hc, ec⟩ := List.getElem_of_mem hm2
    have hc2 : (mall M)[c]? = some o := by rw [List.getElem?_eq_getElem hc, ec]
    have := uq_at hu1 hk hc2 (isO_self x) f3
    subst this
    rw [hc2] at hk
    cases hk; rfl
theorem gone_no {t i : Int} {M : Mk} (h : cM t i M = 0) : (mfind t i M).2 = false ∧ (mremove t i M).2.1 = false ∧ (mremove t i M).2.2 = M := by
  unfold cM at h
  have hb := cB_zero.1 (show cB t i M.B = 0 by omega)
  have hf : M.W.findIdx? (isO t i) = none := by
    rw [List.findIdx?_eq_none_iff]
    intro o m
    have : M.W.countP (isO t i) = 0 := by omega
    rw [List.countP_eq_zero] at this
    simpa using this o m
  refine ⟨mfind_non hb hf, ?_⟩
  unfold mremove
  rw [brem_no hb]
  dsimp only
  rw [if_neg (by simp), hf]
  exact ⟨rfl, rfl⟩
/-- An order that is there is removed once. -/
theorem mremove_at {M : Mk} (hw : MW M) (hu : Uq M) {k : Nat} {x : Ord} (hk : (mall M)[k]? = some x) :
    (mremove x.trader x.id M).1 = x ∧ (mremove x.trader x.id M).2.1 = true ∧ mall (mremove x.trader x.id M).2.2 = (mall M).take k ++ (mall M).drop (k + 1) ∧ MW (mremove x.trader x.id M).2.2 ∧ cM x.trader x.id (mremove x.trader x.id M).2.2 = 0 := by
  have hu1 : (mall M).countP (isO x.trader x.id) ≤ 1 := by rw [cM_all]; exact hu _ _
  obtain ⟨R, hw2⟩ := mrem_is hw (mem_cM (List.mem_of_getElem? hk))
  obtain ⟨P, Q, e1, e2⟩ := R.split
  obtain ⟨h1, h2⟩ := split_here hu1 hk (isO_self x) e1 R.key
  refine ⟨h1, R.yes, by rw [e2, h2], hw2, ?_⟩
  rw [← cM_all, e2]
  rw [e1, List.countP_append, List.countP_cons, if_pos R.key] at hu1
  rw [List.countP_append]; omega
end Go.Proofs.Ytfhpoagnfmgfkaa

set_option autoImplicit false
set_option linter.unusedSectionVars false
set_option linter.unusedSimpArgs false
set_option linter.unusedVariables false
set_option maxRecDepth 4000
set_option maxHeartbeats 16000000
namespace Go.Proofs.Ytfhpoagnfmgfkaa
open Go Go.SL Go.Proofs
/-! Amending. -/
def amO (w : Ord) (p q : Int) : Ord := ⟨w.trader, w.id, w.firm, w.side, w.kind, p, q, min w.show_ (max q 0), w.stop⟩
def mamend (t i p q : Int) (M : Mk) : List Out × Int × Mk :=
  if (mfind t i M).2 = false then ([], 6, M)
  else if right (amO (mfind t i M).1 p q) ≠ 0 then ([], 1, M)
  else if p = (mfind t i M).1.price ∧ q ≤ (mfind t i M).1.qty ∧ (bfind t i M.B).2 = true then ([], 0, ⟨(bless t i q M.B).2, M.W⟩)
  else ((madd (amO (mfind t i M).1 p q) (mremove t i M).2.2).1, 0, (madd (amO (mfind t i M).1 p q) (mremove t i M).2.2).2)
variable [Base]
theorem mfind_cM {t i : Int} {M : Mk} (h : (mfind t i M).2 = true) : 0 < cM t i M := by
  rcases Nat.eq_zero_or_pos (cM t i M) with h0 | h0
  · rw [(gone_no h0).1] at h; cases h
  · exact h0
theorem bremove_no (t i : Int) (B : Bk) : (bremove t i B).2.2.no = B.no := by
  unfold bremove
  split
  · rfl
  · split
    · rfl
    · rename_i s k _ _ _ _ _
      show (B.put s _).no = B.no
      unfold Bk.put
      split <;> rfl
theorem mremove_no (t i : Int) (M : Mk) : (mremove t i M).2.2.B.no = M.B.no := by
  unfold mremove
  split
  · exact bremove_no t i M.B
  · split
    · exact bremove_no t i M.B
    · split <;> exact bremove_no t i M.B
theorem mremove_cM (t i : Int) {M : Mk} (hw : MW M) (a b : Int) : cM a b (mremove t i M).2.2 ≤ cM a b M := by
  rcases Nat.eq_zero_or_pos (cM t i M) with h0 | h0
  · rw [(gone_no h0).2.2]; exact Nat.le_refl _
  · obtain ⟨P, Q, e1, e2⟩ := (mrem_is hw h0).1.split
    rw [← cM_all, ← cM_all, e1, e2, List.countP_append, List.countP_append, List.countP_cons]; omega
theorem mremove_Uq {t i : Int} {M : Mk} (hw : MW M) (hu : Uq M) : Uq (mremove t i M).2.2 := fun a b => Nat.le_trans (mremove_cM t i hw a b) (hu a b)
theorem mremove_MW {t i : Int} {M : Mk} (hw : MW M) : MW (mremove t i M).2.2 := by
  rcases Nat.eq_zero_or_pos (cM t i M) with h0 | h0
  · rw [(gone_no h0).2.2]; exact hw
  · exact (mrem_is hw h0).2
theorem amend_none {t i p q : Int} {M : Mk} (h : (mfind t i M).2 = false) : mamend t i p q M = ([], 6, M) := by unfold mamend; rw [if_pos h]
theorem amend_bad {t i p q : Int} {M : Mk} {x : Ord} (h : mfind t i M = (x, true)) (hb : ¬ rightP (amO x p q)) : mamend t i p q M = ([], 1, M) := by
  unfold mamend
  rw [h, if_neg (by simp), if_pos (by unfold right; rw [if_neg hb]; decide)]
theorem am_bad1 {x : Ord} {p q : Int} (h : q ≤ 0) : ¬ rightP (amO x p q) := by
  intro hr
  unfold rightP amO at hr
  dsimp only at hr
  omega
theorem am_bad2 {x : Ord} {p q : Int} (h : 1048576 < p) : ¬ rightP (amO x p q) := by
  intro hr
  unfold rightP amO at hr
  dsimp only at hr
  obtain ⟨-, -, -, -, -, -, -, -, -, -, -, -, -, -, -, -, h1, h2, -⟩ := hr
  by_cases hk : x.kind = 2
  · have := h1 hk; omega
  · have := h2 hk; omega
end Go.Proofs.Ytfhpoagnfmgfkaa
