/- Contracts of functions of the given program over its translation, each proved by walking its text; used by the laws' rows. It proves no given statement by itself. -/
import Derived.Test.YtlokkniepoeepaaSLPlKX
set_option autoImplicit false
set_option linter.unusedSectionVars false
set_option linter.unusedSimpArgs false
set_option linter.unusedVariables false
set_option maxRecDepth 4000
namespace Go.Proofs.Ytlokkniepoeepaa
open Go Go.SL Go.Proofs
theorem orders_mem {l : List Lv} {x : Ord} : x ∈ ordersL l ↔ ∃ lv ∈ l, ∃ e ∈ lv.es, e.o = x := by
  induction l with
  | nil => simp [ordersL]
  | cons y l ih => simp [ordersL, ih]
theorem orders_price {s : Int} {l : List Lv} (h : AtS s l) {x : Ord} (hx : x ∈ ordersL l) : x.side = s ∧ ∃ lv ∈ l, x.price = lv.p := by
  obtain ⟨lv, m, e, me, rfl⟩ := orders_mem.1 hx
  exact ⟨(h lv m e me).1, lv, m, (h lv m e me).2⟩
theorem orders_sorted {s : Int} : ∀ {l : List Lv}, Srt s l → AtS s l → (ordersL l).Pairwise (fun a b => better s b.price a.price = false)
  | [], _, _ => .nil
  | lv :: r, h1, h2 => by
    have hp := List.pairwise_cons.1 h1
    have ha : AtS s r := fun x m => h2 x (List.mem_cons_of_mem _ m)
    refine List.pairwise_append.2 ⟨?_, orders_sorted hp.2 ha, fun x mx y my => ?_⟩
    · refine List.Pairwise.imp_of_mem (R := fun _ _ => True) (fun {x y} hx hy _ => ?_) (List.pairwise_of_forall fun _ _ => trivial)
      obtain ⟨e, me, rfl⟩ := List.mem_map.1 hx
      obtain ⟨f, mf, rfl⟩ := List.mem_map.1 hy
      rw [(h2 lv (List.mem_cons_self ..) e me).2, (h2 lv (List.mem_cons_self ..) f mf).2]; exact better_self _ _
    · obtain ⟨e, me, rfl⟩ := List.mem_map.1 mx
      obtain ⟨-, z, mz, hz⟩ := orders_price ha my
      rw [(h2 lv (List.mem_cons_self ..) e me).2, hz]
      exact better_not (hp.1 z.p (List.mem_map_of_mem mz))
theorem sorted_at {s : Int} {l : List Ord} (h : l.Pairwise (fun a b => better s b.price a.price = false)) {i j : Nat} {x y : Ord} (hx : l[i]? = some x) (hy : l[j]? = some y) (hij : i < j) : better s y.price x.price = false := by
  obtain ⟨hi, rfl⟩ := List.getElem?_eq_some_iff.1 hx
  obtain ⟨hj, rfl⟩ := List.getElem?_eq_some_iff.1 hy
  exact List.pairwise_iff_getElem.1 h i j hi hj hij
theorem gd_apart {B : Bk} (h : Gd B) {x y : Ord} (hx : x ∈ ordersL (B.side 1)) (hy : y ∈ ordersL (B.side 2)) : x.price < y.price := by
  obtain ⟨-, a, ma, ea⟩ := orders_price h.a1 hx
  obtain ⟨-, b, mb, eb⟩ := orders_price (s := 2) h.a2 hy
  have := h.ap a ma b mb
  rw [ea, eb]
  simpa [better] using this
def sumO : List Ord → Int
  | [] => 0
  | o :: r => o.qty + sumO r
theorem sumO_append (l m : List Ord) : sumO (l ++ m) = sumO l + sumO m := by
  induction l with
  | nil => simp [sumO]
  | cons x l ih => simp only [List.cons_append, sumO, ih]; omega
theorem sumO_orders (l : List Lv) : sumO (ordersL l) = sumL l := by
  induction l with
  | nil => rfl
  | cons x l ih =>
    simp only [ordersL, sumO_append, ih, sumL]
    congr 1
    induction x.es with
    | nil => rfl
    | cons e es ih => simp only [List.map_cons, sumO, sumE, ih]
theorem sumO_take {l : List Ord} {i : Nat} {x : Ord} (h : l[i]? = some x) : sumO (l.take (i + 1)) = sumO (l.take i) + x.qty := by
  have hi := (List.getElem?_eq_some_iff.1 h).1
  have hx := (List.getElem?_eq_some_iff.1 h).2
  rw [List.take_succ_eq_append_getElem hi, sumO_append, hx]; simp [sumO]
theorem orders_qty {l : List Lv} (h : ∀ lv ∈ l, lv.Ok) {x : Ord} (hx : x ∈ ordersL l) : 1 ≤ x.qty ∧ x.qty ≤ 1048576 := by
  obtain ⟨lv, m, e, me, rfl⟩ := orders_mem.1 hx
  have := (h lv m).1.2 e me
  omega
theorem sumO_part {l : List Ord} (h : ∀ x ∈ l, 1 ≤ x.qty ∧ x.qty ≤ 1048576) (i : Nat) : 0 ≤ sumO (l.take i) ∧ sumO (l.take i) ≤ 1048576 * (l.length : Nat) := by
  have gen : ∀ m : List Ord, (∀ x ∈ m, 1 ≤ x.qty ∧ x.qty ≤ 1048576) → 0 ≤ sumO m ∧ sumO m ≤ 1048576 * (m.length : Nat) := by
    intro m hm
    induction m with
    | nil => exact ⟨Int.le_refl _, Int.le_refl _⟩
    | cons y m ih =>
      have h1 := ih fun z hz => hm z (List.mem_cons_of_mem _ hz)
      have h2 := hm y (List.mem_cons_self ..)
      simp only [sumO, List.length_cons]; push_cast; omega
  have h1 := gen (l.take i) fun x m => h x (List.mem_of_mem_take m)
  have : (l.take i).length ≤ l.length := by rw [List.length_take]; omega
  omega
end Go.Proofs.Ytlokkniepoeepaa
