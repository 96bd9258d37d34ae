/- Contracts of functions of the given program over its translation, each proved by walking its text; used by the laws' rows. It proves no given statement by itself. -/
import Derived.Test.YtlokkniepoeepaaSLLvlD
import Derived.Test.YtlokkniepoeepaaSLMore3
set_option autoImplicit false
set_option linter.unusedSectionVars false
set_option linter.unusedSimpArgs false
set_option linter.unusedVariables false
set_option maxRecDepth 4000
namespace Go.Proofs.Ytlokkniepoeepaa
open Go Go.SL Go.Proofs
theorem i64_and_7 (n : Int) : bits .and .i64 n 7 = n % 8 := by
  have h1 : (BitVec.ofInt 64 7).toNat = 2 ^ 3 - 1 := by decide
  have key : (BitVec.ofInt 64 n &&& BitVec.ofInt 64 7).toNat = (n % ((2 ^ 64 : Nat) : Int)).toNat % 2 ^ 3 := by
    rw [BitVec.toNat_and, BitVec.toNat_ofInt, h1, Nat.and_two_pow_sub_one_eq_mod]
  show IntKind.i64.wrap ((BitVec.ofInt 64 n &&& BitVec.ofInt 64 7).toNat : Nat) = n % 8
  rw [key, IntKind.wrap_i64]
  omega
variable [Base]
def key (x : Ent) : Int × Int := (x.o.trader, x.o.id)
theorem isIt_key {t i : Int} {x : Ent} : isIt t i x = true ↔ key x = (t, i) := by
  unfold isIt key; simp
theorem giveE_keys {e : Ent} {l : List Ent} {n : Int} (h : ((e :: l).map key).Nodup) : ((giveE e l n).map key).Nodup := by
  rw [List.map_cons, List.nodup_cons] at h
  unfold giveE
  split
  · rw [List.map_cons, List.nodup_cons]; exact h
  · split
    · rw [List.map_append, List.nodup_append]
      refine ⟨h.2, by simp, fun a ha b hb => ?_⟩
      simp only [List.map_cons, List.map_nil, List.mem_singleton] at hb
      subst hb
      intro e2; subst e2; exact h.1 ha
    · exact h.2
theorem take_keys {firm : Int} (k : Nat) : ∀ (q : Int) (es : List Ent), q.toNat ≤ k → LB es → (es.map key).Nodup → ((take firm q es).2.2.map key).Nodup := by
  induction k with
  | zero =>
    intro q es hk hb hn
    rw [take_le (by omega)]; exact hn
  | succ k ih =>
    intro q es hk hb hn
    by_cases h0 : 0 < q
    · cases es with
      | nil => rw [take_nil]; exact hn
      | cons e l =>
        have he := hb.2 e (by simp)
        by_cases hf : e.o.firm = firm
        · rw [take_own h0 hf]; exact hn
        · rw [take_cons h0 hf he.2.2.1]
          exact ih _ _ (by omega) (giveE_LB (n := min q e.seen) hb (by omega) (by omega)).1 (giveE_keys hn)
    · rw [take_le (by omega)]; exact hn
/-- All but one. -/
def cutE (k : Nat) (es : List Ent) : List Ent := es.take k ++ es.drop (k + 1)
theorem split_at {α : Type} {es : List α} {k : Nat} {x : α} (hx : es[k]? = some x) : es = es.take k ++ x :: es.drop (k + 1) := by
  have hi := (List.getElem?_eq_some_iff.1 hx).1
  have h2 := (List.getElem?_eq_some_iff.1 hx).2
  rw [← h2, ← List.drop_eq_getElem_cons hi, List.take_append_drop]
theorem keys_at {es : List Ent} {k : Nat} {x : Ent} (hx : es[k]? = some x) (hn : (es.map key).Nodup) : ∀ y ∈ cutE k es, key y ≠ key x := by
  rw [split_at hx, List.map_append, List.map_cons, List.nodup_append] at hn
  obtain ⟨-, h2, h3⟩ := hn
  rw [List.nodup_cons] at h2
  intro y hy
  rcases List.mem_append.1 hy with m | m
  · exact h3 _ (List.mem_map_of_mem m) _ (by simp)
  · intro e; exact h2.1 (e ▸ List.mem_map_of_mem m)
theorem lrem_at {es : List Ent} {k : Nat} {x : Ent} (hx : es[k]? = some x) (hn : (es.map key).Nodup) : lrem x.o.trader x.o.id es = (x.o, true, cutE k es) := by
  have hk := keys_at hx hn
  refine lrem_some hx (isIt_key.2 rfl) fun j y hj hy => ?_
  rw [Bool.eq_false_iff]
  intro hi
  have hm : y ∈ cutE k es := List.mem_append_left _ (List.mem_iff_getElem?.2 ⟨j, by rw [List.getElem?_take_of_lt hj]; exact hy⟩)
  exact hk y hm (isIt_key.1 hi)
theorem lrem_again {es : List Ent} {k : Nat} {x : Ent} (hx : es[k]? = some x) (hn : (es.map key).Nodup) : lrem x.o.trader x.o.id (cutE k es) = (o0, false, cutE k es) := by
  refine lrem_none fun y hy => ?_
  rw [Bool.eq_false_iff]
  intro hi
  exact keys_at hx hn y hy (isIt_key.1 hi)
theorem sumE_cut {g : Ent → Int} {es : List Ent} {k : Nat} {x : Ent} (hx : es[k]? = some x) : sumE g es = g x + sumE g (cutE k es) := by
  conv => lhs; rw [split_at hx]
  unfold cutE
  rw [sumE_append, sumE_append]; simp only [sumE]; omega
theorem cutE_len {es : List Ent} {k : Nat} (hk : k < es.length) : (cutE k es).length = es.length - 1 := by
  unfold cutE
  rw [List.length_append, List.length_take, List.length_drop]; omega
theorem cutE_LB {es : List Ent} {k : Nat} (h : LB es) : LB (cutE k es) := by
  refine ⟨?_, fun x m => ?_⟩
  · unfold cutE; rw [List.length_append, List.length_take, List.length_drop]; have := h.1; omega
  · rcases List.mem_append.1 m with m | m
    · exact h.2 x (List.mem_of_mem_take m)
    · exact h.2 x (List.mem_of_mem_drop m)
end Go.Proofs.Ytlokkniepoeepaa
