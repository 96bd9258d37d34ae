/- Contracts of functions of the given program over its translation, each proved by walking its text; used by the laws' rows. It proves no given statement by itself. -/
import Derived.Test.YtfhpoagnfmgfkaaSLPlRP
set_option autoImplicit false
set_option linter.unusedSectionVars false
set_option linter.unusedSimpArgs false
set_option linter.unusedVariables false
set_option maxRecDepth 4000
set_option maxHeartbeats 16000000
namespace Go.Proofs.Ytfhpoagnfmgfkaa
open Go Go.SL Go.Proofs
/-! An order that rests is made less. -/
theorem lless_split {t i : Int} {es : List Ent} {o : Ord} (n : Int) (h : (es.map (·.o)).find? (isO t i) = some o) : ∃ j x, es[j]? = some x ∧ isO t i x.o = true ∧ lless t i n es = if n < 1 ∨ x.o.qty < n then (false, es) else (true, es.set j ⟨wq x.o n, min x.seen n⟩) := by
  rcases hf : es.findIdx? (isIt t i) with _ | j
  · rw [List.findIdx?_eq_none_iff] at hf
    have hm := List.mem_of_find?_eq_some h
    have hp := List.find?_some h
    obtain ⟨e, me, rfl⟩ := List.mem_map.1 hm
    have := hf e me
    have hp : isIt t i e = true := hp
    rw [this] at hp; cases hp
  · obtain ⟨hj, hp, -⟩ := List.findIdx?_eq_some_iff_getElem.1 hf
    have hx : es[j]? = some es[j] := List.getElem?_eq_getElem hj
    refine ⟨j, es[j], hx, hp, ?_⟩
    unfold lless
    rw [hf]
    dsimp only
    rw [hx]
theorem es_split {α : Type} {es : List α} {j : Nat} {x : α} (hx : es[j]? = some x) : es = es.take j ++ x :: es.drop (j + 1) := by
  have hj := (List.getElem?_eq_some_iff.1 hx).1
  have ex : es[j] = x := (List.getElem?_eq_some_iff.1 hx).2
  conv => lhs; rw [← List.take_append_drop j es, List.drop_eq_getElem_cons hj, ex]
theorem set_split {α : Type} {es : List α} {j : Nat} {x : α} (hx : es[j]? = some x) (y : α) : es.set j y = es.take j ++ y :: es.drop (j + 1) := by
  have hj := (List.getElem?_eq_some_iff.1 hx).1
  rw [List.set_eq_take_append_cons_drop, if_pos hj]
theorem set_here {α : Type} (P Q : List α) (y z : α) : (P ++ y :: Q).set P.length z = P ++ z :: Q := by
  induction P with
  | nil => rfl
  | cons p P ih => simp [ih]
theorem lv_set {lv : Lv} (h : lv.Ok) {j : Nat} {e : Ent} (he : lv.es[j]? = some e) {n : Int} (h1 : 1 ≤ n) (h2 : n ≤ e.o.qty) : (⟨lv.p, lv.es.set j ⟨wq e.o n, min e.seen n⟩⟩ : Lv).Ok := by
  obtain ⟨⟨hl, hb⟩, hn⟩ := h
  have hee := hb e (List.mem_of_getElem? he)
  refine ⟨⟨by show (lv.es.set j _).length ≤ _; rw [List.length_set]; exact hl, fun x m => ?_⟩, fun h0 => hn ?_⟩
  · rcases List.mem_or_eq_of_mem_set m with m | rfl
    · exact hb x m
    · show 1 ≤ n ∧ n ≤ 1048576 ∧ 1 ≤ min e.seen n ∧ min e.seen n ≤ n
      omega
  · have := congrArg List.length h0
    dsimp only at this
    rw [List.length_set] at this
    exact List.length_eq_zero_iff.1 this
variable [Base]
theorem bless_is {M : Mk} (hw : MW M) (hu : Uq M) {k : Nat} {x : Ord} {n : Int} (hk : (mall M)[k]? = some x) (hb : (bfind x.trader x.id M.B).2 = true) (h1 : 1 ≤ n) (h2 : n ≤ x.qty) :
    mall ⟨(bless x.trader x.id n M.B).2, M.W⟩ = (mall M).set k (wq x n) ∧ MW ⟨(bless x.trader x.id n M.B).2, M.W⟩ ∧ (bless x.trader x.id n M.B).2.no = M.B.no := by
  have hu1 : (mall M).countP (isO x.trader x.id) ≤ 1 := by rw [cM_all]; exact hu _ _
  cases hf : findB x.trader x.id M.B with
  | none =>
    unfold bfind at hb
    rw [hf] at hb; cases hb
  | some r =>
    obtain ⟨s, kk, o⟩ := r
    have hs := findB_side hf
    have hl : findL x.trader x.id (M.B.side s) = some (kk, o) := by
      unfold findB at hf
      split at hf
      · rename_i h1
        cases hf; exact h1
      · split at hf
        · rename_i h2
          cases hf; exact h2
        · cases hf
    obtain ⟨lv, hlv, hfo⟩ := findL_get hl
    obtain ⟨j, e, he, hp, hr⟩ := lless_split n hfo
    have o1 := orders_at hlv
    have hsp := es_split he
    have hall : ∃ P Q, mall M = P ++ e.o :: Q ∧ ∀ z : Ent, (s = 1 → ordersL ((M.B.side 1).set kk ⟨lv.p, lv.es.set j z⟩) ++ (ordersL (M.B.side 2) ++ M.W) = P ++ z.o :: Q) ∧ (s = 2 → ordersL (M.B.side 1) ++ (ordersL ((M.B.side 2).set kk ⟨lv.p, lv.es.set j z⟩) ++ M.W) = P ++ z.o :: Q) := by
      have hkk := (List.getElem?_eq_some_iff.1 hlv).1
      have hset : ∀ z : Ent, ordersL ((M.B.side s).set kk ⟨lv.p, lv.es.set j z⟩) = ordersL ((M.B.side s).take kk) ++ ((lv.es.take j).map (·.o) ++ z.o :: ((lv.es.drop (j + 1)).map (·.o) ++ ordersL ((M.B.side s).drop (kk + 1)))) := by
        intro z
        rw [List.set_eq_take_append_cons_drop, if_pos hkk, ordersL_app, ordersL, set_split he]
        simp
      have hold : ordersL (M.B.side s) = ordersL ((M.B.side s).take kk) ++ ((lv.es.take j).map (·.o) ++ e.o :: ((lv.es.drop (j + 1)).map (·.o) ++ ordersL ((M.B.side s).drop (kk + 1)))) := by
        rw [o1]
        conv => lhs; rw [hsp]
        simp
      rcases hs with rfl | rfl
      · refine ⟨ordersL ((M.B.side 1).take kk) ++ (lv.es.take j).map (·.o), (lv.es.drop (j + 1)).map (·.o) ++ ordersL ((M.B.side 1).drop (kk + 1)) ++ (ordersL (M.B.side 2) ++ M.W), ?_, fun z => ⟨fun _ => ?_, fun h => by omega⟩⟩
        · unfold mall; rw [hold]; simp
        · rw [hset z]; simp
      · refine ⟨ordersL (M.B.side 1) ++ (ordersL ((M.B.side 2).take kk) ++ (lv.es.take j).map (·.o)), (lv.es.drop (j + 1)).map (·.o) ++ ordersL ((M.B.side 2).drop (kk + 1)) ++ M.W, ?_, fun z => ⟨fun h => by omega, fun _ => ?_⟩⟩
        · unfold mall; rw [hold]; simp
        · rw [hset z]; simp
    obtain ⟨P, Q, e1, e2⟩ := hall
    have hy2 : (mall M)[P.length]? = some e.o := by rw [e1]; simp
    have hkP := uq_at hu1 hk hy2 (isO_self x) hp
    subst hkP
    rw [hy2] at hk
    have hxe : e.o = x := by cases hk; rfl
    rw [if_neg (by rw [hxe]; omega)] at hr
    have hbl : bless x.trader x.id n M.B = (true, M.B.put s ((M.B.side s).set kk ⟨lv.p, lv.es.set j ⟨wq e.o n, min e.seen n⟩⟩)) := by
      unfold bless
      rw [hf]
      dsimp only
      rw [hlv]
      dsimp only
      rw [hr]
    rw [hbl]
    dsimp only
    have hlok : (⟨lv.p, lv.es.set j ⟨wq e.o n, min e.seen n⟩⟩ : Lv).Ok := lv_set ((hw.b.side s).1 lv (List.mem_of_getElem? hlv)) he h1 (by rw [hxe]; exact h2)
    have hoks : ∀ z ∈ (M.B.side s).set kk ⟨lv.p, lv.es.set j ⟨wq e.o n, min e.seen n⟩⟩, z.Ok := by
      intro z m
      rcases List.mem_or_eq_of_mem_set m with m | rfl
      · exact (hw.b.side s).1 z m
      · exact hlok
    have e3 := e2 ⟨wq e.o n, min e.seen n⟩
    have hmall : mall ⟨M.B.put s ((M.B.side s).set kk ⟨lv.p, lv.es.set j ⟨wq e.o n, min e.seen n⟩⟩), M.W⟩ = (mall M).set P.length (wq x n) := by
      rw [e1, set_here, ← hxe]
      rcases hs with rfl | rfl
      · exact e3.1 rfl
      · exact e3.2 rfl
    have hlen := congrArg List.length hmall
    rw [List.length_set, mall_len, mall_len] at hlen
    have hlm := hw.len
    have hbw : BW (M.B.put s ((M.B.side s).set kk ⟨lv.p, lv.es.set j ⟨wq e.o n, min e.seen n⟩⟩)) := by
      have hll : lenL (M.B.put s ((M.B.side s).set kk ⟨lv.p, lv.es.set j ⟨wq e.o n, min e.seen n⟩⟩)).buys + lenL (M.B.put s ((M.B.side s).set kk ⟨lv.p, lv.es.set j ⟨wq e.o n, min e.seen n⟩⟩)).sells ≤ 64 := by
        unfold mlen at hlen hlm
        dsimp only at hlen
        omega
      rcases hs with rfl | rfl
      · exact ⟨hoks, hw.b.sells, hll⟩
      · exact ⟨hw.b.buys, hoks, hll⟩
    refine ⟨hmall, ⟨hbw, ?_, by rw [hlen]; exact hlm, hw.w⟩, ?_⟩
    · have := hw.no
      rcases hs with rfl | rfl <;> exact this
    · rcases hs with rfl | rfl <;> rfl
/-- An order of the book, by its place. -/
theorem rest_at {M : Mk} {k : Nat} {x : Ord} (hk : (mall M)[k]? = some x) (h : k + M.W.length < (mall M).length) : (bfind x.trader x.id M.B).2 = true := by
  cases hb : (bfind x.trader x.id M.B).2 with
  | true => rfl
  | false =>
    have h0 := cB_zero.2 hb
    unfold mall at hk h
    rw [← List.append_assoc] at hk h
    rw [List.length_append] at h
    rw [List.getElem?_append_left (by omega)] at hk
    have hm := List.mem_of_getElem? hk
    have : 0 < (ordersL (M.B.side 1) ++ ordersL (M.B.side 2)).countP (isO x.trader x.id) := List.countP_pos_iff.2 ⟨x, hm, isO_self x⟩
    rw [List.countP_append] at this
    unfold cB cL at h0
    omega
theorem amend_less {M : Mk} {x : Ord} {n : Int} (h : mfind x.trader x.id M = (x, true)) (hb : (bfind x.trader x.id M.B).2 = true) (hr : rightP (amO x x.price n)) (h2 : n ≤ x.qty) : mamend x.trader x.id x.price n M = ([], 0, ⟨(bless x.trader x.id n M.B).2, M.W⟩) := by
  unfold mamend
  rw [h, if_neg (by simp), if_neg (by unfold right; rw [if_pos hr]; decide), if_pos ⟨rfl, h2, hb⟩]
end Go.Proofs.Ytfhpoagnfmgfkaa
