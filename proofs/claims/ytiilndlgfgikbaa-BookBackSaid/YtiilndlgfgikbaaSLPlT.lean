/- Contracts of functions of the given program over its translation, each proved by walking its text; used by the laws' rows. It proves no given statement by itself. -/
import Derived.Test.YtiilndlgfgikbaaSLPlB
set_option autoImplicit false
set_option linter.unusedSectionVars false
set_option linter.unusedSimpArgs false
set_option linter.unusedVariables false
set_option maxRecDepth 4000
set_option maxHeartbeats 16000000
namespace Go.Proofs.Ytiilndlgfgikbaa
open Go Go.SL Go.Proofs
theorem findL_none {t i : Int} : ∀ {l : List Lv}, (∀ lv ∈ l, ∀ e ∈ lv.es, ¬ (e.o.trader = t ∧ e.o.id = i)) ↔ findL t i l = none
  | [] => by simp [findL]
  | x :: l => by
    have ih := findL_none (t := t) (i := i) (l := l)
    unfold findL
    constructor
    · intro h
      have h1 : (x.es.map (·.o)).find? (fun o => decide (o.trader = t) && decide (o.id = i)) = none := by
        rw [List.find?_eq_none]
        intro o ho
        obtain ⟨e, me, rfl⟩ := List.mem_map.1 ho
        have := h x (List.mem_cons_self ..) e me
        simpa using this
      rw [h1]
      have h2 := ih.1 fun lv m => h lv (List.mem_cons_of_mem _ m)
      rw [h2]
    · intro h lv m e me
      split at h
      · cases h
      · rename_i hn
        split at h
        · cases h
        · rename_i hn2
          rcases List.mem_cons.1 m with rfl | m
          · rw [List.find?_eq_none] at hn
            have := hn e.o (List.mem_map_of_mem me)
            simpa using this
          · exact ih.2 hn2 lv m e me
theorem bfind_none {t i : Int} {B : Bk} : (bfind t i B).2 = false ↔ findL t i B.buys = none ∧ findL t i B.sells = none := by
  unfold bfind findB
  cases h1 : findL t i B.buys with
  | some x => simp
  | none =>
    cases h2 : findL t i B.sells with
    | some x => simp
    | none => simp
theorem refused_of {o : Ord} {B : Bk} (h1 : rightP o) (h2 : o.stop = 0) (h3 : (bfind o.trader o.id B).2 = false) (h4 : rests o = true → lenL B.buys + lenL B.sells < 64) (h5 : o.kind ≠ 5) (h6 : o.kind ≠ 4) : brefused o B = 0 := by
  have hr : right o = 0 := by unfold right; rw [if_pos h1]
  unfold brefused
  rw [if_neg (by omega), if_neg (by rw [h3]; simp), if_neg (fun h => by have := h4 h.1; omega), if_neg (fun h => h5 h.1), if_neg (fun h => h6 h.1)]
theorem bk_ext {B : Bk} {x y : List Lv} {p q : Int} (h1 : B.side 1 = x) (h2 : B.side 2 = y) (h3 : B.last = p) (h4 : B.no = q) : B = ⟨x, y, p, q⟩ := by
  obtain ⟨b, s, l, n⟩ := B
  have h1 : b = x := h1
  have h2 : s = y := h2
  subst h1 h2 h3 h4; rfl
def tO (k : Nat) (n : Int) : Ord := ⟨((k : Int).tmod 5), k, ((k : Int).tmod 5), 2, 1, 100, n, 0, 0⟩
def tes : Nat → List Int → List Ent
  | _, [] => []
  | k, n :: r => ⟨tO k n, n⟩ :: tes (k + 1) r
def tB (ns : List Int) : Bk := ⟨[], if ns = [] then [] else [⟨100, tes 0 ns⟩], 0, 0⟩
theorem tes_snoc (n : Int) : ∀ (k : Nat) (l : List Int), tes k (l ++ [n]) = tes k l ++ [⟨tO (k + l.length) n, n⟩]
  | _, [] => rfl
  | k, x :: l => by
    have := tes_snoc n (k + 1) l
    simp only [List.cons_append, tes, this, List.length_cons, List.cons.injEq, true_and]
    rw [show k + 1 + l.length = k + (l.length + 1) by omega]
theorem tes_mem : ∀ {k : Nat} {l : List Int} {e : Ent}, e ∈ tes k l → ∃ j n, k ≤ j ∧ j < k + l.length ∧ e = ⟨tO j n, n⟩
  | _, [], _, h => nomatch h
  | k, x :: l, e, h => by
    rcases List.mem_cons.1 h with rfl | h
    · exact ⟨k, x, Nat.le_refl _, by simp, rfl⟩
    · obtain ⟨j, n, h1, h2, h3⟩ := tes_mem h
      exact ⟨j, n, by omega, by rw [List.length_cons]; omega, h3⟩
theorem tmod5 (k : Nat) : 0 ≤ (k : Int).tmod 5 ∧ (k : Int).tmod 5 ≤ 4 := by
  rw [Int.tmod_eq_emod_of_nonneg (by omega)]; omega
theorem tes_len (k : Nat) (l : List Int) : (tes k l).length = l.length := by
  induction l generalizing k with
  | nil => rfl
  | cons x l ih => simp only [tes, List.length_cons, ih]
theorem tB_find {ns : List Int} {t i : Int} (h : ∀ j : Nat, j < ns.length → ¬ ((j : Int).tmod 5 = t ∧ (j : Int) = i)) : (bfind t i (tB ns)).2 = false := by
  rw [bfind_none]
  refine ⟨rfl, findL_none.1 fun lv m e me => ?_⟩
  unfold tB at m
  dsimp only at m
  split at m
  · cases m
  · simp only [List.mem_singleton] at m
    subst m
    obtain ⟨j, n, h1, h2, rfl⟩ := tes_mem me
    exact h j (by omega)
theorem tB_len (ns : List Int) : lenL (tB ns).buys + lenL (tB ns).sells = ns.length := by
  unfold tB
  split
  · rename_i h; subst h; rfl
  · simp [lenL, tes_len]
variable [Base]
theorem tB_add {ns : List Int} {n : Int} (h : ns.length < 20) (hn : 1 ≤ n ∧ n ≤ 9) : badd (tO ns.length n) (tB ns) = (⟨tO ns.length n, [], n, true, false, false, 0⟩, tB (ns ++ [n])) := by
  have h5 := tmod5 ns.length
  have hr : rightP (tO ns.length n) := by
    unfold rightP tO
    dsimp only
    refine ⟨h5.1, by omega, h5.1, by omega, by omega, by omega, by omega, by omega, by omega, by omega, by omega, by omega, by omega, by omega, by omega, by omega, ?_, ?_, ?_⟩ <;> intros <;> omega
  have h0 : brefused (tO ns.length n) (tB ns) = 0 := by
    refine refused_of hr rfl (tB_find fun j hj hh => ?_) (fun _ => by rw [tB_len]; omega) (by show (1 : Int) ≠ 5; omega) (by show (1 : Int) ≠ 4; omega)
    have : (j : Int) = (ns.length : Int) := hh.2
    omega
  have A := add_is (o := tO ns.length n) (B := tB ns) (.inr rfl) h0
  have hm : matchL (tO ns.length n) ((tB ns).side (3 - (tO ns.length n).side)) (tB ns).last (tB ns).no = ⟨[], n, false, [], 0, 0⟩ := rfl
  rw [hm] at A
  obtain ⟨a1, a2, a3, a4, a5⟩ := A
  have hc : (decide (0 < n) && !false && rests (tO ns.length n)) = true := by rw [decide_eq_true (by omega : 0 < n)]; rfl
  have e2 : (badd (tO ns.length n) (tB ns)).2 = tB (ns ++ [n]) := by
    refine (bk_ext (a2 : (badd (tO ns.length n) (tB ns)).2.side 1 = []) (a3 : (badd (tO ns.length n) (tB ns)).2.side 2 = _) a4 a5).trans ?_
    dsimp only
    rw [if_pos hc]
    have hmn : min (0 : Int) n = 0 := by omega
    have hw : wqs (tO ns.length n) n (min (tO ns.length n).show_ n) = tO ns.length n := by
      show wqs (tO ns.length n) n (min 0 n) = _
      rw [hmn]; rfl
    rw [hw]
    show Bk.mk [] (restL (tO ns.length n) (if ns = [] then [] else [⟨100, tes 0 ns⟩])) 0 0 = Bk.mk [] (if ns ++ [n] = [] then [] else [⟨100, tes 0 (ns ++ [n])⟩]) 0 0
    rw [if_neg (show ¬ ns ++ [n] = [] by simp)]
    rw [tes_snoc, Nat.zero_add]
    split
    · rename_i hs; subst hs; rfl
    · rfl
  have e1 : (badd (tO ns.length n) (tB ns)).1 = ⟨tO ns.length n, [], n, true, false, false, 0⟩ := by
    rw [a1, hc]
  exact Prod.ext e1 e2
/-- What is given of those at one price, in their order. -/
def TimeOk : Int → Nat → List Int → List (Ord × Int) → Prop
  | q, _, ns, [] => q = 0 ∨ ns = []
  | q, k, ns, h :: hs => ∃ n r, ns = n :: r ∧ h.1.id = k ∧ h.2 = min q n ∧ TimeOk (q - h.2) (k + 1) r hs
theorem take_time : ∀ (ns : List Int) (k : Nat) (q : Int), 0 ≤ q → (∀ n ∈ ns, 1 ≤ n) → TimeOk q k ns (take 7 q (tes k ns)).1 ∧ (take 7 q (tes k ns)).2.1 = false
  | [], k, q, hq, _ => by rw [show tes k [] = [] from rfl, take_nil]; exact ⟨.inr rfl, rfl⟩
  | n :: r, k, q, hq, hn => by
    have hn1 := hn n (List.mem_cons_self ..)
    by_cases h0 : 0 < q
    · have h5 := tmod5 k
      have hf : (tO k n).firm ≠ 7 := by show (k : Int).tmod 5 ≠ 7; omega
      show TimeOk q k (n :: r) (take 7 q (⟨tO k n, n⟩ :: tes (k + 1) r)).1 ∧ (take 7 q (⟨tO k n, n⟩ :: tes (k + 1) r)).2.1 = false
      rw [take_cons h0 hf hn1]
      dsimp only
      by_cases hle : n ≤ q
      · have e : min q n = n := by omega
        have eg : giveE ⟨tO k n, n⟩ (tes (k + 1) r) n = tes (k + 1) r := by
          unfold giveE
          rw [if_neg (by dsimp only; omega), if_neg (by show ¬ 0 < n - n; omega)]
        rw [e, eg]
        have ih := take_time r (k + 1) (q - n) (by omega) fun x m => hn x (List.mem_cons_of_mem _ m)
        exact ⟨⟨n, r, rfl, rfl, e.symm, ih.1⟩, ih.2⟩
      · have e : min q n = q := by omega
        rw [e, Int.sub_self, take_le (by omega)]
        exact ⟨⟨n, r, rfl, rfl, e.symm, by show TimeOk (q - q) _ _ _; rw [Int.sub_self]; exact .inl rfl⟩, rfl⟩
    · rw [take_le (by omega)]
      exact ⟨.inl (by omega), rfl⟩
theorem time_at : ∀ {hs : List (Ord × Int)} {q : Int} {k : Nat} {ns : List Int}, TimeOk q k ns hs → ∀ {i : Nat} {h : Ord × Int}, hs[i]? = some h → ∃ n, ns[i]? = some n ∧ h.1.id = ((k + i : Nat) : Int) ∧ h.2 = min (q - sumH (hs.take i)) n
  | [], _, _, _, _, _, _, hi => by simp at hi
  | a :: hs, q, k, ns, ⟨n, r, e, h1, h2, h3⟩, 0, h, hi => by
    simp at hi; subst hi
    exact ⟨n, by rw [e]; rfl, by simpa using h1, by simpa [sumH] using h2⟩
  | a :: hs, q, k, ns, ⟨n, r, e, h1, h2, h3⟩, i + 1, h, hi => by
    obtain ⟨m, m1, m2, m3⟩ := time_at h3 (i := i) (by simpa using hi)
    refine ⟨m, by rw [e]; simpa using m1, by rw [m2]; push_cast; omega, ?_⟩
    rw [m3, List.take_succ_cons]
    simp only [sumH]
    rw [show q - (a.2 + sumH (hs.take i)) = q - a.2 - sumH (hs.take i) by omega]
theorem time_end : ∀ {hs : List (Ord × Int)} {q : Int} {k : Nat} {ns : List Int}, TimeOk q k ns hs → (q - sumH hs = 0 ∨ hs.length = ns.length) ∧ hs.length ≤ ns.length
  | [], q, k, ns, h => by
    rcases h with h | h
    · exact ⟨.inl (by simp only [sumH]; omega), Nat.zero_le _⟩
    · subst h; exact ⟨.inr rfl, Nat.le_refl _⟩
  | a :: hs, q, k, ns, ⟨n, r, e, h1, h2, h3⟩ => by
    subst e
    obtain ⟨m1, m2⟩ := time_end h3
    refine ⟨?_, by simp only [List.length_cons]; omega⟩
    rcases m1 with m | m
    · left; simp only [sumH]; omega
    · right; simp only [List.length_cons, m]
def tQ (q : Int) : Ord := ⟨7, 1, 7, 1, 3, 100, q, 0, 0⟩
/-- What the immediate order comes to. -/
theorem tB_take {ns : List Int} {q : Int} (h : ns.length ≤ 20) (hn : ∀ n ∈ ns, 1 ≤ n) (hq : 1 ≤ q ∧ q ≤ 100) : ∃ hs X2, TimeOk q 0 ns hs ∧ badd (tQ q) (tB ns) = (⟨tQ q, flls (tQ q) 100 0 hs, q - sumH hs, false, false, false, 0⟩, X2) := by
  have hr : rightP (tQ q) := by
    unfold rightP tQ
    dsimp only
    refine ⟨by omega, by omega, by omega, by omega, by omega, by omega, by omega, by omega, by omega, by omega, by omega, by omega, by omega, by omega, by omega, by omega, ?_, ?_, ?_⟩ <;> intros <;> omega
  have h0 : brefused (tQ q) (tB ns) = 0 := by
    refine refused_of hr rfl (tB_find fun j hj hh => ?_) (fun h => by cases h) (by show (3 : Int) ≠ 5; omega) (by show (3 : Int) ≠ 4; omega)
    have := tmod5 j
    have : (j : Int).tmod 5 = 7 := hh.1
    omega
  have A := add_is (o := tQ q) (B := tB ns) (.inl rfl) h0
  have T := take_time ns 0 q (by omega) hn
  have key : ∃ hs, TimeOk q 0 ns hs ∧ (matchL (tQ q) ((tB ns).side (3 - (tQ q).side)) (tB ns).last (tB ns).no).fs = flls (tQ q) 100 0 hs ∧ (matchL (tQ q) ((tB ns).side (3 - (tQ q).side)) (tB ns).last (tB ns).no).qty = q - sumH hs ∧ (matchL (tQ q) ((tB ns).side (3 - (tQ q).side)) (tB ns).last (tB ns).no).self = false := by
    show ∃ hs, TimeOk q 0 ns hs ∧ (matchL (tQ q) (if ns = [] then [] else [⟨100, tes 0 ns⟩]) 0 0).fs = flls (tQ q) 100 0 hs ∧ (matchL (tQ q) (if ns = [] then [] else [⟨100, tes 0 ns⟩]) 0 0).qty = q - sumH hs ∧ (matchL (tQ q) (if ns = [] then [] else [⟨100, tes 0 ns⟩]) 0 0).self = false
    split
    · rename_i hs
      exact ⟨[], .inr hs, rfl, (by show q = q - 0; omega), rfl⟩
    · refine ⟨(take 7 q (tes 0 ns)).1, T.1, ?_⟩
      have hc : (0 < (tQ q).qty ∧ crosses (tQ q) 100 = true) := ⟨by show 0 < q; omega, rfl⟩
      unfold matchL
      rw [if_pos hc]
      have hs : (take (tQ q).firm (tQ q).qty (tes 0 ns)).2.1 = false := T.2
      dsimp only
      rw [if_neg (by rw [hs]; simp)]
      split
      · refine ⟨?_, rfl, rfl⟩
        show flls _ _ _ _ ++ [] = _
        rw [List.append_nil]; rfl
      · exact ⟨rfl, rfl, rfl⟩
  obtain ⟨hs, t1, t2, t3, t4⟩ := key
  refine ⟨hs, (badd (tQ q) (tB ns)).2, t1, Prod.ext ?_ rfl⟩
  rw [A.out, t2, t3, t4]
  simp [rests, tQ]
theorem flls_at {p : Int} : ∀ {hs : List (Ord × Int)} {o : Ord} {no : Int} {i : Nat} {f : Fl}, (flls o p no hs)[i]? = some f → ∃ h, hs[i]? = some h ∧ f.maker = h.1 ∧ f.qty = h.2
  | [], _, _, _, _, h => by simp [flls] at h
  | a :: hs, o, no, 0, f, h => by simp [flls] at h; subst h; exact ⟨a, rfl, rfl, rfl⟩
  | a :: hs, o, no, i + 1, f, h => by
    have h : (flls (wq o (o.qty - a.2)) p (no + 1) hs)[i]? = some f := by simpa [flls] using h
    obtain ⟨x, h1, h2⟩ := flls_at h
    exact ⟨x, by simpa using h1, h2⟩
theorem time_left {hs : List (Ord × Int)} {q : Int} {k : Nat} {ns : List Int} (h : TimeOk q k ns hs) (hq : 0 ≤ q) (hn : ∀ n ∈ ns, 1 ≤ n) : ∀ i, 0 ≤ q - sumH (hs.take i) ∧ q - sumH (hs.take i) ≤ q
  | 0 => by simp only [List.take_zero, sumH]; omega
  | i + 1 => by
    have ih := time_left h hq hn i
    cases hx : hs[i]? with
    | none =>
      have := List.getElem?_eq_none_iff.1 hx
      rw [List.take_of_length_le (by omega)]
      rw [List.take_of_length_le (by omega)] at ih
      exact ih
    | some x =>
      obtain ⟨n, h1, h2, h3⟩ := time_at h hx
      have := hn n (List.mem_of_getElem? h1)
      rw [sumH_take hx]; omega
end Go.Proofs.Ytiilndlgfgikbaa
