/- Contracts of functions of the given program over its translation, each proved by walking its text; used by the laws' rows. It proves no given statement by itself. -/
import Derived.Test.YtlokkniepoeepaaSLSlcOX
set_option autoImplicit false
set_option linter.unusedSectionVars false
set_option linter.unusedSimpArgs false
set_option linter.unusedVariables false
set_option maxRecDepth 4000
set_option maxHeartbeats 16000000
namespace Go.Proofs.Ytlokkniepoeepaa
open Go Go.SL Go.Proofs
def tq (i : Nat) (s : Int) : Ord := ⟨1, i, 1, 1, 3, 40, 1, 0, s⟩
def tS (p : Int) : Ord := ⟨2, 1, 2, 2, 1, p, 1, 0, 0⟩
def tU (p : Int) : Ord := ⟨3, 1, 3, 1, 1, p, 1, 0, 0⟩
/-- What waits: orders of trader 1 with numbers below i. -/
structure Wt (i : Nat) (W : List Ord) : Prop where
  len : W.length = i
  is : ∀ o ∈ W, ∃ (k : Nat) (s : Int), o = tq k s ∧ k < i ∧ 45 ≤ s ∧ s ≤ 65
theorem Wt.nil : Wt 0 [] := ⟨rfl, fun _ m => nomatch m⟩
theorem Wt.snoc {i : Nat} {W : List Ord} {s : Int} (h : Wt i W) (h1 : 45 ≤ s) (h2 : s ≤ 65) : Wt (i + 1) (W ++ [tq i s]) := by
  refine ⟨by rw [List.length_append, h.len]; rfl, fun o m => ?_⟩
  rcases List.mem_append.1 m with m | m
  · obtain ⟨k, t, e, hk, h3, h4⟩ := h.is o m
    exact ⟨k, t, e, by omega, h3, h4⟩
  · rw [List.mem_singleton] at m
    exact ⟨i, s, m, by omega, h1, h2⟩
theorem Wt.noFind {i : Nat} {W : List Ord} (h : Wt i W) {t j : Int} (hj : t ≠ 1 ∨ i ≤ j) : W.findIdx? (isO t j) = none := by
  rw [List.findIdx?_eq_none_iff]
  intro o m
  obtain ⟨k, s, rfl, hk, -⟩ := h.is o m
  show (decide ((1 : Int) = t) && decide ((k : Int) = j)) = false
  rw [Bool.and_eq_false_iff, decide_eq_false_iff_not, decide_eq_false_iff_not]
  omega
theorem hit_zero (o : Ord) : hit o 0 = false := by unfold hit; simp
theorem findIdx_hit0 (W : List Ord) : W.findIdx? (fun o => hit o 0) = none := by
  rw [List.findIdx?_eq_none_iff]; exact fun o _ => hit_zero o
theorem mtrig_zero {n : Nat} {M : Mk} (h : M.B.last = 0) : mtrig n M = ([], M) := by
  have hf : M.W.findIdx? (fun o => hit o M.B.last) = none := by rw [h]; exact findIdx_hit0 _
  cases n with
  | zero => rfl
  | succ n => unfold mtrig; rw [hf]
theorem right_of {o : Ord} (h : rightP o) : right o = 0 := by unfold right; rw [if_pos h]
theorem tq_right {i : Nat} {s : Int} (hi : i ≤ 100) (h1 : 0 ≤ s) (h2 : s ≤ 65) : rightP (tq i s) := by
  unfold rightP tq; dsimp only; omega
theorem tS_right {p : Int} (h1 : 50 ≤ p) (h2 : p ≤ 60) : rightP (tS p) := by unfold rightP tS; dsimp only; omega
theorem tU_right {p : Int} (h1 : 50 ≤ p) (h2 : p ≤ 60) : rightP (tU p) := by unfold rightP tU; dsimp only; omega
theorem mfind_no {t i : Int} {M : Mk} (h1 : (bfind t i M.B).2 = false) (h2 : M.W.findIdx? (isO t i) = none) : (mfind t i M).2 = false := by
  unfold mfind
  rw [if_neg (by rw [h1]; simp), h2]
theorem mref_zero {o : Ord} {M : Mk} (h1 : rightP o) (h2 : (mfind o.trader o.id M).2 = false) (h3 : mlen M < 64) : mrefused o M = 0 := by
  unfold mrefused
  rw [if_neg (by rw [right_of h1]; simp), if_neg (by rw [h2]; simp), if_neg (by omega)]
theorem mref_noM {o : Ord} {M : Mk} (h : mrefused o M = 0) : ¬ (mrefused o M ≠ 0) := by omega
/-- An order that waits. -/
theorem turn_wait {i : Nat} {W : List Ord} {s : Int} (h : Wt i W) (hi : i ≤ 20) (h1 : 45 ≤ s) (h2 : s ≤ 65) :
    madd (tq i s) ⟨empty, W⟩ = ([⟨tq i s, [], 1, false, true, false, 0⟩], ⟨empty, W ++ [tq i s]⟩) := by
  have hr : mrefused (tq i s) ⟨empty, W⟩ = 0 := mref_zero (tq_right (by omega) (by omega) h2) (mfind_no rfl (h.noFind (.inr (Int.le_refl _)))) (by
    show 0 + 0 + W.length < 64
    rw [h.len]; omega)
  have hf : mfirst (tq i s) ⟨empty, W⟩ = (⟨tq i s, [], 1, false, true, false, 0⟩, ⟨empty, W ++ [tq i s]⟩) := by
    unfold mfirst
    rw [if_neg (by omega), if_pos ⟨by show 0 < s; omega, hit_zero _⟩]; rfl
  unfold madd
  rw [hf]
  dsimp only
  rw [mtrig_zero rfl]
def sB (p : Int) : Bk := ⟨[], [⟨p, [⟨tS p, 1⟩]⟩], 0, 0⟩
def eB (p : Int) : Bk := ⟨[], [], p, 1⟩
theorem bare_zero {o : Ord} (h : o.stop = 0) : bare o = o := by
  obtain ⟨a, b, c, d, e, f, g, i, s⟩ := o
  have h : s = 0 := h
  subst h; rfl
theorem tS_badd {p : Int} (h1 : 50 ≤ p) (h2 : p ≤ 60) : badd (tS p) empty = (⟨tS p, [], 1, true, false, false, 0⟩, sB p) := by
  have hb : brefused (tS p) empty = 0 := by
    unfold brefused
    rw [if_neg (by rw [right_of (tS_right h1 h2)]; show ¬ ((0 : Int) ≠ 0 ∨ (0 : Int) ≠ 0); decide), if_neg (by show ¬ (false = true); decide), if_neg (by show ¬ (true = true ∧ 64 ≤ 0); omega), if_neg (by show ¬ ((1 : Int) = 5 ∧ _); omega), if_neg (by show ¬ ((1 : Int) = 4 ∧ _); omega)]
  unfold badd
  rw [if_neg (by omega)]
  rfl
theorem tU_badd {p : Int} (h1 : 50 ≤ p) (h2 : p ≤ 60) : badd (tU p) (sB p) = (⟨tU p, [⟨tS p, tU p, p, 1, 1⟩], 0, false, false, false, 0⟩, eB p) := by
  have hb : brefused (tU p) (sB p) = 0 := by
    unfold brefused
    rw [if_neg (by rw [right_of (tU_right h1 h2)]; show ¬ ((0 : Int) ≠ 0 ∨ (0 : Int) ≠ 0); decide), if_neg (by show ¬ (false = true); decide), if_neg (by show ¬ (true = true ∧ 64 ≤ 1); omega), if_neg (by show ¬ ((1 : Int) = 5 ∧ _); omega), if_neg (by show ¬ ((1 : Int) = 4 ∧ _); omega)]
  have hc : crosses (tU p) p = true := by
    unfold crosses
    rw [if_neg (by show ¬ (1 : Int) = 2; omega), if_pos (show (tU p).side = 1 from rfl)]
    exact decide_eq_true (Int.le_refl p)
  have hm : matchL (tU p) [⟨p, [⟨tS p, 1⟩]⟩] 0 0 = ⟨[⟨tS p, tU p, p, 1, 1⟩], 0, false, [], p, 1⟩ := by
    rw [match_eqF 4 _ _ _ _ (by show (1 : Int).toNat ≤ 4; decide)]
    unfold matchF
    rw [if_pos ⟨by show (0 : Int) < 1; decide, hc⟩]
    rfl
  unfold badd
  rw [if_neg (by omega)]
  have hs : (sB p).side (3 - (tU p).side) = [⟨p, [⟨tS p, 1⟩]⟩] := rfl
  have hl : (sB p).last = 0 := rfl
  have hn : (sB p).no = 0 := rfl
  rw [hs, hl, hn, hm]
  rfl
theorem turn_enter {k : Nat} {s p : Int} (hk : k ≤ 100) (h1 : 45 ≤ s) (h2 : s ≤ 65) : menter (tq k s) (eB p) = (⟨tq k s, [], 1, false, false, false, 0⟩, eB p) := by
  have hr : rightP (bare (tq k s)) := by show rightP (tq k 0); exact tq_right hk (by omega) (by omega)
  have hb : brefused (bare (tq k s)) (eB p) = 0 := by
    unfold brefused
    rw [if_neg (by rw [right_of hr]; simp [bare]), if_neg (by show ¬ (false = true); decide), if_neg (by show ¬ (false = true ∧ _); simp), if_neg (by show ¬ ((3 : Int) = 5 ∧ _); omega), if_neg (by show ¬ ((3 : Int) = 4 ∧ _); omega)]
  have ha : badd (bare (tq k s)) (eB p) = (⟨bare (tq k s), [], 1, false, false, false, 0⟩, eB p) := by
    unfold badd
    rw [if_neg (by omega)]
    rfl
  unfold menter
  rw [ha]
theorem cut_split {W : List Ord} {k : Nat} {o : Ord} (h : W[k]? = some o) : W = W.take k ++ o :: W.drop (k + 1) := by
  have hk := (List.getElem?_eq_some_iff.1 h).1
  have e : W[k] = o := (List.getElem?_eq_some_iff.1 h).2
  conv => lhs; rw [← List.take_append_drop k W, List.drop_eq_getElem_cons hk, e]
def gone (o : Ord) : Out := ⟨o, [], 1, false, false, false, 0⟩
theorem turn_trig {p : Int} : ∀ (n : Nat) (W : List Ord), W.length ≤ n → (∀ o ∈ W, ∃ (k : Nat) (s : Int), o = tq k s ∧ k ≤ 100 ∧ 45 ≤ s ∧ s ≤ 65) →
    mtrig n ⟨eB p, W⟩ = ((W.filter fun o => hit o p).map gone, ⟨eB p, W.filter fun o => !hit o p⟩)
  | 0, W, h, _ => by
    have : W = [] := List.length_eq_zero_iff.1 (by omega)
    subst this; rfl
  | n + 1, W, h, hW => by
    unfold mtrig
    show (match W.findIdx? (fun o => hit o p) with | none => _ | some k => _) = _
    cases hf : W.findIdx? (fun o => hit o p) with
    | none =>
      rw [List.findIdx?_eq_none_iff] at hf
      have e1 : (W.filter fun o => hit o p) = [] := by rw [List.filter_eq_nil_iff]; intro o m; rw [hf o m]; simp
      have e2 : (W.filter fun o => !hit o p) = W := by rw [List.filter_eq_self]; intro o m; rw [hf o m]; rfl
      dsimp only
      rw [e1, e2]; rfl
    | some k =>
      rw [List.findIdx?_eq_some_iff_getElem] at hf
      obtain ⟨hk, hhit, hbef⟩ := hf
      have ho : W[k]? = some W[k] := List.getElem?_eq_getElem hk
      generalize W[k] = o at *
      dsimp only
      rw [ho]
      dsimp only
      obtain ⟨j, s, rfl, hj, h1, h2⟩ := hW o (List.mem_of_getElem? ho)
      rw [turn_enter hj h1 h2]
      dsimp only
      have hl := cut_len ho
      rw [turn_trig n (W.take k ++ W.drop (k + 1)) (by omega) fun o m => hW o (cut_mem m)]
      have hs := cut_split ho
      have hpre : ∀ o ∈ W.take k, hit o p = false := by
        intro o m
        obtain ⟨j, hj, rfl⟩ := List.mem_take_iff_getElem.1 m
        have := hbef j (by omega)
        simpa using this
      have f1 : (W.take k).filter (fun o => hit o p) = [] := by rw [List.filter_eq_nil_iff]; intro o m; rw [hpre o m]; simp
      have e1 : (W.filter fun o => hit o p) = tq j s :: ((W.take k ++ W.drop (k + 1)).filter fun o => hit o p) := by
        conv => lhs; rw [hs]
        rw [List.filter_append, f1, List.filter_cons_of_pos (p := fun o => hit o p) hhit, List.filter_append, f1]; rfl
      have e2 : (W.filter fun o => !hit o p) = ((W.take k ++ W.drop (k + 1)).filter fun o => !hit o p) := by
        conv => lhs; rw [hs]
        rw [List.filter_append, List.filter_cons_of_neg (p := fun o => !hit o p) (by rw [hhit]; simp), List.filter_append]
      rw [e1, e2]; rfl
theorem turn_hit {k : Nat} {s p : Int} (h1 : 45 ≤ s) (hp : 0 < p) : hit (tq k s) p = decide (s ≤ p) := by
  unfold hit tq
  dsimp only
  rw [if_neg (by omega), if_pos rfl]
/-- The seller rests. -/
theorem turn_sell {i : Nat} {W : List Ord} {p : Int} (h : Wt i W) (hi : i ≤ 20) (h1 : 50 ≤ p) (h2 : p ≤ 60) :
    madd (tS p) ⟨empty, W⟩ = ([⟨tS p, [], 1, true, false, false, 0⟩], ⟨sB p, W⟩) := by
  have hr : mrefused (tS p) ⟨empty, W⟩ = 0 := mref_zero (tS_right h1 h2) (mfind_no rfl (h.noFind (.inl (by show (2 : Int) ≠ 1; decide)))) (by
    show 0 + 0 + W.length < 64
    rw [h.len]; omega)
  have hf : mfirst (tS p) ⟨empty, W⟩ = (⟨tS p, [], 1, true, false, false, 0⟩, ⟨sB p, W⟩) := by
    unfold mfirst
    rw [if_neg (by omega), if_neg (fun h => absurd h.1 (by show ¬ (0 : Int) < 0; decide))]
    unfold menter
    rw [bare_zero rfl, tS_badd h1 h2]
  unfold madd
  rw [hf]
  dsimp only
  rw [mtrig_zero rfl]
/-- The buyer trades with it, and those that wait go. -/
theorem turn_buy {i : Nat} {W : List Ord} {p : Int} (h : Wt i W) (hi : i ≤ 20) (h1 : 50 ≤ p) (h2 : p ≤ 60) :
    madd (tU p) ⟨sB p, W⟩ = (⟨tU p, [⟨tS p, tU p, p, 1, 1⟩], 0, false, false, false, 0⟩ :: (W.filter fun o => hit o p).map gone, ⟨eB p, W.filter fun o => !hit o p⟩) := by
  have hr : mrefused (tU p) ⟨sB p, W⟩ = 0 := mref_zero (tU_right h1 h2) (mfind_no rfl (h.noFind (.inl (by show (3 : Int) ≠ 1; decide)))) (by
    show 0 + 1 + W.length < 64
    rw [h.len]; omega)
  have hf : mfirst (tU p) ⟨sB p, W⟩ = (⟨tU p, [⟨tS p, tU p, p, 1, 1⟩], 0, false, false, false, 0⟩, ⟨eB p, W⟩) := by
    unfold mfirst
    rw [if_neg (by omega), if_neg (fun h => absurd h.1 (by show ¬ (0 : Int) < 0; decide))]
    unfold menter
    rw [bare_zero rfl, tU_badd h1 h2]
  unfold madd
  rw [hf]
  dsimp only
  rw [turn_trig _ W (Nat.le_refl _) fun o m => by
    obtain ⟨k, s, e, hk, h3, h4⟩ := h.is o m
    exact ⟨k, s, e, by omega, h3, h4⟩]
/-- The numbers of those that are hit at a price. -/
def wants (p : Int) (W : List Ord) : List Int := (W.filter fun o => hit o p).map (·.id)
theorem wants_len (p : Int) (W : List Ord) : (wants p W).length = (W.filter fun o => hit o p).length := List.length_map ..
theorem wants_snoc {p s : Int} {W : List Ord} {i : Nat} (h1 : 45 ≤ s) (hp : 0 < p) : wants p (W ++ [tq i s]) = if s ≤ p then wants p W ++ [(i : Int)] else wants p W := by
  unfold wants
  rw [List.filter_append]
  by_cases h : s ≤ p
  · rw [if_pos h, List.filter_cons_of_pos (by rw [turn_hit h1 hp]; exact decide_eq_true h)]
    simp [tq]
  · rw [if_neg h, List.filter_cons_of_neg (by rw [turn_hit h1 hp, decide_eq_false h]; simp)]
    simp
theorem wants_rest (p : Int) (W : List Ord) : (wants p W).length + (W.filter fun o => !hit o p).length = W.length := by
  rw [wants_len]
  induction W with
  | nil => rfl
  | cons o W ih =>
    cases h : hit o p with
    | true => rw [List.filter_cons_of_pos (p := fun o => hit o p) h, List.filter_cons_of_neg (p := fun o => !hit o p) (by rw [h]; simp), List.length_cons, List.length_cons]; omega
    | false => rw [List.filter_cons_of_neg (p := fun o => hit o p) (by rw [h]; simp), List.filter_cons_of_pos (p := fun o => !hit o p) (by rw [h]; rfl), List.length_cons, List.length_cons]; omega
end Go.Proofs.Ytlokkniepoeepaa
