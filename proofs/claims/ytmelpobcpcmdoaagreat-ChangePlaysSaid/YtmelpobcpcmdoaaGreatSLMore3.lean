/- The separation layer: where roads meet within a sequence. It proves no statement by itself. -/
import Derived.Test.YtmelpobcpcmdoaaGreatSLMore2
import Derived.Test.YtmelpobcpcmdoaaGreatSLRows
set_option autoImplicit false
set_option linter.unusedSimpArgs false
set_option linter.unusedSectionVars false
set_option linter.unusedVariables false
namespace Go.SL
variable [Base]
section
variable {P : Program} {F : Heap} {N : Nat}

/-- A statement's end, told by a state: some new slots, those that were kept, the blocks. -/
def MidN {σ : Type} (kept : Slots) (new : σ → Slots) (h : σ → Heap) (I : σ → Prop) : Exit → Slots → Heap → Prop :=
  fun e fr' h' => e = .normal ∧ ∃ s, I s ∧ (∀ i v, lk (new s ++ kept) i = some v → lk fr' i = some v) ∧ ∃ G, ∀ x, cnt x h' = cnt x (h s ++ G)
theorem midN {σ : Type} {kept : Slots} {new : σ → Slots} {h : σ → Heap} {I : σ → Prop} {fr' : Slots} {h' : Heap} (s : σ) (G : Heap) (hI : I s) (hk : keepB fr' ((new s ++ kept).map Prod.fst) = new s ++ kept) (hh : ∀ x, cnt x h' = cnt x (h s ++ G)) : MidN kept new h I .normal fr' h' :=
  ⟨rfl, s, hI, fun i v hv => keepB_spec i v (by rw [hk]; exact hv), G, hh⟩
/-- Roads meet within blocks: told at the end of the code at hand. -/
theorem run_midO {σ : Type} (L : List Nat) (new : σ → Slots) (h1 : σ → Heap) (I : σ → Prop) {c : Code} {fr kept : Slots} {h : Heap} {Q : Exit → Slots → Heap → Prop} (hk : keepK fr L some = some kept)
    (r : RunC P F N c fr h (MidN kept new h1 I)) (k : ∀ fr' h', MidN kept new h1 I .normal fr' h' → Q .normal fr' h') : RunC P F N c fr h Q :=
  r.mono fun e fr' h' hm => by
    obtain ⟨rfl, hm2⟩ := hm
    exact k _ _ ⟨rfl, hm2⟩
theorem midN_out {σ : Type} {kept : Slots} {new : σ → Slots} {h1 : σ → Heap} {I : σ → Prop} {fr' : Slots} {h' : Heap} {c2 : Code} {Q : Exit → Slots → Heap → Prop} (hm : MidN kept new h1 I .normal fr' h') (k : ∀ s, I s → RunC P F N c2 (new s ++ kept) (h1 s) Q) : RunC P F N c2 fr' h' Q := by
  obtain ⟨-, s, hI, hl, G, hh⟩ := hm
  exact RunC.perm hh (RunC.drop (List.sublist_append_left _ _) (RunC.keep hl (k s hI)))
omit [Base] in
theorem SrcIs.take {H : Heap} {a : Option Addr} {m n k : Nat} {sl : List Value} (h : SrcIs H a m n sl) (hk : k ≤ m) : SrcIs H a k n (sl.take (k * n)) := by
  obtain ⟨h1, h2⟩ := h
  have hkm : k * n ≤ m * n := Nat.mul_le_mul_right _ hk
  refine ⟨by rw [List.length_take]; omega, ?_⟩
  rcases h2 with h2 | ⟨b, off, c, e, fz, rfl, hm, hl, hc⟩
  · exact .inl (by omega)
  · refine .inr ⟨b, off, c, e, fz, rfl, hm, by omega, ?_⟩
    rw [← hc, List.take_take, Nat.min_eq_left hkm]
theorem SrcIs.drop {H : Heap} {a : Option Addr} {m n k cap : Nat} {sl : List Value} (h : SrcIs H a m n sl) (hk : k ≤ m) (hcap : m ≤ cap) : SrcIs H (cutA a cap k n) (m - k) n (sl.drop (k * n)) := by
  obtain ⟨h1, h2⟩ := h
  have hkm : k * n ≤ m * n := Nat.mul_le_mul_right _ hk
  have hmk : (m - k) * n = m * n - k * n := Nat.sub_mul ..
  refine ⟨by rw [List.length_drop, h1, hmk], ?_⟩
  rcases h2 with h2 | ⟨b, off, c, e, fz, rfl, hm, hl, hc⟩
  · exact .inl (by omega)
  · by_cases h0 : cap = k
    · exact .inl (by omega)
    · refine .inr ⟨b, off + k * n, c, e, fz, cutA_ne h0, hm, by omega, ?_⟩
      rw [← hc, ← List.drop_drop, hmk, List.drop_take]
theorem AggF.sub {H : Heap} {b off j n : Nat} {l l' : List Value} (h : AggF H b off l) (hs : subK j n l = some l') : AggF H b (off + j) l' := by
  obtain ⟨c, e, fz, hm, h1, h2⟩ := h
  have := RowAt.sub (c := c) (base := off) ⟨h1, h2⟩ hs
  exact ⟨c, e, fz, hm, this.1, this.2⟩
end
end Go.SL
