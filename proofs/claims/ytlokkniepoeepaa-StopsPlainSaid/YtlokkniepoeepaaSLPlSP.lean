/- Contracts of functions of the given program over its translation, each proved by walking its text; used by the laws' rows. It proves no given statement by itself. -/
import Derived.Test.YtlokkniepoeepaaSLSt1X
import Derived.Test.YtlokkniepoeepaaSLStK
import Derived.Test.YtlokkniepoeepaaSLLaw11a
set_option autoImplicit false
set_option linter.unusedSectionVars false
set_option linter.unusedSimpArgs false
set_option linter.unusedVariables false
set_option maxRecDepth 4000
set_option maxHeartbeats 16000000
namespace Go.Proofs.Ytlokkniepoeepaa
open Go Go.SL Go.Proofs
theorem bare_none {o : Ord} (h : o.stop = 0) : bare o = o := by
  obtain ⟨a, b, c, d, e, f, g, i, s⟩ := o
  have h : s = 0 := h
  subst h; rfl
theorem badd_order (o : Ord) (B : Bk) : (badd o B).1.order = o := by
  unfold badd
  split <;> rfl
theorem menter_plain {o : Ord} {B : Bk} (h : o.stop = 0) : menter o B = badd o B := by
  have e := badd_order o B
  unfold menter
  rw [bare_none h]
  generalize badd o B = X at *
  obtain ⟨⟨a, b, c, d, e1, f, g⟩, Y⟩ := X
  have e : a = o := e
  subst e; rfl
theorem mfind_plain (t i : Int) (B : Bk) : (mfind t i ⟨B, []⟩).2 = (bfind t i B).2 := by
  unfold mfind
  cases h : (bfind t i B).2 with
  | true => rw [if_pos rfl]
  | false => rw [if_neg (by simp)]; rfl
/-- Without stops a market is its book. -/
theorem madd_plain {o : Ord} {B : Bk} (h : o.stop = 0) (hl : lenL B.buys + lenL B.sells < 64) : madd o ⟨B, []⟩ = ([(badd o B).1], ⟨(badd o B).2, []⟩) := by
  have hm : mlen ⟨B, []⟩ < 64 := hl
  have hf : mfirst o ⟨B, []⟩ = ((badd o B).1, ⟨(badd o B).2, []⟩) := by
    unfold mfirst
    by_cases c1 : right o ≠ 0
    · have e1 : mrefused o ⟨B, []⟩ = 1 := by unfold mrefused; rw [if_pos c1]
      have e2 : brefused o B = 1 := by unfold brefused; rw [if_pos (.inl c1)]
      unfold badd
      rw [e1, e2, if_pos (by decide), if_pos (by decide)]
    · by_cases c2 : (bfind o.trader o.id B).2 = true
      · have e1 : mrefused o ⟨B, []⟩ = 5 := by unfold mrefused; rw [if_neg c1, if_pos (by rw [mfind_plain]; exact c2)]
        have e2 : brefused o B = 5 := by unfold brefused; rw [if_neg (by omega), if_pos c2]
        unfold badd
        rw [e1, e2, if_pos (by decide), if_pos (by decide)]
      · have e1 : mrefused o ⟨B, []⟩ = 0 := by unfold mrefused; rw [if_neg c1, if_neg (by rw [mfind_plain]; exact c2), if_neg (by omega)]
        rw [if_neg (by omega), if_neg (by omega), menter_plain h]
  unfold madd
  rw [hf]; rfl
variable [Base]
theorem sp_saddP (F H : Heap) (m : Nat) (B : Bk) (hH : MkH m ⟨B, []⟩ H) (hw : BW B) (hn : 0 ≤ B.no) (hl : lenL B.buys + lenL B.sells < 64) (hn2 : B.no ≤ 1099442421760) (o : Ord) (hk : InI o.kind) (hs : o.stop = 0) :
    Sp Try.prog F 10 [.pointer (some ⟨m, 0, none⟩), ov o] H (fun v h' => ∃ a4 c4 A4 a5 c5 A5 H', v = .slice a4 1 c4 ∧ OwnS 32 15 (.slice a4 1 c4) 1 (rows orow [((a5, c5), (badd o B).1)]) A4 ∧ OwnS 34 21 (.slice a5 (badd o B).1.fs.length c5) (badd o B).1.fs.length (rows fcell (badd o B).1.fs) A5 ∧ MkH m ⟨(badd o B).2, []⟩ H' ∧ h' = H' ++ A4 ++ A5) := by
  have hw2 : MW ⟨B, []⟩ := ⟨hw, hn, by show lenL B.buys + lenL B.sells + 0 ≤ 64; omega, fun _ m => nomatch m⟩
  have h := sp_sadd F H m ⟨B, []⟩ hH hw2 hn2 o hk
  refine Sp.mono h ?_
  rw [madd_plain hs hl]
  rintro v h' ⟨a, c, ts, A, HF, H', rfl, hts, -, own, hF, hH', rfl⟩
  dsimp only at hts hH'
  have hl3 : ts.length = 1 := by simpa using congrArg List.length hts
  rw [hl3] at own ⊢
  obtain ⟨⟨a5, c5⟩, rfl⟩ := map_one hts
  obtain ⟨A5, G, own5, hG, rfl⟩ := hF
  obtain rfl : G = [] := hG
  exact ⟨a, c, A, a5, c5, A5, H', rfl, own, own5, hH', by rw [List.append_nil]⟩
end Go.Proofs.Ytlokkniepoeepaa
