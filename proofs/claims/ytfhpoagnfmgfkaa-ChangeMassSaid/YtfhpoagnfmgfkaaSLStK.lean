/- Contracts of functions of the given program over its translation, each proved by walking its text; used by the laws' rows. It proves no given statement by itself. -/
import Derived.Test.YtfhpoagnfmgfkaaSLLaw10b
import Derived.Test.YtfhpoagnfmgfkaaSLSame
set_option autoImplicit false
set_option linter.unusedSectionVars false
set_option linter.unusedSimpArgs false
set_option linter.unusedVariables false
set_option maxRecDepth 4000
set_option maxHeartbeats 16000000
namespace Go.Proofs.Ytfhpoagnfmgfkaa
open Go Go.SL Go.Proofs
/-- The order of numbers that may wait. -/
def kS (r : List Int) : Ord := ⟨(kO r).trader, (kO r).id, (kO r).firm, (kO r).side, (kO r).kind, (kO r).price, (kO r).qty, (kO r).show_, if win (r.getD 6 0) 0 32 < 11 then 95 + win (r.getD 6 0) 0 32 else 0⟩
theorem kS_right (r : List Int) : rightP (kS r) ∧ (kS r).trader ≤ 5 ∧ (kS r).id ≤ 15 ∧ (kS r).qty ≤ 12 ∧ 1 ≤ (kS r).qty := by
  have w := win_in (r.getD 6 0) (show (0 : Int) ≤ 32 by omega)
  have h := kO_right r
  unfold rightP at h ⊢
  unfold kS
  dsimp only
  split <;> omega
theorem ctFl : CmpOk Try.prog 61 21 := ⟨by kernel_rfl, by kernel_rfl, by kernel_rfl, by kernel_rfl⟩
theorem tyFl (o : Fl) : tyQ Try.prog 4 61 (fcell o) = true := by kernel_rfl
theorem eqFl (o : Fl) : eqK (fcell o) (fcell o) = some true := by simp [fcell, eqK, kNum]
variable [Base]
theorem sp_kStop (F : Heap) (r : List Int) (hr : r.length = 7) : Sp Try.prog F 28 [.agg ⟨ints r⟩] [] (Ret (ov (kS r))) := by
  have q1 := fun F => sp_kOrder F r hr
  show Sp _ _ _ _ _ (Ret (ov ⟨(kO r).trader, (kO r).id, (kO r).firm, (kO r).side, (kO r).kind, (kO r).price, (kO r).qty, (kO r).show_, if win (r.getD 6 0) 0 32 < 11 then 95 + win (r.getD 6 0) 0 32 else 0⟩))
  have hst := (kO_right r).2.1
  match r, hr with
  | [r0, r1, r2, r3, r4, r5, r6], _ =>
  have q2 := fun F => sp_Win F r6 0 32 (by omega) (by omega) (by omega)
  have w := win_in r6 (show (0 : Int) ≤ 32 by omega)
  show Sp _ _ _ _ _ (Ret (ov ⟨_, _, _, _, _, _, _, _, if win r6 0 32 < 11 then 95 + win r6 0 32 else 0⟩))
  generalize win r6 0 32 = x at *
  generalize kO [r0, r1, r2, r3, r4, r5, r6] = o at *
  refine sp_of_codeR Try.func28 rfl rfl ?_
  (refine run_seq ?_; refine run_region ?_; refine runL_box rfl rfl rfl rfl rfl rfl (fun _ => ?_); refine runL_alloc rfl rfl rfl rfl rfl ze24 (fun _ => ?_); refine runL_nil ?_; refine then_normal ?_; refine run_seq ?_; refine run_region ?_; refine xel rfl (ev_loadAK rfl rfl (ag rfl) (sz rfl) (memF (.tail _ (.head _))) rfl) ?_; refine xel rfl (ev_callQ rfl rfl rfl (pf rfl) (q1 ..)) ?_; refine runL_alloc rfl rfl rfl rfl rfl ze24 (fun _ => ?_); refine runL_store0 rfl rfl rfl rfl rfl (sz rfl) rfl rfl rfl rfl rfl ?_; refine runL_nil ?_; refine then_normal ?_; (iterate 2 refine run_seq ?_); refine run_region ?_; refine xel rfl (ev_fieldAddr rfl rfl (fo rfl)) ?_; refine xel rfl (ev_loadK rfl rfl (sc rfl) (memF (.tail _ (.tail _ (.head _)))) rfl) ?_; refine xel rfl (ev_callQ rfl rfl rfl (pf rfl) (q2 ..)) ?_; refine xep rfl rfl ?_; refine runL_nil ?_; refine then_normal ?_; refine run_seq ?_; refine run_region ?_; (iterate 2 refine xep rfl rfl ?_); refine runL_nil ?_; refine then_normal ?_)
  rename_i b1 b2 b3
  by_cases hx : x < 11
  · rw [if_pos hx]
    refine run_condT rfl (decide_eq_true hx) ?_
    (refine run_region ?_; refine xep rfl rfl ?_; refine xel rfl (ev_add rfl rfl rfl (by omega)) ?_; refine xel rfl (ev_fieldAddr rfl rfl (fo rfl)) ?_; refine runL_store0 rfl rfl rfl rfl rfl (sz rfl) rfl rfl rfl rfl rfl ?_; refine runL_nil ?_; refine then_normal ?_; refine run_seq ?_; refine run_region ?_; refine xel rfl (ev_loadAK rfl rfl (ag rfl) (sz rfl) (memF (.head _)) rfl) ?_; refine runL_store1 rfl rfl rfl rfl rfl (sz rfl) rfl rfl rfl rfl rfl ?_; refine runL_nil ?_; refine then_normal ?_; refine run_ret ?_)
    exact ⟨_, .agg rfl (memF (.tail _ (.head _))) (ag rfl) (sz rfl) rfl .nil, rfl⟩
  · rw [if_neg hx]
    refine run_condF rfl (decide_eq_false hx) ?_
    (refine run_skip ?_; refine then_normal ?_; refine run_seq ?_; refine run_region ?_; refine xel rfl (ev_loadAK rfl rfl (ag rfl) (sz rfl) (memF (.head _)) rfl) ?_; refine runL_store1 rfl rfl rfl rfl rfl (sz rfl) rfl rfl rfl rfl rfl ?_; refine runL_nil ?_; refine then_normal ?_; refine run_ret ?_)
    exact ⟨_, .agg rfl (memF (.tail _ (.head _))) (ag rfl) (sz rfl) rfl .nil, by rw [← hst]; rfl⟩
theorem sp_sameFl (F : Heap) (a1 a2 : Option Addr) (k c1 c2 : Nat) (l : List Fl) (hl : l.length = k) (hk : k ≤ 2097152) (h1 : SrcIs F a1 k 21 (rows fcell l)) (h2 : SrcIs F a2 k 21 (rows fcell l)) :
    Sp Try.prog F 59 [.slice a1 k c1, .slice a2 k c2] [] (Ret (.bool true)) := by
  refine sp_of_code Try.func59 rfl rfl ?_
  (refine run_seq ?_; refine run_region ?_; refine xep rfl rfl ?_; refine runL_nil ?_; refine then_normal ?_; (iterate 2 refine run_seq ?_); refine run_region ?_; refine xep rfl rfl ?_; refine xel rfl (ev_len rfl rfl (se rfl)) ?_; refine xep rfl rfl ?_; refine xel rfl (ev_len rfl rfl (se rfl)) ?_; refine xep rfl rfl ?_; refine runL_nil ?_; refine then_normal ?_)
  refine run_condF rfl (by simp) ?_
  (refine run_skip ?_; refine then_normal ?_; (iterate 2 refine run_seq ?_); refine run_region ?_; refine xep rfl rfl ?_; refine runL_nil ?_; refine then_normal ?_; refine run_block ?_)
  refine run_loopK (σ := Nat) [0, 1, 5] (fun i => [(0, .slice a1 k c1), (1, .slice a2 k c2), (5, .int .i64 i)]) (fun _ => []) (fun i => i ≤ k) (fun i => k - i) 0 (Nat.zero_le _) rfl (fun _ => rfl) ?_
  intro i gi
  ((iterate 2 refine run_seq ?_); refine run_region ?_; (iterate 2 refine xep rfl rfl ?_); refine xel rfl (ev_len rfl rfl (se rfl)) ?_; refine xep rfl rfl ?_; refine runL_nil ?_; refine then_normal ?_)
  (refine run_cond rfl (fun hc => ?_) (fun hc => ?_) <;> (try simp only [z0, z1, z2, z3, z4, z5, z6, z7, z8, z9, Bool.not_true, Bool.not_false, Bool.false_or, Bool.true_and, true_and, and_true, false_or, or_false, reduceCtorEq, Bool.false_eq_true] at hc))
  · obtain ⟨b1, o1, _, _, _, rfl, _⟩ := h1.pos (by omega)
    obtain ⟨b2, o2, _, _, _, rfl, _⟩ := h2.pos (by omega)
    obtain ⟨x, hx⟩ : ∃ x, l[i]? = some x := ⟨l[i]'(by omega), List.getElem?_eq_getElem _⟩
    have l1 := SrcIs.row fcell_len h1 hl hx
    have l2 := SrcIs.row fcell_len h2 hl hx
    have k1 := ctFl
    have k2 := tyFl x
    have k3 := eqFl x
    (refine run_skip ?_; refine then_normal ?_; refine run_seq ?_; refine run_block ?_; refine run_seq ?_; refine run_region_draw mo (by kernel_rfl) ?_; (iterate 2 refine xqp rfl rfl ?_); refine xql rfl (ev_indexAddr rfl rfl rfl (se rfl) (by omega) (by omega)) ?_; refine xql rfl (ev_loadAF rfl rfl (ag rfl) (sz rfl) l1 rfl) ?_; (iterate 2 refine xqp rfl rfl ?_); refine xql rfl (ev_indexAddr rfl rfl rfl (se rfl) (by omega) (by omega)) ?_; refine xql rfl (ev_loadAF rfl rfl (ag rfl) (sz rfl) l2 rfl) ?_; refine xql rfl (ev_neqQ rfl rfl rfl k1 rfl k2 k3) ?_; refine runQ_nil ?_; refine then_normal ?_)
    refine run_condF rfl rfl ?_
    (refine run_skip ?_; refine in_normal ?_; refine then_normal ?_; refine run_region ?_; refine xep rfl rfl ?_; refine xel rfl (ev_add rfl rfl rfl (by omega)) ?_; refine xep rfl rfl ?_; refine runL_nil ?_; refine then_normal ?_)
    exact ⟨i + 1, by omega, by omega, rfl, [], fun _ => rfl⟩
  · (refine run_exit ?_; (iterate 2 refine then_exit ?_); refine in_exit ?_; refine then_normal ?_)
    (refine run_seq ?_; refine run_region ?_; refine xep rfl rfl ?_; refine runL_nil ?_; refine then_normal ?_; refine run_ret ?_)
    exact ⟨_, rfl, rfl⟩
theorem sp_kOutcome (F : Heap) (a1 a2 : Option Addr) (c1 c2 : Nat) (x : Out) (hk : x.fs.length ≤ 2097152) (h1 : SrcIs F a1 x.fs.length 21 (rows fcell x.fs)) (h2 : SrcIs F a2 x.fs.length 21 (rows fcell x.fs)) :
    Sp Try.prog F 42 [.agg ⟨outV a1 c1 x⟩, .agg ⟨outV a2 c2 x⟩] [] (Ret (.bool true)) := by
  have q1 := fun G : Heap => sp_sameFl (G ++ F) a1 a2 x.fs.length c1 c2 x.fs rfl hk h1.up h2.up
  obtain ⟨o, fs, left, rs, wt, self, err⟩ := x
  have k1 := ctOrd
  have k2 := tyOrd o
  have k3 := eqOrd o
  have hgd : true = true := rfl
  refine sp_of_code Try.func42 rfl rfl ?_
  (refine run_seq ?_; refine run_region ?_; (iterate 2 refine runL_box rfl rfl rfl rfl rfl rfl (fun _ => ?_)); refine xep rfl rfl ?_; refine runL_nil ?_; refine then_normal ?_; refine run_seq ?_; refine run_region ?_; refine xel rfl (ev_fieldAddr rfl rfl (fo rfl)) ?_; refine xel rfl (ev_loadAK rfl rfl (ag rfl) (sz rfl) (memF (.tail _ (.head _))) rfl) ?_; refine xel rfl (ev_fieldAddr rfl rfl (fo rfl)) ?_; refine xel rfl (ev_loadAK rfl rfl (ag rfl) (sz rfl) (memF (.head _)) rfl) ?_; refine xel rfl (ev_eqQ rfl rfl rfl k1 rfl k2 k3) ?_; refine xep rfl rfl ?_; refine runL_yes rfl rfl hgd ?_; refine xel rfl (ev_fieldAddr rfl rfl (fo rfl)) ?_; refine runL_yes rfl rfl hgd ?_; refine xel rfl (ev_loadK rfl rfl (sc rfl) (memF (.tail _ (.head _))) rfl) ?_; refine runL_yes rfl rfl hgd ?_; refine xel rfl (ev_fieldAddr rfl rfl (fo rfl)) ?_; refine runL_yes rfl rfl hgd ?_; refine xel rfl (ev_loadK rfl rfl (sc rfl) (memF (.head _)) rfl) ?_; refine runL_yes rfl rfl hgd ?_; refine xel rfl (ev_callQ rfl rfl rfl (pf rfl) (q1 ..)) ?_; (iterate 2 refine xep rfl rfl ?_); refine runL_yes rfl rfl hgd ?_; refine xel rfl (ev_fieldAddr rfl rfl (fo rfl)) ?_; refine runL_yes rfl rfl hgd ?_; refine xel rfl (ev_loadK rfl rfl (sc rfl) (memF (.tail _ (.head _))) rfl) ?_; refine runL_yes rfl rfl hgd ?_; refine xel rfl (ev_fieldAddr rfl rfl (fo rfl)) ?_; refine runL_yes rfl rfl hgd ?_; refine xel rfl (ev_loadK rfl rfl (sc rfl) (memF (.head _)) rfl) ?_; refine runL_yes rfl rfl hgd ?_; (iterate 3 refine xep rfl rfl ?_); refine xgl rfl rfl (fun hq => ev_fieldAddr rfl rfl (fo rfl)) ?_; refine xgl rfl rfl (fun hq => ev_loadK rfl rfl (sc rfl) (memF (.tail _ (.head _))) rfl) ?_; refine xgl rfl rfl (fun hq => ev_fieldAddr rfl rfl (fo rfl)) ?_; refine xgl rfl rfl (fun hq => ev_loadK rfl rfl (sc rfl) (memF (.head _)) rfl) ?_; refine xgl rfl rfl (fun hq => ev_eqB rfl rfl rfl (bt rfl)) ?_; (iterate 2 refine xep rfl rfl ?_); refine xgl rfl rfl (fun hq => ev_fieldAddr rfl rfl (fo rfl)) ?_; refine xgl rfl rfl (fun hq => ev_loadK rfl rfl (sc rfl) (memF (.tail _ (.head _))) rfl) ?_; refine xgl rfl rfl (fun hq => ev_fieldAddr rfl rfl (fo rfl)) ?_; refine xgl rfl rfl (fun hq => ev_loadK rfl rfl (sc rfl) (memF (.head _)) rfl) ?_; refine xgl rfl rfl (fun hq => ev_eqB rfl rfl rfl (bt rfl)) ?_; (iterate 2 refine xep rfl rfl ?_); refine xgl rfl rfl (fun hq => ev_fieldAddr rfl rfl (fo rfl)) ?_; refine xgl rfl rfl (fun hq => ev_loadK rfl rfl (sc rfl) (memF (.tail _ (.head _))) rfl) ?_; refine xgl rfl rfl (fun hq => ev_fieldAddr rfl rfl (fo rfl)) ?_; refine xgl rfl rfl (fun hq => ev_loadK rfl rfl (sc rfl) (memF (.head _)) rfl) ?_; refine xgl rfl rfl (fun hq => ev_eqB rfl rfl rfl (bt rfl)) ?_; (iterate 2 refine xep rfl rfl ?_); refine xgl rfl rfl (fun hq => ev_fieldAddr rfl rfl (fo rfl)) ?_; refine xgl rfl rfl (fun hq => ev_loadK rfl rfl (sc rfl) (memF (.tail _ (.head _))) rfl) ?_; refine xgl rfl rfl (fun hq => ev_fieldAddr rfl rfl (fo rfl)) ?_; refine xgl rfl rfl (fun hq => ev_loadK rfl rfl (sc rfl) (memF (.head _)) rfl) ?_; refine xgp rfl rfl rfl ?_; (iterate 2 refine xep rfl rfl ?_); refine runL_nil ?_; refine then_normal ?_; refine run_ret ?_)
  exact ⟨_, rfl, by simp; rfl⟩
end Go.Proofs.Ytfhpoagnfmgfkaa
