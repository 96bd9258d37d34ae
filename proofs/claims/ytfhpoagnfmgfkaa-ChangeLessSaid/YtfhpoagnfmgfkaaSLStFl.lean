/- Contracts of functions of the given program over its translation, each proved by walking its text; used by the laws' rows. It proves no given statement by itself. -/
import Derived.Test.YtfhpoagnfmgfkaaSLPlRP
import Derived.Test.YtfhpoagnfmgfkaaSLLaw12a
set_option autoImplicit false
set_option linter.unusedSectionVars false
set_option linter.unusedSimpArgs false
set_option linter.unusedVariables false
set_option maxRecDepth 4000
set_option maxHeartbeats 100000000
namespace Go.Proofs.Ytfhpoagnfmgfkaa
open Go Go.SL Go.Proofs
variable [Base]
theorem sp_filled12 (F : Heap) (a : Option Addr) (len cap : Nat) (rs : List (List Int)) (hR : RowsF F a len 7 rs) (hM : len ≤ 9223372036854775807) :
    Sp Try.prog F 11 [.slice a len cap] [] (fun v h' => ∃ m, v = .pointer (some ⟨m, 0, none⟩) ∧ MkH m (mfill rs 40) h') := by
  have hrl := hR.1
  refine Sp.up ?_
  refine sp_of_code Try.func11 rfl rfl ?_
  (refine run_seq ?_; refine run_region ?_; refine xep rfl rfl ?_; refine runL_nil ?_; refine then_normal ?_; refine run_seq ?_; refine run_region ?_)
  refine runL_call0 rfl rfl rfl rfl rfl rfl rfl (pf rfl) (sp_snew _) ?_
  rintro v H0 ⟨m, rfl, hH0⟩
  (refine xep rfl rfl ?_; refine runL_nil ?_; refine then_normal ?_; (iterate 2 refine run_seq ?_); refine run_region ?_; refine xep rfl rfl ?_; refine runL_nil ?_; refine then_normal ?_; refine run_block ?_)
  refine run_loopK (σ := Nat × Heap) [0, 3, 4] (fun s => [(0, .slice a len cap), (3, .pointer (some ⟨m, 0, none⟩)), (4, .int .i64 s.1)]) (fun s => s.2)
    (fun s => s.1 ≤ len ∧ s.1 ≤ 40 ∧ MkH m (mfill rs s.1) s.2) (fun s => 40 - s.1) (0, H0) ⟨Nat.zero_le _, Nat.zero_le _, hH0⟩ rfl (fun x => by (first | rfl | (simp only [List.append_eq, cnt_append, cnt_cons, cnt_nil, blk]; omega) | (simp only [List.append_eq, cnt_append, cnt_cons, cnt_nil, blk]; done))) ?_
  rintro ⟨i, H⟩ ⟨g1, g2, hH⟩
  dsimp only at g1 g2 hH ⊢
  have hok := mfill_ok rs i
  ((iterate 2 refine run_seq ?_); refine run_region ?_; (iterate 2 refine xep rfl rfl ?_); refine xel rfl (ev_len rfl rfl (se rfl)) ?_; (iterate 2 refine xep rfl rfl ?_); (iterate 2 refine xgp rfl rfl rfl ?_); (iterate 2 refine xep rfl rfl ?_); refine xgp rfl rfl rfl ?_; refine xgl rfl rfl (fun hq => ev_neqNil rfl rfl rfl (pt rfl)) ?_; refine xep rfl rfl ?_; refine runL_nil ?_; refine then_normal ?_)
  by_cases hc : i < len ∧ i < 40
  · refine run_condT rfl (by rw [decide_eq_true (by omega : (i : Int) < len), decide_eq_true (by omega : (i : Int) < 40)]; rfl) ?_
    obtain ⟨zb, off, rfl⟩ := hR.pos (by omega)
    obtain ⟨r, hr, hr7, hrI, l1⟩ := RowsF.cell hR (i := i) (by omega)
    have q1 := fun F => sp_kStop F r hr7
    have hkr := (kS_right r).1
    have hno := hok.no
    (refine run_skip ?_; refine then_normal ?_; refine run_seq ?_; refine run_block ?_; refine run_region ?_; (iterate 3 refine xep rfl rfl ?_); refine xel rfl (ev_indexAddr rfl rfl rfl (se rfl) (by omega) (by omega)) ?_)
    refine runL_ev rfl rfl rfl rfl (ev_loadAF rfl rfl (ag rfl) (sz rfl) l1 (by rw [ints_len]; exact hr7)) ?_
    (refine xel rfl (ev_callQ rfl rfl rfl (pf rfl) (q1 ..)) ?_)
    refine runL_callZ [] H rfl rfl rfl rfl rfl rfl rfl (pf rfl) (fun x => by (first | rfl | (simp only [List.append_eq, cnt_append, cnt_cons, cnt_nil, blk]; omega) | (simp only [List.append_eq, cnt_append, cnt_cons, cnt_nil, blk]; done))) (sp_sadd _ H m _ hH hok.w (by omega) (kS r) (by unfold rightP at hkr; unfold InI; omega)) ?_
    rintro v _ ⟨a3, c3, ts, A3, HF, H2, rfl, -, -, -, -, hH2, rfl⟩
    (refine runL_nil ?_; refine in_normal ?_; refine then_normal ?_; refine run_region ?_; refine xep rfl rfl ?_; refine xel rfl (ev_add rfl rfl rfl (by omega)) ?_; refine xep rfl rfl ?_; refine runL_nil ?_; refine then_normal ?_)
    exact ⟨(i + 1, H2), ⟨by show i + 1 ≤ len; omega, by show i + 1 ≤ 40; omega, by show MkH m (mfill rs (i + 1)) H2; rw [mfill_succ hr]; exact hH2⟩, by show 40 - (i + 1) < 40 - i; omega, rfl, A3 ++ HF, fun x => by (first | rfl | (simp only [List.append_eq, cnt_append, cnt_cons, cnt_nil, blk]; omega) | (simp only [List.append_eq, cnt_append, cnt_cons, cnt_nil, blk]; done))⟩
  · refine run_condF rfl (by
      by_cases h1 : i < len
      · rw [decide_eq_true (by omega : (i : Int) < len), decide_eq_false (by omega : ¬ (i : Int) < 40)]; rfl
      · rw [decide_eq_false (by omega : ¬ (i : Int) < len)]; rfl) ?_
    have e : mfill rs 40 = mfill rs i := by
      by_cases h1 : i = 40
      · rw [h1]
      · exact mfill_more (by omega) g2
    (refine run_exit ?_; (iterate 2 refine then_exit ?_); refine in_exit ?_; refine then_normal ?_)
    (refine run_seq ?_; refine run_region ?_; (iterate 2 refine xep rfl rfl ?_); refine runL_nil ?_; refine then_normal ?_; refine run_ret ?_)
    exact ⟨_, rfl, H, [], ⟨m, rfl, by rw [e]; exact hH⟩, fun x => by rw [List.append_nil]⟩
end Go.Proofs.Ytfhpoagnfmgfkaa
