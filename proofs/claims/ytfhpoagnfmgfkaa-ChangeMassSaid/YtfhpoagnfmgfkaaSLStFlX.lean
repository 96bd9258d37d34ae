/- Contracts of functions of the given program over its translation, each proved by walking its text; used by the laws' rows. It proves no given statement by itself. -/
import Derived.Test.YtfhpoagnfmgfkaaSLPlRPX
import Derived.Test.YtfhpoagnfmgfkaaSLLaw12a
import Derived.Test.YtfhpoagnfmgfkaaSLStK
set_option autoImplicit false
set_option linter.unusedSectionVars false
set_option linter.unusedSimpArgs false
set_option linter.unusedVariables false
set_option maxRecDepth 4000
set_option maxHeartbeats 100000000
namespace Go.Proofs.Ytfhpoagnfmgfkaa
open Go Go.SL Go.Proofs
variable [Base]
theorem sp_filled12 (F : Heap) (a : Option Addr) (len cap : Nat) (rs : List (List Int)) (hR : RowsF F a len 7 rs) (hM : len ≤ 9223372036854775807) :
    Sp Try.prog F 11 [.slice a len cap] [] (fun v h' => ∃ m, v = .pointer (some ⟨m, 0, none⟩) ∧ MkH m (mfill rs 40) h') := by
  have hrl := hR.1
  refine Sp.up ?_
  refine sp_of_code Try.func11 rfl rfl ?_
  (refine run_seq ?_; refine run_region ?_; refine xep rfl rfl ?_; refine runL_nil ?_; refine then_normal ?_; refine run_seq ?_; refine run_region ?_)
  refine runL_call0 rfl rfl rfl rfl rfl rfl rfl (pf rfl) (sp_snew _) ?_
  rintro v H0 ⟨m, rfl, hH0⟩
  (refine xep rfl rfl ?_; refine runL_nil ?_; refine then_normal ?_; (iterate 2 refine run_seq ?_); refine run_region ?_; refine xep rfl rfl ?_; refine runL_nil ?_; refine then_normal ?_; refine run_block ?_)
  refine run_loopK (σ := Nat × Heap) [0, 3, 4] (fun s => [(0, .slice a len cap), (3, .pointer (some ⟨m, 0, none⟩)), (4, .int .i64 s.1)]) (fun s => s.2)
    (fun s => s.1 ≤ len ∧ s.1 ≤ 40 ∧ MkH m (mfill rs s.1) s.2) (fun s => 40 - s.1) (0, H0) ⟨Nat.zero_le _, Nat.zero_le _, hH0⟩ rfl (fun x => by (first | rfl | (simp only [List.append_eq, cnt_append, cnt_cons, cnt_nil, blk]; omega) | (simp only [List.append_eq, cnt_append, cnt_cons, cnt_nil, blk]; done))) ?_
  rintro ⟨i, H⟩ ⟨g1, g2, hH⟩
  dsimp only at g1 g2 hH ⊢
  have hok := mfill_ok rs i
  ((iterate 2 refine run_seq ?_); refine run_region ?_; (iterate 2 refine xep rfl rfl ?_); refine xel rfl (ev_len rfl rfl (se rfl)) ?_; (iterate 2 refine xep rfl rfl ?_); (iterate 2 refine xgp rfl rfl rfl ?_); (iterate 2 refine xep rfl rfl ?_); refine xgp rfl rfl rfl ?_; refine xgl rfl rfl (fun hq => ev_neqNil rfl rfl rfl (pt rfl)) ?_; refine xep rfl rfl ?_; refine runL_nil ?_; refine then_normal ?_)
  by_cases hc : i < len ∧ i < 40
  · refine run_condT rfl (by rw [decide_eq_true (by omega : (i : Int) < len), decide_eq_true (by omega : (i : Int) < 40)]; rfl) ?_
    obtain ⟨zb, off, rfl⟩ := hR.pos (by omega)
    obtain ⟨r, hr, hr7, hrI, l1⟩ := RowsF.cell hR (i := i) (by omega)
    have q1 := fun F => sp_kStop F r hr7
    have hkr := (kS_right r).1
    have hno := hok.no
    (refine run_skip ?_; refine then_normal ?_; refine run_seq ?_; refine run_block ?_; refine run_region ?_; (iterate 3 refine xep rfl rfl ?_); refine xel rfl (ev_indexAddr rfl rfl rfl (se rfl) (by omega) (by omega)) ?_)
    refine runL_ev rfl rfl rfl rfl (ev_loadAF rfl rfl (ag rfl) (sz rfl) l1 (by rw [ints_len]; exact hr7)) ?_
    (refine xel rfl (ev_callQ rfl rfl rfl (pf rfl) (q1 ..)) ?_)
    refine runL_callZ [] H rfl rfl rfl rfl rfl rfl rfl (pf rfl) (fun x => by (first | rfl | (simp only [List.append_eq, cnt_append, cnt_cons, cnt_nil, blk]; omega) | (simp only [List.append_eq, cnt_append, cnt_cons, cnt_nil, blk]; done))) (sp_sadd _ H m _ hH hok.w (by omega) (kS r) (by unfold rightP at hkr; unfold InI; omega)) ?_
    rintro v _ ⟨a3, c3, ts, A3, HF, H2, rfl, -, -, -, -, hH2, rfl⟩
    (refine runL_nil ?_; refine in_normal ?_; refine then_normal ?_; refine run_region ?_; refine xep rfl rfl ?_; refine xel rfl (ev_add rfl rfl rfl (by omega)) ?_; refine xep rfl rfl ?_; refine runL_nil ?_; refine then_normal ?_)
    exact ⟨(i + 1, H2), ⟨by show i + 1 ≤ len; omega, by show i + 1 ≤ 40; omega, by show MkH m (mfill rs (i + 1)) H2; rw [mfill_succ hr]; exact hH2⟩, by show 40 - (i + 1) < 40 - i; omega, rfl, A3 ++ HF, fun x => by (first | rfl | (simp only [List.append_eq, cnt_append, cnt_cons, cnt_nil, blk]; omega) | (simp only [List.append_eq, cnt_append, cnt_cons, cnt_nil, blk]; done))⟩
  · refine run_condF rfl (by
      by_cases h1 : i < len
      · rw [decide_eq_true (by omega : (i : Int) < len), decide_eq_false (by omega : ¬ (i : Int) < 40)]; rfl
      · rw [decide_eq_false (by omega : ¬ (i : Int) < len)]; rfl) ?_
    have e : mfill rs 40 = mfill rs i := by
      by_cases h1 : i = 40
      · rw [h1]
      · exact mfill_more (by omega) g2
    (refine run_exit ?_; (iterate 2 refine then_exit ?_); refine in_exit ?_; refine then_normal ?_)
    (refine run_seq ?_; refine run_region ?_; (iterate 2 refine xep rfl rfl ?_); refine runL_nil ?_; refine then_normal ?_; refine run_ret ?_)
    exact ⟨_, rfl, H, [], ⟨m, rfl, by rw [e]; exact hH⟩, fun x => by rw [List.append_nil]⟩
end Go.Proofs.Ytfhpoagnfmgfkaa

set_option autoImplicit false
set_option linter.unusedSectionVars false
set_option linter.unusedSimpArgs false
set_option linter.unusedVariables false
set_option maxRecDepth 4000
set_option maxHeartbeats 100000000
namespace Go.Proofs.Ytfhpoagnfmgfkaa
open Go Go.SL Go.Proofs
variable [Base]
theorem badd_fs {o : Ord} {B : Bk} (hw : BW B) : (badd o B).1.fs.length ≤ 2097152 := by
  by_cases h0 : brefused o B = 0
  · have hr2 : right o = 0 := by
      unfold brefused at h0
      split at h0
      · cases h0
      · rename_i h; omega
    have hr := right_zero hr2
    have hs : o.side = 1 ∨ o.side = 2 := by unfold rightP at hr; omega
    have hq : 0 ≤ o.qty ∧ o.qty ≤ 1048576 := by unfold rightP at hr; omega
    have M := match_is (B.side (3 - o.side)) o B.last B.no (hw.side _).1 hq.1
    rw [(add_is hs h0).out]
    have h1 := M.num
    have h2 := M.qty
    dsimp only
    omega
  · rw [refused_is h0]; exact Nat.zero_le _
theorem trig_fs : ∀ (n : Nat) (M : Mk), MW M → ∀ x ∈ (mtrig n M).1, x.fs.length ≤ 2097152
  | 0, M, _ => fun _ m => nomatch m
  | n + 1, M, hw => by
    unfold mtrig
    cases hf : M.W.findIdx? (fun o => hit o M.B.last) with
    | none => exact fun _ m => nomatch m
    | some k =>
      dsimp only
      cases ho : M.W[k]? with
      | none => exact fun _ m => nomatch m
      | some o =>
        dsimp only
        have e := menter_ok (o := o) hw.b hw.no
        have hc := cut_len ho
        have hl := hw.len
        have hn := hw.no
        unfold mlen at hl
        intro x m
        rcases List.mem_cons.1 m with rfl | m
        · exact badd_fs (o := bare o) hw.b
        · exact trig_fs n _ ⟨e.1, by show 0 ≤ (menter o M.B).2.no; omega, by
            unfold mlen
            have := e.2.2.2
            dsimp only
            split at this <;> omega, fun x m => hw.w x (cut_mem m)⟩ x m
theorem madd_fs {o : Ord} {M : Mk} (hw : MW M) : ∀ x ∈ (madd o M).1, x.fs.length ≤ 2097152 := by
  intro x m
  unfold madd at m
  rcases List.mem_cons.1 m with rfl | m
  · unfold mfirst
    split
    · exact Nat.zero_le _
    · split
      · exact Nat.zero_le _
      · exact badd_fs (o := bare o) hw.b
  · exact trig_fs _ _ (mfirst_ok (o := o) hw).1 x m
theorem sp_kOutcomes (F : Heap) (a1 a2 : Option Addr) (n c1 c2 : Nat) (ts1 ts2 : List ((Option Addr × Nat) × Out)) (h1 : ts1.length = n) (h2 : ts2.map (·.2) = ts1.map (·.2)) (hn : n ≤ 1000) (s1 : SrcIs F a1 n 15 (rows orow ts1)) (s2 : SrcIs F a2 n 15 (rows orow ts2))
    (f1 : ∀ t ∈ ts1, SrcIs F t.1.1 t.2.fs.length 21 (rows fcell t.2.fs)) (f2 : ∀ t ∈ ts2, SrcIs F t.1.1 t.2.fs.length 21 (rows fcell t.2.fs)) (hl : ∀ t ∈ ts1, t.2.fs.length ≤ 2097152) :
    Sp Try.prog F 19 [.slice a1 n c1, .slice a2 n c2] [] (Ret (.bool true)) := by
  have h3 : ts2.length = n := by have := congrArg List.length h2; simpa [h1] using this
  refine sp_of_code Try.func19 rfl rfl ?_
  (refine run_seq ?_; refine run_region ?_; refine xep rfl rfl ?_; refine runL_nil ?_; refine then_normal ?_; (iterate 2 refine run_seq ?_); refine run_region ?_; refine xep rfl rfl ?_; refine xel rfl (ev_len rfl rfl (se rfl)) ?_; refine xep rfl rfl ?_; refine xel rfl (ev_len rfl rfl (se rfl)) ?_; refine xep rfl rfl ?_; refine runL_nil ?_; refine then_normal ?_)
  refine run_condF rfl (by simp) ?_
  (refine run_skip ?_; refine then_normal ?_; (iterate 2 refine run_seq ?_); refine run_region ?_; refine xep rfl rfl ?_; refine xel rfl (ev_len rfl rfl (se rfl)) ?_; refine xep rfl rfl ?_; refine runL_nil ?_; refine then_normal ?_; refine run_block ?_)
  refine run_loopK (σ := Nat) [0, 1, 11, 12, 13] (fun i => [(0, .slice a1 n c1), (1, .slice a2 n c2), (11, .slice a1 n c1), (12, .int .i64 n), (13, .int .i64 i)]) (fun _ => []) (fun i => i ≤ n) (fun i => n - i) 0 (Nat.zero_le _) rfl (fun _ => rfl) ?_
  intro i gi
  (refine run_seq ?_; refine run_region ?_; refine xep rfl rfl ?_; refine runL_nil ?_; refine then_normal ?_; refine run_seq ?_)
  (refine run_cond rfl (fun hc => ?_) (fun hc => ?_) <;> (try simp only [z0, z1, z2, z3, z4, z5, z6, z7, z8, z9, Bool.not_true, Bool.not_false, Bool.false_or, Bool.true_and, true_and, and_true, false_or, or_false, reduceCtorEq, Bool.false_eq_true] at hc))
  · obtain ⟨b1, o1, _, _, _, rfl, _⟩ := s1.pos (by omega)
    obtain ⟨b2, o2, _, _, _, rfl, _⟩ := s2.pos (by omega)
    obtain ⟨⟨⟨p1, k1'⟩, x⟩, hx⟩ : ∃ t, ts1[i]? = some t := ⟨ts1[i]'(by omega), List.getElem?_eq_getElem _⟩
    obtain ⟨⟨⟨p2, k2'⟩, y⟩, hy⟩ : ∃ t, ts2[i]? = some t := ⟨ts2[i]'(by omega), List.getElem?_eq_getElem _⟩
    have hxy : y = x := by
      have e := congrArg (fun l => l[i]?) h2
      simp only [List.getElem?_map, hx, hy, Option.map_some, Option.some.injEq] at e
      exact e
    subst hxy
    have l1 := SrcIs.row orow_len s1 h1 hx
    have l2 := SrcIs.row orow_len s2 h3 hy
    have g1 := f1 _ (List.mem_of_getElem? hx)
    have g2 := f2 _ (List.mem_of_getElem? hy)
    have g3 := hl _ (List.mem_of_getElem? hx)
    dsimp only [orow] at l1 l2 g1 g2 g3
    have q1 := fun G : Heap => sp_kOutcome (G ++ F) p1 p2 k1' k2' y g3 g1.up g2.up
    (refine run_skip ?_; refine then_normal ?_; refine run_seq ?_; refine run_block ?_; refine run_seq ?_; refine run_region ?_; (iterate 2 refine xep rfl rfl ?_); refine runL_nil ?_; refine then_normal ?_; refine run_seq ?_; refine run_region_draw mo (by kernel_rfl) ?_; (iterate 2 refine xqp rfl rfl ?_); refine xql rfl (ev_indexAddr rfl rfl rfl (se rfl) (by omega) (by omega)) ?_; refine xql rfl (ev_loadAF rfl rfl (ag rfl) (sz rfl) l1 rfl) ?_; (iterate 2 refine xqp rfl rfl ?_); refine xql rfl (ev_indexAddr rfl rfl rfl (se rfl) (by omega) (by omega)) ?_; refine xql rfl (ev_loadAF rfl rfl (ag rfl) (sz rfl) l2 rfl) ?_; refine xql rfl (ev_callQ rfl rfl rfl (pf rfl) (q1 ..)) ?_; refine xqp rfl rfl ?_; refine runQ_nil ?_; refine then_normal ?_)
    refine run_condF rfl rfl ?_
    (refine run_skip ?_; refine in_normal ?_; refine then_normal ?_; refine run_region ?_; refine xel rfl (ev_add rfl rfl rfl (by omega)) ?_; refine xep rfl rfl ?_; refine runL_nil ?_; refine then_normal ?_)
    exact ⟨i + 1, by omega, by omega, rfl, [], fun _ => rfl⟩
  · (refine run_exit ?_; (iterate 2 refine then_exit ?_); refine in_exit ?_; refine then_normal ?_)
    (refine run_seq ?_; refine run_region ?_; refine xep rfl rfl ?_; refine runL_nil ?_; refine then_normal ?_; refine run_ret ?_)
    exact ⟨_, rfl, rfl⟩
end Go.Proofs.Ytfhpoagnfmgfkaa
