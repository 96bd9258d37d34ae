/- Contracts of functions of the given program over its translation, each proved by walking its text; used by the laws' rows. It proves no given statement by itself. -/
import Derived.Test.YtfhpoagnfmgfkaaSLBk1
set_option autoImplicit false
set_option linter.unusedSectionVars false
set_option linter.unusedSimpArgs false
set_option linter.unusedVariables false
set_option maxRecDepth 4000
set_option maxHeartbeats 8000000
namespace Go.Proofs.Ytfhpoagnfmgfkaa
open Go Go.SL Go.Proofs
theorem ordersL_take {l : List Lv} {i : Nat} {lv : Lv} (h : l[i]? = some lv) : ordersL (l.take (i + 1)) = ordersL (l.take i) ++ lv.es.map (·.o) := by
  have hi := (List.getElem?_eq_some_iff.1 h).1
  rw [List.take_succ_eq_append_getElem hi, ordersL_append, (List.getElem?_eq_some_iff.1 h).2]; simp [ordersL]
theorem depthL_take {s : Int} {l : List Lv} {i : Nat} {lv : Lv} (h : l[i]? = some lv) : depthL s (l.take (i + 1)) = depthL s (l.take i) ++ [(depO s lv.p, sumE (fun x => x.seen) lv.es)] := by
  have hi := (List.getElem?_eq_some_iff.1 h).1
  unfold depthL
  rw [List.take_succ_eq_append_getElem hi, List.map_append, (List.getElem?_eq_some_iff.1 h).2]; rfl
variable [Base]
/-- A book's side, in either place. -/
theorem BkIn.side {F : Heap} {b : Nat} {B : Bk} (h : BkIn F b B) {s : Int} (hs : s = 1 ∨ s = 2) : ∃ so a c bs, sideV b s = .pointer (some ⟨b, so, none⟩) ∧ LoadsF F b so (.slice a (B.side s).length c) ∧ (B.side s).length ≤ c ∧ SrcIs F a (B.side s).length 1 (rows pc bs) ∧ LvsIn F bs (B.side s) := by
  obtain ⟨v0, v1, ⟨a0, c0, bs0, hc0, rfl, s0, i0⟩, ⟨a1, c1, bs1, hc1, rfl, s1, i1⟩, hm⟩ := h
  rcases hs with rfl | rfl
  · exact ⟨0, a0, c0, bs0, rfl, ⟨_, _, _, hm, rfl⟩, hc0, s0, i0⟩
  · exact ⟨1, a1, c1, bs1, rfl, ⟨_, _, _, hm, rfl⟩, hc1, s1, i1⟩
theorem BW.side {B : Bk} (h : BW B) (s : Int) : (∀ lv ∈ B.side s, lv.Ok) ∧ lenL (B.side s) ≤ 64 := by
  have := h.len
  unfold Bk.side
  split
  · exact ⟨h.buys, by omega⟩
  · split
    · exact ⟨h.sells, by omega⟩
    · exact ⟨fun _ m => by simp at m, by simp [lenL]⟩
theorem sp_borders (F : Heap) (b : Nat) (B : Bk) (h : BkIn F b B) (hw : BW B) (s : Int) :
    Sp Try.prog F 22 [.pointer (some ⟨b, 0, none⟩), .int .i64 s] [] (fun v h' => OwnS 24 9 v (ordersL (B.side s)).length (rows Ord.cells (ordersL (B.side s))) h') := by
  have q1 := fun F => sp_bside F b s
  by_cases hs : s = 1 ∨ s = 2
  · obtain ⟨so, a, c, bs, hv, l1, hc, hsrc, hin⟩ := h.side hs
    obtain ⟨hok, h64⟩ := hw.side s
    have gl := lenL_ge hok
    have hol := ordersL_len (B.side s)
    rw [hv] at q1
    generalize B.side s = l at *
    refine Sp.up ?_
    refine sp_of_code Try.func22 rfl rfl ?_
    (refine run_seq ?_; refine run_region ?_; refine xep rfl rfl ?_; refine runL_nil ?_; refine then_normal ?_; refine run_seq ?_; refine run_region ?_; refine xep rfl rfl ?_; refine runL_nil ?_; refine then_normal ?_; (iterate 2 refine run_seq ?_); refine run_region ?_; (iterate 2 refine xep rfl rfl ?_); refine xel rfl (ev_callQ rfl rfl rfl (pf rfl) (q1 ..)) ?_; refine xep rfl rfl ?_; refine runL_nil ?_; refine then_normal ?_; refine run_seq ?_; refine run_region ?_; refine xep rfl rfl ?_; refine xel rfl (ev_neqNil rfl rfl rfl (pt rfl)) ?_; refine runL_nil ?_; refine then_normal ?_)
    refine run_condT rfl rfl ?_
    (refine run_seq ?_; refine run_region ?_; (iterate 2 refine xep rfl rfl ?_); refine xel rfl (ev_loadF rfl rfl (sc rfl) l1) ?_; refine xel rfl (ev_len rfl rfl (se rfl)) ?_; refine xep rfl rfl ?_; refine runL_nil ?_; refine then_normal ?_; refine run_block ?_)
    clear l1
    refine run_loopK (σ := Nat × Option Addr × Nat × Heap) [16, 17, 18, 5] (fun t => [(16, .slice a l.length c), (17, .int .i64 l.length), (18, .int .i64 t.1), (5, .slice t.2.1 (ordersL (l.take t.1)).length t.2.2.1)]) (fun t => t.2.2.2)
      (fun t => t.1 ≤ l.length ∧ OwnS 24 9 (.slice t.2.1 (ordersL (l.take t.1)).length t.2.2.1) (ordersL (l.take t.1)).length (rows Ord.cells (ordersL (l.take t.1))) t.2.2.2) (fun t => l.length - t.1) (0, none, 0, []) ⟨Nat.zero_le _, .nil _ _⟩ rfl (fun _ => rfl) ?_
    rintro ⟨i, ao, co, A⟩ ⟨gi, own⟩
    dsimp only at gi own ⊢
    (refine run_seq ?_; refine run_region ?_; refine xep rfl rfl ?_; refine runL_nil ?_; refine then_normal ?_; refine run_seq ?_)
    (refine run_cond rfl (fun hc => ?_) (fun hc => ?_) <;> (try simp only [z0, z1, z2, z3, z4, z5, z6, z7, z8, z9, Bool.not_true, Bool.not_false, Bool.false_or, Bool.true_and, true_and, and_true, false_or, or_false, reduceCtorEq, Bool.false_eq_true] at hc))
    · obtain ⟨b2, off, bi, lv, rfl, hlv, l1, hi⟩ := SdIn.level (n := 0) (cap := 0) hsrc hin (i := i) (by omega)
      have hlok := hok lv (List.mem_of_getElem? hlv)
      have e := ordersL_take hlv
      have hle := lenL_le l (i + 1)
      have ho2 := ordersL_len (l.take (i + 1))
      have ho3 := congrArg List.length e
      rw [List.length_append, List.length_map] at ho3
      (refine run_skip ?_; refine then_normal ?_; refine run_seq ?_; refine run_block ?_; refine run_seq ?_; refine run_region ?_; refine xel rfl (ev_indexAddr rfl rfl rfl (se rfl) (by omega) (by omega)) ?_; refine xel rfl (ev_loadF rfl rfl (sc rfl) l1) ?_; refine xep rfl rfl ?_; refine runL_nil ?_; refine then_normal ?_; refine run_region ?_; (iterate 2 refine xep rfl rfl ?_))
      refine runL_callZ A [] rfl rfl rfl rfl rfl rfl rfl (pf rfl) (fun y => by (first | rfl | (simp only [List.append_eq, cnt_append, cnt_cons, cnt_nil, blk]; omega) | (simp only [List.append_eq, cnt_append, cnt_cons, cnt_nil, blk]; done))) (sp_lorders _ bi lv.p lv.es (hi.mono fun x m => List.mem_append_right _ m) hlok.1.1) ?_
      rintro v A2 own2
      obtain ⟨a2, c2, rfl, own2⟩ := own2.at
      skip
      refine runL_append (sl := rows Ord.cells (lv.es.map (·.o))) A2 rfl rfl rfl rfl rfl rfl rfl (se rfl) (se rfl) ze24 rfl (byt rfl) own (fun y => by (first | rfl | (simp only [List.append_eq, cnt_append, cnt_cons, cnt_nil, blk]; omega) | (simp only [List.append_eq, cnt_append, cnt_cons, cnt_nil, blk]; done))) (own2.src fun x m => by simp [m]) (rows_cells oc_cells _) (by decide) (by decide) (by omega) ?_
      rintro v' A' own'
      rw [← rows_append, ← e, ← ho3] at own'
      obtain ⟨a5, c5, rfl, own3⟩ := own'.at
      (refine xep rfl rfl ?_; refine runL_nil ?_; refine in_normal ?_; refine then_normal ?_; refine run_region ?_; refine xel rfl (ev_add rfl rfl rfl (by omega)) ?_; refine xep rfl rfl ?_; refine runL_nil ?_; refine then_normal ?_)
      exact ⟨(i + 1, a5, c5, A'), ⟨by show i + 1 ≤ _; omega, own3⟩, by show l.length - (i + 1) < l.length - i; omega, rfl, A2, fun x => by (first | rfl | (simp only [List.append_eq, cnt_append, cnt_cons, cnt_nil, blk]; omega) | (simp only [List.append_eq, cnt_append, cnt_cons, cnt_nil, blk]; done))⟩
    · have : i = l.length := by omega
      subst this
      (refine run_exit ?_; (iterate 2 refine then_exit ?_); refine in_exit ?_; refine then_normal ?_)
      (refine run_seq ?_; refine run_region ?_; (iterate 2 refine xep rfl rfl ?_); refine runL_nil ?_; refine then_normal ?_; refine run_ret ?_)
      rw [List.take_length] at own
      refine ⟨_, rfl, A, [], ?_, fun x => by rw [List.append_nil]⟩
      rw [List.take_length]; exact own
  · have e0 : B.side s = [] := by unfold Bk.side; rw [if_neg (by omega), if_neg (by omega)]
    have hv : sideV b s = .pointer none := by unfold sideV; rw [if_neg (by omega), if_neg (by omega)]
    rw [hv] at q1
    rw [e0]
    refine sp_of_code Try.func22 rfl rfl ?_
    (refine run_seq ?_; refine run_region ?_; refine xep rfl rfl ?_; refine runL_nil ?_; refine then_normal ?_; refine run_seq ?_; refine run_region ?_; refine xep rfl rfl ?_; refine runL_nil ?_; refine then_normal ?_; (iterate 2 refine run_seq ?_); refine run_region ?_; (iterate 2 refine xep rfl rfl ?_); refine xel rfl (ev_callQ rfl rfl rfl (pf rfl) (q1 ..)) ?_; refine xep rfl rfl ?_; refine runL_nil ?_; refine then_normal ?_; refine run_seq ?_; refine run_region ?_; refine xep rfl rfl ?_; refine xel rfl (ev_neqNil rfl rfl rfl (pt rfl)) ?_; refine runL_nil ?_; refine then_normal ?_)
    refine run_condF rfl rfl ?_
    (refine run_skip ?_; refine then_normal ?_; refine run_seq ?_; refine run_region ?_; (iterate 2 refine xep rfl rfl ?_); refine runL_nil ?_; refine then_normal ?_; refine run_ret ?_)
    exact ⟨_, rfl, .nil _ _⟩
end Go.Proofs.Ytfhpoagnfmgfkaa
