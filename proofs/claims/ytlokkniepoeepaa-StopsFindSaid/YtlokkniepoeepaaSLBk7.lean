/- Contracts of functions of the given program over its translation, each proved by walking its text; used by the laws' rows. It proves no given statement by itself. -/
import Derived.Test.YtlokkniepoeepaaSLBk5
set_option autoImplicit false
set_option linter.unusedSectionVars false
set_option linter.unusedSimpArgs false
set_option linter.unusedVariables false
set_option maxRecDepth 4000
set_option maxHeartbeats 16000000
namespace Go.Proofs.Ytlokkniepoeepaa
open Go Go.SL Go.Proofs
/-- Would a price meet what stands there? -/
def meets (o : Ord) (l : List Lv) : Bool := match l with
  | [] => false
  | lv :: _ => crosses o lv.p
def brefused (o : Ord) (B : Bk) : Int :=
  if right o ≠ 0 ∨ o.stop ≠ 0 then 1
  else if (bfind o.trader o.id B).2 = true then 5
  else if rests o = true ∧ 64 ≤ lenL B.buys + lenL B.sells then 4
  else if o.kind = 5 ∧ meets o (B.side (3 - o.side)) = true then 11
  else if o.kind = 4 ∧ fillsL o (B.side (3 - o.side)) = false then 12
  else 0
theorem right_zero {o : Ord} (h : right o = 0) : rightP o := by
  unfold right at h
  split at h
  · assumption
  · cases h
variable [Base]
theorem sp_brefused (F : Heap) (b : Nat) (B : Bk) (h : BkIn F b B) (hw : BW B) (o : Ord) (hk : InI o.kind) :
    Sp Try.prog F 32 [.pointer (some ⟨b, 0, none⟩), ov o] [] (Ret (.int .i64 (brefused o B))) := by
  have q1 := fun F => sp_right F o hk
  have q2 := fun G : Heap => sp_bFind (G ++ F) b B h.up hw o.trader o.id
  have q3 := fun F => sp_brests F o
  have q4 := fun G : Heap => sp_blen (G ++ F) b B h.up hw
  have hlen := hw.len
  refine sp_of_code Try.func32 rfl rfl ?_
  (refine run_seq ?_; refine run_region ?_; refine runL_box rfl rfl rfl rfl rfl rfl (fun _ => ?_); refine xep rfl rfl ?_; refine runL_nil ?_; refine then_normal ?_; (iterate 2 refine run_seq ?_); refine run_region ?_; refine xel rfl (ev_loadAK rfl rfl (ag rfl) (sz rfl) (memF (.head _)) rfl) ?_; refine xel rfl (ev_callQ rfl rfl rfl (pf rfl) (q1 ..)) ?_; (iterate 2 refine xep rfl rfl ?_); refine xgl rfl rfl (fun hq => ev_fieldAddr rfl rfl (fo rfl)) ?_; refine xgl rfl rfl (fun hq => ev_loadK rfl rfl (sc rfl) (memF (.head _)) rfl) ?_; refine xgp rfl rfl rfl ?_; refine xep rfl rfl ?_; refine runL_nil ?_; refine then_normal ?_)
  rename_i b3
  by_cases c1 : right o ≠ 0 ∨ o.stop ≠ 0
  · have e : brefused o B = 1 := by unfold brefused; rw [if_pos c1]
    rw [e]
    refine run_condT rfl (by rcases c1 with h | h <;> simp [h]) ?_
    (refine run_seq ?_; refine run_region ?_; refine xep rfl rfl ?_; refine runL_nil ?_; refine then_normal ?_; refine run_ret ?_; refine then_ret ?_)
    exact ⟨_, rfl, rfl⟩
  have c1a : right o = 0 := by omega
  have c1b : o.stop = 0 := by omega
  obtain ⟨-, -, -, -, -, -, hs1, hs2, -, -, hq1, hq2, -⟩ := right_zero c1a
  refine run_condF rfl (by simp [c1a, c1b]) ?_
  (refine run_skip ?_; refine then_normal ?_; (iterate 2 refine run_seq ?_); refine run_region ?_; refine xep rfl rfl ?_; refine xel rfl (ev_fieldAddr rfl rfl (fo rfl)) ?_; refine xel rfl (ev_loadK rfl rfl (sc rfl) (memF (.head _)) rfl) ?_; refine xel rfl (ev_fieldAddr rfl rfl (fo rfl)) ?_; refine xel rfl (ev_loadK rfl rfl (sc rfl) (memF (.head _)) rfl) ?_; refine xel rfl (ev_callQ rfl rfl rfl (pf rfl) (q2 ..)) ?_; (iterate 3 refine xep rfl rfl ?_); refine runL_alloc rfl rfl rfl rfl rfl ze27 (fun _ => ?_); refine runL_store0 rfl rfl rfl rfl rfl (sz rfl) rfl rfl rfl rfl rfl ?_; refine xep rfl rfl ?_; refine runL_nil ?_; refine then_normal ?_; refine run_seq ?_; refine run_region ?_; refine xep rfl rfl ?_; refine runL_nil ?_; refine then_normal ?_)
  by_cases c2 : (bfind o.trader o.id B).2 = true
  · have e : brefused o B = 5 := by unfold brefused; rw [if_neg c1, if_pos c2]
    rw [e]
    refine run_condT rfl c2 ?_
    (refine run_seq ?_; refine run_region ?_; refine xep rfl rfl ?_; refine runL_nil ?_; refine then_normal ?_; refine run_ret ?_; refine then_ret ?_)
    exact ⟨_, rfl, rfl⟩
  refine run_condF rfl (by simpa using c2) ?_
  (refine run_skip ?_; refine then_normal ?_; (iterate 2 refine run_seq ?_); refine run_region ?_; refine xel rfl (ev_loadAK rfl rfl (ag rfl) (sz rfl) (memF (.tail _ (.head _))) rfl) ?_; refine xel rfl (ev_callQ rfl rfl rfl (pf rfl) (q3 ..)) ?_; refine xep rfl rfl ?_; refine xgp rfl rfl rfl ?_; refine xgl rfl rfl (fun hq => ev_callQ rfl rfl rfl (pf rfl) (q4 ..)) ?_; refine xgp rfl rfl rfl ?_; refine xep rfl rfl ?_; refine runL_nil ?_; refine then_normal ?_)
  by_cases c3 : rests o = true ∧ 64 ≤ lenL B.buys + lenL B.sells
  · have e : brefused o B = 4 := by unfold brefused; rw [if_neg c1, if_neg c2, if_pos c3]
    rw [e]
    refine run_condT rfl (by rw [c3.1, decide_eq_true (by omega)]; rfl) ?_
    (refine run_seq ?_; refine run_region ?_; refine xep rfl rfl ?_; refine runL_nil ?_; refine then_normal ?_; refine run_ret ?_; refine then_ret ?_)
    exact ⟨_, rfl, rfl⟩
  refine run_condF rfl (by
    cases hr : rests o with
    | false => rfl
    | true => rw [decide_eq_false (fun h9 => c3 ⟨hr, by omega⟩)]; rfl) ?_
  have hsd : o.side = 1 ∨ o.side = 2 := by omega
  have q5 := fun F => sp_bagainst F b o hsd
  obtain ⟨so, a, c, bs, hv, l1, hc, hsrc, hin⟩ := h.side (s := 3 - o.side) (by omega)
  obtain ⟨hok, h64⟩ := hw.side (3 - o.side)
  have gl := lenL_ge hok
  have q6 := fun G : Heap => sp_bfills (G ++ F) b B h.up hw o hsd hq1 hq2
  rw [hv] at q5
  have hbr : brefused o B = if o.kind = 5 ∧ meets o (B.side (3 - o.side)) = true then 11 else if o.kind = 4 ∧ fillsL o (B.side (3 - o.side)) = false then 12 else 0 := by
    unfold brefused; rw [if_neg c1, if_neg c2, if_neg c3]
  rw [hbr]
  generalize B.side (3 - o.side) = l at *
  (refine run_skip ?_; refine then_normal ?_; (iterate 2 refine run_seq ?_); refine run_region ?_; refine xep rfl rfl ?_; refine xel rfl (ev_loadAK rfl rfl (ag rfl) (sz rfl) (memF (.tail _ (.head _))) rfl) ?_; refine xel rfl (ev_callQ rfl rfl rfl (pf rfl) (q5 ..)) ?_; refine xep rfl rfl ?_; refine xel rfl (ev_loadF rfl rfl (sc rfl) l1) ?_; refine xep rfl rfl ?_; refine runL_nil ?_; refine then_normal ?_; refine run_seq ?_)
  rename_i b5
  refine RunC.perm (h' := [blk b5 (bfind o.trader o.id B).1.cells 27, blk b3 o.cells 27]) (fun x => rfl) ?_
  refine run_midO (σ := Unit) [0, 3] (fun _ => [(53, .bool (decide (o.kind = 5) && meets o l))]) (fun _ => [blk b3 o.cells 27]) (fun _ => True) rfl ?_ ?_
  · refine RunC.freeze ?_
    have l2 : AggF ([blk b5 (bfind o.trader o.id B).1.cells 27, blk b3 o.cells 27] ++ F) b3 0 o.cells := ⟨_, _, _, memF (.tail _ (.head _)), by simp, rfl⟩
    have l3 := l2.at 4 _ rfl
    by_cases k5 : o.kind = 5
    · have hgd : decide (o.kind = 5) = true := decide_eq_true k5
      match l, hsrc, hin, hok with
      | [], hsrc, hin, hok =>
        have hge : (decide (o.kind = 5) && decide ((0 : Int) < ((([] : List Lv).length : Nat) : Int))) = false := by rw [hgd]; rfl
        refine run_region_D mo ?_
        (refine runD_q 0 rfl rfl (by kernel_rfl) ?_; refine ⟨_, fun _ => ev_fieldAddr rfl rfl (fo rfl), ?_⟩; refine runD_q 1 rfl rfl (by kernel_rfl) ?_; refine ⟨_, fun _ => ev_loadK rfl rfl (sc rfl) (memR (memF (.tail _ (.head _)))) rfl, ?_⟩; refine runD_q 2 rfl rfl (by kernel_rfl) ?_; refine ⟨_, fun _ => ev_pure rfl, ?_⟩; refine runD_q 3 rfl rfl (by kernel_rfl) ?_; refine ⟨_, fun _ => ev_pure rfl, ?_⟩; refine runD_gq 4 rfl rfl rfl rfl rfl rfl hgd (by kernel_rfl) ?_; refine ⟨_, fun _ => ev_pure rfl, ?_⟩; refine runD_gq 5 rfl rfl rfl rfl rfl rfl hgd (by kernel_rfl) ?_; refine ⟨_, fun _ => ev_len rfl rfl (se rfl), ?_⟩; refine runD_gq 6 rfl rfl rfl rfl rfl rfl hgd (by kernel_rfl) ?_; refine ⟨_, fun _ => ev_pure rfl, ?_⟩; refine runD_q 7 rfl rfl (by kernel_rfl) ?_; refine ⟨_, fun _ => ev_pure rfl, ?_⟩; refine runD_q 8 rfl rfl (by kernel_rfl) ?_; refine ⟨_, fun _ => ev_pure rfl, ?_⟩; refine runD_gn 9 rfl rfl rfl rfl rfl rfl hge (by kernel_rfl) ?_; refine runD_gn 10 rfl rfl rfl rfl rfl rfl hge (by kernel_rfl) ?_; refine runD_gn 11 rfl rfl rfl rfl rfl rfl hge (by kernel_rfl) ?_; refine runD_gn 12 rfl rfl rfl rfl rfl rfl hge (by kernel_rfl) ?_; refine runD_gn 13 rfl rfl rfl rfl rfl rfl hge (by kernel_rfl) ?_; refine runD_gn 14 rfl rfl rfl rfl rfl rfl hge (by kernel_rfl) ?_; refine runD_q 15 rfl rfl (by kernel_rfl) ?_; refine ⟨_, fun _ => ev_pickF rfl rfl hge rfl, ?_⟩; refine runD_done (by kernel_rfl) ?_)
        exact midN () [blk b5 (bfind o.trader o.id B).1.cells 27] trivial (by rw [show meets o [] = false from rfl, hgd]; rfl) (fun x => by (first | rfl | (simp only [List.append_eq, cnt_append, cnt_cons, cnt_nil, blk]; omega) | (simp only [List.append_eq, cnt_append, cnt_cons, cnt_nil, blk]; done)))
      | lv :: r, hsrc, hin, hok =>
        have hge : (decide (o.kind = 5) && decide ((0 : Int) < (((lv :: r).length : Nat) : Int))) = true := by rw [hgd, decide_eq_true (by simp)]; rfl
        obtain ⟨b2, off, bi, lv', rfl, hlv, l1', hi⟩ := SdIn.level (n := 0) (cap := 0) hsrc hin (i := 0) (by simp)
        simp only [List.getElem?_cons_zero, Option.some.injEq] at hlv
        subst hlv
        have l4 : LoadsF F b2 (off + (0 : Int).toNat * 1) (.pointer (some ⟨bi, 0, none⟩)) := l1'
        have hlen0 : 0 < (lv :: r).length := by simp
        have q7 := fun G : Heap => sp_lprice (G ++ ([blk b5 (bfind o.trader o.id B).1.cells 27, blk b3 o.cells 27] ++ F)) bi lv.p lv.es (hi.mono fun x m => List.mem_append_right _ (List.mem_append_right _ m))
        have q8 := fun F => sp_crosses F o lv.p
        refine run_region_D mo ?_
        (refine runD_q 0 rfl rfl (by kernel_rfl) ?_; refine ⟨_, fun _ => ev_fieldAddr rfl rfl (fo rfl), ?_⟩; refine runD_q 1 rfl rfl (by kernel_rfl) ?_; refine ⟨_, fun _ => ev_loadK rfl rfl (sc rfl) (memR (memF (.tail _ (.head _)))) rfl, ?_⟩; refine runD_q 2 rfl rfl (by kernel_rfl) ?_; refine ⟨_, fun _ => ev_pure rfl, ?_⟩; refine runD_q 3 rfl rfl (by kernel_rfl) ?_; refine ⟨_, fun _ => ev_pure rfl, ?_⟩; refine runD_gq 4 rfl rfl rfl rfl rfl rfl hgd (by kernel_rfl) ?_; refine ⟨_, fun _ => ev_pure rfl, ?_⟩; refine runD_gq 5 rfl rfl rfl rfl rfl rfl hgd (by kernel_rfl) ?_; refine ⟨_, fun _ => ev_len rfl rfl (se rfl), ?_⟩; refine runD_gq 6 rfl rfl rfl rfl rfl rfl hgd (by kernel_rfl) ?_; refine ⟨_, fun _ => ev_pure rfl, ?_⟩; refine runD_q 7 rfl rfl (by kernel_rfl) ?_; refine ⟨_, fun _ => ev_pure rfl, ?_⟩; refine runD_q 8 rfl rfl (by kernel_rfl) ?_; refine ⟨_, fun _ => ev_pure rfl, ?_⟩; refine runD_gq 9 rfl rfl rfl rfl rfl rfl hge (by kernel_rfl) ?_; refine ⟨_, fun _ => ev_loadAK rfl rfl (ag rfl) (sz rfl) (memR (memF (.tail _ (.head _)))) rfl, ?_⟩; refine runD_gq 10 rfl rfl rfl rfl rfl rfl hge (by kernel_rfl) ?_; refine ⟨_, fun _ => ev_pure rfl, ?_⟩; refine runD_gq 11 rfl rfl rfl rfl rfl rfl hge (by kernel_rfl) ?_; refine ⟨_, fun _ => ev_indexAddr rfl rfl rfl (se rfl) (by omega) (by omega), ?_⟩; refine runD_gq 12 rfl rfl rfl rfl rfl rfl hge (by kernel_rfl) ?_; refine ⟨_, fun _ => ev_loadF rfl rfl (sc rfl) l4.up, ?_⟩; refine runD_gq 13 rfl rfl rfl rfl rfl rfl hge (by kernel_rfl) ?_; refine ⟨_, fun _ => ev_callQ rfl rfl rfl (pf rfl) (q7 ..), ?_⟩; refine runD_gq 14 rfl rfl rfl rfl rfl rfl hge (by kernel_rfl) ?_; refine ⟨_, fun _ => ev_callQ rfl rfl rfl (pf rfl) (q8 ..), ?_⟩; refine runD_q 15 rfl rfl (by kernel_rfl) ?_; refine ⟨_, fun _ => ev_pure rfl, ?_⟩; refine runD_done (by kernel_rfl) ?_)
        exact midN () [blk b5 (bfind o.trader o.id B).1.cells 27] trivial (by rw [show meets o (lv :: r) = crosses o lv.p from rfl, hge, hgd]; rfl) (fun x => by (first | rfl | (simp only [List.append_eq, cnt_append, cnt_cons, cnt_nil, blk]; omega) | (simp only [List.append_eq, cnt_append, cnt_cons, cnt_nil, blk]; done)))
    · have hgd : decide (o.kind = 5) = false := decide_eq_false k5
      have hge : false = false := rfl
      refine run_region_D mo ?_
      (refine runD_q 0 rfl rfl (by kernel_rfl) ?_; refine ⟨_, fun _ => ev_fieldAddr rfl rfl (fo rfl), ?_⟩; refine runD_q 1 rfl rfl (by kernel_rfl) ?_; refine ⟨_, fun _ => ev_loadK rfl rfl (sc rfl) (memR (memF (.tail _ (.head _)))) rfl, ?_⟩; refine runD_q 2 rfl rfl (by kernel_rfl) ?_; refine ⟨_, fun _ => ev_pure rfl, ?_⟩; refine runD_q 3 rfl rfl (by kernel_rfl) ?_; refine ⟨_, fun _ => ev_pure rfl, ?_⟩; refine runD_gn 4 rfl rfl rfl rfl rfl rfl hgd (by kernel_rfl) ?_; refine runD_gn 5 rfl rfl rfl rfl rfl rfl hgd (by kernel_rfl) ?_; refine runD_gn 6 rfl rfl rfl rfl rfl rfl hgd (by kernel_rfl) ?_; refine runD_q 7 rfl rfl (by kernel_rfl) ?_; refine ⟨_, fun _ => ev_pickF rfl rfl hgd rfl, ?_⟩; refine runD_q 8 rfl rfl (by kernel_rfl) ?_; refine ⟨_, fun _ => ev_pure rfl, ?_⟩; refine runD_gn 9 rfl rfl rfl rfl rfl rfl hge (by kernel_rfl) ?_; refine runD_gn 10 rfl rfl rfl rfl rfl rfl hge (by kernel_rfl) ?_; refine runD_gn 11 rfl rfl rfl rfl rfl rfl hge (by kernel_rfl) ?_; refine runD_gn 12 rfl rfl rfl rfl rfl rfl hge (by kernel_rfl) ?_; refine runD_gn 13 rfl rfl rfl rfl rfl rfl hge (by kernel_rfl) ?_; refine runD_gn 14 rfl rfl rfl rfl rfl rfl hge (by kernel_rfl) ?_; refine runD_q 15 rfl rfl (by kernel_rfl) ?_; refine ⟨_, fun _ => ev_pickF rfl rfl hge rfl, ?_⟩; refine runD_done (by kernel_rfl) ?_)
      exact midN () [blk b5 (bfind o.trader o.id B).1.cells 27] trivial (by rw [hgd]; rfl) (fun x => by (first | rfl | (simp only [List.append_eq, cnt_append, cnt_cons, cnt_nil, blk]; omega) | (simp only [List.append_eq, cnt_append, cnt_cons, cnt_nil, blk]; done)))
  · intro fr' h' hm
    (refine then_normal ?_)
    refine midN_out hm ?_
    rintro ⟨⟩ -
    skip
    by_cases c4 : o.kind = 5 ∧ meets o l = true
    · rw [if_pos c4]
      refine run_condT rfl (by rw [c4.2, decide_eq_true c4.1]; rfl) ?_
      (refine run_seq ?_; refine run_region ?_; refine xep rfl rfl ?_; refine runL_nil ?_; refine then_normal ?_; refine run_ret ?_; refine then_ret ?_)
      exact ⟨_, rfl, rfl⟩
    rw [if_neg c4]
    refine run_condF rfl (by
      by_cases k5 : o.kind = 5
      · have : meets o l = false := by simpa using fun h9 => c4 ⟨k5, h9⟩
        rw [this, decide_eq_true k5]; rfl
      · rw [decide_eq_false k5]; rfl) ?_
    (refine run_skip ?_; refine then_normal ?_; (iterate 2 refine run_seq ?_); refine run_region ?_; refine xel rfl (ev_fieldAddr rfl rfl (fo rfl)) ?_; refine xel rfl (ev_loadK rfl rfl (sc rfl) (memF (.head _)) rfl) ?_; (iterate 2 refine xep rfl rfl ?_); refine xgp rfl rfl rfl ?_; refine xgl rfl rfl (fun hq => ev_loadAK rfl rfl (ag rfl) (sz rfl) (memF (.head _)) rfl) ?_; refine xgl rfl rfl (fun hq => ev_callQ rfl rfl rfl (pf rfl) (q6 ..)) ?_; refine xgp rfl rfl rfl ?_; refine xep rfl rfl ?_; refine runL_nil ?_; refine then_normal ?_)
    by_cases c5 : o.kind = 4 ∧ fillsL o l = false
    · rw [if_pos c5]
      refine run_condT rfl (by rw [c5.2, decide_eq_true c5.1]; rfl) ?_
      (refine run_seq ?_; refine run_region ?_; refine xep rfl rfl ?_; refine runL_nil ?_; refine then_normal ?_; refine run_ret ?_; refine then_ret ?_)
      exact ⟨_, rfl, rfl⟩
    rw [if_neg c5]
    refine run_condF rfl (by
      by_cases k5 : o.kind = 4
      · have : fillsL o l = true := by simpa using fun h9 => c5 ⟨k5, h9⟩
        rw [this, decide_eq_true k5]; rfl
      · rw [decide_eq_false k5]; rfl) ?_
    (refine run_skip ?_; refine then_normal ?_; refine run_seq ?_; refine run_region ?_; refine xep rfl rfl ?_; refine runL_nil ?_; refine then_normal ?_; refine run_ret ?_)
    exact ⟨_, rfl, rfl⟩
end Go.Proofs.Ytlokkniepoeepaa
