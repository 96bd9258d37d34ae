/- Contracts of functions of the given program over its translation, each proved by walking its text; used by the laws' rows. It proves no given statement by itself. -/
import Derived.Test.YtiilndlgfgikbaaSLPlB
set_option autoImplicit false
set_option linter.unusedSectionVars false
set_option linter.unusedSimpArgs false
set_option linter.unusedVariables false
set_option maxRecDepth 4000
set_option maxHeartbeats 100000000
namespace Go.Proofs.Ytiilndlgfgikbaa
open Go Go.SL Go.Proofs
variable [Base]
theorem bookBest_sp (F : Heap) (a : Option Addr) (len cap : Nat) (rs : List (List Int)) (r : List Int) (hR : RowsF F a len 7 rs) (hC : len ≤ cap) (hM : cap ≤ 9223372036854775807) (hr7 : r.length = 7) (hz : ∀ z ∈ r, InI z) :
    Sp Try.prog F 8 [.slice a len cap, .agg ⟨ints r⟩] [] (Ret (.bool true)) := by
  have q3 := bookRuns_sp
  have q1 := fun F => sp_kOrder F r hr7
  refine sp_of_code Try.func8 rfl rfl ?_
  (refine run_seq ?_; refine run_region ?_; refine runL_box rfl rfl rfl rfl rfl rfl (fun _ => ?_); refine xep rfl rfl ?_; refine runL_nil ?_; refine then_normal ?_; refine run_seq ?_; refine run_region ?_; refine xep rfl rfl ?_)
  refine runL_call0 rfl rfl rfl rfl rfl rfl rfl (pf rfl) (sp_bfilled _ a len cap rs (RowsF.mono hR fun x m => by simp [m]) (by omega) 40 (by omega)) ?_
  rintro v H ⟨b, rfl, hH⟩
  obtain ⟨hw, hn0, hn1⟩ := bfill_ok rs 40
  have hg := bfill_Gd rs 40
  generalize bfill rs 40 = B at *
  have hkr := (kO_right r).1
  (refine xep rfl rfl ?_; refine runL_nil ?_; refine then_normal ?_; (iterate 2 refine run_seq ?_); refine run_region ?_; refine xep rfl rfl ?_; refine xel rfl (ev_eqNil rfl rfl rfl (pt rfl)) ?_; refine runL_nil ?_; refine then_normal ?_)
  refine run_condF rfl rfl ?_
  (refine run_skip ?_; refine then_normal ?_; refine run_seq ?_; refine run_region ?_)
  rename_i x
  refine RunL.perm (h' := blk x (cellsV (.agg ⟨ints r⟩)) 43 :: H) (fun y => by (first | rfl | (simp only [List.append_eq, cnt_append, cnt_cons, cnt_nil, blk]; omega) | (simp only [List.append_eq, cnt_append, cnt_cons, cnt_nil, blk]; done))) ?_
  refine runL_ev rfl rfl rfl rfl (ev_loadA (n := 7) (off := 0) (c := ints r) (l := ints r) rfl rfl (ag rfl) (sz rfl) (memF (.head _)) (by rw [ints_len, hr7]; omega) (by rw [List.drop_zero, List.take_of_length_le (by rw [ints_len, hr7]; omega)])) ?_
  clear hz
  generalize kO r = o at *
  have hk : InI o.kind := by unfold rightP at hkr; unfold InI; omega
  have hside : o.side = 1 ∨ o.side = 2 := by unfold rightP at hkr; omega
  have C := best_is hw hg hkr
  have hw2 := (badd_BW (o := o) hw hn0).1
  (refine xel rfl (ev_callQ rfl rfl rfl (pf rfl) (q1 ..)) ?_; refine runL_alloc rfl rfl rfl rfl rfl ze25 (fun _ => ?_); refine runL_store0 rfl rfl rfl rfl rfl (sz rfl) rfl rfl rfl rfl rfl ?_; refine runL_nil ?_; refine then_normal ?_; refine run_seq ?_; refine run_region ?_; refine xep rfl rfl ?_; refine xel rfl (ev_loadAK rfl rfl (ag rfl) (sz rfl) (memF (.head _)) rfl) ?_)
  rename_i xo
  refine RunL.perm (h' := blk xo o.cells 25 :: blk x (cellsV (.agg ⟨ints r⟩)) 43 :: H) (fun y => rfl) ?_
  refine runL_callZ (blk xo o.cells 25 :: [blk x (cellsV (.agg ⟨ints r⟩)) 43]) H rfl rfl rfl rfl rfl rfl rfl (pf rfl) (fun y => by (first | rfl | (simp only [List.append_eq, cnt_append, cnt_cons, cnt_nil, blk]; omega) | (simp only [List.append_eq, cnt_append, cnt_cons, cnt_nil, blk]; done))) (sp_badd _ H b _ hH hw o hk hn0 (by omega)) ?_
  rintro v _ ⟨a3, c3, A3, H2, rfl, own3, hH2, rfl⟩
  obtain ⟨k1, k2, k3, k4, k5⟩ := C
  generalize badd o B = X at *
  obtain ⟨⟨xq, xf, xl, xr, xw, xs, xe⟩, X2⟩ := X
  unfold outV
  dsimp only at *
  (refine runL_alloc rfl rfl rfl rfl rfl ze29 (fun _ => ?_); refine runL_store0 rfl rfl rfl rfl rfl (sz rfl) rfl rfl rfl rfl rfl ?_; refine runL_nil ?_; refine then_normal ?_; (iterate 2 refine run_seq ?_); refine run_region ?_; refine xel rfl (ev_fieldAddr rfl rfl (fo rfl)) ?_; refine xel rfl (ev_loadK rfl rfl (sc rfl) (memF (.head _)) rfl) ?_; refine xel rfl (ev_len rfl rfl (se rfl)) ?_; refine xep rfl rfl ?_; refine runL_nil ?_; refine then_normal ?_; refine run_block ?_)
  rename_i xt
  have hIn : BkIn ((H2 ++ A3) ++ F) b X2 := hH2.in fun y m => by simp [m]
  have src := own3.src (H := (H2 ++ A3) ++ F) fun y m => by simp [m]
  clear hH2 own3 hH
  refine RunC.perm (h' := [] ++ ([blk xt [Value.int .i64 xq.trader, .int .i64 xq.id, .int .i64 xq.firm, .int .i64 xq.side, .int .i64 xq.kind, .int .i64 xq.price, .int .i64 xq.qty, .int .i64 xq.show_, .int .i64 xq.stop, .slice a3 xf.length c3, .int .i64 xl, .bool xr, .bool xw, .bool xs, .int .i64 xe] 29, blk xo o.cells 25] ++ ((H2 ++ A3) ++ [blk x (cellsV (.agg ⟨ints r⟩)) 43]))) (fun y => by (first | rfl | (simp only [List.append_eq, cnt_append, cnt_cons, cnt_nil, blk]; omega) | (simp only [List.append_eq, cnt_append, cnt_cons, cnt_nil, blk]; done))) ?_
  have lt : AggF (([blk xt [Value.int .i64 xq.trader, .int .i64 xq.id, .int .i64 xq.firm, .int .i64 xq.side, .int .i64 xq.kind, .int .i64 xq.price, .int .i64 xq.qty, .int .i64 xq.show_, .int .i64 xq.stop, .slice a3 xf.length c3, .int .i64 xl, .bool xr, .bool xw, .bool xs, .int .i64 xe] 29, blk xo o.cells 25] ++ ((H2 ++ A3) ++ [blk x (cellsV (.agg ⟨ints r⟩)) 43])) ++ F) xt 0 [Value.int .i64 xq.trader, .int .i64 xq.id, .int .i64 xq.firm, .int .i64 xq.side, .int .i64 xq.kind, .int .i64 xq.price, .int .i64 xq.qty, .int .i64 xq.show_, .int .i64 xq.stop, .slice a3 xf.length c3, .int .i64 xl, .bool xr, .bool xw, .bool xs, .int .i64 xe] := ⟨_, _, _, memF (.head _), Nat.le_refl _, rfl⟩
  have lo : AggF (([blk xt [Value.int .i64 xq.trader, .int .i64 xq.id, .int .i64 xq.firm, .int .i64 xq.side, .int .i64 xq.kind, .int .i64 xq.price, .int .i64 xq.qty, .int .i64 xq.show_, .int .i64 xq.stop, .slice a3 xf.length c3, .int .i64 xl, .bool xr, .bool xw, .bool xs, .int .i64 xe] 29, blk xo o.cells 25] ++ ((H2 ++ A3) ++ [blk x (cellsV (.agg ⟨ints r⟩)) 43])) ++ F) xo 0 o.cells := ⟨_, _, _, memF (.tail _ (.head _)), Nat.le_refl _, rfl⟩
  generalize hM4 : [blk xt [Value.int .i64 xq.trader, .int .i64 xq.id, .int .i64 xq.firm, .int .i64 xq.side, .int .i64 xq.kind, .int .i64 xq.price, .int .i64 xq.qty, .int .i64 xq.show_, .int .i64 xq.stop, .slice a3 xf.length c3, .int .i64 xl, .bool xr, .bool xw, .bool xs, .int .i64 xe] 29, blk xo o.cells 25] ++ ((H2 ++ A3) ++ [blk x (cellsV (.agg ⟨ints r⟩)) 43]) = M4 at *
  have hIn : BkIn (M4 ++ F) b X2 := hIn.mono fun y m => by rw [← hM4]; simp only [List.mem_append] at m ⊢; rcases m with m | m <;> simp [m]
  have src : SrcIs (M4 ++ F) a3 xf.length 21 (rows fcell xf) := src.mono fun y m => by rw [← hM4]; simp only [List.mem_append] at m ⊢; rcases m with m | m <;> simp [m]
  clear hM4
  refine RunC.freezeR ?_
  refine run_loopK (σ := Nat) [5, 6, 7, 23, 24, 25] (fun i => [(5, .pointer (some ⟨b, 0, none⟩)), (6, .pointer (some ⟨xo, 0, none⟩)), (7, .pointer (some ⟨xt, 0, none⟩)), (23, .slice a3 xf.length c3), (24, .int .i64 xf.length), (25, .int .i64 i)])
    (fun _ => []) (fun i => i ≤ xf.length) (fun i => xf.length - i) 0 (Nat.zero_le _) rfl (fun _ => rfl) ?_
  intro i gi
  (refine run_seq ?_; refine run_region ?_; refine xep rfl rfl ?_; refine runL_nil ?_; refine then_normal ?_; refine run_seq ?_)
  (refine run_cond rfl (fun hc => ?_) (fun hc => ?_) <;> (try simp only [z0, z1, z2, z3, z4, z5, z6, z7, z8, z9, Bool.not_true, Bool.not_false, Bool.false_or, Bool.true_and, true_and, and_true, false_or, or_false, reduceCtorEq, Bool.false_eq_true] at hc))
  · obtain ⟨b2, off, _, _, _, rfl, _⟩ := src.pos (by omega)
    obtain ⟨f, hf⟩ : ∃ f, xf[i]? = some f := ⟨xf[i]'(by omega), List.getElem?_eq_getElem _⟩
    have l1 := SrcIs.row fcell_len src rfl hf
    obtain ⟨f1, f2⟩ := k2 f (List.mem_of_getElem? hf)
    (refine run_skip ?_; refine then_normal ?_; refine run_seq ?_; refine run_block ?_; refine run_seq ?_; refine run_region ?_; refine xep rfl rfl ?_; refine xel rfl (ev_indexAddr rfl rfl rfl (se rfl) (by omega) (by omega)) ?_; refine xel rfl (ev_loadAF rfl rfl (ag rfl) (sz rfl) l1 rfl) ?_; refine runL_alloc rfl rfl rfl rfl rfl ze36 (fun _ => ?_); refine xep rfl rfl ?_; refine runL_store0 rfl rfl rfl rfl rfl (sz rfl) rfl rfl rfl rfl rfl ?_; refine runL_nil ?_; refine then_normal ?_; refine run_seq ?_)
    rename_i xg
    refine RunC.perm (h' := [] ++ [blk xg (fcell f) 36]) (fun y => rfl) ?_
    have q4 := fun F => sp_crosses F o f.price
    have y1 : (!crosses o f.price) = false := by rw [f1]; rfl
    have g1 : AggF ([blk xg (fcell f) 36] ++ (M4 ++ F)) xg 0 (fcell f) := ⟨_, _, _, memF (.head _), Nat.le_refl _, rfl⟩
    have l2 := g1.at 3 _ rfl
    have l3 := g1.at 18 _ rfl
    have l4 : AggF ([blk xg (fcell f) 36] ++ (M4 ++ F)) xo 0 o.cells := lo.up
    have l5 := (lt.up (A := [blk xg (fcell f) 36])).at 9 _ rfl
    refine run_midO (σ := Unit) [5, 6, 7, 8, 23, 24, 25] (fun _ => [(53, .bool false)]) (fun _ => []) (fun _ => True) rfl ?_ ?_
    · refine RunC.freezeR ?_
      by_cases h0 : i = 0
      · subst h0
        have y2 : decide ((0 : Int) < ((0 : Nat) : Int)) = false := rfl
        have hge : false = false := rfl
        refine run_region_D mo ?_
        (refine runD_q 0 rfl rfl (by kernel_rfl) ?_; refine ⟨_, fun _ => ev_loadAF rfl rfl (ag rfl) (sz rfl) l4 rfl, ?_⟩; refine runD_q 1 rfl rfl (by kernel_rfl) ?_; refine ⟨_, fun _ => ev_fieldAddr rfl rfl (fo rfl), ?_⟩; refine runD_q 2 rfl rfl (by kernel_rfl) ?_; refine ⟨_, fun _ => ev_loadK rfl rfl (sc rfl) (memR (memF (.head _))) rfl, ?_⟩; refine runD_q 3 rfl rfl (by kernel_rfl) ?_; refine ⟨_, fun _ => ev_callQ rfl rfl rfl (pf rfl) (q4 ..), ?_⟩; refine runD_q 4 rfl rfl (by kernel_rfl) ?_; refine ⟨_, fun _ => ev_pure rfl, ?_⟩; refine runD_q 5 rfl rfl (by kernel_rfl) ?_; refine ⟨_, fun _ => ev_pure rfl, ?_⟩; refine runD_gq 6 rfl rfl rfl rfl rfl rfl y1 (by kernel_rfl) ?_; refine ⟨_, fun _ => ev_pure rfl, ?_⟩; refine runD_gq 7 rfl rfl rfl rfl rfl rfl y1 (by kernel_rfl) ?_; refine ⟨_, fun _ => ev_pure rfl, ?_⟩; refine runD_gq 8 rfl rfl rfl rfl rfl rfl y1 (by kernel_rfl) ?_; refine ⟨_, fun _ => ev_pure rfl, ?_⟩; refine runD_gn 9 rfl rfl rfl rfl rfl rfl hge (by kernel_rfl) ?_; refine runD_gn 10 rfl rfl rfl rfl rfl rfl hge (by kernel_rfl) ?_; refine runD_gn 11 rfl rfl rfl rfl rfl rfl hge (by kernel_rfl) ?_; refine runD_gn 12 rfl rfl rfl rfl rfl rfl hge (by kernel_rfl) ?_; refine runD_gn 13 rfl rfl rfl rfl rfl rfl hge (by kernel_rfl) ?_; refine runD_gn 14 rfl rfl rfl rfl rfl rfl hge (by kernel_rfl) ?_; refine runD_gn 15 rfl rfl rfl rfl rfl rfl hge (by kernel_rfl) ?_; refine runD_gn 16 rfl rfl rfl rfl rfl rfl hge (by kernel_rfl) ?_; refine runD_gn 17 rfl rfl rfl rfl rfl rfl hge (by kernel_rfl) ?_; refine runD_gn 18 rfl rfl rfl rfl rfl rfl hge (by kernel_rfl) ?_; refine runD_gn 19 rfl rfl rfl rfl rfl rfl hge (by kernel_rfl) ?_; refine runD_gn 20 rfl rfl rfl rfl rfl rfl hge (by kernel_rfl) ?_; refine runD_gn 21 rfl rfl rfl rfl rfl rfl hge (by kernel_rfl) ?_; refine runD_gq 22 rfl rfl rfl rfl rfl rfl y1 (by kernel_rfl) ?_; refine ⟨_, fun _ => ev_pickF rfl rfl hge rfl, ?_⟩; refine runD_q 23 rfl rfl (by kernel_rfl) ?_; refine ⟨_, fun _ => ev_pure rfl, ?_⟩; refine runD_done (by kernel_rfl) ?_)
        refine midN () [blk xg (fcell f) 36] trivial ?_ (fun x => by (first | rfl | (simp only [List.append_eq, cnt_append, cnt_cons, cnt_nil, blk]; omega) | (simp only [List.append_eq, cnt_append, cnt_cons, cnt_nil, blk]; done)))
        rw [y1]; rfl
      · have y2 : decide ((0 : Int) < (i : Int)) = true := decide_eq_true (by omega)
        obtain ⟨p, hp⟩ : ∃ p, xf[i - 1]? = some p := ⟨xf[i - 1]'(by omega), List.getElem?_eq_getElem _⟩
        have l6 : AggF ([blk xg (fcell f) 36] ++ (M4 ++ F)) b2 (off + ((i : Int) - 1).toNat * 21) (fcell p) := by
          rw [show ((i : Int) - 1).toNat = i - 1 by omega]; exact (SrcIs.row fcell_len src rfl hp).up
        have l7 := l6.at 18 _ rfl
        have hb := fsorted_at k3 hp hf (by omega)
        rw [← f2] at hb
        have q5 := fun F => sp_better F f.maker.side f.price p.price
        refine run_region_D mo ?_
        (refine runD_q 0 rfl rfl (by kernel_rfl) ?_; refine ⟨_, fun _ => ev_loadAF rfl rfl (ag rfl) (sz rfl) l4 rfl, ?_⟩; refine runD_q 1 rfl rfl (by kernel_rfl) ?_; refine ⟨_, fun _ => ev_fieldAddr rfl rfl (fo rfl), ?_⟩; refine runD_q 2 rfl rfl (by kernel_rfl) ?_; refine ⟨_, fun _ => ev_loadK rfl rfl (sc rfl) (memR (memF (.head _))) rfl, ?_⟩; refine runD_q 3 rfl rfl (by kernel_rfl) ?_; refine ⟨_, fun _ => ev_callQ rfl rfl rfl (pf rfl) (q4 ..), ?_⟩; refine runD_q 4 rfl rfl (by kernel_rfl) ?_; refine ⟨_, fun _ => ev_pure rfl, ?_⟩; refine runD_q 5 rfl rfl (by kernel_rfl) ?_; refine ⟨_, fun _ => ev_pure rfl, ?_⟩; refine runD_gq 6 rfl rfl rfl rfl rfl rfl y1 (by kernel_rfl) ?_; refine ⟨_, fun _ => ev_pure rfl, ?_⟩; refine runD_gq 7 rfl rfl rfl rfl rfl rfl y1 (by kernel_rfl) ?_; refine ⟨_, fun _ => ev_pure rfl, ?_⟩; refine runD_gq 8 rfl rfl rfl rfl rfl rfl y1 (by kernel_rfl) ?_; refine ⟨_, fun _ => ev_pure rfl, ?_⟩; refine runD_gq 9 rfl rfl rfl rfl rfl rfl y2 (by kernel_rfl) ?_; refine ⟨_, fun _ => ev_fieldAddr rfl rfl (fo rfl), ?_⟩; refine runD_gq 10 rfl rfl rfl rfl rfl rfl y2 (by kernel_rfl) ?_; refine ⟨_, fun _ => ev_fieldAddr rfl rfl (fo rfl), ?_⟩; refine runD_gq 11 rfl rfl rfl rfl rfl rfl y2 (by kernel_rfl) ?_; refine ⟨_, fun _ => ev_loadK rfl rfl (sc rfl) (memR (memF (.head _))) rfl, ?_⟩; refine runD_gq 12 rfl rfl rfl rfl rfl rfl y2 (by kernel_rfl) ?_; refine ⟨_, fun _ => ev_fieldAddr rfl rfl (fo rfl), ?_⟩; refine runD_gq 13 rfl rfl rfl rfl rfl rfl y2 (by kernel_rfl) ?_; refine ⟨_, fun _ => ev_loadK rfl rfl (sc rfl) (memR (memF (.head _))) rfl, ?_⟩; refine runD_gq 14 rfl rfl rfl rfl rfl rfl y2 (by kernel_rfl) ?_; refine ⟨_, fun _ => ev_fieldAddr rfl rfl (fo rfl), ?_⟩; refine runD_gq 15 rfl rfl rfl rfl rfl rfl y2 (by kernel_rfl) ?_; refine ⟨_, fun _ => ev_loadF rfl rfl (sc rfl) l5, ?_⟩; refine runD_gq 16 rfl rfl rfl rfl rfl rfl y2 (by kernel_rfl) ?_; refine ⟨_, fun _ => ev_pure rfl, ?_⟩; refine runD_gq 17 rfl rfl rfl rfl rfl rfl y2 (by kernel_rfl) ?_; refine ⟨_, fun _ => ev_sub rfl rfl rfl (by omega), ?_⟩; refine runD_gq 18 rfl rfl rfl rfl rfl rfl y2 (by kernel_rfl) ?_; refine ⟨_, fun _ => ev_indexAddr rfl rfl rfl (se rfl) (by omega) (by omega), ?_⟩; refine runD_gq 19 rfl rfl rfl rfl rfl rfl y2 (by kernel_rfl) ?_; refine ⟨_, fun _ => ev_fieldAddr rfl rfl (fo rfl), ?_⟩; refine runD_gq 20 rfl rfl rfl rfl rfl rfl y2 (by kernel_rfl) ?_; refine ⟨_, fun _ => ev_loadF rfl rfl (sc rfl) l7, ?_⟩; refine runD_gq 21 rfl rfl rfl rfl rfl rfl y2 (by kernel_rfl) ?_; refine ⟨_, fun _ => ev_callQ rfl rfl rfl (pf rfl) (q5 ..), ?_⟩; refine runD_gq 22 rfl rfl rfl rfl rfl rfl y1 (by kernel_rfl) ?_; refine ⟨_, fun _ => ev_pure rfl, ?_⟩; refine runD_q 23 rfl rfl (by kernel_rfl) ?_; refine ⟨_, fun _ => ev_pure rfl, ?_⟩; refine runD_done (by kernel_rfl) ?_)
        refine midN () [blk xg (fcell f) 36] trivial ?_ (fun x => by (first | rfl | (simp only [List.append_eq, cnt_append, cnt_cons, cnt_nil, blk]; omega) | (simp only [List.append_eq, cnt_append, cnt_cons, cnt_nil, blk]; done)))
        rw [y1, hb, Bool.and_false]; rfl
    · intro fr' h' hm
      (refine then_normal ?_)
      refine midN_out hm ?_
      rintro ⟨⟩ -
      refine run_condF rfl rfl ?_
      (refine run_skip ?_; refine in_normal ?_; refine then_normal ?_; refine run_region ?_; refine xel rfl (ev_add rfl rfl rfl (by omega)) ?_; refine xep rfl rfl ?_; refine runL_nil ?_; refine then_normal ?_)
      exact ⟨i + 1, by omega, by omega, rfl, [], fun y => rfl⟩
  · have : i = xf.length := by omega
    subst this
    (refine run_exit ?_; (iterate 2 refine then_exit ?_); refine in_exit ?_; refine then_normal ?_)
    refine RunC.freezeR (h := []) (A := M4) ?_
    have l1 := lt.at 9 _ rfl
    have l2 := lo.at 3 _ rfl
    ((iterate 2 refine run_seq ?_); refine run_region ?_; refine xel rfl (ev_fieldAddr rfl rfl (fo rfl)) ?_; refine xel rfl (ev_loadF rfl rfl (sc rfl) l1) ?_; refine xel rfl (ev_len rfl rfl (se rfl)) ?_; refine xep rfl rfl ?_; refine runL_nil ?_; refine then_normal ?_)
    by_cases h0 : xf.length = 0
    · refine run_condT rfl (decide_eq_true (by omega)) ?_
      (refine run_seq ?_; refine run_region ?_; refine xel rfl (ev_callQ rfl rfl rfl (pf rfl) (q3 ..)) ?_; refine xep rfl rfl ?_; refine runL_nil ?_; refine then_normal ?_; refine run_ret ?_; refine then_ret ?_)
      exact ⟨_, rfl, rfl⟩
    · refine run_condF rfl (decide_eq_false (by omega)) ?_
      (refine run_skip ?_; refine then_normal ?_)
      obtain ⟨b2, off, _, _, _, rfl, _⟩ := src.pos (by omega)
      obtain ⟨f, hf⟩ : ∃ f, xf[xf.length - 1]? = some f := ⟨xf[xf.length - 1]'(by omega), List.getElem?_eq_getElem _⟩
      have l3 : AggF (M4 ++ F) b2 (off + ((xf.length : Int) - 1).toNat * 21) (fcell f) := by
        rw [show ((xf.length : Int) - 1).toNat = xf.length - 1 by omega]; exact SrcIs.row fcell_len src rfl hf
      have l4 := l3.at 18 _ rfl
      have hlast := k5 f hf
      have hk4 := k4 f (List.mem_of_getElem? hf)
      have hl5 : (ordersL (X2.side (3 - o.side))).length ≤ 64 := by have := (hw2.side (3 - o.side)).2; rw [ordersL_len]; exact this
      (refine run_seq ?_; refine run_region ?_; refine xel rfl (ev_fieldAddr rfl rfl (fo rfl)) ?_; refine xel rfl (ev_loadF rfl rfl (sc rfl) l1) ?_; refine xel rfl (ev_fieldAddr rfl rfl (fo rfl)) ?_; refine xel rfl (ev_loadF rfl rfl (sc rfl) l1) ?_; refine xel rfl (ev_len rfl rfl (se rfl)) ?_; refine xel rfl (ev_sub rfl rfl rfl (by omega)) ?_; refine xel rfl (ev_indexAddr rfl rfl rfl (se rfl) (by omega) (by omega)) ?_; refine xel rfl (ev_fieldAddr rfl rfl (fo rfl)) ?_; refine xel rfl (ev_loadF rfl rfl (sc rfl) l4) ?_; refine xep rfl rfl ?_; refine runL_nil ?_; refine then_normal ?_; (iterate 2 refine run_seq ?_); refine run_region ?_; refine xep rfl rfl ?_; refine xel rfl (ev_fieldAddr rfl rfl (fo rfl)) ?_; refine xel rfl (ev_loadF rfl rfl (sc rfl) l2) ?_; refine xel rfl (ev_sub rfl rfl rfl (by omega)) ?_)
      refine runL_callZ [] [] rfl rfl rfl rfl rfl rfl rfl (pf rfl) (fun y => by (first | rfl | (simp only [List.append_eq, cnt_append, cnt_cons, cnt_nil, blk]; omega) | (simp only [List.append_eq, cnt_append, cnt_cons, cnt_nil, blk]; done))) (sp_borders _ b X2 hIn.up hw2 (3 - o.side)) ?_
      rintro v A5 own5
      obtain ⟨a5, c5, rfl, own5⟩ := own5.at
      (refine xel rfl (ev_len rfl rfl (se rfl)) ?_; refine xep rfl rfl ?_; refine runL_nil ?_; refine then_normal ?_; refine run_block ?_; refine RunC.whole rfl ?_)
      have src5 := own5.src (H := A5 ++ (M4 ++ F)) fun y m => by simp [m]
      clear own5
      generalize ordersL (X2.side (3 - o.side)) = ys at *
      refine RunC.perm (h' := [] ++ A5) (fun y => by (first | rfl | (simp only [List.append_eq, cnt_append, cnt_cons, cnt_nil, blk]; omega) | (simp only [List.append_eq, cnt_append, cnt_cons, cnt_nil, blk]; done))) ?_
      refine RunC.freezeR (h := []) (A := A5) ?_
      refine run_loopK (σ := Nat) [5, 10, 73, 74, 75] (fun i => [(5, .pointer (some ⟨b, 0, none⟩)), (10, .int .i64 f.price), (73, .slice a5 ys.length c5), (74, .int .i64 ys.length), (75, .int .i64 i)])
        (fun _ => []) (fun i => i ≤ ys.length) (fun i => ys.length - i) 0 (Nat.zero_le _) rfl (fun _ => rfl) ?_
      intro i gi2
      (refine run_seq ?_; refine run_region ?_; refine xep rfl rfl ?_; refine runL_nil ?_; refine then_normal ?_; refine run_seq ?_)
      (refine run_cond rfl (fun hc => ?_) (fun hc => ?_) <;> (try simp only [z0, z1, z2, z3, z4, z5, z6, z7, z8, z9, Bool.not_true, Bool.not_false, Bool.false_or, Bool.true_and, true_and, and_true, false_or, or_false, reduceCtorEq, Bool.false_eq_true] at hc))
      · obtain ⟨b5, o5, _, _, _, rfl, _⟩ := src5.pos (by omega)
        obtain ⟨y, hy⟩ : ∃ y, ys[i]? = some y := ⟨ys[i]'(by omega), List.getElem?_eq_getElem _⟩
        have l5 := SrcIs.row oc_len src5 rfl hy
        obtain ⟨s1, s2⟩ := hk4 y (List.mem_of_getElem? hy)
        rw [← s1] at s2
        have q5 := fun F => sp_better F y.side y.price f.price
        (refine run_skip ?_; refine then_normal ?_; refine run_seq ?_; refine run_block ?_; refine run_seq ?_; refine run_region ?_; refine xel rfl (ev_indexAddr rfl rfl rfl (se rfl) (by omega) (by omega)) ?_; refine xel rfl (ev_loadAF rfl rfl (ag rfl) (sz rfl) l5 rfl) ?_; refine runL_alloc rfl rfl rfl rfl rfl ze25 (fun _ => ?_); refine runL_store0 rfl rfl rfl rfl rfl (sz rfl) rfl rfl rfl rfl rfl ?_; refine runL_nil ?_; refine then_normal ?_; refine run_seq ?_; refine run_region ?_; refine xel rfl (ev_fieldAddr rfl rfl (fo rfl)) ?_; refine xel rfl (ev_loadK rfl rfl (sc rfl) (memF (.head _)) rfl) ?_; refine xel rfl (ev_fieldAddr rfl rfl (fo rfl)) ?_; refine xel rfl (ev_loadK rfl rfl (sc rfl) (memF (.head _)) rfl) ?_; refine xep rfl rfl ?_; refine xel rfl (ev_callQ rfl rfl rfl (pf rfl) (q5 ..)) ?_; refine runL_nil ?_; refine then_normal ?_)
        refine run_condF rfl s2 ?_
        (refine run_skip ?_; refine in_normal ?_; refine then_normal ?_; refine run_region ?_; refine xel rfl (ev_add rfl rfl rfl (by omega)) ?_; refine xep rfl rfl ?_; refine runL_nil ?_; refine then_normal ?_)
        exact ⟨i + 1, by omega, by omega, rfl, [_], fun y => rfl⟩
      · (refine run_exit ?_; (iterate 2 refine then_exit ?_); refine in_exit ?_; refine then_normal ?_)
        have q6 := fun G => sp_blast (G ++ (M4 ++ F)) b X2 hIn.up
        have y1 : decide (X2.last = f.price) = true := decide_eq_true hlast
        (refine run_seq ?_; refine run_region ?_; refine xep rfl rfl ?_; refine xel rfl (ev_callQ rfl rfl rfl (pf rfl) (q6 ..)) ?_; (iterate 3 refine xep rfl rfl ?_); refine runL_yes rfl rfl y1 ?_; refine xel rfl (ev_callQ rfl rfl rfl (pf rfl) (q3 ..)) ?_; (iterate 2 refine xep rfl rfl ?_); refine runL_nil ?_; refine then_normal ?_; refine run_ret ?_)
        exact ⟨_, rfl, congrArg Value.bool (by rw [y1]; rfl)⟩
end Go.Proofs.Ytiilndlgfgikbaa
