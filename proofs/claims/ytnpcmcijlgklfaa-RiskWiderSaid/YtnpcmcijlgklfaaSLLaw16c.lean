/- Contracts of functions of the given program over its translation, each proved by walking its text; used by the laws' rows. It proves no given statement by itself. -/
import Derived.Test.YtnpcmcijlgklfaaSLLaw16b
set_option autoImplicit false
set_option linter.unusedSectionVars false
set_option linter.unusedSimpArgs false
set_option linter.unusedVariables false
namespace Go.Proofs.Ytnpcmcijlgklfaa
open Go Go.SL Go.Proofs
theorem i64_and_1 (n : Int) : bits .and .i64 n 1 = n % 2 := by
  have h1 : (BitVec.ofInt 64 1).toNat = 2 ^ 1 - 1 := by decide
  have key : (BitVec.ofInt 64 n &&& BitVec.ofInt 64 1).toNat = (n % ((2 ^ 64 : Nat) : Int)).toNat % 2 ^ 1 := by
    rw [BitVec.toNat_and, BitVec.toNat_ofInt, h1, Nat.and_two_pow_sub_one_eq_mod]
  show IntKind.i64.wrap ((BitVec.ofInt 64 n &&& BitVec.ofInt 64 1).toNat : Nat) = n % 2
  rw [key, IntKind.wrap_i64]
  omega
variable [Base]
set_option maxHeartbeats 4000000 in
theorem sp_both (F : Heap) (a : Option Addr) (len cap : Nat) (rows : List (List Int)) (hR : RowsF F a len 5 rows) (hC : len ≤ cap) (hM : cap ≤ 9223372036854775807) :
    Sp Try.prog F 55 [.slice a len cap] [] (fun v h' => ∃ b w A W, v = .tuple #[.pointer (some ⟨b, 0, none⟩), .pointer (some ⟨w, 0, none⟩)] ∧ Agree A W ∧ h' = [blk b (ac A) 76, blk w (ac W) 56]) := by
  have c0 := fun F => sp_new F
  have hg0 := agree0
  have hp := plW
  generalize A0 = B0 at *
  generalize W0 = V0 at *
  refine sp_of_code Try.func55 rfl rfl ?_
  (refine run_seq ?_; refine run_region ?_; (iterate 2 refine xep rfl rfl ?_); refine runL_nil ?_; refine then_normal ?_; refine run_seq ?_; refine run_region ?_)
  refine runL_call0 rfl rfl rfl rfl rfl rfl rfl (pf rfl) (c0 _) ?_
  rintro v h1 ⟨b, rfl, rfl⟩
  skip
  refine runL_ev rfl rfl rfl rfl (ev_build rfl hp rfl) ?_
  (refine runL_box rfl rfl rfl rfl rfl rfl (fun _ => ?_); (iterate 2 refine xep rfl rfl ?_); refine runL_nil ?_; refine then_normal ?_; (iterate 2 refine run_seq ?_); refine run_region ?_; refine xep rfl rfl ?_; refine runL_nil ?_; refine then_normal ?_; refine run_block ?_)
  rename_i w
  refine run_loopK (σ := Nat × List Int × List Int) [0, 4, 5, 6] (fun s => [(0, .slice a len cap), (4, .pointer (some ⟨b, 0, none⟩)), (5, .pointer (some ⟨w, 0, none⟩)), (6, .int .i64 s.1)]) (fun s => [blk b (ac s.2.1) 76, blk w (ac s.2.2) 56])
    (fun s => s.1 ≤ len ∧ s.1 ≤ 30 ∧ Agree s.2.1 s.2.2) (fun s => 30 - s.1) (0, B0, V0) ⟨Nat.zero_le _, Nat.zero_le _, hg0⟩ rfl (fun x => by show cnt x [blk w (ac V0) 56, blk b (ac B0) 76] = _; (first | rfl | (simp only [cnt_append, cnt_cons, cnt_nil, blk]; omega))) ?_
  rintro ⟨k, A, W⟩ ⟨g1, g2, hA⟩
  dsimp only at g1 g2 hA ⊢
  ((iterate 2 refine run_seq ?_); refine run_region ?_; (iterate 2 refine xep rfl rfl ?_); refine xel rfl (ev_len rfl rfl (se rfl)) ?_; (iterate 2 refine xep rfl rfl ?_); (iterate 2 refine xgp rfl rfl rfl ?_); (iterate 2 refine xep rfl rfl ?_); refine xgp rfl rfl rfl ?_; refine xgl rfl rfl (fun hq => ev_neqNil rfl rfl rfl (pt rfl)) ?_; refine xep rfl rfl ?_; refine runL_nil ?_; refine then_normal ?_)
  (refine run_cond rfl (fun hc => ?_) (fun hc => ?_) <;> (try simp only [z0, z1, z2, z3, z4, z5, z6, z7, z8, z9, Bool.not_true, Bool.not_false, Bool.false_or, Bool.true_and, true_and, and_true, false_or, or_false, reduceCtorEq, Bool.false_eq_true] at hc))
  · obtain ⟨zb, off, rfl⟩ := hR.pos (by omega)
    obtain ⟨r, hr, hrl, hrI, l1⟩ := RowsF.cell hR (i := k) (by omega)
    match r, hrl with
    | [kd, n0, i0, s0, q0], _ =>
    have q1 := fun F => sp_Win F n0 0 3 (by omega) (by omega) (by omega)
    have q2 := fun F => sp_Win F i0 0 2 (by omega) (by omega) (by omega)
    have q3 := fun F => sp_Win F q0 1 20 (by omega) (by omega) (by omega)
    have w1 := win_in n0 (show (0 : Int) ≤ 3 by omega)
    have w2 := win_in i0 (show (0 : Int) ≤ 2 by omega)
    have w3 := win_in q0 (show (1 : Int) ≤ 20 by omega)
    have hs := i64_and_1 s0
    generalize win n0 0 3 = n at *
    generalize win i0 0 2 = i at *
    generalize win q0 1 20 = q at *
    have l2 := l1.at 1 _ rfl
    have l3 := l1.at 2 _ rfl
    have l4 := l1.at 4 _ rfl
    have l5 := l1.at 0 _ rfl
    have l6 := l1.at 3 _ rfl
    clear l1
    (refine run_skip ?_; refine then_normal ?_; refine run_seq ?_; refine run_block ?_; refine run_seq ?_; refine run_region_draw mo (by kernel_rfl) ?_; (iterate 2 refine xqp rfl rfl ?_); refine xql rfl (ev_indexAddr rfl rfl rfl (se rfl) (by omega) (by omega)) ?_; refine xql rfl (ev_fieldAddr rfl rfl (fo rfl)) ?_; refine xql rfl (ev_loadF rfl rfl (sc rfl) l2) ?_; refine xql rfl (ev_callQ rfl rfl rfl (pf rfl) (q1 ..)) ?_; (iterate 2 refine xqp rfl rfl ?_); refine xql rfl (ev_indexAddr rfl rfl rfl (se rfl) (by omega) (by omega)) ?_; refine xql rfl (ev_fieldAddr rfl rfl (fo rfl)) ?_; refine xql rfl (ev_loadF rfl rfl (sc rfl) l3) ?_; refine xql rfl (ev_callQ rfl rfl rfl (pf rfl) (q2 ..)) ?_; (iterate 2 refine xqp rfl rfl ?_); refine xql rfl (ev_indexAddr rfl rfl rfl (se rfl) (by omega) (by omega)) ?_; refine xql rfl (ev_fieldAddr rfl rfl (fo rfl)) ?_; refine xql rfl (ev_loadF rfl rfl (sc rfl) l4) ?_; refine xql rfl (ev_callQ rfl rfl rfl (pf rfl) (q3 ..)) ?_; (iterate 3 refine xqp rfl rfl ?_); refine runQ_nil ?_; refine then_normal ?_; refine run_seq ?_; refine run_region ?_; (iterate 2 refine xep rfl rfl ?_); refine xel rfl (ev_indexAddr rfl rfl rfl (se rfl) (by omega) (by omega)) ?_; refine xel rfl (ev_fieldAddr rfl rfl (fo rfl)) ?_; refine xel rfl (ev_loadF rfl rfl (sc rfl) l5) ?_; refine xep rfl rfl ?_; refine runL_nil ?_; refine then_normal ?_)
    (refine run_cond rfl (fun hc => ?_) (fun hc => ?_) <;> (try simp only [z0, z1, z2, z3, z4, z5, z6, z7, z8, z9, Bool.not_true, Bool.not_false, Bool.false_or, Bool.true_and, true_and, and_true, false_or, or_false, reduceCtorEq, Bool.false_eq_true] at hc))
    · have x1 := hA.doOpens n i q
      have c1 := fun F => sp_opens F A hA.ao b 76 n i q
      have c2 := fun F => sp_wopens F W hA.wo w 56 n i q (by unfold InI; omega)
      generalize opens A n i q = ra at *
      generalize wopens W n i q = rw_ at *
      obtain ⟨a1, A2⟩ := ra
      obtain ⟨w1, W2⟩ := rw_
      dsimp only at x1 c1 c2
      (refine run_seq ?_; refine run_region ?_; (iterate 4 refine xep rfl rfl ?_))
      refine runL_call1 rfl rfl rfl rfl rfl rfl rfl (pf rfl) (c1 _) ?_
      rintro v h1 ⟨rfl, rfl⟩
      (refine runL_nil ?_; refine then_normal ?_; refine run_region ?_; (iterate 4 refine xep rfl rfl ?_))
      refine runL_call (caps := []) [blk b (ac A2) 76] [blk w (ac W) 56] rfl rfl rfl rfl rfl rfl rfl (pf rfl) (fun x => by (first | rfl | (simp only [cnt_append, cnt_cons, cnt_nil, blk]; omega))) (by rw [List.append_nil]; exact c2 _) ?_
      rintro v h1 ⟨rfl, rfl⟩
      (refine runL_nil ?_; refine in_normal ?_; refine then_normal ?_; refine run_region ?_; refine xep rfl rfl ?_; refine xel rfl (ev_add rfl rfl rfl (by omega)) ?_; refine xep rfl rfl ?_; refine runL_nil ?_; refine then_normal ?_)
      exact ⟨(k + 1, A2, W2), ⟨by show k + 1 ≤ len; omega, by show k + 1 ≤ 30; omega, x1.2⟩, by show 30 - (k + 1) < 30 - k; omega, rfl, [], fun x => by (first | rfl | (simp only [cnt_append, cnt_cons, cnt_nil, blk]; omega))⟩
    · have x1 := hA.doTrades n i (1 + bits .and .i64 s0 1) q
      have c1 := fun F => sp_trades F A hA.ao b 76 n i (1 + bits .and .i64 s0 1) q
      have c2 := fun F => sp_wtrades F W hA.wo w 56 n i (1 + bits .and .i64 s0 1) q
      generalize hra : trades A n i (1 + bits .and .i64 s0 1) q = ra at *
      generalize hrw : wtrades W n i (1 + bits .and .i64 s0 1) q = rw_ at *
      obtain ⟨a1, A2⟩ := ra
      obtain ⟨w1, W2⟩ := rw_
      clear hra hrw
      dsimp only at x1 c1 c2
      (refine run_seq ?_; refine run_region ?_; (iterate 5 refine xep rfl rfl ?_); refine xel rfl (ev_indexAddr rfl rfl rfl (se rfl) (by omega) (by omega)) ?_; refine xel rfl (ev_fieldAddr rfl rfl (fo rfl)) ?_; refine xel rfl (ev_loadF rfl rfl (sc rfl) l6) ?_; refine xel rfl (ev_bits rfl rfl rfl rfl) ?_; refine xel rfl (ev_add rfl rfl rfl (by omega)) ?_; refine xep rfl rfl ?_)
      refine runL_call1 rfl rfl rfl rfl rfl rfl rfl (pf rfl) (c1 _) ?_
      rintro v h1 ⟨rfl, rfl⟩
      (refine runL_nil ?_; refine then_normal ?_; refine run_region ?_; (iterate 5 refine xep rfl rfl ?_); refine xel rfl (ev_indexAddr rfl rfl rfl (se rfl) (by omega) (by omega)) ?_; refine xel rfl (ev_fieldAddr rfl rfl (fo rfl)) ?_; refine xel rfl (ev_loadF rfl rfl (sc rfl) l6) ?_; refine xel rfl (ev_bits rfl rfl rfl rfl) ?_; refine xel rfl (ev_add rfl rfl rfl (by omega)) ?_; refine xep rfl rfl ?_)
      refine runL_call (caps := []) [blk b (ac A2) 76] [blk w (ac W) 56] rfl rfl rfl rfl rfl rfl rfl (pf rfl) (fun x => by (first | rfl | (simp only [cnt_append, cnt_cons, cnt_nil, blk]; omega))) (by rw [List.append_nil]; exact c2 _) ?_
      rintro v h1 ⟨rfl, rfl⟩
      (refine runL_nil ?_; refine in_normal ?_; refine then_normal ?_; refine run_region ?_; refine xep rfl rfl ?_; refine xel rfl (ev_add rfl rfl rfl (by omega)) ?_; refine xep rfl rfl ?_; refine runL_nil ?_; refine then_normal ?_)
      exact ⟨(k + 1, A2, W2), ⟨by show k + 1 ≤ len; omega, by show k + 1 ≤ 30; omega, x1.2⟩, by show 30 - (k + 1) < 30 - k; omega, rfl, [], fun x => by (first | rfl | (simp only [cnt_append, cnt_cons, cnt_nil, blk]; omega))⟩
  · (refine run_exit ?_; (iterate 2 refine then_exit ?_); refine in_exit ?_; refine then_normal ?_)
    (refine run_seq ?_; refine run_region ?_; (iterate 4 refine xep rfl rfl ?_); refine runL_nil ?_; refine then_normal ?_; refine run_ret ?_)
    refine ⟨_, rfl, b, w, A, W, rfl, hA, ?_⟩
    rfl
/-- Limits laid into the document's accounts. -/
def setLim (W : List Int) (n : Nat) (m : Lim) : List Int := W.take (n * 4) ++ [m.qty, m.value, m.open_, m.pos] ++ W.drop (n * 4 + 4)
theorem setLim_at {W : List Int} (hW : W.length = 640) {n : Nat} (hn : n < 32) (m : Lim) {k : Nat} (hk : 128 ≤ k) : (setLim W n m)[k]? = W[k]? := by
  unfold setLim
  have h1 : (W.take (n * 4) ++ [m.qty, m.value, m.open_, m.pos]).length = n * 4 + 4 := by
    rw [List.length_append, List.length_take]; show min (n * 4) W.length + 4 = _; omega
  rw [List.getElem?_append_right (by omega), h1, List.getElem?_drop]
  congr 1; omega
theorem setLim_len {W : List Int} (hW : W.length = 640) {n : Nat} (hn : n < 32) (m : Lim) : (setLim W n m).length = 640 := by
  unfold setLim
  rw [List.length_append, List.length_append, List.length_take, List.length_drop, hW]
  show min (n * 4) 640 + 4 + _ = _; omega
theorem Agree.lim {A W : List Int} (h : Agree A W) {n : Nat} (hn : n < 32) (m : Lim) : Agree A (setLim W n m) := by
  have e : ∀ k, 128 ≤ k → at_ (setLim W n m) k = at_ W k := by
    intro k hk; unfold at_; rw [List.getD_eq_getElem?_getD, List.getD_eq_getElem?_getD, setLim_at h.wo.1 hn m hk]
  refine ⟨h.ao, ⟨setLim_len h.wo.1 hn m, fun k x hk hx => h.wo.2 k x hk (by rw [← setLim_at h.wo.1 hn m hk]; exact hx)⟩, fun n' i ht => ?_, fun n' i ht => ?_⟩
  · rw [e _ (by unfold wslot; omega)]; exact h.op n' i ht
  · rw [e _ (by unfold wpslot; omega)]; exact h.ps n' i ht
theorem setLim_ac (W : List Int) (n : Nat) (m : Lim) : ac (setLim W n m) = (ac W).take (n * 4) ++ m.cells ++ (ac W).drop (n * 4 + 4) := by
  unfold setLim ac; rw [List.map_append, List.map_append, List.map_take, List.map_drop]; rfl
theorem setLim_is {W : List Int} (hW : W.length = 640) {n : Int} (hn : 0 ≤ n ∧ n < 32) (m : Lim) : LimAt (setLim W n.toNat m) n m := by
  unfold LimAt
  have h1 : ((ac W).take (n.toNat * 4)).length = n.toNat * 4 := by rw [List.length_take, ac_len, hW]; omega
  rw [setLim_ac]
  generalize (ac W).take (n.toNat * 4) = p at *
  generalize (ac W).drop (n.toNat * 4 + 4) = r at *
  rw [← h1, List.append_assoc, List.drop_left]
  congr 1
  rw [← List.append_assoc, List.drop_left' (by rw [List.length_append]; rfl)]
set_option maxHeartbeats 4000000 in
theorem riskTells_sp (F : Heap) (a : Option Addr) (len cap : Nat) (rows : List (List Int)) (zm zx : List Int) (inst : Int) (hR : RowsF F a len 5 rows) (hC : len ≤ cap) (hM : cap ≤ 9223372036854775807)
    (hlm : zm.length = 4) (hzm : ∀ z ∈ zm, InI z) (hlx : zx.length = 9) (hzx : ∀ z ∈ zx, InI z) (hi : InI inst) :
    Sp Try.prog F 20 [.slice a len cap, .agg ⟨ints zm⟩, .agg ⟨ints zx⟩, .int .i64 inst] [] (Ret (.bool true)) := by
  obtain ⟨m, em, hm⟩ := Lim.of hlm hzm
  obtain ⟨o, eo, ho⟩ := Ord.of hlx hzx
  rw [em, eo]
  have q1 := fun F => sp_rlim F m
  have q2 := fun F => rp_rlim F m
  have q3 := @riskRuns_sp
  refine sp_of_code Try.func20 rfl rfl ?_
  (refine run_seq ?_; refine run_region ?_; (iterate 2 refine runL_box rfl rfl rfl rfl rfl rfl (fun _ => ?_)); refine xep rfl rfl ?_; refine runL_nil ?_; refine then_normal ?_; refine run_seq ?_; refine run_region ?_; refine xep rfl rfl ?_)
  refine runL_call0 rfl rfl rfl rfl rfl rfl rfl (pf rfl) (sp_both _ a len cap rows (hR.mono fun x m => List.mem_append_right _ m) hC hM) ?_
  rintro v h1 ⟨b, w, A, W, rfl, hA, rfl⟩
  ((iterate 5 refine xep rfl rfl ?_); refine runL_nil ?_; refine then_normal ?_; (iterate 2 refine run_seq ?_); refine run_region ?_; refine xep rfl rfl ?_; refine xel rfl (ev_eqNil rfl rfl rfl (pt rfl)) ?_; refine runL_nil ?_; refine then_normal ?_; refine RunC.whole rfl ?_)
  refine run_condF rfl rfl ?_
  (refine run_skip ?_; refine then_normal ?_; (iterate 2 refine run_seq ?_); refine run_region ?_; refine xel rfl (ev_fieldAddr rfl rfl (fo rfl)) ?_; refine xel rfl (ev_loadK rfl rfl (sc rfl) (memF (.tail _ (.tail _ (.head _)))) rfl) ?_; (iterate 2 refine xep rfl rfl ?_); refine xgl rfl rfl (fun hq => ev_fieldAddr rfl rfl (fo rfl)) ?_; refine xgl rfl rfl (fun hq => ev_loadK rfl rfl (sc rfl) (memF (.tail _ (.tail _ (.head _)))) rfl) ?_; refine xgp rfl rfl rfl ?_; refine xep rfl rfl ?_; refine runL_nil ?_; refine then_normal ?_)
  rename_i b1 b2
  (refine run_cond rfl (fun hc => ?_) (fun hc => ?_) <;> (try simp only [z0, z1, z2, z3, z4, z5, z6, z7, z8, z9, Bool.not_true, Bool.not_false, Bool.false_or, Bool.true_and, true_and, and_true, false_or, or_false, reduceCtorEq, Bool.false_eq_true] at hc))
  · skip
    refine RunC.perm (h' := [blk w (ac W) 56] ++ [blk b (ac A) 76, blk b2 (cellsV (ov o)) 36, blk b1 (cellsV (lv m)) 49]) (fun x => by (first | rfl | (simp only [cnt_append, cnt_cons, cnt_nil, blk]; omega))) ?_
    refine RunC.freezeR ?_
    refine run_region_D mo ?_
    (refine runD_q 0 rfl rfl (by kernel_rfl) ?_; refine ⟨_, fun _ => ev_pure rfl, ?_⟩; refine runD_q 1 rfl rfl (by kernel_rfl) ?_; refine ⟨_, fun _ => ev_fieldAddr rfl rfl (fo rfl), ?_⟩; refine runD_q 2 rfl rfl (by kernel_rfl) ?_; refine ⟨_, fun _ => ev_loadK rfl rfl (sc rfl) (memR (memF (.tail _ (.head _)))) rfl, ?_⟩; refine runD_q 3 rfl rfl (by kernel_rfl) ?_; refine ⟨_, fun _ => ev_loadAK rfl rfl (ag rfl) (sz rfl) (memR (memF (.tail _ (.tail _ (.head _))))) rfl, ?_⟩; refine runD_q 4 rfl rfl (by kernel_rfl) ?_; refine ⟨_, fun _ => ev_pure rfl, ?_⟩; refine runD_q 5 rfl rfl (by kernel_rfl) ?_; refine ⟨_, fun _ => ev_fieldAddr rfl rfl (fo rfl), ?_⟩; refine runD_q 6 rfl rfl (by kernel_rfl) ?_; refine ⟨_, fun _ => ev_indexAddrA rfl rfl rfl (ar rfl) (by omega) (by omega), ?_⟩; refine runD_1 7 (by kernel_rfl) rfl rfl rfl ?_)
    refine runL_store (l := m.cells) [] [] rfl rfl rfl rfl rfl (sz rfl) rfl rfl rfl (by rw [ac_len, hA.wo.1]; omega) rfl ?_
    have e1 : (ac W).take (0 + 0 + o.trader.toNat * 4) ++ m.cells ++ (ac W).drop (0 + 0 + o.trader.toNat * 4 + m.cells.length) = ac (setLim W o.trader.toNat m) := by
      rw [setLim_ac]; show _ ++ (ac W).drop (_ + 4) = _; rw [show 0 + 0 + o.trader.toNat * 4 = o.trader.toNat * 4 by omega]
    rw [e1]
    have hA2 := hA.lim (n := o.trader.toNat) (by omega) m
    have hL := setLim_is hA.wo.1 (n := o.trader) (by omega) m
    generalize setLim W o.trader.toNat m = W2 at *
    have m1 := fun F hmem => sp_check A hA2.ao b 76 F hmem m hm o ho inst
    have m2 := fun F hmem => rp_check W2 hA2.wo w 56 F hmem m hm o ho (fun _ => hL) inst
    (refine runL_nil ?_; refine endS_n rfl ?_; refine runD_done (by kernel_rfl) ?_; refine then_normal ?_; refine run_seq ?_; refine run_region_draw mo (by kernel_rfl) ?_; refine xql rfl (ev_loadAK rfl rfl (ag rfl) (sz rfl) (memF (.tail _ (.tail _ (.tail _ (.head _))))) rfl) ?_; refine xql rfl (ev_callQ rfl rfl rfl (pf rfl) (q1 ..)) ?_; refine xql rfl (ev_loadAK rfl rfl (ag rfl) (sz rfl) (memF (.tail _ (.tail _ (.tail _ (.head _))))) rfl) ?_; refine xql rfl (ev_callQ rfl rfl rfl (pf rfl) (q2 ..)) ?_; refine xql rfl (ev_eqB rfl rfl rfl (bt rfl)) ?_; refine xqp rfl rfl ?_; refine xhp rfl rfl rfl ?_; refine xhl rfl rfl (fun hq => ev_loadAK rfl rfl (ag rfl) (sz rfl) (memF (.tail _ (.tail _ (.tail _ (.head _))))) rfl) ?_; refine xhl rfl rfl (fun hq => ev_loadAK rfl rfl (ag rfl) (sz rfl) (memF (.tail _ (.tail _ (.head _)))) rfl) ?_; refine xhp rfl rfl rfl ?_; refine xhl rfl rfl (fun hq => ev_callQ rfl rfl rfl (pf rfl) (m1 _ (memF (.tail _ (.head _))) ..)) ?_; refine xhp rfl rfl rfl ?_; refine xhl rfl rfl (fun hq => ev_loadAK rfl rfl (ag rfl) (sz rfl) (memF (.tail _ (.tail _ (.head _)))) rfl) ?_; refine xhp rfl rfl rfl ?_; refine xhl rfl rfl (fun hq => ev_callQ rfl rfl rfl (pf rfl) (m2 _ (memF (.head _)) ..)) ?_; refine xhp rfl rfl rfl ?_; (iterate 2 refine xqp rfl rfl ?_); refine xhl rfl rfl (fun hq => ev_callQ rfl rfl rfl (pf rfl) (q3 ..)) ?_; (iterate 2 refine xqp rfl rfl ?_); refine runQ_nil ?_; refine then_normal ?_; refine run_ret ?_)
    refine ⟨_, rfl, congrArg Value.bool ?_⟩
    rw [chk_wchk hA2]; simp
  · have m1 := fun F hmem => sp_check A hA.ao b 76 F hmem m hm o ho inst
    have m2 := fun F hmem => rp_check W hA.wo w 56 F hmem m hm o ho (fun ht => by rw [there_iff] at ht; omega) inst
    (refine run_skip ?_; refine then_normal ?_; refine run_seq ?_; refine run_region_draw mo (by kernel_rfl) ?_; refine xql rfl (ev_loadAK rfl rfl (ag rfl) (sz rfl) (memF (.tail _ (.tail _ (.tail _ (.head _))))) rfl) ?_; refine xql rfl (ev_callQ rfl rfl rfl (pf rfl) (q1 ..)) ?_; refine xql rfl (ev_loadAK rfl rfl (ag rfl) (sz rfl) (memF (.tail _ (.tail _ (.tail _ (.head _))))) rfl) ?_; refine xql rfl (ev_callQ rfl rfl rfl (pf rfl) (q2 ..)) ?_; refine xql rfl (ev_eqB rfl rfl rfl (bt rfl)) ?_; refine xqp rfl rfl ?_; refine xhp rfl rfl rfl ?_; refine xhl rfl rfl (fun hq => ev_loadAK rfl rfl (ag rfl) (sz rfl) (memF (.tail _ (.tail _ (.tail _ (.head _))))) rfl) ?_; refine xhl rfl rfl (fun hq => ev_loadAK rfl rfl (ag rfl) (sz rfl) (memF (.tail _ (.tail _ (.head _)))) rfl) ?_; refine xhp rfl rfl rfl ?_; refine xhl rfl rfl (fun hq => ev_callQ rfl rfl rfl (pf rfl) (m1 _ (memF (.head _)) ..)) ?_; refine xhp rfl rfl rfl ?_; refine xhl rfl rfl (fun hq => ev_loadAK rfl rfl (ag rfl) (sz rfl) (memF (.tail _ (.tail _ (.head _)))) rfl) ?_; refine xhp rfl rfl rfl ?_; refine xhl rfl rfl (fun hq => ev_callQ rfl rfl rfl (pf rfl) (m2 _ (memF (.tail _ (.head _))) ..)) ?_; refine xhp rfl rfl rfl ?_; (iterate 2 refine xqp rfl rfl ?_); refine xhl rfl rfl (fun hq => ev_callQ rfl rfl rfl (pf rfl) (q3 ..)) ?_; (iterate 2 refine xqp rfl rfl ?_); refine runQ_nil ?_; refine then_normal ?_; refine run_ret ?_)
    refine ⟨_, rfl, congrArg Value.bool ?_⟩
    rw [chk_wchk hA]; simp
end Go.Proofs.Ytnpcmcijlgklfaa
