/- Contracts of functions of the given program over its translation, each proved by walking its text; used by the laws' rows. It proves no given statement by itself. -/
import Derived.Test.YtnpcmcijlgklfaaSLLaw16
set_option autoImplicit false
set_option linter.unusedSectionVars false
set_option linter.unusedSimpArgs false
set_option linter.unusedVariables false
namespace Go.Proofs.Ytnpcmcijlgklfaa
open Go Go.SL Go.Proofs
variable [Base]
/-- The limits of a trader, in the document's accounts. -/
def LimAt (W : List Int) (n : Int) (m : Lim) : Prop := (ac W).drop (n.toNat * 4) = m.cells ++ (ac W).drop (n.toNat * 4 + 4)
def sgn (s x : Int) : Int := if s = 2 then -x else x
/-- The position that an order leads to, on its own side. -/
def wpos (W : List Int) (o : Ord) (i : Int) : Int :=
  sgn o.side (if o.side = 1 then wpa W o.trader i + at_ W (wslot o.trader i) + o.qty else wpa W o.trader i - at_ W (wslot o.trader i) - o.qty)
def wchk (W : List Int) (m : Lim) (o : Ord) (i : Int) : Int :=
  if right o ≠ 0 ∨ there o.trader i = false then 1
  else if m.qty < o.qty ∨ m.value < o.price * o.qty ∨ m.open_ < wopen W o.trader + o.qty ∨ m.pos < wpos W o i then 8 else 0
set_option maxHeartbeats 1000000 in
theorem rp_check (W : List Int) (hW : WOk W) (b : Nat) (e : TypeId) (F : Heap) (hm : blk b (ac W) e ∈ F) (m : Lim) (hM : m.In) (o : Ord) (ho : o.In) (hL : there o.trader 0 = true → LimAt W o.trader m) (i : Int) :
    Sp Try.prog F 57 [.pointer (some ⟨b, 0, none⟩), ov o, .int .i64 i] [] (Ret (.int .i64 (wchk W m o i))) := by
  have q1 := fun F => rp_right F o ho.kind
  have q2 := fun F => sp_wthere F o.trader i
  refine sp_of_code Try.func57 rfl rfl ?_
  (refine run_seq ?_; refine run_region ?_; refine runL_box rfl rfl rfl rfl rfl rfl (fun _ => ?_); refine xep rfl rfl ?_; refine runL_nil ?_; refine then_normal ?_; (iterate 2 refine run_seq ?_); refine run_region ?_; refine xel rfl (ev_loadAK rfl rfl (ag rfl) (sz rfl) (memF (.head _)) rfl) ?_; refine xel rfl (ev_callQ rfl rfl rfl (pf rfl) (q1 ..)) ?_; (iterate 2 refine xep rfl rfl ?_); refine xgl rfl rfl (fun hq => ev_fieldAddr rfl rfl (fo rfl)) ?_; refine xgl rfl rfl (fun hq => ev_loadK rfl rfl (sc rfl) (memF (.head _)) rfl) ?_; refine xgp rfl rfl rfl ?_; refine xgl rfl rfl (fun hq => ev_callQ rfl rfl rfl (pf rfl) (q2 ..)) ?_; refine xgp rfl rfl rfl ?_; refine xep rfl rfl ?_; refine runL_nil ?_; refine then_normal ?_)
  rename_i b1
  unfold wchk
  (refine run_cond rfl (fun hc => ?_) (fun hc => ?_) <;> (try simp only [z0, z1, z2, z3, z4, z5, z6, z7, z8, z9, Bool.not_true, Bool.not_false, Bool.false_or, Bool.true_and, true_and, and_true, false_or, or_false, reduceCtorEq, Bool.false_eq_true] at hc))
  · (refine run_seq ?_; refine run_region ?_; refine xep rfl rfl ?_; refine runL_nil ?_; refine then_normal ?_; refine run_ret ?_; refine then_ret ?_)
    rw [if_pos (by rcases hc with h | h; exact .inl h; exact .inr h)]
    exact ⟨_, rfl, rfl⟩
  · have hr := right_ok hc.1
    have ht := hc.2
    have hh := there_iff.1 ht
    rw [if_neg (by rw [ht]; simp; exact hc.1)]
    obtain ⟨v1, v2, v3⟩ := value_ok hr
    have hr2 := hr
    unfold rightP at hr2
    have hL := hL (there_iff.2 (by omega))
    have q3 : ∀ F, Sp Try.prog F 47 [ov o] [] (Ret (.tuple #[.int .i64 (o.price * o.qty), .int .i64 0])) := fun F => by
      have := rp_value F o ho.price ho.qty
      rw [v1] at this; exact this
    have l1 : AggF F b (0 + 0 + o.trader.toNat * 4) m.cells := by
      refine ⟨_, _, _, hm, ?_, ?_⟩
      · rw [ac_len, hW.1]; show _ + 4 ≤ _; omega
      · rw [show 0 + 0 + o.trader.toNat * 4 = o.trader.toNat * 4 by omega, hL]; rfl
    have hL2 : ∃ L : List Int, L.length = 16 ∧ AggF F b (0 + 128 + o.trader.toNat * 16) (ac L) ∧ (ac L)[i.toNat]? = some (.int .i64 (at_ W (wslot o.trader i))) ∧ (ac L)[8 + i.toNat]? = some (.int .i64 (at_ W (wpslot o.trader i))) := by
      have e : ac ((W.drop (128 + o.trader.toNat * 16)).take 16) = ((ac W).drop (0 + 128 + o.trader.toNat * 16)).take 16 := by
        unfold ac; rw [← List.map_drop, ← List.map_take, Nat.zero_add]
      have hlen : ((W.drop (128 + o.trader.toNat * 16)).take 16).length = 16 := by
        rw [List.length_take, List.length_drop, hW.1]; omega
      refine ⟨_, hlen, ⟨_, _, _, hm, ?_, ?_⟩, ?_, ?_⟩
      · rw [ac_len, ac_len, hlen, hW.1]; omega
      · rw [ac_len, hlen, e]
      · rw [e, List.getElem?_take_of_lt (by omega), List.getElem?_drop, show 0 + 128 + o.trader.toNat * 16 + i.toNat = wslot o.trader i by unfold wslot; omega]
        exact ac_get (hW.at (by unfold wslot; omega) (by unfold wslot; omega)).1
      · rw [e, List.getElem?_take_of_lt (by omega), List.getElem?_drop, show 0 + 128 + o.trader.toNat * 16 + (8 + i.toNat) = wpslot o.trader i by unfold wpslot; omega]
        exact ac_get (hW.at (by unfold wpslot; omega) (by unfold wpslot; omega)).1
    obtain ⟨L, hlen, l2, hg1, hg2⟩ := hL2
    match L, hlen with
    | [y0, y1, y2, y3, y4, y5, y6, y7, y8, y9, y10, y11, y12, y13, y14, y15], _ =>
    (refine run_skip ?_; refine then_normal ?_; refine run_seq ?_)
    refine RunC.freeze ?_
    refine run_region_D mo ?_
    (refine runD_q 0 rfl rfl (by kernel_rfl) ?_; refine ⟨_, fun _ => ev_pure rfl, ?_⟩; refine runD_q 1 rfl rfl (by kernel_rfl) ?_; refine ⟨_, fun _ => ev_fieldAddr rfl rfl (fo rfl), ?_⟩; refine runD_q 2 rfl rfl (by kernel_rfl) ?_; refine ⟨_, fun _ => ev_loadK rfl rfl (sc rfl) (memR (memF (.head _))) rfl, ?_⟩; refine runD_q 3 rfl rfl (by kernel_rfl) ?_; refine ⟨_, fun _ => ev_pure rfl, ?_⟩; refine runD_q 4 rfl rfl (by kernel_rfl) ?_; refine ⟨_, fun _ => ev_fieldAddr rfl rfl (fo rfl), ?_⟩; refine runD_q 5 rfl rfl (by kernel_rfl) ?_; refine ⟨_, fun _ => ev_indexAddrA rfl rfl rfl (ar rfl) (by omega) (by omega), ?_⟩; refine runD_q 6 rfl rfl (by kernel_rfl) ?_; refine ⟨_, fun _ => ev_loadAF rfl rfl (ag rfl) (sz rfl) l1.up rfl, ?_⟩; refine runD_q 7 rfl rfl (by kernel_rfl) ?_; refine ⟨_, fun _ => ev_pure rfl, ?_⟩; refine runD_q 8 rfl rfl (by kernel_rfl) ?_; refine ⟨_, fun _ => ev_fieldAddr rfl rfl (fo rfl), ?_⟩; refine runD_q 9 rfl rfl (by kernel_rfl) ?_; refine ⟨_, fun _ => ev_loadK rfl rfl (sc rfl) (memR (memF (.head _))) rfl, ?_⟩; refine runD_q 10 rfl rfl (by kernel_rfl) ?_; refine ⟨_, fun _ => ev_pure rfl, ?_⟩; refine runD_q 11 rfl rfl (by kernel_rfl) ?_; refine ⟨_, fun _ => ev_fieldAddr rfl rfl (fo rfl), ?_⟩; refine runD_q 12 rfl rfl (by kernel_rfl) ?_; refine ⟨_, fun _ => ev_indexAddrA rfl rfl rfl (ar rfl) (by omega) (by omega), ?_⟩; refine runD_q 13 rfl rfl (by kernel_rfl) ?_; refine ⟨_, fun _ => ev_loadAF rfl rfl (ag rfl) (sz rfl) l2.up rfl, ?_⟩)
    refine runD_allocAB 14 7 15 8 (by kernel_rfl) ze49 ze53 (fun b7 b8 => ?_)
    (refine runD_1 16 (by kernel_rfl) rfl rfl rfl ?_; refine runL_store1 rfl rfl rfl rfl rfl (sz rfl) rfl rfl rfl rfl rfl ?_; refine runL_nil ?_; refine endS_n rfl ?_; refine runD_1 17 (by kernel_rfl) rfl rfl rfl ?_; refine runL_store0 rfl rfl rfl rfl rfl (sz rfl) rfl rfl rfl rfl rfl ?_; refine runL_nil ?_; refine endS_n rfl ?_; refine runD_done (by kernel_rfl) ?_; refine then_normal ?_; refine run_seq ?_; refine run_region ?_; refine xel rfl (ev_loadAK rfl rfl (ag rfl) (sz rfl) (memF (.tail _ (.tail _ (.head _)))) rfl) ?_; refine xel rfl (ev_callQ rfl rfl rfl (pf rfl) (q3 ..)) ?_; (iterate 5 refine xep rfl rfl ?_); refine runL_nil ?_; refine then_normal ?_; refine run_seq ?_; refine run_region ?_; refine xep rfl rfl ?_; refine xel rfl (ev_fieldAddr rfl rfl (fo rfl)) ?_; refine xel rfl (ev_indexAddrA rfl rfl rfl (ar rfl) (by omega) (by omega)) ?_)
    simp only [ac, List.map] at hg1 hg2
    rw [show i.toNat = 0 + 0 + i.toNat * 1 by omega] at hg1
    rw [show 8 + i.toNat = 0 + 8 + i.toNat * 1 by omega] at hg2
    have g1 := hg1
    have g2 := hg2
    clear hg1 hg2 l1 l2
    have s1 := (hW.at (k := wslot o.trader i) (by unfold wslot; omega) (by unfold wslot; omega)).2
    have s2 := (hW.at (k := wpslot o.trader i) (by unfold wpslot; omega) (by unfold wpslot; omega)).2
    have hp : wpa W o.trader i = at_ W (wpslot o.trader i) := by unfold wpa; rw [if_pos ht]
    have s3 := wsum_in hW o.trader (by omega) 8 (by omega)
    have hwo : wopen W o.trader = wsum W o.trader 8 := by unfold wopen; rw [if_pos (by omega)]
    have m1 := fun F hm => sp_wopen W hW b e F hm o.trader
    have m1 := fun F (hm2 : blk b (ac W) e ∈ F) => m1 F hm2
    unfold wpos
    rw [hp]
    rw [hwo] at m1 ⊢
    generalize at_ W (wslot o.trader i) = xo at *
    generalize at_ W (wpslot o.trader i) = xp at *
    generalize wsum W o.trader 8 = xs at *
    generalize o.price * o.qty = V at *
    rcases (by omega : o.side = 1 ∨ o.side = 2) with hs | hs
    · have hwp : sgn o.side (if o.side = 1 then xp + xo + o.qty else xp - xo - o.qty) = xp + xo + o.qty := by
        rw [hs, if_pos rfl]; unfold sgn; rw [if_neg (by omega)]
      rw [hwp]
      (refine xel rfl (ev_load rfl rfl (sc rfl) (memF (.head _)) g2) ?_; refine xep rfl rfl ?_; refine runL_nil ?_; refine then_normal ?_; (iterate 2 refine run_seq ?_); refine run_region ?_; refine xel rfl (ev_fieldAddr rfl rfl (fo rfl)) ?_; refine xel rfl (ev_loadK rfl rfl (sc rfl) (memF (.tail _ (.tail _ (.head _)))) rfl) ?_; refine xep rfl rfl ?_; refine runL_nil ?_; refine then_normal ?_; refine RunC.whole rfl ?_)
      refine run_condT rfl (decide_eq_true hs) ?_
      (refine run_region_draw mo (by kernel_rfl) ?_; (iterate 2 refine xqp rfl rfl ?_); refine xql rfl (ev_fieldAddr rfl rfl (fo rfl)) ?_; refine xql rfl (ev_indexAddrA rfl rfl rfl (ar rfl) (by omega) (by omega)) ?_; refine xql rfl (ev_load rfl rfl (sc rfl) (memF (.head _)) g1) ?_; refine xql rfl (ev_add rfl rfl rfl (by omega)) ?_; refine xql rfl (ev_fieldAddr rfl rfl (fo rfl)) ?_; refine xql rfl (ev_loadK rfl rfl (sc rfl) (memF (.tail _ (.tail _ (.head _)))) rfl) ?_; refine xql rfl (ev_add rfl rfl rfl (by omega)) ?_; refine xqp rfl rfl ?_; refine runQ_nil ?_; refine then_normal ?_; (iterate 2 refine run_seq ?_); refine run_region ?_; refine xel rfl (ev_fieldAddr rfl rfl (fo rfl)) ?_; refine xel rfl (ev_loadK rfl rfl (sc rfl) (memF (.tail _ (.tail _ (.head _)))) rfl) ?_; refine xep rfl rfl ?_; refine runL_nil ?_; refine then_normal ?_)
      refine run_condF rfl (decide_eq_false (by omega)) ?_
      (refine run_skip ?_; refine then_normal ?_; (iterate 2 refine run_seq ?_); refine run_region_draw mo (by kernel_rfl) ?_; refine xql rfl (ev_fieldAddr rfl rfl (fo rfl)) ?_; refine xql rfl (ev_loadK rfl rfl (sc rfl) (memF (.tail _ (.tail _ (.head _)))) rfl) ?_; refine xql rfl (ev_fieldAddr rfl rfl (fo rfl)) ?_; refine xql rfl (ev_loadK rfl rfl (sc rfl) (memF (.tail _ (.head _))) rfl) ?_; (iterate 2 refine xqp rfl rfl ?_); (iterate 2 refine xhp rfl rfl rfl ?_); (iterate 2 refine xqp rfl rfl ?_); refine xhp rfl rfl rfl ?_; refine xhl rfl rfl (fun hq => ev_fieldAddr rfl rfl (fo rfl)) ?_; refine xhl rfl rfl (fun hq => ev_loadK rfl rfl (sc rfl) (memF (.tail _ (.head _))) rfl) ?_; refine xhp rfl rfl rfl ?_; (iterate 2 refine xqp rfl rfl ?_); refine xhp rfl rfl rfl ?_; refine xhl rfl rfl (fun hq => ev_fieldAddr rfl rfl (fo rfl)) ?_; refine xhl rfl rfl (fun hq => ev_loadK rfl rfl (sc rfl) (memF (.tail _ (.tail _ (.head _)))) rfl) ?_; refine xhl rfl rfl (fun hq => ev_callQ rfl rfl rfl (pf rfl) (m1 _ (memR hm) ..)) ?_; refine xhl rfl rfl (fun hq => ev_fieldAddr rfl rfl (fo rfl)) ?_; refine xhl rfl rfl (fun hq => ev_loadK rfl rfl (sc rfl) (memF (.tail _ (.tail _ (.head _)))) rfl) ?_; refine xhl rfl rfl (fun hq => ev_add rfl rfl rfl (by (try simp only [z0, z1, z2, z3, z4, z5, z6, z7, z8, z9, Bool.not_true, Bool.not_false, Bool.false_or, Bool.true_and, true_and, and_true, false_or, or_false, reduceCtorEq, Bool.false_eq_true] at hq); omega)) ?_; refine xhl rfl rfl (fun hq => ev_fieldAddr rfl rfl (fo rfl)) ?_; refine xhl rfl rfl (fun hq => ev_loadK rfl rfl (sc rfl) (memF (.tail _ (.head _))) rfl) ?_; refine xhp rfl rfl rfl ?_; (iterate 2 refine xqp rfl rfl ?_); refine xhp rfl rfl rfl ?_; refine xhl rfl rfl (fun hq => ev_fieldAddr rfl rfl (fo rfl)) ?_; refine xhl rfl rfl (fun hq => ev_loadK rfl rfl (sc rfl) (memF (.tail _ (.head _))) rfl) ?_; refine xhp rfl rfl rfl ?_; refine xqp rfl rfl ?_; refine runQ_nil ?_; refine then_normal ?_)
      (refine run_cond rfl (fun hc => ?_) (fun hc => ?_) <;> (try simp only [z0, z1, z2, z3, z4, z5, z6, z7, z8, z9, Bool.not_true, Bool.not_false, Bool.false_or, Bool.true_and, true_and, and_true, false_or, or_false, reduceCtorEq, Bool.false_eq_true] at hc))
      · (refine run_seq ?_; refine run_region ?_; refine xep rfl rfl ?_; refine runL_nil ?_; refine then_normal ?_; refine run_ret ?_; refine then_ret ?_)
        have hc2 : m.qty < o.qty ∨ m.value < V ∨ m.open_ < xs + o.qty ∨ m.pos < xp + xo + o.qty := by simpa [or_assoc] using hc
        rw [if_pos hc2]
        exact ⟨_, rfl, rfl⟩
      · (refine run_skip ?_; refine then_normal ?_; refine run_seq ?_; refine run_region ?_; refine xep rfl rfl ?_; refine runL_nil ?_; refine then_normal ?_; refine run_ret ?_)
        rw [if_neg (by omega)]
        exact ⟨_, rfl, rfl⟩
    · have hwp : sgn o.side (if o.side = 1 then xp + xo + o.qty else xp - xo - o.qty) = -(xp - xo - o.qty) := by
        rw [hs, if_neg (by omega)]; unfold sgn; rw [if_pos rfl]
      rw [hwp]
      (refine xel rfl (ev_load rfl rfl (sc rfl) (memF (.head _)) g2) ?_; refine xep rfl rfl ?_; refine runL_nil ?_; refine then_normal ?_; (iterate 2 refine run_seq ?_); refine run_region ?_; refine xel rfl (ev_fieldAddr rfl rfl (fo rfl)) ?_; refine xel rfl (ev_loadK rfl rfl (sc rfl) (memF (.tail _ (.tail _ (.head _)))) rfl) ?_; refine xep rfl rfl ?_; refine runL_nil ?_; refine then_normal ?_; refine RunC.whole rfl ?_)
      refine run_condF rfl (decide_eq_false (by omega)) ?_
      (refine run_region_draw mo (by kernel_rfl) ?_; (iterate 2 refine xqp rfl rfl ?_); refine xql rfl (ev_fieldAddr rfl rfl (fo rfl)) ?_; refine xql rfl (ev_indexAddrA rfl rfl rfl (ar rfl) (by omega) (by omega)) ?_; refine xql rfl (ev_load rfl rfl (sc rfl) (memF (.head _)) g1) ?_; refine xql rfl (ev_sub rfl rfl rfl (by omega)) ?_; refine xql rfl (ev_fieldAddr rfl rfl (fo rfl)) ?_; refine xql rfl (ev_loadK rfl rfl (sc rfl) (memF (.tail _ (.tail _ (.head _)))) rfl) ?_; refine xql rfl (ev_sub rfl rfl rfl (by omega)) ?_; refine xqp rfl rfl ?_; refine runQ_nil ?_; refine then_normal ?_; (iterate 2 refine run_seq ?_); refine run_region ?_; refine xel rfl (ev_fieldAddr rfl rfl (fo rfl)) ?_; refine xel rfl (ev_loadK rfl rfl (sc rfl) (memF (.tail _ (.tail _ (.head _)))) rfl) ?_; refine xep rfl rfl ?_; refine runL_nil ?_; refine then_normal ?_)
      refine run_condT rfl (decide_eq_true hs) ?_
      (refine run_region ?_; refine xep rfl rfl ?_; refine xel rfl (ev_neg rfl rfl (by omega)) ?_; refine xep rfl rfl ?_; refine runL_nil ?_; refine then_normal ?_; (iterate 2 refine run_seq ?_); refine run_region_draw mo (by kernel_rfl) ?_; refine xql rfl (ev_fieldAddr rfl rfl (fo rfl)) ?_; refine xql rfl (ev_loadK rfl rfl (sc rfl) (memF (.tail _ (.tail _ (.head _)))) rfl) ?_; refine xql rfl (ev_fieldAddr rfl rfl (fo rfl)) ?_; refine xql rfl (ev_loadK rfl rfl (sc rfl) (memF (.tail _ (.head _))) rfl) ?_; (iterate 2 refine xqp rfl rfl ?_); (iterate 2 refine xhp rfl rfl rfl ?_); (iterate 2 refine xqp rfl rfl ?_); refine xhp rfl rfl rfl ?_; refine xhl rfl rfl (fun hq => ev_fieldAddr rfl rfl (fo rfl)) ?_; refine xhl rfl rfl (fun hq => ev_loadK rfl rfl (sc rfl) (memF (.tail _ (.head _))) rfl) ?_; refine xhp rfl rfl rfl ?_; (iterate 2 refine xqp rfl rfl ?_); refine xhp rfl rfl rfl ?_; refine xhl rfl rfl (fun hq => ev_fieldAddr rfl rfl (fo rfl)) ?_; refine xhl rfl rfl (fun hq => ev_loadK rfl rfl (sc rfl) (memF (.tail _ (.tail _ (.head _)))) rfl) ?_; refine xhl rfl rfl (fun hq => ev_callQ rfl rfl rfl (pf rfl) (m1 _ (memR hm) ..)) ?_; refine xhl rfl rfl (fun hq => ev_fieldAddr rfl rfl (fo rfl)) ?_; refine xhl rfl rfl (fun hq => ev_loadK rfl rfl (sc rfl) (memF (.tail _ (.tail _ (.head _)))) rfl) ?_; refine xhl rfl rfl (fun hq => ev_add rfl rfl rfl (by (try simp only [z0, z1, z2, z3, z4, z5, z6, z7, z8, z9, Bool.not_true, Bool.not_false, Bool.false_or, Bool.true_and, true_and, and_true, false_or, or_false, reduceCtorEq, Bool.false_eq_true] at hq); omega)) ?_; refine xhl rfl rfl (fun hq => ev_fieldAddr rfl rfl (fo rfl)) ?_; refine xhl rfl rfl (fun hq => ev_loadK rfl rfl (sc rfl) (memF (.tail _ (.head _))) rfl) ?_; refine xhp rfl rfl rfl ?_; (iterate 2 refine xqp rfl rfl ?_); refine xhp rfl rfl rfl ?_; refine xhl rfl rfl (fun hq => ev_fieldAddr rfl rfl (fo rfl)) ?_; refine xhl rfl rfl (fun hq => ev_loadK rfl rfl (sc rfl) (memF (.tail _ (.head _))) rfl) ?_; refine xhp rfl rfl rfl ?_; refine xqp rfl rfl ?_; refine runQ_nil ?_; refine then_normal ?_)
      (refine run_cond rfl (fun hc => ?_) (fun hc => ?_) <;> (try simp only [z0, z1, z2, z3, z4, z5, z6, z7, z8, z9, Bool.not_true, Bool.not_false, Bool.false_or, Bool.true_and, true_and, and_true, false_or, or_false, reduceCtorEq, Bool.false_eq_true] at hc))
      · (refine run_seq ?_; refine run_region ?_; refine xep rfl rfl ?_; refine runL_nil ?_; refine then_normal ?_; refine run_ret ?_; refine then_ret ?_)
        have hc2 : m.qty < o.qty ∨ m.value < V ∨ m.open_ < xs + o.qty ∨ m.pos < -(xp - xo - o.qty) := by simpa [or_assoc] using hc
        rw [if_pos hc2]
        exact ⟨_, rfl, rfl⟩
      · (refine run_skip ?_; refine then_normal ?_; refine run_seq ?_; refine run_region ?_; refine xep rfl rfl ?_; refine runL_nil ?_; refine then_normal ?_; refine run_ret ?_)
        rw [if_neg (by omega)]
        exact ⟨_, rfl, rfl⟩
theorem chk_wchk {A W : List Int} (h : Agree A W) (m : Lim) (o : Ord) (i : Int) : wchk W m o i = chk A m o i := by
  unfold wchk chk
  by_cases hc : right o ≠ 0 ∨ i < 0 ∨ 8 ≤ i
  · rw [if_pos hc]
    by_cases hr : right o = 0
    · rw [if_pos (.inr (by cases ht : there o.trader i with | false => rfl | true => rw [there_iff] at ht; omega))]
    · rw [if_pos (.inl hr)]
  · have hr : right o = 0 := by omega
    have hr2 := right_ok hr
    unfold rightP at hr2
    have ht : there o.trader i = true := there_iff.2 (by omega)
    rw [if_neg hc, if_neg (by rw [ht]; simp [hr])]
    rw [h.open_]
    unfold wpos sgn
    rw [h.pos, h.op _ _ ht]
    have e : oa A o.trader i = at_ A (slot o.trader i) := by unfold oa; rw [if_pos ht]
    rw [e]
    by_cases c1 : m.qty < o.qty ∨ m.value < o.price * o.qty ∨ m.open_ < sumN A o.trader 8 + o.qty
    · rw [if_pos c1, if_pos (by rcases c1 with c | c | c; exact .inl c; exact .inr (.inl c); exact .inr (.inr (.inl c)))]
    · rw [if_neg c1]
      rcases (by omega : o.side = 1 ∨ o.side = 2) with hs | hs
      · simp only [hs]
        simp only [show ¬ ((1 : Int) = 2) by decide, if_false, if_true, true_and, false_and, or_false]
        by_cases c2 : m.pos < pa A o.trader i + at_ A (slot o.trader i) + o.qty
        · rw [if_pos (.inr (.inr (.inr c2))), if_pos (by omega)]
        · rw [if_neg (by omega), if_neg (by omega)]
      · simp only [hs]
        simp only [show ¬ ((2 : Int) = 1) by decide, if_false, if_true, true_and, false_and, false_or]
        by_cases c2 : m.pos < -(pa A o.trader i - at_ A (slot o.trader i) - o.qty)
        · rw [if_pos (.inr (.inr (.inr c2))), if_pos (by omega)]
        · rw [if_neg (by omega), if_neg (by omega)]
end Go.Proofs.Ytnpcmcijlgklfaa
