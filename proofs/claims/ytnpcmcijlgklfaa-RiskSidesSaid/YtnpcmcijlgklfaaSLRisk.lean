/- Contracts of functions of the given program over its translation, each proved by walking its text; used by the laws' rows. It proves no given statement by itself. -/
import Derived.Test.YtnpcmcijlgklfaaSLLaw15e
import Derived.Test.YtnpcmcijlgklfaaSLOrder
set_option autoImplicit false
set_option linter.unusedSectionVars false
set_option linter.unusedSimpArgs false
set_option linter.unusedVariables false
namespace Go.Proofs.Ytnpcmcijlgklfaa
open Go Go.SL Go.Proofs
/-- Limits, by their numbers. -/
structure Lim where
  (qty value open_ pos : Int)
def Lim.cells (m : Lim) : List Value := [.int .i64 m.qty, .int .i64 m.value, .int .i64 m.open_, .int .i64 m.pos]
def lv (m : Lim) : Value := .agg ⟨m.cells⟩
structure Lim.In (m : Lim) : Prop where
  (qty : InI m.qty) (value : InI m.value) (open_ : InI m.open_) (pos : InI m.pos)
theorem Lim.of {zs : List Int} (hl : zs.length = 4) (hz : ∀ z ∈ zs, InI z) : ∃ m : Lim, Value.agg ⟨ints zs⟩ = lv m ∧ m.In := by
  match zs, hl with
  | [a, b, c, d], _ =>
    refine ⟨⟨a, b, c, d⟩, rfl, ?_⟩
    constructor <;> exact hz _ (by simp)
def rlimB (m : Lim) : Bool := decide (0 ≤ m.qty) && decide (m.qty ≤ 1048576) && decide (0 ≤ m.value) && decide (0 ≤ m.open_) && decide (m.open_ ≤ 1099511627776) && decide (0 ≤ m.pos) && decide (m.pos ≤ 1099511627776)
theorem rlim_iff {m : Lim} : rlimB m = true ↔ 0 ≤ m.qty ∧ m.qty ≤ 1048576 ∧ 0 ≤ m.value ∧ 0 ≤ m.open_ ∧ m.open_ ≤ 1099511627776 ∧ 0 ≤ m.pos ∧ m.pos ≤ 1099511627776 := by
  unfold rlimB; simp only [Bool.and_eq_true, decide_eq_true_eq]; omega
theorem right_ok {o : Ord} (h : right o = 0) : rightP o := by
  by_cases hp : rightP o
  · exact hp
  · unfold right at h; rw [if_neg hp] at h; cases h
theorem right_01 (o : Ord) : right o = 0 ∨ right o = 1 := by
  unfold right; split
  · exact .inl rfl
  · exact .inr rfl
theorem value_ok {o : Ord} (hr : rightP o) : value o = (o.price * o.qty, 0) ∧ 0 ≤ o.price * o.qty ∧ o.price * o.qty ≤ 1099511627776 := by
  unfold rightP at hr
  have p1 : 0 ≤ o.price ∧ o.price ≤ 1048576 := by
    by_cases hk : o.kind = 2
    · have := hr.2.2.2.2.2.2.2.2.2.2.2.2.2.2.2.2.1 hk; omega
    · have := hr.2.2.2.2.2.2.2.2.2.2.2.2.2.2.2.2.2.1 hk; omega
  have p2 : 1 ≤ o.qty ∧ o.qty ≤ 1048576 := by omega
  have p3 : 0 ≤ o.price * o.qty := Int.mul_nonneg p1.1 (by omega)
  have p4 : o.price * o.qty ≤ 1048576 * 1048576 := Int.mul_le_mul p1.2 p2.2 (by omega) (by omega)
  refine ⟨?_, p3, by omega⟩
  unfold value times
  rw [if_neg (by omega), if_neg]
  rintro ⟨h1, h2⟩
  rw [Int.tdiv_eq_ediv_of_nonneg (by omega)] at h2
  have : o.price ≤ 9223372036854775807 / o.qty := (Int.le_ediv_iff_mul_le h1).2 (by omega)
  omega
variable [Base]
/-- What the check says. -/
def chk (A : List Int) (m : Lim) (o : Ord) (i : Int) : Int :=
  if right o ≠ 0 ∨ i < 0 ∨ 8 ≤ i then 1
  else if m.qty < o.qty ∨ m.value < o.price * o.qty ∨ m.open_ < sumN A o.trader 8 + o.qty then 8
  else if o.side = 1 ∧ m.pos < pa A o.trader i + (oa A o.trader i + o.qty) ∨ o.side = 2 ∧ m.pos < oa A o.trader i + o.qty - pa A o.trader i then 8 else 0
theorem sp_rlim (F : Heap) (m : Lim) : Sp Try.prog F 54 [lv m] [] (Ret (.bool (rlimB m))) := by
  refine sp_of_code Try.func54 rfl rfl ?_
  (refine run_seq ?_; refine run_region ?_; refine runL_box rfl rfl rfl rfl rfl rfl (fun _ => ?_); refine xep rfl rfl ?_; refine runL_nil ?_; refine then_normal ?_; refine run_seq ?_; refine run_region ?_; refine xel rfl (ev_fieldAddr rfl rfl (fo rfl)) ?_; refine xel rfl (ev_loadK rfl rfl (sc rfl) (memF (.head _)) rfl) ?_; (iterate 2 refine xep rfl rfl ?_); refine xgl rfl rfl (fun hq => ev_fieldAddr rfl rfl (fo rfl)) ?_; refine xgl rfl rfl (fun hq => ev_loadK rfl rfl (sc rfl) (memF (.head _)) rfl) ?_; refine xgp rfl rfl rfl ?_; (iterate 2 refine xep rfl rfl ?_); refine xgl rfl rfl (fun hq => ev_fieldAddr rfl rfl (fo rfl)) ?_; refine xgl rfl rfl (fun hq => ev_loadK rfl rfl (sc rfl) (memF (.head _)) rfl) ?_; refine xgp rfl rfl rfl ?_; (iterate 2 refine xep rfl rfl ?_); refine xgl rfl rfl (fun hq => ev_fieldAddr rfl rfl (fo rfl)) ?_; refine xgl rfl rfl (fun hq => ev_loadK rfl rfl (sc rfl) (memF (.head _)) rfl) ?_; refine xgp rfl rfl rfl ?_; (iterate 2 refine xep rfl rfl ?_); refine xgl rfl rfl (fun hq => ev_fieldAddr rfl rfl (fo rfl)) ?_; refine xgl rfl rfl (fun hq => ev_loadK rfl rfl (sc rfl) (memF (.head _)) rfl) ?_; refine xgp rfl rfl rfl ?_; (iterate 2 refine xep rfl rfl ?_); refine xgl rfl rfl (fun hq => ev_fieldAddr rfl rfl (fo rfl)) ?_; refine xgl rfl rfl (fun hq => ev_loadK rfl rfl (sc rfl) (memF (.head _)) rfl) ?_; refine xgp rfl rfl rfl ?_; (iterate 2 refine xep rfl rfl ?_); refine xgl rfl rfl (fun hq => ev_fieldAddr rfl rfl (fo rfl)) ?_; refine xgl rfl rfl (fun hq => ev_loadK rfl rfl (sc rfl) (memF (.head _)) rfl) ?_; refine xgp rfl rfl rfl ?_; (iterate 2 refine xep rfl rfl ?_); refine runL_nil ?_; refine then_normal ?_; refine run_ret ?_)
  exact ⟨_, rfl, rfl⟩
theorem rp_rlim (F : Heap) (m : Lim) : Sp Try.prog F 56 [lv m] [] (Ret (.bool (rlimB m))) := by
  refine sp_of_code Try.func56 rfl rfl ?_
  (refine run_seq ?_; refine run_region ?_; refine runL_box rfl rfl rfl rfl rfl rfl (fun _ => ?_); refine xep rfl rfl ?_; refine runL_nil ?_; refine then_normal ?_; refine run_seq ?_; refine run_region ?_; refine xel rfl (ev_fieldAddr rfl rfl (fo rfl)) ?_; refine xel rfl (ev_loadK rfl rfl (sc rfl) (memF (.head _)) rfl) ?_; (iterate 2 refine xep rfl rfl ?_); refine xgl rfl rfl (fun hq => ev_fieldAddr rfl rfl (fo rfl)) ?_; refine xgl rfl rfl (fun hq => ev_loadK rfl rfl (sc rfl) (memF (.head _)) rfl) ?_; refine xgp rfl rfl rfl ?_; (iterate 2 refine xep rfl rfl ?_); refine xgl rfl rfl (fun hq => ev_fieldAddr rfl rfl (fo rfl)) ?_; refine xgl rfl rfl (fun hq => ev_loadK rfl rfl (sc rfl) (memF (.head _)) rfl) ?_; refine xgp rfl rfl rfl ?_; (iterate 2 refine xep rfl rfl ?_); refine xgl rfl rfl (fun hq => ev_fieldAddr rfl rfl (fo rfl)) ?_; refine xgl rfl rfl (fun hq => ev_loadK rfl rfl (sc rfl) (memF (.head _)) rfl) ?_; refine xgp rfl rfl rfl ?_; (iterate 2 refine xep rfl rfl ?_); refine xgl rfl rfl (fun hq => ev_fieldAddr rfl rfl (fo rfl)) ?_; refine xgl rfl rfl (fun hq => ev_loadK rfl rfl (sc rfl) (memF (.head _)) rfl) ?_; refine xgp rfl rfl rfl ?_; (iterate 2 refine xep rfl rfl ?_); refine xgl rfl rfl (fun hq => ev_fieldAddr rfl rfl (fo rfl)) ?_; refine xgl rfl rfl (fun hq => ev_loadK rfl rfl (sc rfl) (memF (.head _)) rfl) ?_; refine xgp rfl rfl rfl ?_; (iterate 2 refine xep rfl rfl ?_); refine xgl rfl rfl (fun hq => ev_fieldAddr rfl rfl (fo rfl)) ?_; refine xgl rfl rfl (fun hq => ev_loadK rfl rfl (sc rfl) (memF (.head _)) rfl) ?_; refine xgp rfl rfl rfl ?_; (iterate 2 refine xep rfl rfl ?_); refine runL_nil ?_; refine then_normal ?_; refine run_ret ?_)
  exact ⟨_, rfl, rfl⟩
def bo (p q : Int) : Ord := ⟨1, 0, 0, 1, 1, p, q, 0, 0⟩
theorem sp_bo (F : Heap) (p q : Int) : Sp Try.prog F 53 [.int .i64 p, .int .i64 q] [] (Ret (ov (bo p q))) := by
  refine sp_of_codeR Try.func53 rfl rfl ?_
  (refine run_seq ?_; refine run_region ?_; refine runL_alloc rfl rfl rfl rfl rfl ze36 (fun _ => ?_); refine runL_nil ?_; refine then_normal ?_; refine run_seq ?_; refine run_region ?_; (iterate 2 refine xep rfl rfl ?_); refine xel rfl (ev_build rfl pl36 rfl) ?_; refine runL_store0 rfl rfl rfl rfl rfl (sz rfl) rfl rfl rfl rfl rfl ?_; refine runL_nil ?_; refine then_normal ?_; refine run_ret ?_)
  exact ⟨_, .agg rfl (memF (.head _)) (ag rfl) (sz rfl) rfl .nil, rfl⟩
set_option maxHeartbeats 1000000 in
theorem sp_check (A : List Int) (hA : AOk A) (b : Nat) (e : TypeId) (F : Heap) (hm : blk b (ac A) e ∈ F) (m : Lim) (hM : m.In) (o : Ord) (ho : o.In) (i : Int) :
    Sp Try.prog F 52 [.pointer (some ⟨b, 0, none⟩), lv m, ov o, .int .i64 i] [] (Ret (.int .i64 (chk A m o i))) := by
  have q1 := fun F => sp_right F o ho.kind
  refine sp_of_code Try.func52 rfl rfl ?_
  (refine run_seq ?_; refine run_region ?_; (iterate 2 refine runL_box rfl rfl rfl rfl rfl rfl (fun _ => ?_)); refine xep rfl rfl ?_; refine runL_nil ?_; refine then_normal ?_; (iterate 2 refine run_seq ?_); refine run_region ?_; refine xel rfl (ev_loadAK rfl rfl (ag rfl) (sz rfl) (memF (.head _)) rfl) ?_; refine xel rfl (ev_callQ rfl rfl rfl (pf rfl) (q1 ..)) ?_; (iterate 2 refine xep rfl rfl ?_); (iterate 2 refine xgp rfl rfl rfl ?_); (iterate 2 refine xep rfl rfl ?_); (iterate 2 refine xgp rfl rfl rfl ?_); refine xep rfl rfl ?_; refine runL_nil ?_; refine then_normal ?_)
  rename_i b1 b2
  unfold chk
  (refine run_cond rfl (fun hc => ?_) (fun hc => ?_) <;> (try simp only [z0, z1, z2, z3, z4, z5, z6, z7, z8, z9, Bool.not_true, Bool.not_false, Bool.false_or, Bool.true_and, true_and, and_true, false_or, or_false, reduceCtorEq, Bool.false_eq_true] at hc))
  · (refine run_seq ?_; refine run_region ?_; refine xep rfl rfl ?_; refine runL_nil ?_; refine then_normal ?_; refine run_ret ?_; refine then_ret ?_)
    rw [if_pos (by omega)]
    exact ⟨_, rfl, rfl⟩
  · have hr := right_ok (by omega : right o = 0)
    obtain ⟨v1, v2, v3⟩ := value_ok hr
    have hr2 := hr
    unfold rightP at hr2
    rw [if_neg (by omega)]
    have q2 : ∀ F, Sp Try.prog F 46 [ov o] [] (Ret (.tuple #[.int .i64 (o.price * o.qty), .int .i64 0])) := fun F => by
      have := sp_value F o ho.price ho.qty
      rw [v1] at this; exact this
    have s1 := sumN_in hA o.trader 8
    have s2 := pa_in hA o.trader i
    have s3 := oa_in hA o.trader i
    generalize hV : o.price * o.qty = V at *
    have m1 := fun F hm => sp_open A hA b e F hm o.trader
    have m2 := fun F hm => sp_pos A hA b e F hm o.trader i
    have m3 := fun F hm => sp_openAt A hA b e F hm o.trader i
    (refine run_skip ?_; refine then_normal ?_; refine run_seq ?_; refine run_region ?_; refine xel rfl (ev_loadAK rfl rfl (ag rfl) (sz rfl) (memF (.head _)) rfl) ?_; refine xel rfl (ev_callQ rfl rfl rfl (pf rfl) (q2 ..)) ?_; (iterate 5 refine xep rfl rfl ?_); refine runL_nil ?_; refine then_normal ?_; (iterate 2 refine run_seq ?_); refine run_region_draw mo (by kernel_rfl) ?_; refine xql rfl (ev_fieldAddr rfl rfl (fo rfl)) ?_; refine xql rfl (ev_loadK rfl rfl (sc rfl) (memF (.head _)) rfl) ?_; refine xql rfl (ev_fieldAddr rfl rfl (fo rfl)) ?_; refine xql rfl (ev_loadK rfl rfl (sc rfl) (memF (.tail _ (.head _))) rfl) ?_; (iterate 2 refine xqp rfl rfl ?_); (iterate 2 refine xhp rfl rfl rfl ?_); (iterate 2 refine xqp rfl rfl ?_); refine xhp rfl rfl rfl ?_; refine xhl rfl rfl (fun hq => ev_fieldAddr rfl rfl (fo rfl)) ?_; refine xhl rfl rfl (fun hq => ev_loadK rfl rfl (sc rfl) (memF (.tail _ (.head _))) rfl) ?_; refine xhp rfl rfl rfl ?_; (iterate 2 refine xqp rfl rfl ?_); refine xhp rfl rfl rfl ?_; refine xhl rfl rfl (fun hq => ev_fieldAddr rfl rfl (fo rfl)) ?_; refine xhl rfl rfl (fun hq => ev_loadK rfl rfl (sc rfl) (memF (.head _)) rfl) ?_; refine xhl rfl rfl (fun hq => ev_callQ rfl rfl rfl (pf rfl) (m1 _ (memR hm) ..)) ?_; refine xhl rfl rfl (fun hq => ev_fieldAddr rfl rfl (fo rfl)) ?_; refine xhl rfl rfl (fun hq => ev_loadK rfl rfl (sc rfl) (memF (.head _)) rfl) ?_; refine xhl rfl rfl (fun hq => ev_add rfl rfl rfl (by (try simp only [z0, z1, z2, z3, z4, z5, z6, z7, z8, z9, Bool.not_true, Bool.not_false, Bool.false_or, Bool.true_and, true_and, and_true, false_or, or_false, reduceCtorEq, Bool.false_eq_true] at hq); omega)) ?_; refine xhl rfl rfl (fun hq => ev_fieldAddr rfl rfl (fo rfl)) ?_; refine xhl rfl rfl (fun hq => ev_loadK rfl rfl (sc rfl) (memF (.tail _ (.head _))) rfl) ?_; refine xhp rfl rfl rfl ?_; refine xqp rfl rfl ?_; refine runQ_nil ?_; refine then_normal ?_)
    (refine run_cond rfl (fun hc => ?_) (fun hc => ?_) <;> (try simp only [z0, z1, z2, z3, z4, z5, z6, z7, z8, z9, Bool.not_true, Bool.not_false, Bool.false_or, Bool.true_and, true_and, and_true, false_or, or_false, reduceCtorEq, Bool.false_eq_true] at hc))
    · (refine run_seq ?_; refine run_region ?_; refine xep rfl rfl ?_; refine runL_nil ?_; refine then_normal ?_; refine run_ret ?_; refine then_ret ?_)
      have hc2 : m.qty < o.qty ∨ m.value < V ∨ m.open_ < sumN A o.trader 8 + o.qty := by simpa [or_assoc] using hc
      rw [if_pos hc2]
      exact ⟨_, rfl, rfl⟩
    · rw [if_neg (by omega)]
      (refine run_skip ?_; refine then_normal ?_; refine run_seq ?_; refine run_region_draw mo (by kernel_rfl) ?_; refine xqp rfl rfl ?_; refine xql rfl (ev_fieldAddr rfl rfl (fo rfl)) ?_; refine xql rfl (ev_loadK rfl rfl (sc rfl) (memF (.head _)) rfl) ?_; refine xqp rfl rfl ?_; refine xql rfl (ev_callQ rfl rfl rfl (pf rfl) (m2 _ (memR hm) ..)) ?_; refine xqp rfl rfl ?_; refine xql rfl (ev_fieldAddr rfl rfl (fo rfl)) ?_; refine xql rfl (ev_loadK rfl rfl (sc rfl) (memF (.head _)) rfl) ?_; refine xqp rfl rfl ?_; refine xql rfl (ev_callQ rfl rfl rfl (pf rfl) (m3 _ (memR hm) ..)) ?_; refine xql rfl (ev_fieldAddr rfl rfl (fo rfl)) ?_; refine xql rfl (ev_loadK rfl rfl (sc rfl) (memF (.head _)) rfl) ?_; refine xql rfl (ev_add rfl rfl rfl (by omega)) ?_; (iterate 2 refine xqp rfl rfl ?_); refine runQ_nil ?_; refine then_normal ?_; (iterate 2 refine run_seq ?_); refine run_region ?_; refine xel rfl (ev_fieldAddr rfl rfl (fo rfl)) ?_; refine xel rfl (ev_loadK rfl rfl (sc rfl) (memF (.head _)) rfl) ?_; (iterate 2 refine xep rfl rfl ?_); (iterate 2 refine xgp rfl rfl rfl ?_); refine xgl rfl rfl (fun hq => ev_add rfl rfl rfl (by (try simp only [z0, z1, z2, z3, z4, z5, z6, z7, z8, z9, Bool.not_true, Bool.not_false, Bool.false_or, Bool.true_and, true_and, and_true, false_or, or_false, reduceCtorEq, Bool.false_eq_true] at hq); omega)) ?_; refine xgl rfl rfl (fun hq => ev_fieldAddr rfl rfl (fo rfl)) ?_; refine xgl rfl rfl (fun hq => ev_loadK rfl rfl (sc rfl) (memF (.tail _ (.head _))) rfl) ?_; refine xgp rfl rfl rfl ?_; (iterate 2 refine xep rfl rfl ?_); refine xgl rfl rfl (fun hq => ev_fieldAddr rfl rfl (fo rfl)) ?_; refine xgl rfl rfl (fun hq => ev_loadK rfl rfl (sc rfl) (memF (.head _)) rfl) ?_; (iterate 4 refine xgp rfl rfl rfl ?_); refine xgl rfl rfl (fun hq => ev_sub rfl rfl rfl (by (try simp only [z0, z1, z2, z3, z4, z5, z6, z7, z8, z9, Bool.not_true, Bool.not_false, Bool.false_or, Bool.true_and, true_and, and_true, false_or, or_false, reduceCtorEq, Bool.false_eq_true] at hq); omega)) ?_; refine xgl rfl rfl (fun hq => ev_fieldAddr rfl rfl (fo rfl)) ?_; refine xgl rfl rfl (fun hq => ev_loadK rfl rfl (sc rfl) (memF (.tail _ (.head _))) rfl) ?_; (iterate 2 refine xgp rfl rfl rfl ?_); refine xep rfl rfl ?_; refine runL_nil ?_; refine then_normal ?_)
      (refine run_cond rfl (fun hc => ?_) (fun hc => ?_) <;> (try simp only [z0, z1, z2, z3, z4, z5, z6, z7, z8, z9, Bool.not_true, Bool.not_false, Bool.false_or, Bool.true_and, true_and, and_true, false_or, or_false, reduceCtorEq, Bool.false_eq_true] at hc))
      · (refine run_seq ?_; refine run_region ?_; refine xep rfl rfl ?_; refine runL_nil ?_; refine then_normal ?_; refine run_ret ?_; refine then_ret ?_)
        rw [if_pos hc]
        exact ⟨_, rfl, rfl⟩
      · (refine run_skip ?_; refine then_normal ?_; refine run_seq ?_; refine run_region ?_; refine xep rfl rfl ?_; refine runL_nil ?_; refine then_normal ?_; refine run_ret ?_)
        rw [if_neg (by omega)]
        exact ⟨_, rfl, rfl⟩
theorem chk_01 (A : List Int) (m : Lim) (o : Ord) (i : Int) : chk A m o i = 0 ∨ chk A m o i = 1 ∨ chk A m o i = 8 := by
  unfold chk; repeat' split
  all_goals simp
/-- When the check lets an order pass. -/
theorem chk_iff {A : List Int} {m : Lim} {o : Ord} {i : Int} (hr : rightP o) (hi : 0 ≤ i ∧ i < 8) : chk A m o i = 0 ↔ o.qty ≤ m.qty ∧ o.price * o.qty ≤ m.value ∧ sumN A o.trader 8 + o.qty ≤ m.open_ ∧
    (o.side = 1 → pa A o.trader i + (oa A o.trader i + o.qty) ≤ m.pos) ∧ (o.side = 2 → oa A o.trader i + o.qty - pa A o.trader i ≤ m.pos) := by
  have h0 : right o = 0 := by unfold right; rw [if_pos hr]
  have hr2 := hr
  unfold rightP at hr2
  unfold chk
  rw [if_neg (by omega)]
  split
  · constructor
    · intro h; cases h
    · intro h; omega
  · split
    · constructor
      · intro h; cases h
      · intro h; omega
    · constructor
      · intro _; omega
      · intro _; rfl
theorem lim_in (a b c d : Int) (h : (decide (-9223372036854775808 ≤ a) && decide (a ≤ 9223372036854775807) && decide (-9223372036854775808 ≤ b) && decide (b ≤ 9223372036854775807) && decide (-9223372036854775808 ≤ c) && decide (c ≤ 9223372036854775807) && decide (-9223372036854775808 ≤ d) && decide (d ≤ 9223372036854775807)) = true) : (Lim.mk a b c d).In := by
  simp only [Bool.and_eq_true, decide_eq_true_eq] at h
  constructor <;> (unfold InI; simp only; omega)
theorem bo_right {p q : Int} (h1 : 1 ≤ p ∧ p ≤ 1048576) (h2 : 1 ≤ q ∧ q ≤ 1048576) : rightP (bo p q) := by
  unfold rightP bo; refine ⟨?_, ?_, ?_, ?_, ?_, ?_, ?_, ?_, ?_, ?_, ?_, ?_, ?_, ?_, ?_, ?_, fun h => ?_, fun _ => ⟨?_, ?_⟩, .inl rfl⟩ <;> first | omega | (show _ ≤ _; simp only; omega) | (simp at h)
theorem bo_in {p q : Int} (h1 : InI p) (h2 : InI q) : (bo p q).In := by
  constructor <;> first | exact h1 | exact h2 | (unfold InI bo; simp only; omega)
end Go.Proofs.Ytnpcmcijlgklfaa
