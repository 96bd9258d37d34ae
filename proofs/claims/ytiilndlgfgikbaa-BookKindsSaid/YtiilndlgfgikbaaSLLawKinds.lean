/- Contracts of functions of the given program over its translation, each proved by walking its text; used by the laws' rows. It proves no given statement by itself. -/
import Derived.Test.YtiilndlgfgikbaaSLPlJ
set_option autoImplicit false
set_option linter.unusedSectionVars false
set_option linter.unusedSimpArgs false
set_option linter.unusedVariables false
set_option maxRecDepth 4000
set_option maxHeartbeats 200000000
namespace Go.Proofs.Ytiilndlgfgikbaa
open Go Go.SL Go.Proofs
variable [Base]
theorem bookKinds_w (F : Heap) (a : Option Addr) (len cap : Nat) (rs : List (List Int)) (hR : RowsF F a len 7 rs) (hM : len ≤ 9223372036854775807) (r : List Int) (hr7 : r.length = 7) :
    Sp Try.prog F 4 [.slice a len cap, .agg ⟨ints r⟩] [] (Ret (.bool true)) := by
  refine Sp.up ?_
  have q3 := bookRuns_sp
  refine sp_of_code Try.func4 rfl rfl ?_
  (refine run_seq ?_; refine run_region ?_; refine runL_box rfl rfl rfl rfl rfl rfl (fun _ => ?_); refine xep rfl rfl ?_; refine runL_nil ?_; refine then_normal ?_; refine run_seq ?_; refine run_region ?_; refine xep rfl rfl ?_)
  refine runL_call0 rfl rfl rfl rfl rfl rfl rfl (pf rfl) (sp_bfilled _ a len cap rs (RowsF.mono hR fun x m => by simp [m]) hM 40 (by omega)) ?_
  rintro v H ⟨b, rfl, hH⟩
  (refine xep rfl rfl ?_; refine runL_nil ?_; refine then_normal ?_; (iterate 2 refine run_seq ?_); refine run_region ?_; refine xep rfl rfl ?_; refine xel rfl (ev_eqNil rfl rfl rfl (pt rfl)) ?_; refine runL_nil ?_; refine then_normal ?_)
  refine run_condF rfl rfl ?_
  have q1 := fun F => sp_kOrder F r hr7
  obtain ⟨hw, hn0, hn1⟩ := bfill_ok rs 40
  have hkr := (kO_right r).1
  have hst := (kO_right r).2.1
  (refine run_skip ?_; refine then_normal ?_; refine run_seq ?_; refine run_region ?_)
  rename_i x
  refine RunL.perm (h' := blk x (cellsV (.agg ⟨ints r⟩)) 43 :: H) (fun y => by (first | rfl | (simp only [List.append_eq, cnt_append, cnt_cons, cnt_nil, blk]; omega) | (simp only [List.append_eq, cnt_append, cnt_cons, cnt_nil, blk]; done))) ?_
  refine runL_ev rfl rfl rfl rfl (ev_loadA (n := 7) (off := 0) (c := ints r) (l := ints r) rfl rfl (ag rfl) (sz rfl) (memF (.head _)) (by rw [ints_len, hr7]; omega) (by rw [List.drop_zero, List.take_of_length_le (by rw [ints_len, hr7]; omega)])) ?_
  (refine xel rfl (ev_callQ rfl rfl rfl (pf rfl) (q1 ..)) ?_; refine runL_alloc rfl rfl rfl rfl rfl ze25 (fun _ => ?_); refine runL_store0 rfl rfl rfl rfl rfl (sz rfl) rfl rfl rfl rfl rfl ?_; refine runL_nil ?_; refine then_normal ?_; refine run_seq ?_; refine run_region ?_; refine xep rfl rfl ?_; refine xel rfl (ev_loadAK rfl rfl (ag rfl) (sz rfl) (memF (.head _)) rfl) ?_)
  rename_i x2
  refine runL_callZ [blk x2 (cellsV (ov (kO r))) 25, blk x (cellsV (.agg ⟨ints r⟩)) 43] H rfl rfl rfl rfl rfl rfl rfl (pf rfl) (fun y => by
    show cnt y (blk x2 (cellsV (ov (kO r))) 25 :: blk x (cellsV (.agg ⟨ints r⟩)) 43 :: H) = _
    (first | rfl | (simp only [List.append_eq, cnt_append, cnt_cons, cnt_nil, blk]; omega) | (simp only [List.append_eq, cnt_append, cnt_cons, cnt_nil, blk]; done))) (sp_badd _ H b _ hH hw (kO r) (by unfold rightP at hkr; unfold InI; omega) hn0 (by omega)) ?_
  rintro v _ ⟨a3, c3, A3, H2, rfl, -, hH2, rfl⟩
  have hw2 := (badd_BW (o := kO r) hw hn0).1
  have q2 := fun G (h : BkIn G b (badd (kO r) (bfill rs 40)).2) => sp_bFind G b _ h hw2 (kO r).trader (kO r).id
  have kp := kinds_plain (o := kO r) hw hkr hst
  have rt := rests_there (B := bfill rs 40) hkr
  generalize bfind (kO r).trader (kO r).id (badd (kO r) (bfill rs 40)).2 = fd at *
  generalize badd (kO r) (bfill rs 40) = X at *
  obtain ⟨⟨xo, xf, xl, xr, xw, xs, xe⟩, X2⟩ := X
  dsimp only at *
  unfold outV
  dsimp only
  (refine runL_alloc rfl rfl rfl rfl rfl ze29 (fun _ => ?_); refine runL_store0 rfl rfl rfl rfl rfl (sz rfl) rfl rfl rfl rfl rfl ?_; refine runL_nil ?_; refine then_normal ?_; refine run_seq ?_; refine run_region ?_; refine xep rfl rfl ?_; refine xel rfl (ev_fieldAddr rfl rfl (fo rfl)) ?_; refine xel rfl (ev_loadK rfl rfl (sc rfl) (memF (.tail _ (.head _))) rfl) ?_; refine xel rfl (ev_fieldAddr rfl rfl (fo rfl)) ?_; refine xel rfl (ev_loadK rfl rfl (sc rfl) (memF (.tail _ (.head _))) rfl) ?_)
  refine runL_ev rfl rfl rfl rfl (ev_callQ rfl rfl rfl (pf rfl) (q2 _ (hH2.in fun y m => by simp [m]))) ?_
  ((iterate 3 refine xep rfl rfl ?_); refine runL_alloc rfl rfl rfl rfl rfl ze25 (fun _ => ?_); refine runL_store0 rfl rfl rfl rfl rfl (sz rfl) rfl rfl rfl rfl rfl ?_; refine xep rfl rfl ?_; refine runL_nil ?_; refine then_normal ?_; (iterate 2 refine run_seq ?_); refine run_region ?_; refine xel rfl (ev_fieldAddr rfl rfl (fo rfl)) ?_; refine xel rfl (ev_loadK rfl rfl (sc rfl) (memF (.tail _ (.tail _ (.head _)))) rfl) ?_; refine runL_nil ?_; refine then_normal ?_; refine run_block ?_; (iterate 2 refine run_seq ?_); refine run_region ?_; (iterate 2 refine xep rfl rfl ?_); refine runL_nil ?_; refine then_normal ?_)
  rcases (by unfold rightP at hkr; omega : (kO r).kind = 1 ∨ (kO r).kind = 2 ∨ (kO r).kind = 3 ∨ (kO r).kind = 4 ∨ (kO r).kind = 5) with hk | hk | hk | hk | hk
  · have d1 : decide ((kO r).kind = 1) = true := by rw [hk]; rfl
    have d2 : decide ((kO r).kind = 2) = false := by rw [hk]; rfl
    have d3 : decide ((kO r).kind = 3) = false := by rw [hk]; rfl
    have d4 : decide ((kO r).kind = 4) = false := by rw [hk]; rfl
    have d5 : decide ((kO r).kind = 5) = false := by rw [hk]; rfl
    refine run_condF rfl d2 ?_
    (refine run_region ?_; (iterate 2 refine xep rfl rfl ?_); refine runL_nil ?_; refine then_normal ?_)
    refine run_condF rfl d3 ?_
    (refine run_seq ?_; refine run_region ?_; (iterate 2 refine xep rfl rfl ?_); refine runL_nil ?_; refine then_normal ?_)
    refine run_condF rfl d4 ?_
    (refine run_seq ?_; refine run_region ?_; (iterate 2 refine xep rfl rfl ?_); refine runL_nil ?_; refine then_normal ?_)
    refine run_condF rfl d5 ?_
    have hrs : rests (kO r) = true := by unfold rests; rw [hk]; rfl
    have hz := kp.2.2.2
    clear kp
    obtain ⟨f0, fb⟩ := fd
    cases xr with
    | true =>
      have ft : fb = true := rt rfl
      subst ft
      have hgd : true = true := rfl
      have hge : false = false := rfl
      (refine run_skip ?_; refine in_normal ?_; refine then_normal ?_; refine run_seq ?_; refine run_region ?_; refine xel rfl (ev_fieldAddr rfl rfl (fo rfl)) ?_; refine xel rfl (ev_loadK rfl rfl (sc rfl) (memF (.tail _ (.head _))) rfl) ?_; (iterate 2 refine xep rfl rfl ?_); refine runL_yes rfl rfl hge ?_; (iterate 3 refine xep rfl rfl ?_); refine runL_yes rfl rfl hgd ?_; refine xel rfl (ev_fieldAddr rfl rfl (fo rfl)) ?_; refine runL_yes rfl rfl hgd ?_; refine xel rfl (ev_loadK rfl rfl (sc rfl) (memF (.tail _ (.head _))) rfl) ?_; refine runL_yes rfl rfl hgd ?_; refine xep rfl rfl ?_; (iterate 3 refine runL_no rfl rfl rfl rfl hgd rfl rfl ?_); refine runL_yes rfl rfl hgd ?_; refine xel rfl (ev_pickT rfl rfl hgd rfl) ?_; refine runL_yes rfl rfl hgd ?_; refine xep rfl rfl ?_; (iterate 3 refine runL_no rfl rfl rfl rfl hgd rfl rfl ?_); refine runL_yes rfl rfl hgd ?_; refine xel rfl (ev_pickT rfl rfl hgd rfl) ?_; refine runL_yes rfl rfl hgd ?_; refine xep rfl rfl ?_; (iterate 2 refine runL_no rfl rfl rfl rfl hgd rfl rfl ?_); refine runL_yes rfl rfl hgd ?_; refine xel rfl (ev_pickT rfl rfl hgd rfl) ?_; (iterate 2 refine xep rfl rfl ?_); refine runL_yes rfl rfl hgd ?_; refine xel rfl (ev_callQ rfl rfl rfl (pf rfl) (q3 ..)) ?_; (iterate 2 refine xep rfl rfl ?_); refine runL_nil ?_; refine then_normal ?_; refine run_ret ?_)
      first | exact ⟨_, rfl, [], _, rfl, fun y => rfl⟩ | exact ⟨_, rfl, [], _, congrArg Value.bool (by simp_all), fun y => rfl⟩
    | false =>
      clear rt
      by_cases he : xe = 0
      · subst he
        by_cases hl : xl = 0
        · subst hl
          have hgd : true = true := rfl
          have hge : false = false := rfl
          (refine run_skip ?_; refine in_normal ?_; refine then_normal ?_; refine run_seq ?_; refine run_region ?_; refine xel rfl (ev_fieldAddr rfl rfl (fo rfl)) ?_; refine xel rfl (ev_loadK rfl rfl (sc rfl) (memF (.tail _ (.head _))) rfl) ?_; (iterate 2 refine xep rfl rfl ?_); refine runL_no rfl rfl rfl rfl hgd rfl rfl ?_; refine xel rfl (ev_pickT rfl rfl hgd rfl) ?_; refine xep rfl rfl ?_; refine runL_yes rfl rfl hgd ?_; refine xel rfl (ev_fieldAddr rfl rfl (fo rfl)) ?_; refine runL_yes rfl rfl hgd ?_; refine xel rfl (ev_loadK rfl rfl (sc rfl) (memF (.tail _ (.head _))) rfl) ?_; refine runL_yes rfl rfl hgd ?_; refine xep rfl rfl ?_; refine runL_yes rfl rfl hge ?_; refine xel rfl (ev_fieldAddr rfl rfl (fo rfl)) ?_; refine runL_yes rfl rfl hge ?_; refine xel rfl (ev_loadK rfl rfl (sc rfl) (memF (.tail _ (.head _))) rfl) ?_; refine runL_yes rfl rfl hge ?_; refine xep rfl rfl ?_; refine runL_yes rfl rfl hgd ?_; refine xep rfl rfl ?_; refine runL_yes rfl rfl hgd ?_; refine xep rfl rfl ?_; refine runL_yes rfl rfl hge ?_; refine xel rfl (ev_fieldAddr rfl rfl (fo rfl)) ?_; refine runL_yes rfl rfl hge ?_; refine xel rfl (ev_loadK rfl rfl (sc rfl) (memF (.tail _ (.head _))) rfl) ?_; refine runL_yes rfl rfl hge ?_; refine xep rfl rfl ?_; refine runL_yes rfl rfl hgd ?_; refine xep rfl rfl ?_; refine runL_yes rfl rfl hgd ?_; refine xep rfl rfl ?_; (iterate 2 refine runL_no rfl rfl rfl rfl hgd rfl rfl ?_); refine runL_yes rfl rfl hgd ?_; refine xel rfl (ev_pickT rfl rfl hgd rfl) ?_; (iterate 2 refine xep rfl rfl ?_); refine runL_yes rfl rfl hgd ?_; refine xel rfl (ev_callQ rfl rfl rfl (pf rfl) (q3 ..)) ?_; (iterate 2 refine xep rfl rfl ?_); refine runL_nil ?_; refine then_normal ?_; refine run_ret ?_)
          first | exact ⟨_, rfl, [], _, rfl, fun y => rfl⟩ | exact ⟨_, rfl, [], _, congrArg Value.bool (by simp_all), fun y => rfl⟩
        · have l0 : decide (xl = 0) = false := decide_eq_false hl
          have hx : xs = true := by simp_all
          subst hx
          have y1 : decide (xl = 0) = false := l0
          have hgd : true = true := rfl
          have hge : false = false := rfl
          (refine run_skip ?_; refine in_normal ?_; refine then_normal ?_; refine run_seq ?_; refine run_region ?_; refine xel rfl (ev_fieldAddr rfl rfl (fo rfl)) ?_; refine xel rfl (ev_loadK rfl rfl (sc rfl) (memF (.tail _ (.head _))) rfl) ?_; (iterate 2 refine xep rfl rfl ?_); refine runL_no rfl rfl rfl rfl hgd rfl rfl ?_; refine xel rfl (ev_pickT rfl rfl hgd rfl) ?_; refine xep rfl rfl ?_; refine runL_yes rfl rfl hgd ?_; refine xel rfl (ev_fieldAddr rfl rfl (fo rfl)) ?_; refine runL_yes rfl rfl hgd ?_; refine xel rfl (ev_loadK rfl rfl (sc rfl) (memF (.tail _ (.head _))) rfl) ?_; refine runL_yes rfl rfl hgd ?_; refine xep rfl rfl ?_; refine runL_yes rfl rfl hge ?_; refine xel rfl (ev_fieldAddr rfl rfl (fo rfl)) ?_; refine runL_yes rfl rfl hge ?_; refine xel rfl (ev_loadK rfl rfl (sc rfl) (memF (.tail _ (.head _))) rfl) ?_; refine runL_yes rfl rfl hge ?_; refine xep rfl rfl ?_; refine runL_yes rfl rfl hgd ?_; refine xep rfl rfl ?_; refine runL_yes rfl rfl hgd ?_; refine xep rfl rfl ?_; refine runL_yes rfl rfl hge ?_; refine xel rfl (ev_fieldAddr rfl rfl (fo rfl)) ?_; refine runL_yes rfl rfl hge ?_; refine xel rfl (ev_loadK rfl rfl (sc rfl) (memF (.tail _ (.head _))) rfl) ?_; refine runL_yes rfl rfl hge ?_; refine xep rfl rfl ?_; refine runL_yes rfl rfl hgd ?_; refine xep rfl rfl ?_; refine runL_yes rfl rfl hgd ?_; refine xep rfl rfl ?_; refine runL_yes rfl rfl y1 ?_; refine xel rfl (ev_fieldAddr rfl rfl (fo rfl)) ?_; refine runL_yes rfl rfl y1 ?_; refine xel rfl (ev_loadK rfl rfl (sc rfl) (memF (.tail _ (.head _))) rfl) ?_; refine runL_yes rfl rfl hgd ?_; (iterate 3 refine xep rfl rfl ?_); refine xgl rfl rfl (fun hq => ev_callQ rfl rfl rfl (pf rfl) (q3 ..)) ?_; (iterate 2 refine xep rfl rfl ?_); refine runL_nil ?_; refine then_normal ?_; refine run_ret ?_)
          first | exact ⟨_, rfl, [], _, rfl, fun y => rfl⟩ | exact ⟨_, rfl, [], _, congrArg Value.bool (by simp_all), fun y => rfl⟩
      · clear hz
        have hgd : true = true := rfl
        have hge : false = false := rfl
        (refine run_skip ?_; refine in_normal ?_; refine then_normal ?_; refine run_seq ?_; refine run_region ?_; refine xel rfl (ev_fieldAddr rfl rfl (fo rfl)) ?_; refine xel rfl (ev_loadK rfl rfl (sc rfl) (memF (.tail _ (.head _))) rfl) ?_; (iterate 2 refine xep rfl rfl ?_); refine runL_no rfl rfl rfl rfl hgd rfl rfl ?_; refine xel rfl (ev_pickT rfl rfl hgd rfl) ?_; refine xep rfl rfl ?_; refine runL_yes rfl rfl hgd ?_; refine xel rfl (ev_fieldAddr rfl rfl (fo rfl)) ?_; refine runL_yes rfl rfl hgd ?_; refine xel rfl (ev_loadK rfl rfl (sc rfl) (memF (.tail _ (.head _))) rfl) ?_; refine runL_yes rfl rfl hgd ?_; refine xep rfl rfl ?_; refine runL_yes rfl rfl hge ?_; refine xel rfl (ev_fieldAddr rfl rfl (fo rfl)) ?_; refine runL_yes rfl rfl hge ?_; refine xel rfl (ev_loadK rfl rfl (sc rfl) (memF (.tail _ (.head _))) rfl) ?_; refine runL_yes rfl rfl hge ?_; refine xep rfl rfl ?_; refine runL_yes rfl rfl hgd ?_; refine xep rfl rfl ?_; refine runL_yes rfl rfl hgd ?_; refine xep rfl rfl ?_)
        clear hgd hge
        have hge : decide (xe = 0) = false := decide_eq_false he
        have hgd : (!decide (xe = 0)) = true := by rw [hge]; rfl
        have y1 : true = true := rfl
        have y2 : false = false := rfl
        ((iterate 3 refine runL_no rfl rfl rfl rfl hgd rfl rfl ?_); refine runL_yes rfl rfl y1 ?_; refine xel rfl (ev_pickT rfl rfl hgd rfl) ?_; refine runL_yes rfl rfl y1 ?_; refine xep rfl rfl ?_; (iterate 2 refine runL_no rfl rfl rfl rfl y1 rfl rfl ?_); refine runL_yes rfl rfl y1 ?_)
        clear hgd
        have hgd : true = true := rfl
        (refine xel rfl (ev_pickT rfl rfl hgd rfl) ?_; (iterate 2 refine xep rfl rfl ?_); refine runL_yes rfl rfl hgd ?_; refine xel rfl (ev_callQ rfl rfl rfl (pf rfl) (q3 ..)) ?_; (iterate 2 refine xep rfl rfl ?_); refine runL_nil ?_; refine then_normal ?_; refine run_ret ?_)
        first | exact ⟨_, rfl, [], _, rfl, fun y => rfl⟩ | exact ⟨_, rfl, [], _, congrArg Value.bool (by simp_all), fun y => rfl⟩
  · have d1 : decide ((kO r).kind = 1) = false := by rw [hk]; rfl
    have d2 : decide ((kO r).kind = 2) = true := by rw [hk]; rfl
    have d3 : decide ((kO r).kind = 3) = false := by rw [hk]; rfl
    have d4 : decide ((kO r).kind = 4) = false := by rw [hk]; rfl
    have d5 : decide ((kO r).kind = 5) = false := by rw [hk]; rfl
    obtain ⟨hx, he⟩ := kp.1 (by omega)
    subst hx
    clear kp rt
    refine run_condT rfl d2 ?_
    (refine run_skip ?_; refine then_normal ?_)
    refine run_condT rfl d2 ?_
    rcases he with he | he
    all_goals subst he
    · have hgd : true = true := rfl
      have hge : false = false := rfl
      (refine run_seq ?_; refine run_region ?_; refine xel rfl (ev_fieldAddr rfl rfl (fo rfl)) ?_; refine xel rfl (ev_loadK rfl rfl (sc rfl) (memF (.tail _ (.head _))) rfl) ?_; (iterate 2 refine xep rfl rfl ?_); refine runL_yes rfl rfl hgd ?_; refine xel rfl (ev_fieldAddr rfl rfl (fo rfl)) ?_; refine runL_yes rfl rfl hgd ?_; refine xel rfl (ev_loadK rfl rfl (sc rfl) (memF (.tail _ (.head _))) rfl) ?_; refine runL_yes rfl rfl hgd ?_; refine xep rfl rfl ?_; refine runL_yes rfl rfl hgd ?_; refine xep rfl rfl ?_; (iterate 3 refine runL_no rfl rfl rfl rfl hgd rfl rfl ?_); refine runL_yes rfl rfl hgd ?_; refine xel rfl (ev_pickT rfl rfl hgd rfl) ?_; (iterate 2 refine xep rfl rfl ?_); refine runL_yes rfl rfl hgd ?_; refine xel rfl (ev_callQ rfl rfl rfl (pf rfl) (q3 ..)) ?_; (iterate 2 refine xep rfl rfl ?_); refine runL_nil ?_; refine then_normal ?_; refine run_ret ?_; refine in_ret ?_; refine then_ret ?_)
      first | exact ⟨_, rfl, [], _, rfl, fun y => rfl⟩ | exact ⟨_, rfl, [], _, congrArg Value.bool (by simp_all), fun y => rfl⟩
    · have hgd : true = true := rfl
      have hge : false = false := rfl
      (refine run_seq ?_; refine run_region ?_; refine xel rfl (ev_fieldAddr rfl rfl (fo rfl)) ?_; refine xel rfl (ev_loadK rfl rfl (sc rfl) (memF (.tail _ (.head _))) rfl) ?_; (iterate 2 refine xep rfl rfl ?_); refine runL_yes rfl rfl hgd ?_; refine xel rfl (ev_fieldAddr rfl rfl (fo rfl)) ?_; refine runL_yes rfl rfl hgd ?_; refine xel rfl (ev_loadK rfl rfl (sc rfl) (memF (.tail _ (.head _))) rfl) ?_; refine runL_yes rfl rfl hgd ?_; refine xep rfl rfl ?_; refine runL_yes rfl rfl hgd ?_; refine xep rfl rfl ?_; refine runL_yes rfl rfl hge ?_; refine xel rfl (ev_fieldAddr rfl rfl (fo rfl)) ?_; refine runL_yes rfl rfl hge ?_; refine xel rfl (ev_loadK rfl rfl (sc rfl) (memF (.tail _ (.head _))) rfl) ?_; refine runL_yes rfl rfl hge ?_; refine xep rfl rfl ?_; refine runL_yes rfl rfl hgd ?_; (iterate 3 refine xep rfl rfl ?_); refine runL_yes rfl rfl hgd ?_; refine xel rfl (ev_callQ rfl rfl rfl (pf rfl) (q3 ..)) ?_; (iterate 2 refine xep rfl rfl ?_); refine runL_nil ?_; refine then_normal ?_; refine run_ret ?_; refine in_ret ?_; refine then_ret ?_)
      first | exact ⟨_, rfl, [], _, rfl, fun y => rfl⟩ | exact ⟨_, rfl, [], _, congrArg Value.bool (by simp_all), fun y => rfl⟩
  · have d1 : decide ((kO r).kind = 1) = false := by rw [hk]; rfl
    have d2 : decide ((kO r).kind = 2) = false := by rw [hk]; rfl
    have d3 : decide ((kO r).kind = 3) = true := by rw [hk]; rfl
    have d4 : decide ((kO r).kind = 4) = false := by rw [hk]; rfl
    have d5 : decide ((kO r).kind = 5) = false := by rw [hk]; rfl
    obtain ⟨hx, he⟩ := kp.1 (by omega)
    subst hx
    clear kp rt
    refine run_condF rfl d2 ?_
    (refine run_region ?_; (iterate 2 refine xep rfl rfl ?_); refine runL_nil ?_; refine then_normal ?_)
    refine run_condT rfl d3 ?_
    rcases he with he | he
    all_goals subst he
    · have hgd : true = true := rfl
      have hge : false = false := rfl
      (refine run_seq ?_; refine run_region ?_; refine xel rfl (ev_fieldAddr rfl rfl (fo rfl)) ?_; refine xel rfl (ev_loadK rfl rfl (sc rfl) (memF (.tail _ (.head _))) rfl) ?_; (iterate 2 refine xep rfl rfl ?_); refine runL_yes rfl rfl hgd ?_; refine xel rfl (ev_fieldAddr rfl rfl (fo rfl)) ?_; refine runL_yes rfl rfl hgd ?_; refine xel rfl (ev_loadK rfl rfl (sc rfl) (memF (.tail _ (.head _))) rfl) ?_; refine runL_yes rfl rfl hgd ?_; refine xep rfl rfl ?_; refine runL_yes rfl rfl hgd ?_; refine xep rfl rfl ?_; (iterate 3 refine runL_no rfl rfl rfl rfl hgd rfl rfl ?_); refine runL_yes rfl rfl hgd ?_; refine xel rfl (ev_pickT rfl rfl hgd rfl) ?_; (iterate 2 refine xep rfl rfl ?_); refine runL_yes rfl rfl hgd ?_; refine xel rfl (ev_callQ rfl rfl rfl (pf rfl) (q3 ..)) ?_; (iterate 2 refine xep rfl rfl ?_); refine runL_nil ?_; refine then_normal ?_; refine run_ret ?_; refine in_ret ?_; refine then_ret ?_)
      first | exact ⟨_, rfl, [], _, rfl, fun y => rfl⟩ | exact ⟨_, rfl, [], _, congrArg Value.bool (by simp_all), fun y => rfl⟩
    · have hgd : true = true := rfl
      have hge : false = false := rfl
      (refine run_seq ?_; refine run_region ?_; refine xel rfl (ev_fieldAddr rfl rfl (fo rfl)) ?_; refine xel rfl (ev_loadK rfl rfl (sc rfl) (memF (.tail _ (.head _))) rfl) ?_; (iterate 2 refine xep rfl rfl ?_); refine runL_yes rfl rfl hgd ?_; refine xel rfl (ev_fieldAddr rfl rfl (fo rfl)) ?_; refine runL_yes rfl rfl hgd ?_; refine xel rfl (ev_loadK rfl rfl (sc rfl) (memF (.tail _ (.head _))) rfl) ?_; refine runL_yes rfl rfl hgd ?_; refine xep rfl rfl ?_; refine runL_yes rfl rfl hgd ?_; refine xep rfl rfl ?_; refine runL_yes rfl rfl hge ?_; refine xel rfl (ev_fieldAddr rfl rfl (fo rfl)) ?_; refine runL_yes rfl rfl hge ?_; refine xel rfl (ev_loadK rfl rfl (sc rfl) (memF (.tail _ (.head _))) rfl) ?_; refine runL_yes rfl rfl hge ?_; refine xep rfl rfl ?_; refine runL_yes rfl rfl hgd ?_; (iterate 3 refine xep rfl rfl ?_); refine runL_yes rfl rfl hgd ?_; refine xel rfl (ev_callQ rfl rfl rfl (pf rfl) (q3 ..)) ?_; (iterate 2 refine xep rfl rfl ?_); refine runL_nil ?_; refine then_normal ?_; refine run_ret ?_; refine in_ret ?_; refine then_ret ?_)
      first | exact ⟨_, rfl, [], _, rfl, fun y => rfl⟩ | exact ⟨_, rfl, [], _, congrArg Value.bool (by simp_all), fun y => rfl⟩
  · have d1 : decide ((kO r).kind = 1) = false := by rw [hk]; rfl
    have d2 : decide ((kO r).kind = 2) = false := by rw [hk]; rfl
    have d3 : decide ((kO r).kind = 3) = false := by rw [hk]; rfl
    have d4 : decide ((kO r).kind = 4) = true := by rw [hk]; rfl
    have d5 : decide ((kO r).kind = 5) = false := by rw [hk]; rfl
    refine run_condF rfl d2 ?_
    (refine run_region ?_; (iterate 2 refine xep rfl rfl ?_); refine runL_nil ?_; refine then_normal ?_)
    refine run_condF rfl d3 ?_
    (refine run_seq ?_; refine run_region ?_; (iterate 2 refine xep rfl rfl ?_); refine runL_nil ?_; refine then_normal ?_)
    refine run_condT rfl d4 ?_
    obtain ⟨hx, he⟩ := kp.2.1 hk
    subst hx
    clear kp rt
    rcases he with ⟨h1, h2⟩ | ⟨he, h2⟩
    · subst h1 h2
      have hgd : true = true := rfl
      have hge : false = false := rfl
      (refine run_seq ?_; refine run_region ?_; refine xel rfl (ev_fieldAddr rfl rfl (fo rfl)) ?_; refine xel rfl (ev_loadK rfl rfl (sc rfl) (memF (.tail _ (.head _))) rfl) ?_; (iterate 2 refine xep rfl rfl ?_); refine runL_yes rfl rfl hgd ?_; refine xel rfl (ev_fieldAddr rfl rfl (fo rfl)) ?_; refine runL_yes rfl rfl hgd ?_; refine xel rfl (ev_loadK rfl rfl (sc rfl) (memF (.tail _ (.head _))) rfl) ?_; refine runL_yes rfl rfl hgd ?_; refine xep rfl rfl ?_; refine runL_yes rfl rfl hgd ?_; refine xep rfl rfl ?_; refine runL_yes rfl rfl hgd ?_; refine xel rfl (ev_fieldAddr rfl rfl (fo rfl)) ?_; refine runL_yes rfl rfl hgd ?_; refine xel rfl (ev_loadK rfl rfl (sc rfl) (memF (.tail _ (.head _))) rfl) ?_; refine runL_yes rfl rfl hgd ?_; refine xep rfl rfl ?_; refine runL_yes rfl rfl hgd ?_; refine xep rfl rfl ?_; refine runL_yes rfl rfl hgd ?_; refine xep rfl rfl ?_; (iterate 4 refine runL_no rfl rfl rfl rfl hgd rfl rfl ?_); (iterate 4 refine runL_undef rfl rfl rfl rfl rfl rfl ?_); refine runL_no rfl rfl rfl rfl hgd rfl rfl ?_; refine runL_yes rfl rfl hgd ?_; refine xel rfl (ev_pickT rfl rfl hgd rfl) ?_; (iterate 2 refine xep rfl rfl ?_); refine runL_yes rfl rfl hgd ?_; refine xel rfl (ev_callQ rfl rfl rfl (pf rfl) (q3 ..)) ?_; (iterate 2 refine xep rfl rfl ?_); refine runL_nil ?_; refine then_normal ?_; refine run_ret ?_; refine in_ret ?_; refine then_ret ?_)
      first | exact ⟨_, rfl, [], _, rfl, fun y => rfl⟩ | exact ⟨_, rfl, [], _, congrArg Value.bool (by simp_all), fun y => rfl⟩
    · subst h2
      have hge : decide (xe = 0) = false := decide_eq_false he
      have hgd : (!decide (xe = 0)) = true := by rw [hge]; rfl
      have y1 : true = true := rfl
      have y2 : false = false := rfl
      (refine run_seq ?_; refine run_region ?_; refine xel rfl (ev_fieldAddr rfl rfl (fo rfl)) ?_; refine xel rfl (ev_loadK rfl rfl (sc rfl) (memF (.tail _ (.head _))) rfl) ?_; (iterate 2 refine xep rfl rfl ?_); refine runL_yes rfl rfl y1 ?_; refine xel rfl (ev_fieldAddr rfl rfl (fo rfl)) ?_; refine runL_yes rfl rfl y1 ?_; refine xel rfl (ev_loadK rfl rfl (sc rfl) (memF (.tail _ (.head _))) rfl) ?_; refine runL_yes rfl rfl y1 ?_; refine xep rfl rfl ?_; refine runL_yes rfl rfl y1 ?_; refine xep rfl rfl ?_; (iterate 3 refine runL_no rfl rfl rfl rfl hge rfl rfl ?_); refine runL_yes rfl rfl y1 ?_; refine xel rfl (ev_pickF rfl rfl hge rfl) ?_; refine runL_yes rfl rfl y1 ?_; refine xep rfl rfl ?_; refine runL_yes rfl rfl y2 ?_; refine xel rfl (ev_fieldAddr rfl rfl (fo rfl)) ?_; refine runL_yes rfl rfl y2 ?_; refine xel rfl (ev_loadK rfl rfl (sc rfl) (memF (.tail _ (.head _))) rfl) ?_; refine runL_yes rfl rfl y2 ?_; refine xep rfl rfl ?_; refine runL_yes rfl rfl y2 ?_; refine xep rfl rfl ?_; refine runL_yes rfl rfl hgd ?_; refine xel rfl (ev_fieldAddr rfl rfl (fo rfl)) ?_; refine runL_yes rfl rfl hgd ?_; refine xel rfl (ev_loadK rfl rfl (sc rfl) (memF (.tail _ (.head _))) rfl) ?_; refine runL_yes rfl rfl hgd ?_; refine xel rfl (ev_len rfl rfl (se rfl)) ?_; refine runL_yes rfl rfl hgd ?_; refine xep rfl rfl ?_; refine runL_yes rfl rfl y2 ?_; refine xep rfl rfl ?_; refine runL_yes rfl rfl y1 ?_; (iterate 3 refine xep rfl rfl ?_); refine xgl rfl rfl (fun hq => ev_callQ rfl rfl rfl (pf rfl) (q3 ..)) ?_; (iterate 2 refine xep rfl rfl ?_); refine runL_nil ?_; refine then_normal ?_; refine run_ret ?_; refine in_ret ?_; refine then_ret ?_)
      first | exact ⟨_, rfl, [], _, rfl, fun y => rfl⟩ | exact ⟨_, rfl, [], _, congrArg Value.bool (by simp_all), fun y => rfl⟩
  · have d1 : decide ((kO r).kind = 1) = false := by rw [hk]; rfl
    have d2 : decide ((kO r).kind = 2) = false := by rw [hk]; rfl
    have d3 : decide ((kO r).kind = 3) = false := by rw [hk]; rfl
    have d4 : decide ((kO r).kind = 4) = false := by rw [hk]; rfl
    have d5 : decide ((kO r).kind = 5) = true := by rw [hk]; rfl
    refine run_condF rfl d2 ?_
    (refine run_region ?_; (iterate 2 refine xep rfl rfl ?_); refine runL_nil ?_; refine then_normal ?_)
    refine run_condF rfl d3 ?_
    (refine run_seq ?_; refine run_region ?_; (iterate 2 refine xep rfl rfl ?_); refine runL_nil ?_; refine then_normal ?_)
    refine run_condF rfl d4 ?_
    (refine run_seq ?_; refine run_region ?_; (iterate 2 refine xep rfl rfl ?_); refine runL_nil ?_; refine then_normal ?_)
    refine run_condT rfl d5 ?_
    obtain ⟨h1, h2⟩ := kp.2.2.1 hk
    clear kp rt
    subst h1
    by_cases he : xe = 0
    · subst he
      have h2 : xr = true := h2
      subst h2
      have hgd : true = true := rfl
      have hge : false = false := rfl
      (refine run_seq ?_; refine run_region ?_; refine xel rfl (ev_fieldAddr rfl rfl (fo rfl)) ?_; refine xel rfl (ev_loadK rfl rfl (sc rfl) (memF (.tail _ (.head _))) rfl) ?_; refine xel rfl (ev_len rfl rfl (se rfl)) ?_; (iterate 2 refine xep rfl rfl ?_); refine runL_yes rfl rfl hgd ?_; refine xel rfl (ev_fieldAddr rfl rfl (fo rfl)) ?_; refine runL_yes rfl rfl hgd ?_; refine xel rfl (ev_loadK rfl rfl (sc rfl) (memF (.tail _ (.head _))) rfl) ?_; refine runL_yes rfl rfl hgd ?_; refine xel rfl (ev_fieldAddr rfl rfl (fo rfl)) ?_; refine runL_yes rfl rfl hgd ?_; refine xel rfl (ev_loadK rfl rfl (sc rfl) (memF (.tail _ (.head _))) rfl) ?_; refine runL_yes rfl rfl hgd ?_; refine xep rfl rfl ?_; refine runL_yes rfl rfl hgd ?_; refine xel rfl (ev_eqB rfl rfl rfl (bt rfl)) ?_; (iterate 2 refine xep rfl rfl ?_); refine runL_yes rfl rfl hgd ?_; refine xel rfl (ev_callQ rfl rfl rfl (pf rfl) (q3 ..)) ?_; (iterate 2 refine xep rfl rfl ?_); refine runL_nil ?_; refine then_normal ?_; refine run_ret ?_; refine in_ret ?_; refine then_ret ?_)
      first | exact ⟨_, rfl, [], _, rfl, fun y => rfl⟩ | exact ⟨_, rfl, [], _, congrArg Value.bool (by simp_all), fun y => rfl⟩
    · rw [decide_eq_false he] at h2
      subst h2
      have hge : decide (xe = 0) = false := decide_eq_false he
      have hgd : (!decide (xe = 0)) = true := by rw [hge]; rfl
      have y1 : true = true := rfl
      have y2 : false = false := rfl
      (refine run_seq ?_; refine run_region ?_; refine xel rfl (ev_fieldAddr rfl rfl (fo rfl)) ?_; refine xel rfl (ev_loadK rfl rfl (sc rfl) (memF (.tail _ (.head _))) rfl) ?_; refine xel rfl (ev_len rfl rfl (se rfl)) ?_; (iterate 2 refine xep rfl rfl ?_); refine runL_yes rfl rfl y1 ?_; refine xel rfl (ev_fieldAddr rfl rfl (fo rfl)) ?_; refine runL_yes rfl rfl y1 ?_; refine xel rfl (ev_loadK rfl rfl (sc rfl) (memF (.tail _ (.head _))) rfl) ?_; refine runL_yes rfl rfl y1 ?_; refine xel rfl (ev_fieldAddr rfl rfl (fo rfl)) ?_; refine runL_yes rfl rfl y1 ?_; refine xel rfl (ev_loadK rfl rfl (sc rfl) (memF (.tail _ (.head _))) rfl) ?_; refine runL_yes rfl rfl y1 ?_; refine xep rfl rfl ?_; refine runL_yes rfl rfl y1 ?_; refine xel rfl (ev_eqB rfl rfl rfl (bt rfl)) ?_; (iterate 2 refine xep rfl rfl ?_); refine xgl rfl rfl (fun hq => ev_callQ rfl rfl rfl (pf rfl) (q3 ..)) ?_; (iterate 2 refine xep rfl rfl ?_); refine runL_nil ?_; refine then_normal ?_; refine run_ret ?_; refine in_ret ?_; refine then_ret ?_)
      first | exact ⟨_, rfl, [], _, rfl, fun y => rfl⟩ | exact ⟨_, rfl, [], _, congrArg Value.bool (by simp_all), fun y => rfl⟩
theorem bookKinds_sp (F : Heap) (a : Option Addr) (len cap : Nat) (rs : List (List Int)) (r : List Int) (hR : RowsF F a len 7 rs) (hC : len ≤ cap) (hM : cap ≤ 9223372036854775807) (hr7 : r.length = 7) (hz : ∀ z ∈ r, InI z) :
    Sp Try.prog F 4 [.slice a len cap, .agg ⟨ints r⟩] [] (Ret (.bool true)) := bookKinds_w F a len cap rs hR (by omega) r hr7
end Go.Proofs.Ytiilndlgfgikbaa
