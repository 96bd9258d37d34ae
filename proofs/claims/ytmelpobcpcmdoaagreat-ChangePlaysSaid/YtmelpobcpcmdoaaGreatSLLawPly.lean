/- Contracts of functions of the given program over its translation, each proved by walking its text; used by the laws' rows. It proves no given statement by itself. -/
import Derived.Test.YtmelpobcpcmdoaaGreatSLRMk5X
import Derived.Test.YtmelpobcpcmdoaaGreatSLStGX
import Derived.Test.YtmelpobcpcmdoaaGreatSLSlcCX
set_option autoImplicit false
set_option linter.unusedSectionVars false
set_option linter.unusedSimpArgs false
set_option linter.unusedVariables false
set_option maxRecDepth 4000
set_option maxHeartbeats 400000000
namespace Go.Proofs.YtmelpobcpcmdoaaGreat
open Go Go.SL Go.Proofs
variable [Base]
theorem ev_convW {P : Program} {F : Heap} {N : Nat} {fr : Slots} {cs : Conds} {h : Heap} {o : Oper} {s d : TypeId} {x : Operand} {k k' : IntKind} {u : TypeDesc} {a : Int} (ho : o.op = .convert s d x) (hx : evO fr x = some (.int k a)) (hs : P.underlying s = some u) (hd : P.underlying d = some (.int k')) :
    Ev P F N fr cs h o (.int k' (k'.wrap a)) := by
  refine Ev.of_run fun ac hf w _ => ?_
  simp [execOp, ho, hf.ev hx, convert, run_underlying hs, run_underlying hd, Conv.intToInt]
theorem changePlays_sp (F : Heap) (a : Option Addr) (len cap : Nat) (rs : List (List Int)) (hR : RowsF F a len 12 rs) (hC : len ≤ cap) (hM : cap ≤ 9223372036854775807) :
    Sp Tryz.prog F 3 [.slice a len cap] [] (Ret (.bool true)) := by
  have q3 := @changeRuns_sp
  refine sp_of_code Tryz.func3 rfl rfl ?_
  (refine run_seq ?_; refine run_region ?_; refine xep rfl rfl ?_; refine runL_nil ?_; refine then_normal ?_; refine run_seq ?_; refine run_region ?_)
  refine runL_call0 rfl rfl rfl rfl rfl rfl rfl (pf rfl) (sp_snew _) ?_
  rintro v H0 ⟨m, rfl, hH0⟩
  skip
  refine runL_callZ H0 [] rfl rfl rfl rfl rfl rfl rfl (pf rfl) (fun x => by (first | rfl | (simp only [List.append_eq, cnt_append, cnt_cons, cnt_nil, blk]; omega) | (simp only [List.append_eq, cnt_append, cnt_cons, cnt_nil, blk]; done))) (sp_rnew _) ?_
  rintro v R0 ⟨w, rfl, hR0⟩
  have hge : (Option.isNone (some (⟨m, 0, none⟩ : Addr))) = false := rfl
  ((iterate 2 refine xep rfl rfl ?_); refine runL_nil ?_; refine then_normal ?_; (iterate 2 refine run_seq ?_); refine run_region ?_; refine xep rfl rfl ?_; refine xel rfl (ev_eqNil rfl rfl rfl (pt rfl)) ?_; refine runL_nil ?_; refine then_normal ?_)
  refine run_condF rfl rfl ?_
  clear hge
  (refine run_skip ?_; refine then_normal ?_; (iterate 2 refine run_seq ?_); refine run_region ?_; refine xep rfl rfl ?_; refine runL_nil ?_; refine then_normal ?_; refine run_block ?_)
  refine run_loopK (σ := Nat × Mk × Heap × Heap) [0, 3, 4, 5] (fun s => [(0, .slice a len cap), (3, .pointer (some ⟨m, 0, none⟩)), (4, .pointer (some ⟨w, 0, none⟩)), (5, .int .i64 s.1)])
    (fun s => s.2.2.1 ++ s.2.2.2) (fun s => s.1 ≤ len ∧ s.1 ≤ 60 ∧ MkH m s.2.1 s.2.2.1 ∧ RmH w s.2.1 s.2.2.2 ∧ PlOk s.1 s.2.1) (fun s => 60 - s.1)
    (0, emptyM, H0, R0) ⟨Nat.zero_le _, Nat.zero_le _, hH0, hR0, PlOk.empty⟩ rfl (fun x => by (first | rfl | (simp only [List.append_eq, cnt_append, cnt_cons, cnt_nil, blk]; omega) | (simp only [List.append_eq, cnt_append, cnt_cons, cnt_nil, blk]; done))) ?_
  clear hH0 hR0 H0 R0
  rintro ⟨i, M, H, R⟩ ⟨g1, g2, hH, hRm, hpl⟩
  dsimp only at g1 g2 hH hRm hpl ⊢
  have hgd : true = true := rfl
  ((iterate 2 refine run_seq ?_); refine run_region ?_; (iterate 2 refine xep rfl rfl ?_); refine xel rfl (ev_len rfl rfl (se rfl)) ?_; (iterate 2 refine xep rfl rfl ?_); (iterate 2 refine xgp rfl rfl rfl ?_); refine xep rfl rfl ?_; refine runL_nil ?_; refine then_normal ?_)
  (refine run_cond rfl (fun hc => ?_) (fun hc => ?_) <;> (try simp only [z0, z1, z2, z3, z4, z5, z6, z7, z8, z9, Bool.not_true, Bool.not_false, Bool.false_or, Bool.true_and, true_and, and_true, false_or, or_false, reduceCtorEq, Bool.false_eq_true] at hc))
  · obtain ⟨zb, off, rfl⟩ := hR.pos (by omega)
    obtain ⟨r, hr, hrl, hrI, l1⟩ := RowsF.cell hR (i := i) (by omega)
    match r, hrl with
    | [kd, qa, qb, qc, qd, n0, n1, n2, n3, n4, n5, n6], _ =>
    have hqa := hrI qa (by simp)
    have hqb := hrI qb (by simp)
    have hqc := hrI qc (by simp)
    have hqd := hrI qd (by simp)
    have hno := hpl.no
    have hw := hpl.w
    have hl64 := hw.len
    (refine run_skip ?_; refine then_normal ?_; refine run_seq ?_; refine run_block ?_; refine run_seq ?_; refine run_region ?_; (iterate 2 refine xep rfl rfl ?_); refine xel rfl (ev_indexAddr rfl rfl rfl (se rfl) (by omega) (by omega)) ?_; refine xel rfl (ev_loadAF rfl rfl (ag rfl) (sz rfl) l1 rfl) ?_; refine runL_alloc rfl rfl rfl rfl rfl ze30 (fun _ => ?_); refine runL_store0 rfl rfl rfl rfl rfl (sz rfl) rfl rfl rfl rfl rfl ?_; refine runL_nil ?_; refine then_normal ?_; refine run_seq ?_; refine run_region ?_; refine xep rfl rfl ?_; refine runL_nil ?_; refine then_normal ?_; (iterate 2 refine run_seq ?_); refine run_region ?_; refine xel rfl (ev_fieldAddr rfl rfl (fo rfl)) ?_; refine xel rfl (ev_loadK rfl rfl (sc rfl) (memF (.head _)) rfl) ?_; refine runL_nil ?_; refine then_normal ?_; refine run_block ?_; refine run_seq ?_; refine run_region ?_; (iterate 2 refine xep rfl rfl ?_); refine runL_nil ?_; refine then_normal ?_)
    rename_i b6
    refine run_midO (σ := Mk × Heap × Heap) [0, 3, 4, 5, 6] (fun _ => [(7, .bool true)]) (fun s => blk b6 (ints [kd, qa, qb, qc, qd, n0, n1, n2, n3, n4, n5, n6]) 30 :: (s.2.1 ++ s.2.2)) (fun s => MkH m s.1 s.2.1 ∧ RmH w s.1 s.2.2 ∧ PlOk (i + 1) s.1) rfl ?_ ?_
    · (refine run_cond rfl (fun hc => ?_) (fun hc => ?_) <;> (try simp only [z0, z1, z2, z3, z4, z5, z6, z7, z8, z9, Bool.not_true, Bool.not_false, Bool.false_or, Bool.true_and, true_and, and_true, false_or, or_false, reduceCtorEq, Bool.false_eq_true] at hc))
      · have hkr := (kS_right [n0, n1, n2, n3, n4, n5, n6]).1
        have q1 := fun F => sp_kStop F [n0, n1, n2, n3, n4, n5, n6] rfl
        have cA := fun G => sp_sadd G H m M hH hw (by omega) (kS [n0, n1, n2, n3, n4, n5, n6]) (okP_kind (okP_right hkr))
        have cB := fun G => sp_rmadd G R w M hRm hw (by omega) (kS [n0, n1, n2, n3, n4, n5, n6]) (okP_kind (okP_right hkr))
        have hfs := madd_fs (o := kS [n0, n1, n2, n3, n4, n5, n6]) hw
        have hpl2 := hpl.add (kS [n0, n1, n2, n3, n4, n5, n6])
        generalize kS [n0, n1, n2, n3, n4, n5, n6] = o at *
        generalize madd o M = X at *
        refine RunC.perm (h' := (H ++ R) ++ [blk b6 (ints [kd, qa, qb, qc, qd, n0, n1, n2, n3, n4, n5, n6]) 30]) (fun x => by simp only [List.append_eq, cnt_append, cnt_cons, cnt_nil, blk, ints, List.map]; omega) ?_
        refine RunC.freezeR ?_
        have l0 : AggF ([blk b6 (ints [kd, qa, qb, qc, qd, n0, n1, n2, n3, n4, n5, n6]) 30] ++ F) b6 0 (ints [kd, qa, qb, qc, qd, n0, n1, n2, n3, n4, n5, n6]) := ⟨_, _, _, memF (.head _), by simp [ints], rfl⟩
        have l1 := l0.sub (j := 5) (n := 7) (l' := ints [n0, n1, n2, n3, n4, n5, n6]) rfl
        skip
        refine run_region_D mo ?_
        (refine runD_q 0 rfl rfl (by kernel_rfl) ?_; refine ⟨_, fun _ => ev_pure rfl, ?_⟩; refine runD_q 1 rfl rfl (by kernel_rfl) ?_; refine ⟨_, fun _ => ev_fieldAddr rfl rfl (fo rfl), ?_⟩; refine runD_q 2 rfl rfl (by kernel_rfl) ?_; refine ⟨_, fun _ => ev_loadAK rfl rfl (ag rfl) (sz rfl) (memR (memF (.head _))) rfl, ?_⟩; refine runD_q 3 rfl rfl (by kernel_rfl) ?_; refine ⟨_, fun _ => ev_callQ rfl rfl rfl (pf rfl) (q1 ..), ?_⟩; refine runD_q 5 rfl rfl (by kernel_rfl) ?_; refine ⟨_, fun _ => ev_pure rfl, ?_⟩; refine runD_q 6 rfl rfl (by kernel_rfl) ?_; refine ⟨_, fun _ => ev_fieldAddr rfl rfl (fo rfl), ?_⟩; refine runD_q 7 rfl rfl (by kernel_rfl) ?_; refine ⟨_, fun _ => ev_loadAK rfl rfl (ag rfl) (sz rfl) (memR (memF (.head _))) rfl, ?_⟩; refine runD_1 4 (by kernel_rfl) rfl rfl rfl ?_)
        refine runL_callZ R H rfl rfl rfl rfl rfl rfl rfl (pf rfl) (fun x => by (first | rfl | (simp only [List.append_eq, cnt_append, cnt_cons, cnt_nil, blk]; omega) | (simp only [List.append_eq, cnt_append, cnt_cons, cnt_nil, blk]; done))) (cA _) ?_
        rintro v _ ⟨a1, c1, ts1, A1, F1, H2, rfl, hts1, htl1, own1, hF1, hH2, rfl⟩
        (refine runL_nil ?_; refine endS_d rfl ?_; refine runD_q 8 rfl rfl (by kernel_rfl) ?_; refine ⟨_, fun _ => ev_callQ rfl rfl rfl (pf rfl) (q1 ..), ?_⟩; refine runD_1 9 (by kernel_rfl) rfl rfl rfl ?_)
        refine runL_callZ (H2 ++ A1 ++ F1) R rfl rfl rfl rfl rfl rfl rfl (pf rfl) (fun x => by (first | rfl | (simp only [List.append_eq, cnt_append, cnt_cons, cnt_nil, blk]; omega) | (simp only [List.append_eq, cnt_append, cnt_cons, cnt_nil, blk]; done))) (cB _) ?_
        rintro v _ ⟨a2, c2, ts2, A2, F2, R2, rfl, hts2, htl2, own2, hF2, hR2, rfl⟩
        have hlen : ts2.length = ts1.length := by
          have h1 := congrArg List.length hts1
          have h2 := congrArg List.length hts2
          rw [List.length_map] at h1 h2
          omega
        rw [hlen] at own2 ⊢
        have hl1 : ∀ t ∈ ts1, t.2.fs.length ≤ 2097152 := fun t mt => hfs t.2 (by rw [← hts1]; exact List.mem_map_of_mem mt)
        (refine runL_nil ?_; refine endS_d rfl ?_; refine runD_1 10 (by kernel_rfl) rfl rfl rfl ?_)
        refine runL_ev rfl rfl rfl rfl (ev_callQ rfl rfl rfl (pf rfl) (sp_kOutcomes _ a1 a2 ts1.length c1 c2 ts1 ts2 rfl (by rw [hts1, hts2]) (by omega) (own1.src fun x mx => by simp only [List.mem_append, List.mem_cons, mx, true_or, or_true]) (own2.src fun x mx => by simp only [List.mem_append, List.mem_cons, mx, true_or, or_true]) (hF1.src fun x mx => by simp only [List.mem_append, List.mem_cons, mx, true_or, or_true]) (hF2.src fun x mx => by simp only [List.mem_append, List.mem_cons, mx, true_or, or_true]) hl1)) ?_
        (refine runL_nil ?_; refine endS_d rfl ?_; refine runD_q 11 rfl rfl (by kernel_rfl) ?_; refine ⟨_, fun _ => ev_pure rfl, ?_⟩; refine runD_done (by kernel_rfl) ?_)
        exact midN (X.2, H2, R2) (A1 ++ F1 ++ (A2 ++ F2)) ⟨hH2, hR2, hpl2⟩ rfl (fun x => by (first | rfl | (simp only [List.append_eq, cnt_append, cnt_cons, cnt_nil, blk]; omega) | (simp only [List.append_eq, cnt_append, cnt_cons, cnt_nil, blk]; done)))
      · (refine run_seq ?_; refine run_region ?_; (iterate 2 refine xep rfl rfl ?_); refine runL_nil ?_; refine then_normal ?_)
        (refine run_cond rfl (fun hc => ?_) (fun hc => ?_) <;> (try simp only [z0, z1, z2, z3, z4, z5, z6, z7, z8, z9, Bool.not_true, Bool.not_false, Bool.false_or, Bool.true_and, true_and, and_true, false_or, or_false, reduceCtorEq, Bool.false_eq_true] at hc))
        · have hkk := mfind_kind (t := qa) (i := qb) hw hpl.u hpl.r
          have cA := fun G => sp_amend G H m M hH hw (by omega) qa qb qc qd hqc hqd hkk
          have cB := fun G => sp_rmamend G R w M hRm hw hpl.u (by omega) qa qb qc qd hqc hqd hkk
          have hfs := amend_fs (t := qa) (i := qb) (p := qc) (q := qd) hpl
          have hpl2 := hpl.amend qa qb qc qd
          generalize mamend qa qb qc qd M = X at *
          refine RunC.perm (h' := blk b6 (ints [kd, qa, qb, qc, qd, n0, n1, n2, n3, n4, n5, n6]) 30 :: (H ++ R)) (fun x => rfl) ?_
          (refine run_seq ?_; refine run_region ?_; refine xep rfl rfl ?_; refine xel rfl (ev_fieldAddr rfl rfl (fo rfl)) ?_; refine xel rfl (ev_loadK rfl rfl (sc rfl) (memF (.head _)) rfl) ?_; refine xel rfl (ev_fieldAddr rfl rfl (fo rfl)) ?_; refine xel rfl (ev_loadK rfl rfl (sc rfl) (memF (.head _)) rfl) ?_; refine xel rfl (ev_fieldAddr rfl rfl (fo rfl)) ?_; refine xel rfl (ev_loadK rfl rfl (sc rfl) (memF (.head _)) rfl) ?_; refine xel rfl (ev_fieldAddr rfl rfl (fo rfl)) ?_; refine xel rfl (ev_loadK rfl rfl (sc rfl) (memF (.head _)) rfl) ?_)
          refine runL_callZ (blk b6 (ints [kd, qa, qb, qc, qd, n0, n1, n2, n3, n4, n5, n6]) 30 :: R) H rfl rfl rfl rfl rfl rfl rfl (pf rfl) (fun x => by (first | rfl | (simp only [List.append_eq, cnt_append, cnt_cons, cnt_nil, blk]; omega) | (simp only [List.append_eq, cnt_append, cnt_cons, cnt_nil, blk]; done))) (cA _) ?_
          rintro v _ ⟨a1, c1, ts1, A1, F1, H2, rfl, hts1, htl1, own1, hF1, hH2, rfl⟩
          ((iterate 5 refine xep rfl rfl ?_); refine runL_nil ?_; refine then_normal ?_; refine run_seq ?_; refine run_region ?_; refine xep rfl rfl ?_; refine xel rfl (ev_fieldAddr rfl rfl (fo rfl)) ?_; refine xel rfl (ev_loadK rfl rfl (sc rfl) (memF (.head _)) rfl) ?_; refine xel rfl (ev_fieldAddr rfl rfl (fo rfl)) ?_; refine xel rfl (ev_loadK rfl rfl (sc rfl) (memF (.head _)) rfl) ?_; refine xel rfl (ev_fieldAddr rfl rfl (fo rfl)) ?_; refine xel rfl (ev_loadK rfl rfl (sc rfl) (memF (.head _)) rfl) ?_; refine xel rfl (ev_fieldAddr rfl rfl (fo rfl)) ?_; refine xel rfl (ev_loadK rfl rfl (sc rfl) (memF (.head _)) rfl) ?_)
          refine runL_callZ (blk b6 (ints [kd, qa, qb, qc, qd, n0, n1, n2, n3, n4, n5, n6]) 30 :: (H2 ++ A1 ++ F1)) R rfl rfl rfl rfl rfl rfl rfl (pf rfl) (fun x => by (first | rfl | (simp only [List.append_eq, cnt_append, cnt_cons, cnt_nil, blk]; omega) | (simp only [List.append_eq, cnt_append, cnt_cons, cnt_nil, blk]; done))) (cB _) ?_
          rintro v _ ⟨a2, c2, ts2, A2, F2, R2, rfl, hts2, htl2, own2, hF2, hR2, rfl⟩
          have hlen : ts2.length = ts1.length := by
            have h1 := congrArg List.length hts1
            have h2 := congrArg List.length hts2
            rw [List.length_map] at h1 h2
            omega
          rw [hlen] at own2 ⊢
          have hl1 : ∀ t ∈ ts1, t.2.fs.length ≤ 2097152 := fun t mt => hfs t.2 (by rw [← hts1]; exact List.mem_map_of_mem mt)
          ((iterate 5 refine xep rfl rfl ?_); refine runL_nil ?_; refine then_normal ?_; refine run_region ?_; (iterate 2 refine xep rfl rfl ?_))
          refine runL_ev rfl rfl rfl rfl (ev_callQ rfl rfl rfl (pf rfl) (sp_kOutcomes _ a1 a2 ts1.length c1 c2 ts1 ts2 rfl (by rw [hts1, hts2]) (by omega) (own1.src fun x mx => by simp only [List.mem_append, List.mem_cons, mx, true_or, or_true]) (own2.src fun x mx => by simp only [List.mem_append, List.mem_cons, mx, true_or, or_true]) (hF1.src fun x mx => by simp only [List.mem_append, List.mem_cons, mx, true_or, or_true]) (hF2.src fun x mx => by simp only [List.mem_append, List.mem_cons, mx, true_or, or_true]) hl1)) ?_
          (refine xep rfl rfl ?_; refine runL_yes rfl rfl hgd ?_; refine xep rfl rfl ?_; refine runL_yes rfl rfl hgd ?_; refine xep rfl rfl ?_; refine runL_yes rfl rfl hgd ?_; (iterate 3 refine xep rfl rfl ?_); refine runL_nil ?_)
          exact midN (X.2.2, H2, R2) (A1 ++ F1 ++ (A2 ++ F2)) ⟨hH2, hR2, hpl2⟩ (by rw [decide_eq_true (rfl : X.2.1 = X.2.1)]; rfl) (fun x => by (first | rfl | (simp only [List.append_eq, cnt_append, cnt_cons, cnt_nil, blk]; omega) | (simp only [List.append_eq, cnt_append, cnt_cons, cnt_nil, blk]; done)))
        · (refine run_seq ?_; refine run_region ?_; (iterate 2 refine xep rfl rfl ?_); refine runL_nil ?_; refine then_normal ?_)
          (refine run_cond rfl (fun hc => ?_) (fun hc => ?_) <;> (try simp only [z0, z1, z2, z3, z4, z5, z6, z7, z8, z9, Bool.not_true, Bool.not_false, Bool.false_or, Bool.true_and, true_and, and_true, false_or, or_false, reduceCtorEq, Bool.false_eq_true] at hc))
          · have hpl2 := hpl.mass (tbit (IntKind.u64.wrap qa))
            have cA := fun G => sp_mass G H m M hH hw hpl.u hpl.r (IntKind.u64.wrap qa)
            have cB := fun G => sp_rmass G R w M hRm hw hpl.u hpl.r (IntKind.u64.wrap qa)
            have hml := mall_len M
            have hwl : (wentL (tbit (IntKind.u64.wrap qa)) (mall M)).length ≤ 64 := by
              have := List.length_filter_le (fun x : Ord => tbit (IntKind.u64.wrap qa) x.trader) (mall M)
              unfold wentL; omega
            refine RunC.perm (h' := (H ++ R) ++ [blk b6 (ints [kd, qa, qb, qc, qd, n0, n1, n2, n3, n4, n5, n6]) 30]) (fun x => by simp only [List.append_eq, cnt_append, cnt_cons, cnt_nil, blk, ints, List.map]; omega) ?_
            refine RunC.freezeR ?_
            have l0 : AggF ([blk b6 (ints [kd, qa, qb, qc, qd, n0, n1, n2, n3, n4, n5, n6]) 30] ++ F) b6 0 (ints [kd, qa, qb, qc, qd, n0, n1, n2, n3, n4, n5, n6]) := ⟨_, _, _, memF (.head _), by simp [ints], rfl⟩
            have l1 := l0.at 1 _ rfl
            skip
            refine run_region_D mo ?_
            (refine runD_q 0 rfl rfl (by kernel_rfl) ?_; refine ⟨_, fun _ => ev_pure rfl, ?_⟩; refine runD_q 1 rfl rfl (by kernel_rfl) ?_; refine ⟨_, fun _ => ev_fieldAddr rfl rfl (fo rfl), ?_⟩; refine runD_q 2 rfl rfl (by kernel_rfl) ?_; refine ⟨_, fun _ => ev_loadK rfl rfl (sc rfl) (memR (memF (.head _))) rfl, ?_⟩; refine runD_q 5 rfl rfl (by kernel_rfl) ?_; refine ⟨_, fun _ => ev_pure rfl, ?_⟩; refine runD_q 6 rfl rfl (by kernel_rfl) ?_; refine ⟨_, fun _ => ev_fieldAddr rfl rfl (fo rfl), ?_⟩; refine runD_q 7 rfl rfl (by kernel_rfl) ?_; refine ⟨_, fun _ => ev_loadK rfl rfl (sc rfl) (memR (memF (.head _))) rfl, ?_⟩)
            refine runD_q 3 rfl rfl (by kernel_rfl) ?_
            refine ⟨_, fun M => ev_convW (k' := .u64) (u := .int .i64) rfl rfl (by kernel_rfl) (by kernel_rfl), ?_⟩
            refine runD_q 8 rfl rfl (by kernel_rfl) ?_
            refine ⟨_, fun M => ev_convW (k' := .u64) (u := .int .i64) rfl rfl (by kernel_rfl) (by kernel_rfl), ?_⟩
            (refine runD_1 4 (by kernel_rfl) rfl rfl rfl ?_)
            refine runL_callZ R H rfl rfl rfl rfl rfl rfl rfl (pf rfl) (fun x => by (first | rfl | (simp only [List.append_eq, cnt_append, cnt_cons, cnt_nil, blk]; omega) | (simp only [List.append_eq, cnt_append, cnt_cons, cnt_nil, blk]; done))) (cA _) ?_
            rintro v _ ⟨a1, c1, A1, H2, rfl, own1, hH2, rfl⟩
            (refine runL_nil ?_; refine endS_d rfl ?_; refine runD_1 9 (by kernel_rfl) rfl rfl rfl ?_)
            refine runL_callZ (H2 ++ A1) R rfl rfl rfl rfl rfl rfl rfl (pf rfl) (fun x => by (first | rfl | (simp only [List.append_eq, cnt_append, cnt_cons, cnt_nil, blk]; omega) | (simp only [List.append_eq, cnt_append, cnt_cons, cnt_nil, blk]; done))) (cB _) ?_
            rintro v _ ⟨a2, c2, A2, R2, rfl, own2, hR2, rfl⟩
            (refine runL_nil ?_; refine endS_d rfl ?_; refine runD_1 10 (by kernel_rfl) rfl rfl rfl ?_)
            refine runL_ev rfl rfl rfl rfl (ev_callQ rfl rfl rfl (pf rfl) (sp_sameOrd _ a1 a2 (wentL (tbit (IntKind.u64.wrap qa)) (mall M)).length c1 c2 (wentL (tbit (IntKind.u64.wrap qa)) (mall M)) rfl (by omega) (own1.src fun x mx => by simp only [List.mem_append, List.mem_cons, mx, true_or, or_true]) (own2.src fun x mx => by simp only [List.mem_append, List.mem_cons, mx, true_or, or_true]))) ?_
            (refine runL_nil ?_; refine endS_d rfl ?_; refine runD_q 11 rfl rfl (by kernel_rfl) ?_; refine ⟨_, fun _ => ev_pure rfl, ?_⟩; refine runD_done (by kernel_rfl) ?_)
            exact midN (massM (tbit (IntKind.u64.wrap qa)) M (mall M), H2, R2) (A1 ++ A2) ⟨hH2, hR2, hpl2⟩ rfl (fun x => by (first | rfl | (simp only [List.append_eq, cnt_append, cnt_cons, cnt_nil, blk]; omega) | (simp only [List.append_eq, cnt_append, cnt_cons, cnt_nil, blk]; done)))
          · (refine run_skip ?_)
            exact midN (M, H, R) [] ⟨hH, hRm, hpl.same⟩ rfl (fun x => by simp only [List.append_eq, cnt_append, cnt_cons, cnt_nil, blk, ints, List.map]; omega)
    intro fr' h' hm
    (refine in_normal ?_; refine then_normal ?_)
    refine midN_out hm ?_
    clear hm
    rintro ⟨M2, H2, R2⟩ ⟨hH2, hR2, hpl2⟩
    dsimp only at hH2 hR2 hpl2 ⊢
    have hw2 := hpl2.w
    have hml2 := mall_len M2
    have hl2 := hw2.len
    obtain ⟨HH, hHH⟩ : ∃ HH, HH = blk b6 (ints [kd, qa, qb, qc, qd, n0, n1, n2, n3, n4, n5, n6]) 30 :: (H2 ++ R2) := ⟨_, rfl⟩
    rw [← hHH]
    have hM1 : MkIn (HH ++ F) m M2 := hH2.in fun x mx => by rw [hHH]; simp only [List.mem_append, List.mem_cons, mx, true_or, or_true]
    have hM2 : RmIn (HH ++ F) w M2 := hR2.in fun x mx => by rw [hHH]; simp only [List.mem_append, List.mem_cons, mx, true_or, or_true]
    refine run_seq ?_
    refine run_midO (σ := Unit) [0, 3, 4, 5] (fun _ => [(114, .bool false)]) (fun _ => HH) (fun _ => True) rfl ?_ ?_
    · refine RunC.perm (h' := [] ++ HH) (fun x => by (first | rfl | (simp only [List.append_eq, cnt_append, cnt_cons, cnt_nil, blk]; omega) | (simp only [List.append_eq, cnt_append, cnt_cons, cnt_nil, blk]; done))) ?_
      refine RunC.freezeR ?_
      have l0 : AggF (HH ++ F) b6 0 (ints [kd, qa, qb, qc, qd, n0, n1, n2, n3, n4, n5, n6]) := ⟨_, _, _, by rw [hHH]; exact memF (.head _), by simp [ints], rfl⟩
      have l1 := l0.at 1 _ rfl
      have q1 := fun G : Heap => sp_open (G ++ (HH ++ F)) m M2 hM1.up hw2 qa
      have q2 := fun G : Heap => sp_ropen (G ++ (HH ++ F)) w M2 hM2.up hw2 qa
      have y1 : (!true) = false := rfl
      have hge : (!true) = false := rfl
      refine run_region_D mo ?_
      (refine runD_q 0 rfl rfl (by kernel_rfl) ?_; refine ⟨_, fun _ => ev_pure rfl, ?_⟩; refine runD_q 1 rfl rfl (by kernel_rfl) ?_; refine ⟨_, fun _ => ev_pure rfl, ?_⟩; refine runD_q 2 rfl rfl (by kernel_rfl) ?_; refine ⟨_, fun _ => ev_pure rfl, ?_⟩; refine runD_gq 3 rfl rfl rfl rfl rfl rfl hge (by kernel_rfl) ?_; refine ⟨_, fun _ => ev_pure rfl, ?_⟩; refine runD_gq 5 rfl rfl rfl rfl rfl rfl hge (by kernel_rfl) ?_; refine ⟨_, fun _ => ev_pure rfl, ?_⟩; refine runD_g1 4 (by kernel_rfl) rfl rfl rfl rfl hge rfl rfl ?_)
      refine runL_callZ [] [] rfl rfl rfl rfl rfl rfl rfl (pf rfl) (fun y => by (first | rfl | (simp only [List.append_eq, cnt_append, cnt_cons, cnt_nil, blk]; omega) | (simp only [List.append_eq, cnt_append, cnt_cons, cnt_nil, blk]; done))) (sp_sall _ m M2 hM1.up hw2.b hw2.len) ?_
      rintro v A8 own8
      obtain ⟨a8, c8, rfl, own8⟩ := own8.at
      (refine runL_nil ?_; refine endS_d rfl ?_; refine runD_g1 6 (by kernel_rfl) rfl rfl rfl rfl hge rfl rfl ?_)
      refine runL_callZ A8 [] rfl rfl rfl rfl rfl rfl rfl (pf rfl) (fun y => by (first | rfl | (simp only [List.append_eq, cnt_append, cnt_cons, cnt_nil, blk]; omega) | (simp only [List.append_eq, cnt_append, cnt_cons, cnt_nil, blk]; done))) (sp_rall _ w M2 hM2.up hw2.b hw2.len) ?_
      rintro v A9 own9
      obtain ⟨a9, c9, rfl, own9⟩ := own9.at
      (refine runL_nil ?_; refine endS_d rfl ?_; refine runD_g1 7 (by kernel_rfl) rfl rfl rfl rfl hge rfl rfl ?_)
      refine runL_ev rfl rfl rfl rfl (ev_callQ rfl rfl rfl (pf rfl) (sp_sameOrd _ a8 a9 (mall M2).length c8 c9 (mall M2) rfl (by omega) (own8.src fun x mx => by simp only [List.mem_append, List.mem_cons, mx, true_or, or_true]) (own9.src fun x mx => by simp only [List.mem_append, List.mem_cons, mx, true_or, or_true]))) ?_
      (refine runL_nil ?_; refine endS_d rfl ?_; refine runD_gq 8 rfl rfl rfl rfl rfl rfl hge (by kernel_rfl) ?_; refine ⟨_, fun _ => ev_pure rfl, ?_⟩; refine runD_q 9 rfl rfl (by kernel_rfl) ?_; refine ⟨_, fun _ => ev_pure rfl, ?_⟩; refine runD_q 10 rfl rfl (by kernel_rfl) ?_; refine ⟨_, fun _ => ev_pure rfl, ?_⟩; refine runD_gq 11 rfl rfl rfl rfl rfl rfl hge (by kernel_rfl) ?_; refine ⟨_, fun _ => ev_pure rfl, ?_⟩; refine runD_gq 12 rfl rfl rfl rfl rfl rfl hge (by kernel_rfl) ?_; refine ⟨_, fun _ => ev_fieldAddr rfl rfl (fo rfl), ?_⟩; refine runD_gq 13 rfl rfl rfl rfl rfl rfl hge (by kernel_rfl) ?_; refine ⟨_, fun _ => ev_loadF rfl rfl (sc rfl) l1, ?_⟩; refine runD_gq 14 rfl rfl rfl rfl rfl rfl hge (by kernel_rfl) ?_; refine ⟨_, fun _ => ev_callQ rfl rfl rfl (pf rfl) (q1 ..), ?_⟩; refine runD_gq 15 rfl rfl rfl rfl rfl rfl hge (by kernel_rfl) ?_; refine ⟨_, fun _ => ev_pure rfl, ?_⟩; refine runD_gq 16 rfl rfl rfl rfl rfl rfl hge (by kernel_rfl) ?_; refine ⟨_, fun _ => ev_fieldAddr rfl rfl (fo rfl), ?_⟩; refine runD_gq 17 rfl rfl rfl rfl rfl rfl hge (by kernel_rfl) ?_; refine ⟨_, fun _ => ev_loadF rfl rfl (sc rfl) l1, ?_⟩; refine runD_gq 18 rfl rfl rfl rfl rfl rfl hge (by kernel_rfl) ?_; refine ⟨_, fun _ => ev_callQ rfl rfl rfl (pf rfl) (q2 ..), ?_⟩; refine runD_gq 19 rfl rfl rfl rfl rfl rfl hge (by kernel_rfl) ?_; refine ⟨_, fun _ => ev_pure rfl, ?_⟩; refine runD_q 20 rfl rfl (by kernel_rfl) ?_; refine ⟨_, fun _ => ev_pure rfl, ?_⟩; refine runD_done (by kernel_rfl) ?_)
      exact midN () (A8 ++ A9) trivial (by rw [decide_eq_true (rfl : openS qa (mall M2) = openS qa (mall M2))]; rfl) (fun x => by (first | rfl | (simp only [List.append_eq, cnt_append, cnt_cons, cnt_nil, blk]; omega) | (simp only [List.append_eq, cnt_append, cnt_cons, cnt_nil, blk]; done)))
    intro fr' h' hm
    (refine then_normal ?_)
    refine midN_out hm ?_
    clear hm
    rintro ⟨⟩ -
    refine run_condF rfl rfl ?_
    rw [hHH]
    (refine run_skip ?_; refine in_normal ?_; refine then_normal ?_; refine run_region ?_; refine xep rfl rfl ?_; refine xel rfl (ev_add rfl rfl rfl (by omega)) ?_; refine xep rfl rfl ?_; refine runL_nil ?_; refine then_normal ?_)
    exact ⟨(i + 1, M2, H2, R2), ⟨by show i + 1 ≤ len; omega, by show i + 1 ≤ 60; omega, hH2, hR2, hpl2⟩, by show 60 - (i + 1) < 60 - i; omega, rfl, [blk b6 (ints [kd, qa, qb, qc, qd, n0, n1, n2, n3, n4, n5, n6]) 30], fun x => by (first | rfl | (simp only [List.append_eq, cnt_append, cnt_cons, cnt_nil, blk]; omega) | (simp only [List.append_eq, cnt_append, cnt_cons, cnt_nil, blk]; done))⟩
  · (refine run_exit ?_; (iterate 2 refine then_exit ?_); refine in_exit ?_; refine then_normal ?_)
    (refine run_seq ?_; refine run_region ?_; refine xel rfl (ev_callQ rfl rfl rfl (pf rfl) (q3 ..)) ?_; refine xep rfl rfl ?_; refine runL_nil ?_; refine then_normal ?_; refine run_ret ?_)
    exact ⟨_, rfl, rfl⟩
end Go.Proofs.YtmelpobcpcmdoaaGreat
