/- Contracts of functions of the given program over its translation, each proved by walking its text; used by the laws' rows. It proves no given statement by itself. -/
import Derived.Test.YtlokkniepoeepaaSLPlSC
import Derived.Test.YtlokkniepoeepaaSLLaw11a
set_option autoImplicit false
set_option linter.unusedSectionVars false
set_option linter.unusedSimpArgs false
set_option linter.unusedVariables false
set_option maxRecDepth 4000
set_option maxHeartbeats 100000000
namespace Go.Proofs.Ytlokkniepoeepaa
open Go Go.SL Go.Proofs
variable [Base]
theorem FsH.src : ∀ {ts : List ((Option Addr × Nat) × Out)} {HF X : Heap}, FsH ts HF → (∀ x ∈ HF, x ∈ X) → ∀ t ∈ ts, SrcIs X t.1.1 t.2.fs.length 21 (rows fcell t.2.fs)
  | [], _, _, _, _, _, m => nomatch m
  | s :: r, _, X, ⟨A1, H2, h1, h2, e⟩, hX, t, m => by
    subst e
    rcases List.mem_cons.1 m with rfl | m
    · exact h1.src fun x mx => hX x (List.mem_append_left _ mx)
    · exact FsH.src h2 (fun x mx => hX x (List.mem_append_right _ mx)) t m
theorem stopsCounts_sp (F : Heap) (a : Option Addr) (len cap : Nat) (rs : List (List Int)) (hR : RowsF F a len 7 rs) (hC : len ≤ cap) (hM : cap ≤ 9223372036854775807) :
    Sp Try.prog F 6 [.slice a len cap] [] (Ret (.bool true)) := by
  have q3 := stopsRuns_sp
  have hrl := hR.1
  refine sp_of_code Try.func6 rfl rfl ?_
  (refine run_seq ?_; refine run_region ?_; refine xep rfl rfl ?_; refine runL_nil ?_; refine then_normal ?_; refine run_seq ?_; refine run_region ?_)
  refine runL_call0 rfl rfl rfl rfl rfl rfl rfl (pf rfl) (sp_snew _) ?_
  rintro v H0 ⟨m, rfl, hH0⟩
  (refine xep rfl rfl ?_; refine runL_nil ?_; refine then_normal ?_; (iterate 2 refine run_seq ?_); refine run_region ?_; refine xep rfl rfl ?_; refine xel rfl (ev_eqNil rfl rfl rfl (pt rfl)) ?_; refine runL_nil ?_; refine then_normal ?_)
  refine run_condF rfl rfl ?_
  (refine run_skip ?_; refine then_normal ?_; refine run_seq ?_; refine run_region ?_; (iterate 2 refine xep rfl rfl ?_); refine runL_nil ?_; refine then_normal ?_; (iterate 2 refine run_seq ?_); refine run_region ?_; refine xep rfl rfl ?_; refine runL_nil ?_; refine then_normal ?_; refine run_block ?_)
  refine run_loopK (σ := ((Nat × Mk) × Int × Int) × Heap) [0, 3, 4, 5, 6] (fun s => [(0, .slice a len cap), (3, .pointer (some ⟨m, 0, none⟩)), (4, .int .i64 s.1.2.1), (5, .int .i64 s.1.2.2), (6, .int .i64 s.1.1.1)]) (fun s => s.2)
    (fun s => s.1.1.1 ≤ len ∧ s.1.1.1 ≤ 60 ∧ MkH m s.1.1.2 s.2 ∧ MW s.1.1.2 ∧ Gd s.1.1.2.B ∧ s.1.1.2.B.no ≤ s.1.1.1 * 68157440 ∧ s.1.2.1 = s.1.2.2 + sumM s.1.1.2 ∧ 0 ≤ s.1.2.1 ∧ s.1.2.1 ≤ s.1.1.1 * 1048576 ∧ 0 ≤ s.1.2.2) (fun s => 60 - s.1.1.1) (((0, emptyM), 0, 0), H0) ⟨Nat.zero_le _, Nat.zero_le _, hH0, emptyM_ok, empty_Gd, by show (0 : Int) ≤ ((0 : Nat) : Int) * 68157440; decide, by rfl, by show (0 : Int) ≤ 0; decide, by show (0 : Int) ≤ ((0 : Nat) : Int) * 1048576; decide, by show (0 : Int) ≤ 0; decide⟩ rfl (fun x => by (first | rfl | (simp only [List.append_eq, cnt_append, cnt_cons, cnt_nil, blk]; omega) | (simp only [List.append_eq, cnt_append, cnt_cons, cnt_nil, blk]; done))) ?_
  rintro ⟨⟨⟨i, M⟩, came, gone⟩, H⟩ ⟨g1, g2, hH, hw, hg, hno, hsum, hc0, hc1, hg0⟩
  dsimp only at g1 g2 hH hw hg hno hsum hc0 hc1 hg0 ⊢
  ((iterate 2 refine run_seq ?_); refine run_region ?_; (iterate 2 refine xep rfl rfl ?_); refine xel rfl (ev_len rfl rfl (se rfl)) ?_; (iterate 2 refine xep rfl rfl ?_); (iterate 2 refine xgp rfl rfl rfl ?_); refine xep rfl rfl ?_; refine runL_nil ?_; refine then_normal ?_)
  (refine run_cond rfl (fun hc => ?_) (fun hc => ?_) <;> (try simp only [z0, z1, z2, z3, z4, z5, z6, z7, z8, z9, Bool.not_true, Bool.not_false, Bool.false_or, Bool.true_and, true_and, and_true, false_or, or_false, reduceCtorEq, Bool.false_eq_true] at hc))
  · obtain ⟨zb, off, rfl⟩ := hR.pos (by omega)
    obtain ⟨r, hr, hrl1, hrI, l1⟩ := RowsF.cell hR (i := i) (by omega)
    have q4 := fun F => sp_kStop F r hrl1
    have ko := (kS_right r).1
    generalize kS r = o at *
    have hkI : InI o.kind := by have h := ko; unfold rightP at h; unfold InI; omega
    have C := add_counts (o := o) hw hg ko
    have K := madd_ok (o := o) hw
    have cA := fun Y => sp_sadd Y H m M hH hw (by omega) o hkI
    generalize madd o M = X at *
    obtain ⟨outs, M2⟩ := X
    obtain ⟨C1, C2, C3⟩ := C
    obtain ⟨K1, K2, K3, K4⟩ := K
    dsimp only at C1 C2 C3 K1 K2 K3 K4 cA
    have hs2 : 0 ≤ sumM M2 := by
      have := (sumM_pos K1).1 (mall M2).length
      rw [List.take_length, sumM_all] at this; exact this.1
    have hcl := cameL_in C3
    (refine run_skip ?_; refine then_normal ?_; refine run_seq ?_; refine run_block ?_; refine run_seq ?_; refine run_region ?_; (iterate 3 refine xep rfl rfl ?_); refine xel rfl (ev_indexAddr rfl rfl rfl (se rfl) (by omega) (by omega)) ?_)
    refine runL_ev rfl rfl rfl rfl (ev_loadAF rfl rfl (ag rfl) (sz rfl) l1 (by rw [ints_len]; exact hrl1)) ?_
    (refine xel rfl (ev_callQ rfl rfl rfl (pf rfl) (q4 ..)) ?_)
    clear l1
    refine runL_callZ [] H rfl rfl rfl rfl rfl rfl rfl (pf rfl) (fun y => by (first | rfl | (simp only [List.append_eq, cnt_append, cnt_cons, cnt_nil, blk]; omega) | (simp only [List.append_eq, cnt_append, cnt_cons, cnt_nil, blk]; done))) (cA _) ?_
    rintro v _ ⟨ao, co, ts, A, HF, H2, rfl, hts, htl, own, hF, hH2, rfl⟩
    have htl2 : ts.length = outs.length := by rw [← hts, List.length_map]
    (refine xel rfl (ev_len rfl rfl (se rfl)) ?_)
    (refine xep rfl rfl ?_)
    refine runL_nil ?_
    (refine then_normal ?_)
    refine run_midO (σ := Unit) [0, 3, 6] (fun _ => [(4, .int .i64 (came + cameL outs)), (5, .int .i64 (gone + goneL true outs))]) (fun _ => H2) (fun _ => True) rfl ?_ ?_
    · refine RunC.freeze ?_
      have src := own.src (H := ([] ++ (H2 ++ A ++ HF)) ++ F) fun x mx => by simp only [List.mem_append, mx, true_or, or_true]
      have srcF := hF.src (X := ([] ++ (H2 ++ A ++ HF)) ++ F) fun x mx => by simp only [List.mem_append, mx, true_or, or_true]
      clear own hF
      generalize ([] ++ (H2 ++ A ++ HF)) ++ F = Y at *
      refine run_block ?_
      refine run_loopK (σ := Nat) [0, 3, 4, 5, 6, 33, 34, 35] (fun k => [(0, .slice (some ⟨zb, off, none⟩) len cap), (3, .pointer (some ⟨m, 0, none⟩)), (4, .int .i64 (came + if k = 0 then 0 else cameL outs)), (5, .int .i64 (gone + goneL true (outs.take k))), (6, .int .i64 i), (33, .slice ao ts.length co), (34, .int .i64 ts.length), (35, .int .i64 k)])
        (fun _ => []) (fun k => k ≤ ts.length) (fun k => ts.length - k) 0 (Nat.zero_le _) (by simp [goneL]; rfl) (fun _ => rfl) ?_
      intro k gk
      have hpt := goneL_part C3 true k
      (refine run_seq ?_; refine run_region ?_; refine xep rfl rfl ?_; refine runL_nil ?_; refine then_normal ?_; refine run_seq ?_)
      (refine run_cond rfl (fun hc => ?_) (fun hc => ?_) <;> (try simp only [z0, z1, z2, z3, z4, z5, z6, z7, z8, z9, Bool.not_true, Bool.not_false, Bool.false_or, Bool.true_and, true_and, and_true, false_or, or_false, reduceCtorEq, Bool.false_eq_true] at hc))
      · obtain ⟨b1, off1, _, _, _, rfl, _⟩ := src.pos (by omega)
        obtain ⟨⟨⟨a5, c5⟩, x⟩, ht⟩ : ∃ t, ts[k]? = some t := ⟨ts[k]'(by omega), List.getElem?_eq_getElem _⟩
        have l1 := SrcIs.row orow_len src rfl ht
        have hx : outs[k]? = some x := by rw [← hts, List.getElem?_map, ht]; rfl
        have hxo := C3 x (List.mem_of_getElem? hx)
        have sF := srcF _ (List.mem_of_getElem? ht)
        have hgt := goneL_take outs true k x hx
        have hpt2 := goneL_part C3 true (k + 1)
        have hxp := goneO_pos hxo (true && decide (k = 0))
        have hcx : k = 0 → cameL outs = cameO x := by
          intro e
          subst e
          cases outs with
          | nil => simp at hx
          | cons y l =>
            simp only [List.getElem?_cons_zero, Option.some.injEq] at hx
            subst hx; rfl
        dsimp only [orow] at l1 sF
        have ho1 := hxo.got
        have ho2 := hxo.left
        have ho3 := hxo.qty
        have ho4 := hxo.num
        (refine run_skip ?_; refine then_normal ?_; refine run_seq ?_; refine run_block ?_; refine run_seq ?_; refine run_region ?_; refine xep rfl rfl ?_; refine xel rfl (ev_indexAddr rfl rfl rfl (se rfl) (by omega) (by omega)) ?_; refine xel rfl (ev_loadAF rfl rfl (ag rfl) (sz rfl) l1 rfl) ?_; refine runL_alloc rfl rfl rfl rfl rfl ze32 (fun _ => ?_); refine xep rfl rfl ?_; refine runL_store0 rfl rfl rfl rfl rfl (sz rfl) rfl rfl rfl rfl rfl ?_; refine runL_nil ?_; refine then_normal ?_; (iterate 2 refine run_seq ?_); refine run_region ?_; (iterate 3 refine xep rfl rfl ?_); refine xgl rfl rfl (fun hq => ev_fieldAddr rfl rfl (fo rfl)) ?_; refine xgl rfl rfl (fun hq => ev_loadK rfl rfl (sc rfl) (memF (.head _)) rfl) ?_; refine xgp rfl rfl rfl ?_; refine xep rfl rfl ?_; refine runL_nil ?_; refine then_normal ?_)
        rename_i x8
        refine RunC.perm (h' := [blk x8 (outV a5 c5 x) 32]) (fun y => rfl) ?_
        refine run_midO (σ := Unit) [0, 3, 5, 6, 7, 8, 33, 34, 35] (fun _ => [(4, .int .i64 (came + cameL outs))]) (fun _ => [blk x8 (outV a5 c5 x) 32]) (fun _ => True) rfl ?_ ?_
        · by_cases hc : k = 0 ∧ x.err = 0
          · have e1 : cameL outs = x.order.qty := by rw [hcx hc.1]; unfold cameO; rw [if_pos hc.2]
            have e2 : came + (if k = 0 then 0 else cameL outs) + x.order.qty = came + cameL outs := by rw [if_pos hc.1, e1]; omega
            refine run_condT rfl (by simp [hc.1, hc.2]) ?_
            rw [← e2]
            have e3 : 0 ≤ (if k = 0 then 0 else cameL outs) ∧ (if k = 0 then 0 else cameL outs) ≤ 1048576 := by split <;> omega
            generalize (if k = 0 then 0 else cameL outs) = w at *
            (refine run_region ?_; refine xep rfl rfl ?_; (iterate 2 refine xel rfl (ev_fieldAddr rfl rfl (fo rfl)) ?_); refine xel rfl (ev_loadK rfl rfl (sc rfl) (memF (.head _)) rfl) ?_; refine xel rfl (ev_add rfl rfl rfl (by omega)) ?_; refine xep rfl rfl ?_; refine runL_nil ?_)
            exact midN () [] trivial rfl (fun x => by (first | rfl | (simp only [List.append_eq, cnt_append, cnt_cons, cnt_nil, blk]; omega) | (simp only [List.append_eq, cnt_append, cnt_cons, cnt_nil, blk]; done)))
          · have e2 : came + (if k = 0 then 0 else cameL outs) = came + cameL outs := by
              by_cases hk : k = 0
              · rw [if_pos hk, hcx hk]; unfold cameO; rw [if_neg (fun h => hc ⟨hk, h⟩)]
              · rw [if_neg hk]
            refine run_condF rfl (by
              rw [Bool.and_eq_false_iff, decide_eq_false_iff_not, decide_eq_false_iff_not]
              by_cases hk : k = 0
              · exact .inr fun h => hc ⟨hk, h⟩
              · exact .inl (by omega)) ?_
            rw [e2]
            (refine run_skip ?_)
            exact midN () [] trivial rfl (fun x => by (first | rfl | (simp only [List.append_eq, cnt_append, cnt_cons, cnt_nil, blk]; omega) | (simp only [List.append_eq, cnt_append, cnt_cons, cnt_nil, blk]; done)))
        · intro fr' h' hm
          (refine then_normal ?_)
          refine midN_out hm ?_
          clear hm
          rintro ⟨⟩ -
          ((iterate 2 refine run_seq ?_); refine run_region ?_; refine xel rfl (ev_fieldAddr rfl rfl (fo rfl)) ?_; refine xel rfl (ev_loadK rfl rfl (sc rfl) (memF (.head _)) rfl) ?_; refine xel rfl (ev_len rfl rfl (se rfl)) ?_; refine xep rfl rfl ?_; refine runL_nil ?_; refine then_normal ?_; refine run_block ?_)
          refine run_loopK (σ := Nat) [0, 3, 4, 5, 6, 7, 8, 33, 34, 35, 53, 54, 55] (fun j => [(0, .slice (some ⟨zb, off, none⟩) len cap), (3, .pointer (some ⟨m, 0, none⟩)), (4, .int .i64 (came + cameL outs)), (5, .int .i64 (gone + goneL true (outs.take k) + 2 * sumF (x.fs.take j))), (6, .int .i64 i), (7, .int .i64 k), (8, .pointer (some ⟨x8, 0, none⟩)), (33, .slice (some ⟨b1, off1, none⟩) ts.length co), (34, .int .i64 ts.length), (35, .int .i64 k), (53, .slice a5 x.fs.length c5), (54, .int .i64 x.fs.length), (55, .int .i64 j)])
            (fun _ => [blk x8 (outV a5 c5 x) 32]) (fun j => j ≤ x.fs.length) (fun j => x.fs.length - j) 0 (Nat.zero_le _) (by simp [sumF]; rfl) (fun _ => rfl) ?_
          intro j gj
          have hpf := hxo.part j
          (refine run_seq ?_; refine run_region ?_; refine xep rfl rfl ?_; refine runL_nil ?_; refine then_normal ?_; refine run_seq ?_)
          (refine run_cond rfl (fun hc => ?_) (fun hc => ?_) <;> (try simp only [z0, z1, z2, z3, z4, z5, z6, z7, z8, z9, Bool.not_true, Bool.not_false, Bool.false_or, Bool.true_and, true_and, and_true, false_or, or_false, reduceCtorEq, Bool.false_eq_true] at hc))
          · obtain ⟨b2, off2, _, _, _, rfl, _⟩ := sF.pos (by omega)
            obtain ⟨f, hf⟩ : ∃ f, x.fs[j]? = some f := ⟨x.fs[j]'(by omega), List.getElem?_eq_getElem _⟩
            have l2 := SrcIs.row fcell_len sF rfl hf
            have hfe := hxo.each f (List.mem_of_getElem? hf)
            have hst := sumF_take hf
            have hpf2 := hxo.part (j + 1)
            (refine run_skip ?_; refine then_normal ?_; refine run_seq ?_; refine run_block ?_; refine run_seq ?_; refine run_region ?_; refine xel rfl (ev_indexAddr rfl rfl rfl (se rfl) (by omega) (by omega)) ?_; refine xel rfl (ev_loadAF rfl rfl (ag rfl) (sz rfl) l2 rfl) ?_; refine runL_alloc rfl rfl rfl rfl rfl ze34 (fun _ => ?_); refine runL_store0 rfl rfl rfl rfl rfl (sz rfl) rfl rfl rfl rfl rfl ?_; refine runL_nil ?_; refine then_normal ?_; refine run_region ?_; refine xep rfl rfl ?_; refine xel rfl (ev_fieldAddr rfl rfl (fo rfl)) ?_; refine xel rfl (ev_loadK rfl rfl (sc rfl) (memF (.head _)) rfl) ?_; refine xel rfl (ev_mul rfl rfl rfl (by (first | assumption | omega))) ?_; refine xel rfl (ev_add rfl rfl rfl (by omega)) ?_; refine xep rfl rfl ?_; refine runL_nil ?_; refine in_normal ?_; refine then_normal ?_; refine run_region ?_; refine xel rfl (ev_add rfl rfl rfl (by omega)) ?_; refine xep rfl rfl ?_; refine runL_nil ?_; refine then_normal ?_)
            rename_i x10
            have e5 : gone + goneL true (outs.take k) + 2 * sumF (x.fs.take (j + 1)) = gone + goneL true (outs.take k) + 2 * sumF (x.fs.take j) + 2 * f.qty := by rw [hst]; omega
            exact ⟨j + 1, by show j + 1 ≤ _; omega, by show x.fs.length - (j + 1) < x.fs.length - j; omega, by rw [e5]; rfl, [blk x10 (fcell f) 34], fun y => by show cnt y (blk x10 (fcell f) 34 :: [blk x8 (outV (some ⟨b2, off2, none⟩) c5 x) 32]) = _; (first | rfl | (simp only [List.append_eq, cnt_append, cnt_cons, cnt_nil, blk]; omega) | (simp only [List.append_eq, cnt_append, cnt_cons, cnt_nil, blk]; done))⟩
          · (refine run_exit ?_; (iterate 2 refine then_exit ?_); refine in_exit ?_; refine then_normal ?_)
            have ej : x.fs.take j = x.fs := List.take_of_length_le (by omega)
            rw [ej]
            (refine run_seq ?_; refine run_region ?_; refine xel rfl (ev_fieldAddr rfl rfl (fo rfl)) ?_; refine xel rfl (ev_loadK rfl rfl (sc rfl) (memF (.head _)) rfl) ?_; (iterate 2 refine xep rfl rfl ?_); refine xgl rfl rfl (fun hq => ev_fieldAddr rfl rfl (fo rfl)) ?_; refine xgl rfl rfl (fun hq => ev_loadK rfl rfl (sc rfl) (memF (.head _)) rfl) ?_; refine xgp rfl rfl rfl ?_; (iterate 2 refine xep rfl rfl ?_); (iterate 3 refine xgp rfl rfl rfl ?_); refine xgl rfl rfl (fun hq => ev_fieldAddr rfl rfl (fo rfl)) ?_; refine xgl rfl rfl (fun hq => ev_loadK rfl rfl (sc rfl) (memF (.head _)) rfl) ?_; (iterate 2 refine xgp rfl rfl rfl ?_); refine xep rfl rfl ?_; refine runL_nil ?_; refine then_normal ?_)
            have e6 : (if k + 1 = 0 then 0 else cameL outs) = cameL outs := if_neg (Nat.succ_ne_zero k)
            by_cases hgo : x.rests = false ∧ x.waits = false ∧ (0 < k ∨ x.err = 0)
            · have e7 : gone + goneL true (outs.take (k + 1)) = gone + goneL true (outs.take k) + 2 * sumF x.fs + x.left := by
                rw [hgt]
                unfold goneO
                rw [if_pos ⟨hgo.1, hgo.2.1, by
                  rcases hgo.2.2 with h | h
                  · exact .inl (by simp; omega)
                  · exact .inr h⟩]
                omega
              refine run_condT rfl (by
                rw [hgo.1, hgo.2.1]
                rcases hgo.2.2 with h | h
                · rw [decide_eq_true (by omega : (0 : Int) < (k : Int))]; rfl
                · rw [decide_eq_true h]; simp) ?_
              (refine run_region ?_; refine xep rfl rfl ?_; refine xel rfl (ev_fieldAddr rfl rfl (fo rfl)) ?_; refine xel rfl (ev_loadK rfl rfl (sc rfl) (memF (.head _)) rfl) ?_; refine xel rfl (ev_add rfl rfl rfl (by omega)) ?_; refine xep rfl rfl ?_; refine runL_nil ?_; refine in_normal ?_; refine then_normal ?_; refine run_region ?_; refine xel rfl (ev_add rfl rfl rfl (by omega)) ?_; refine xep rfl rfl ?_; refine runL_nil ?_; refine then_normal ?_)
              exact ⟨k + 1, by show k + 1 ≤ _; omega, by show ts.length - (k + 1) < ts.length - k; omega, by rw [e6, e7]; rfl, [blk x8 (outV a5 c5 x) 32], fun y => by (first | rfl | (simp only [List.append_eq, cnt_append, cnt_cons, cnt_nil, blk]; omega) | (simp only [List.append_eq, cnt_append, cnt_cons, cnt_nil, blk]; done))⟩
            · have e7 : gone + goneL true (outs.take (k + 1)) = gone + goneL true (outs.take k) + 2 * sumF x.fs := by
                rw [hgt]
                unfold goneO
                rw [if_neg (fun h => hgo ⟨h.1, h.2.1, by
                  rcases h.2.2 with h | h
                  · exact .inl (by simp at h; omega)
                  · exact .inr h⟩)]
                omega
              refine run_condF rfl (by
                cases h1 : x.rests with
                | true => rfl
                | false =>
                  cases h2 : x.waits with
                  | true => rfl
                  | false =>
                    have h3 : ¬ (0 < k ∨ x.err = 0) := fun h => hgo ⟨h1, h2, h⟩
                    rw [decide_eq_false (by omega : ¬ (0 : Int) < (k : Int)), decide_eq_false (fun h => h3 (.inr h))]; rfl) ?_
              (refine run_skip ?_; refine in_normal ?_; refine then_normal ?_; refine run_region ?_; refine xel rfl (ev_add rfl rfl rfl (by omega)) ?_; refine xep rfl rfl ?_; refine runL_nil ?_; refine then_normal ?_)
              exact ⟨k + 1, by show k + 1 ≤ _; omega, by show ts.length - (k + 1) < ts.length - k; omega, by rw [e6, e7]; rfl, [blk x8 (outV a5 c5 x) 32], fun y => by (first | rfl | (simp only [List.append_eq, cnt_append, cnt_cons, cnt_nil, blk]; omega) | (simp only [List.append_eq, cnt_append, cnt_cons, cnt_nil, blk]; done))⟩
      · (refine run_exit ?_; (iterate 2 refine then_exit ?_); refine in_exit ?_)
        have ek : outs.take k = outs := List.take_of_length_le (by omega)
        have ec : (if k = 0 then 0 else cameL outs) = cameL outs := by
          split
          · have : outs = [] := List.length_eq_zero_iff.1 (by omega)
            subst this; rfl
          · rfl
        rw [ek, ec]
        exact midN () (A ++ HF) trivial rfl (fun x => by (first | rfl | (simp only [List.append_eq, cnt_append, cnt_cons, cnt_nil, blk]; omega) | (simp only [List.append_eq, cnt_append, cnt_cons, cnt_nil, blk]; done)))
    · intro fr' h' hm
      (refine in_normal ?_; refine then_normal ?_)
      refine midN_out hm ?_
      clear hm
      rintro ⟨⟩ -
      (refine run_region ?_; refine xep rfl rfl ?_; refine xel rfl (ev_add rfl rfl rfl (by omega)) ?_; refine xep rfl rfl ?_; refine runL_nil ?_; refine then_normal ?_)
      exact ⟨(((i + 1, M2), came + cameL outs, gone + goneL true outs), H2), ⟨by show i + 1 ≤ _; omega, by show i + 1 ≤ _; omega, hH2, K1, C1, by show M2.B.no ≤ ((i + 1 : Nat) : Int) * 68157440; omega, by show came + cameL outs = gone + goneL true outs + sumM M2; omega, by show 0 ≤ came + cameL outs; omega, by show came + cameL outs ≤ ((i + 1 : Nat) : Int) * 1048576; omega, by show 0 ≤ gone + goneL true outs; have := goneL_part C3 true outs.length; rw [List.take_length] at this; omega⟩, by show 60 - (i + 1) < 60 - i; omega, rfl, [], fun y => by (first | rfl | (simp only [List.append_eq, cnt_append, cnt_cons, cnt_nil, blk]; omega) | (simp only [List.append_eq, cnt_append, cnt_cons, cnt_nil, blk]; done))⟩
  · (refine run_exit ?_; (iterate 2 refine then_exit ?_); refine in_exit ?_; refine then_normal ?_)
    refine RunC.freeze ?_
    have hMi : MkIn (H ++ F) m M := hH.in fun x mx => by simp only [List.mem_append, mx, true_or, or_true]
    have hsp := sumM_pos hw
    have hml := mall_len M
    have hwl := hw.len
    (refine run_seq ?_; refine run_region ?_; refine xep rfl rfl ?_; refine runL_nil ?_; refine then_normal ?_; (iterate 2 refine run_seq ?_); refine run_region ?_; refine xep rfl rfl ?_)
    refine runL_callZ [] [] rfl rfl rfl rfl rfl rfl rfl (pf rfl) (fun y => by (first | rfl | (simp only [List.append_eq, cnt_append, cnt_cons, cnt_nil, blk]; omega) | (simp only [List.append_eq, cnt_append, cnt_cons, cnt_nil, blk]; done))) (sp_sall _ m M hMi.up hw.b hw.len) ?_
    rintro v A9 own9
    obtain ⟨a9, c9, rfl, own9⟩ := own9.at
    have hsa := sumM_all M
    generalize mall M = all at *
    (refine xel rfl (ev_len rfl rfl (se rfl)) ?_; refine xep rfl rfl ?_; refine runL_nil ?_; refine then_normal ?_; refine run_block ?_; refine RunC.whole rfl ?_)
    refine run_loopK (σ := Nat) [0, 3, 4, 5, 11, 88, 89, 90] (fun j => [(0, .slice a len cap), (3, .pointer (some ⟨m, 0, none⟩)), (4, .int .i64 came), (5, .int .i64 gone), (11, .int .i64 (sumO (all.take j))), (88, .slice a9 all.length c9), (89, .int .i64 all.length), (90, .int .i64 j)])
      (fun _ => A9) (fun j => j ≤ all.length) (fun j => all.length - j) 0 (Nat.zero_le _) rfl (fun x => by (first | rfl | (simp only [List.append_eq, cnt_append, cnt_cons, cnt_nil, blk]; omega) | (simp only [List.append_eq, cnt_append, cnt_cons, cnt_nil, blk]; done))) ?_
    intro j gj
    have hp1 := hsp.1 j
    have hp2 := hsp.1 (j + 1)
    (refine run_seq ?_; refine run_region ?_; refine xep rfl rfl ?_; refine runL_nil ?_; refine then_normal ?_; refine run_seq ?_)
    (refine run_cond rfl (fun hc => ?_) (fun hc => ?_) <;> (try simp only [z0, z1, z2, z3, z4, z5, z6, z7, z8, z9, Bool.not_true, Bool.not_false, Bool.false_or, Bool.true_and, true_and, and_true, false_or, or_false, reduceCtorEq, Bool.false_eq_true] at hc))
    · obtain ⟨b9, rest9, cap9, hv9, rfl, -, -, -⟩ := own9.pos (by omega)
      cases hv9
      obtain ⟨o, ho⟩ : ∃ o, all[j]? = some o := ⟨all[j]'(by omega), List.getElem?_eq_getElem _⟩
      have r1 : RowAt (rows Ord.cells all ++ rest9) (0 + (j : Int).toNat * 9) o.cells := by
        rw [Nat.zero_add]; exact rows_at oc_len ho rest9
      have hst := sumO_take ho
      have hoq := hsp.2 o (List.mem_of_getElem? ho)
      (refine run_skip ?_; refine then_normal ?_; refine run_seq ?_; refine run_block ?_; refine run_seq ?_; refine run_region ?_; refine xel rfl (ev_indexAddr rfl rfl rfl (se rfl) (by omega) (by omega)) ?_; refine xel rfl (ev_loadAR rfl rfl (ag rfl) (sz rfl) (memF (.head _)) r1 rfl) ?_; refine runL_alloc rfl rfl rfl rfl rfl ze27 (fun _ => ?_); refine runL_store0 rfl rfl rfl rfl rfl (sz rfl) rfl rfl rfl rfl rfl ?_; refine runL_nil ?_; refine then_normal ?_; refine run_region ?_; refine xep rfl rfl ?_; refine xel rfl (ev_fieldAddr rfl rfl (fo rfl)) ?_; refine xel rfl (ev_loadK rfl rfl (sc rfl) (memF (.head _)) rfl) ?_; refine xel rfl (ev_add rfl rfl rfl (by omega)) ?_; refine xep rfl rfl ?_; refine runL_nil ?_; refine in_normal ?_; refine then_normal ?_; refine run_region ?_; refine xel rfl (ev_add rfl rfl rfl (by omega)) ?_; refine xep rfl rfl ?_; refine runL_nil ?_; refine then_normal ?_)
      rename_i x13
      exact ⟨j + 1, by show j + 1 ≤ _; omega, by show all.length - (j + 1) < all.length - j; omega, by rw [hst]; rfl, [blk x13 o.cells 27], fun y => by show cnt y (blk x13 o.cells 27 :: [blk b9 (rows Ord.cells all ++ rest9) 27]) = _; (first | rfl | (simp only [List.append_eq, cnt_append, cnt_cons, cnt_nil, blk]; omega) | (simp only [List.append_eq, cnt_append, cnt_cons, cnt_nil, blk]; done))⟩
    · (refine run_exit ?_; (iterate 2 refine then_exit ?_); refine in_exit ?_; refine then_normal ?_)
      have ej : all.take j = all := List.take_of_length_le (by omega)
      rw [ej, hsa]
      (refine run_seq ?_; refine run_region ?_; (iterate 3 refine xep rfl rfl ?_); refine xel rfl (ev_add rfl rfl rfl (by omega)) ?_; (iterate 2 refine xep rfl rfl ?_); refine xgl rfl rfl (fun hq => ev_callQ rfl rfl rfl (pf rfl) (q3 ..)) ?_; (iterate 2 refine xep rfl rfl ?_); refine runL_nil ?_; refine then_normal ?_; refine run_ret ?_)
      exact ⟨_, rfl, by rw [decide_eq_true hsum]; rfl⟩
end Go.Proofs.Ytlokkniepoeepaa
