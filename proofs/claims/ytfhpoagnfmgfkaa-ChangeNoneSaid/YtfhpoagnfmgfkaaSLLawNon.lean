/- Contracts of functions of the given program over its translation, each proved by walking its text; used by the laws' rows. It proves no given statement by itself. -/
import Derived.Test.YtfhpoagnfmgfkaaSLStFl
set_option autoImplicit false
set_option linter.unusedSectionVars false
set_option linter.unusedSimpArgs false
set_option linter.unusedVariables false
set_option maxRecDepth 4000
set_option maxHeartbeats 100000000
namespace Go.Proofs.Ytfhpoagnfmgfkaa
open Go Go.SL Go.Proofs
variable [Base]
theorem okP_kind {o : Ord} (h : okP o) : InI o.kind := by
  obtain ⟨-, -, -, -, -, -, -, -, h9, h10, -⟩ := h
  unfold InI; omega
theorem mfind_kind {t i : Int} {M : Mk} (hw : MW M) (hu : Uq M) (hr : RB M.B) : InI (mfind t i M).1.kind := by
  cases hf : (mfind t i M).2 with
  | false =>
    have e : (mfind t i M).1 = o0 := by
      unfold mfind at hf ⊢
      split at hf
      · cases hf
      · rename_i hb
        rw [if_neg hb]
        split
        · rfl
        · rename_i k hk
          have hlt := (List.findIdx?_eq_some_iff_getElem.1 hk).1
          rw [hk] at hf
          dsimp only at hf
          rw [List.getElem?_eq_getElem hlt] at hf
          cases hf
    rw [e]; exact inI rfl
  | true =>
    have hc := mfind_cM hf
    rw [← cM_all] at hc
    obtain ⟨x, mx, hp⟩ := List.countP_pos_iff.1 hc
    obtain ⟨rfl, rfl⟩ := isO_is hp
    obtain ⟨k, hk, ek⟩ := List.getElem_of_mem mx
    have hx : (mall M)[k]? = some x := by rw [List.getElem?_eq_getElem hk, ek]
    rw [mfind_at hu hx]
    exact okP_kind (all_ok hw hr mx)
theorem changeNone_sp (F : Heap) (a : Option Addr) (len cap : Nat) (rs : List (List Int)) (trader id at_ n : Int) (hR : RowsF F a len 7 rs) (hC : len ≤ cap) (hM : cap ≤ 9223372036854775807) (ht : InI trader) (hi : InI id) (hat : InI at_) (hn : InI n) :
    Sp Try.prog F 4 [.slice a len cap, .int .i64 trader, .int .i64 id, .int .i64 at_, .int .i64 n] [] (Ret (.bool true)) := by
  have q3 := changeRuns_sp
  have q4 := fun F => sp_Win F n 0 9 (by omega) (by omega) (by omega)
  have wn := win_in n (show (0 : Int) ≤ 9 by omega)
  generalize win n 0 9 = n9 at *
  refine sp_of_code Try.func4 rfl rfl ?_
  (refine run_seq ?_; refine run_region ?_; refine xep rfl rfl ?_; refine runL_nil ?_; refine then_normal ?_; refine run_seq ?_; refine run_region ?_; refine xep rfl rfl ?_)
  refine runL_call0 rfl rfl rfl rfl rfl rfl rfl (pf rfl) (sp_filled12 _ a len cap rs (RowsF.mono hR fun x m => by simp [m]) (by omega)) ?_
  rintro v H ⟨m, rfl, hH⟩
  have hok := mfill_ok rs 40
  generalize mfill rs 40 = M at *
  have hno := hok.no
  have hw := hok.w
  have hml := mall_len M
  have hl64 := hw.len
  have hwl : M.W.length ≤ 65536 := by have := hw.len; unfold mlen at this; omega
  (refine xep rfl rfl ?_; refine runL_nil ?_; refine then_normal ?_; (iterate 2 refine run_seq ?_); refine run_region ?_; refine xep rfl rfl ?_; refine xel rfl (ev_eqNil rfl rfl rfl (pt rfl)) ?_; refine runL_nil ?_; refine then_normal ?_)
  refine run_condF rfl rfl ?_
  (refine run_skip ?_; refine then_normal ?_; refine run_seq ?_; refine run_region ?_; refine xep rfl rfl ?_)
  refine runL_callZ H [] rfl rfl rfl rfl rfl rfl rfl (pf rfl) (fun y => by (first | rfl | (simp only [List.append_eq, cnt_append, cnt_cons, cnt_nil, blk]; omega) | (simp only [List.append_eq, cnt_append, cnt_cons, cnt_nil, blk]; done))) (sp_sall _ m M (hH.in fun x mx => by simp [mx]) hw.b hw.len) ?_
  rintro v A7 own7
  obtain ⟨a7, c7, rfl, own7⟩ := own7.at
  (refine xep rfl rfl ?_)
  refine runL_nil ?_
  (refine then_normal ?_)
  refine RunC.freezeR ?_
  have srcA := own7.src (H := A7 ++ F) fun x mx => List.mem_append_left _ mx
  clear own7 hR
  generalize A7 ++ F = Y at *
  have hfa : ∀ {k : Nat} {x : Ord}, (mall M)[k]? = some x → mfind x.trader x.id M = (x, true) := fun h => mfind_at hok.u h
  have hoa : ∀ x ∈ mall M, okP x := fun x mx => all_ok hw hok.r mx
  have hsq := (sumM_pos hw).2
  generalize hall : mall M = all at *
  (refine run_seq ?_; refine run_region ?_; (iterate 3 refine xep rfl rfl ?_))
  refine runL_ev rfl rfl rfl rfl (ev_callQ rfl rfl rfl (pf rfl) (sp_sFind _ m M (hH.in fun x mx => List.mem_append_left _ mx) hw.b hwl trader id)) ?_
  have hkk := mfind_kind (t := trader) (i := id) hw hok.u hok.r
  ((iterate 3 refine xep rfl rfl ?_); refine runL_alloc rfl rfl rfl rfl rfl ze24 (fun _ => ?_); refine runL_store0 rfl rfl rfl rfl rfl (sz rfl) rfl rfl rfl rfl rfl ?_; refine xep rfl rfl ?_; refine runL_nil ?_; refine then_normal ?_; (iterate 2 refine run_seq ?_); refine run_region ?_; (iterate 2 refine xep rfl rfl ?_); refine runL_nil ?_; refine then_normal ?_)
  rename_i b13
  generalize hw0 : mfind trader id M = w0 at *
  refine RunC.perm (h' := [blk b13 w0.1.cells 24] ++ H) (fun y => rfl) ?_
  refine run_midO (σ := Heap) [3, 4, 11, 12] (fun _ => []) (fun s => s) (fun s => MkH m M s) rfl ?_ ?_
  · cases hf : w0.2 with
    | true =>
      refine run_condF rfl rfl ?_
      (refine run_skip ?_)
      exact midN H [blk b13 w0.1.cells 24] hH rfl (fun x => by (first | rfl | (simp only [List.append_eq, cnt_append, cnt_cons, cnt_nil, blk]; omega) | (simp only [List.append_eq, cnt_append, cnt_cons, cnt_nil, blk]; done)))
    | false =>
      refine run_condT rfl rfl ?_
      (refine run_seq ?_; refine run_region ?_; (iterate 3 refine xep rfl rfl ?_))
      refine runL_callZ [blk b13 w0.1.cells 24] H rfl rfl rfl rfl rfl rfl rfl (pf rfl) (fun y => by (first | rfl | (simp only [List.append_eq, cnt_append, cnt_cons, cnt_nil, blk]; omega) | (simp only [List.append_eq, cnt_append, cnt_cons, cnt_nil, blk]; done))) (sp_amend _ H m M hH hw (by omega) trader id 100 1 (inI rfl) (inI rfl) (by rw [hw0]; exact hkk)) ?_
      rw [amend_none (by rw [hw0]; exact hf)]
      rintro v _ ⟨a1, c1, ts, A1, G1, H1, rfl, hts, -, own1, hF1, hH1, rfl⟩
      have htn : ts = [] := List.map_eq_nil_iff.1 hts
      subst htn
      dsimp only at hH1 ⊢
      ((iterate 5 refine xep rfl rfl ?_); refine runL_nil ?_; refine then_normal ?_; refine run_seq ?_; refine run_region ?_; (iterate 3 refine xep rfl rfl ?_); refine xgp rfl rfl rfl ?_; refine xgl rfl rfl (fun hq => ev_len rfl rfl (se rfl)) ?_; refine xgp rfl rfl rfl ?_; refine xep rfl rfl ?_; refine runL_nil ?_; refine then_normal ?_; refine RunC.whole rfl ?_)
      refine run_condF rfl rfl ?_
      (refine run_skip ?_)
      exact midN H1 ([blk b13 w0.1.cells 24] ++ A1 ++ G1) hH1 rfl (fun x => by (first | rfl | (simp only [List.append_eq, cnt_append, cnt_cons, cnt_nil, blk]; omega) | (simp only [List.append_eq, cnt_append, cnt_cons, cnt_nil, blk]; done)))
  · intro fr' h' hm
    (refine then_normal ?_)
    refine midN_out hm ?_
    clear hm hH
    rintro H hH
    ((iterate 2 refine run_seq ?_); refine run_region ?_; refine xep rfl rfl ?_; refine xel rfl (ev_len rfl rfl (se rfl)) ?_; refine xep rfl rfl ?_; refine runL_nil ?_; refine then_normal ?_)
    refine run_midO (σ := Heap) [11, 12] (fun _ => []) (fun s => s) (fun s => MkH m M s) rfl ?_ ?_
    · by_cases hn0 : all.length = 0
      · refine run_condF rfl (decide_eq_false (by omega)) ?_
        (refine run_skip ?_)
        exact midN H [] hH rfl (fun x => by (first | rfl | (simp only [List.append_eq, cnt_append, cnt_cons, cnt_nil, blk]; omega) | (simp only [List.append_eq, cnt_append, cnt_cons, cnt_nil, blk]; done)))
      · refine run_condT rfl (decide_eq_true (by omega)) ?_
        have q8 := fun F => sp_Win F at_ 0 ((all.length : Int) - 1) (by omega) (by omega) (by omega)
        have wk := win_in at_ (show (0 : Int) ≤ (all.length : Int) - 1 by omega)
        obtain ⟨k, hk⟩ : ∃ k : Nat, win at_ 0 ((all.length : Int) - 1) = k := ⟨(win at_ 0 ((all.length : Int) - 1)).toNat, by omega⟩
        rw [hk] at q8 wk
        obtain ⟨x, hx⟩ : ∃ x, all[k]? = some x := ⟨all[k]'(by omega), List.getElem?_eq_getElem _⟩
        have hxf := hfa hx
        have hxo := hoa x (List.mem_of_getElem? hx)
        have hxk := okP_kind hxo
        obtain ⟨b7, off7, _, _, _, rfl, _⟩ := srcA.pos (by omega)
        have l1 := SrcIs.row oc_len srcA rfl hx
        have hxq := hsq x (List.mem_of_getElem? hx)
        have hxp : 0 ≤ x.price ∧ x.price ≤ 1048576 := by
          obtain ⟨-, -, -, -, -, -, -, -, -, -, -, -, -, h17, h18, -⟩ := hxo
          by_cases hk : x.kind = 2
          · have := h17 hk; omega
          · have := h18 hk; omega
        (refine run_seq ?_; refine run_region ?_; (iterate 3 refine xep rfl rfl ?_); refine xel rfl (ev_len rfl rfl (se rfl)) ?_; refine xel rfl (ev_sub rfl rfl rfl (by omega)) ?_; refine xel rfl (ev_callQ rfl rfl rfl (pf rfl) (q8 ..)) ?_; refine xel rfl (ev_indexAddr rfl rfl rfl (se rfl) (by omega) (by omega)) ?_; refine xel rfl (ev_loadAF rfl rfl (ag rfl) (sz rfl) l1 rfl) ?_; refine runL_alloc rfl rfl rfl rfl rfl ze24 (fun _ => ?_); refine runL_store0 rfl rfl rfl rfl rfl (sz rfl) rfl rfl rfl rfl rfl ?_; refine runL_nil ?_; refine then_normal ?_; refine run_seq ?_)
        rename_i b17
        refine RunC.perm (h' := H ++ [blk b17 x.cells 24]) (fun y => by show cnt y (blk b17 x.cells 24 :: H) = _; (first | rfl | (simp only [List.append_eq, cnt_append, cnt_cons, cnt_nil, blk]; omega) | (simp only [List.append_eq, cnt_append, cnt_cons, cnt_nil, blk]; done))) ?_
        refine run_midO (σ := (Option Addr × Nat) × Heap) [4, 11, 12, 17] (fun s => [(18, .slice s.1.1 0 s.1.2), (19, .int .i64 1)]) (fun s => s.2 ++ [blk b17 x.cells 24]) (fun s => MkH m M s.2) rfl ?_ ?_
        · refine RunC.freezeR ?_
          have l2 : AggF ([blk b17 x.cells 24] ++ Y) b17 0 x.cells := ⟨_, _, _, memF (.head _), Nat.le_refl _, rfl⟩
          have l3 := l2.at 0 _ rfl
          have l4 := l2.at 1 _ rfl
          have l5 := l2.at 5 _ rfl
          have l6 := l2.at 6 _ rfl
          refine run_region_D mo ?_
          (refine runD_q 0 rfl rfl (by kernel_rfl) ?_; refine ⟨_, fun _ => ev_pure rfl, ?_⟩; refine runD_q 1 rfl rfl (by kernel_rfl) ?_; refine ⟨_, fun _ => ev_fieldAddr rfl rfl (fo rfl), ?_⟩; refine runD_q 2 rfl rfl (by kernel_rfl) ?_; refine ⟨_, fun _ => ev_loadK rfl rfl (sc rfl) (memR (memF (.head _))) rfl, ?_⟩; refine runD_q 3 rfl rfl (by kernel_rfl) ?_; refine ⟨_, fun _ => ev_fieldAddr rfl rfl (fo rfl), ?_⟩; refine runD_q 4 rfl rfl (by kernel_rfl) ?_; refine ⟨_, fun _ => ev_loadK rfl rfl (sc rfl) (memR (memF (.head _))) rfl, ?_⟩; refine runD_q 5 rfl rfl (by kernel_rfl) ?_; refine ⟨_, fun _ => ev_fieldAddr rfl rfl (fo rfl), ?_⟩; refine runD_q 6 rfl rfl (by kernel_rfl) ?_; refine ⟨_, fun _ => ev_loadK rfl rfl (sc rfl) (memR (memF (.head _))) rfl, ?_⟩; refine runD_q 7 rfl rfl (by kernel_rfl) ?_; refine ⟨_, fun _ => ev_pure rfl, ?_⟩; refine runD_q 8 rfl rfl (by kernel_rfl) ?_; refine ⟨_, fun _ => ev_callQ rfl rfl rfl (pf rfl) (q4 ..), ?_⟩; refine runD_q 9 rfl rfl (by kernel_rfl) ?_; refine ⟨_, fun _ => ev_neg rfl rfl (by omega), ?_⟩; refine runD_1 10 (by kernel_rfl) rfl rfl rfl ?_)
          refine runL_callZ [] H rfl rfl rfl rfl rfl rfl rfl (pf rfl) (fun y => by (first | rfl | (simp only [List.append_eq, cnt_append, cnt_cons, cnt_nil, blk]; omega) | (simp only [List.append_eq, cnt_append, cnt_cons, cnt_nil, blk]; done))) (sp_amend _ H m M hH hw (by omega) x.trader x.id (x.price) (-n9) (by unfold InI; omega) (by unfold InI; omega) (by rw [hxf]; exact hxk)) ?_
          rw [amend_bad hxf (am_bad1 (by omega))]
          rintro v _ ⟨a1, c1, ts, A1, G1, H1, rfl, hts, -, own1, hF1, hH1, rfl⟩
          have htn : ts = [] := List.map_eq_nil_iff.1 hts
          subst htn
          dsimp only at hH1 ⊢
          (refine runL_nil ?_; refine endS_d rfl ?_; refine runD_q 11 rfl rfl (by kernel_rfl) ?_; refine ⟨_, fun _ => ev_pure rfl, ?_⟩; refine runD_q 12 rfl rfl (by kernel_rfl) ?_; refine ⟨_, fun _ => ev_pure rfl, ?_⟩; refine runD_q 13 rfl rfl (by kernel_rfl) ?_; refine ⟨_, fun _ => ev_pure rfl, ?_⟩; refine runD_q 14 rfl rfl (by kernel_rfl) ?_; refine ⟨_, fun _ => ev_pure rfl, ?_⟩; refine runD_q 15 rfl rfl (by kernel_rfl) ?_; refine ⟨_, fun _ => ev_pure rfl, ?_⟩; refine runD_done (by kernel_rfl) ?_)
          exact midN ((a1, c1), H1) (A1 ++ G1) hH1 rfl (fun x => by (first | rfl | (simp only [List.append_eq, cnt_append, cnt_cons, cnt_nil, blk]; omega) | (simp only [List.append_eq, cnt_append, cnt_cons, cnt_nil, blk]; done)))
        · intro fr' h' hm
          (refine then_normal ?_)
          refine midN_out hm ?_
          clear hm hH
          rintro ⟨⟨a18, c18⟩, H⟩ hH
          dsimp only at hH ⊢
          refine run_seq ?_
          refine run_midO (σ := (Option Addr × Nat) × Heap) [11, 12, 17, 18, 19] (fun s => [(20, .slice s.1.1 0 s.1.2), (21, .int .i64 1)]) (fun s => s.2 ++ [blk b17 x.cells 24]) (fun s => MkH m M s.2) rfl ?_ ?_
          · refine RunC.freezeR ?_
            have l2 : AggF ([blk b17 x.cells 24] ++ Y) b17 0 x.cells := ⟨_, _, _, memF (.head _), Nat.le_refl _, rfl⟩
            have l3 := l2.at 0 _ rfl
            have l4 := l2.at 1 _ rfl
            have l5 := l2.at 5 _ rfl
            have l6 := l2.at 6 _ rfl
            refine run_region_D mo ?_
            (refine runD_q 0 rfl rfl (by kernel_rfl) ?_; refine ⟨_, fun _ => ev_pure rfl, ?_⟩; refine runD_q 1 rfl rfl (by kernel_rfl) ?_; refine ⟨_, fun _ => ev_fieldAddr rfl rfl (fo rfl), ?_⟩; refine runD_q 2 rfl rfl (by kernel_rfl) ?_; refine ⟨_, fun _ => ev_loadK rfl rfl (sc rfl) (memR (memF (.head _))) rfl, ?_⟩; refine runD_q 3 rfl rfl (by kernel_rfl) ?_; refine ⟨_, fun _ => ev_fieldAddr rfl rfl (fo rfl), ?_⟩; refine runD_q 4 rfl rfl (by kernel_rfl) ?_; refine ⟨_, fun _ => ev_loadK rfl rfl (sc rfl) (memR (memF (.head _))) rfl, ?_⟩; refine runD_q 5 rfl rfl (by kernel_rfl) ?_; refine ⟨_, fun _ => ev_pure rfl, ?_⟩; refine runD_q 6 rfl rfl (by kernel_rfl) ?_; refine ⟨_, fun _ => ev_callQ rfl rfl rfl (pf rfl) (q4 ..), ?_⟩; refine runD_q 7 rfl rfl (by kernel_rfl) ?_; refine ⟨_, fun _ => ev_add rfl rfl rfl (by omega), ?_⟩; refine runD_q 8 rfl rfl (by kernel_rfl) ?_; refine ⟨_, fun _ => ev_fieldAddr rfl rfl (fo rfl), ?_⟩; refine runD_q 9 rfl rfl (by kernel_rfl) ?_; refine ⟨_, fun _ => ev_loadK rfl rfl (sc rfl) (memR (memF (.head _))) rfl, ?_⟩; refine runD_1 10 (by kernel_rfl) rfl rfl rfl ?_)
            refine runL_callZ [] H rfl rfl rfl rfl rfl rfl rfl (pf rfl) (fun y => by (first | rfl | (simp only [List.append_eq, cnt_append, cnt_cons, cnt_nil, blk]; omega) | (simp only [List.append_eq, cnt_append, cnt_cons, cnt_nil, blk]; done))) (sp_amend _ H m M hH hw (by omega) x.trader x.id (1048577 + n9) (x.qty) (by unfold InI; omega) (by unfold InI; omega) (by rw [hxf]; exact hxk)) ?_
            rw [amend_bad hxf (am_bad2 (by omega))]
            rintro v _ ⟨a1, c1, ts, A1, G1, H1, rfl, hts, -, own1, hF1, hH1, rfl⟩
            have htn : ts = [] := List.map_eq_nil_iff.1 hts
            subst htn
            dsimp only at hH1 ⊢
            (refine runL_nil ?_; refine endS_d rfl ?_; refine runD_q 11 rfl rfl (by kernel_rfl) ?_; refine ⟨_, fun _ => ev_pure rfl, ?_⟩; refine runD_q 12 rfl rfl (by kernel_rfl) ?_; refine ⟨_, fun _ => ev_pure rfl, ?_⟩; refine runD_q 13 rfl rfl (by kernel_rfl) ?_; refine ⟨_, fun _ => ev_pure rfl, ?_⟩; refine runD_q 14 rfl rfl (by kernel_rfl) ?_; refine ⟨_, fun _ => ev_pure rfl, ?_⟩; refine runD_q 15 rfl rfl (by kernel_rfl) ?_; refine ⟨_, fun _ => ev_pure rfl, ?_⟩; refine runD_done (by kernel_rfl) ?_)
            exact midN ((a1, c1), H1) (A1 ++ G1) hH1 rfl (fun x => by (first | rfl | (simp only [List.append_eq, cnt_append, cnt_cons, cnt_nil, blk]; omega) | (simp only [List.append_eq, cnt_append, cnt_cons, cnt_nil, blk]; done)))
          · intro fr' h' hm
            (refine then_normal ?_)
            refine midN_out hm ?_
            clear hm hH
            rintro ⟨⟨a20, c20⟩, H⟩ hH
            dsimp only at hH ⊢
            (refine run_seq ?_; refine run_region ?_; (iterate 3 refine xep rfl rfl ?_); (iterate 2 refine xgp rfl rfl rfl ?_); (iterate 2 refine xep rfl rfl ?_); refine xgp rfl rfl rfl ?_; refine xgl rfl rfl (fun hq => ev_len rfl rfl (se rfl)) ?_; refine xgp rfl rfl rfl ?_; (iterate 2 refine xep rfl rfl ?_); refine xgp rfl rfl rfl ?_; refine xgl rfl rfl (fun hq => ev_len rfl rfl (se rfl)) ?_; refine xgp rfl rfl rfl ?_; refine xep rfl rfl ?_; refine runL_nil ?_; refine then_normal ?_)
            refine run_condF rfl rfl ?_
            (refine run_skip ?_)
            exact midN H [blk b17 x.cells 24] hH rfl (fun x => by (first | rfl | (simp only [List.append_eq, cnt_append, cnt_cons, cnt_nil, blk]; omega) | (simp only [List.append_eq, cnt_append, cnt_cons, cnt_nil, blk]; done)))
    · intro fr' h' hm
      (refine then_normal ?_)
      refine midN_out hm ?_
      clear hm hH
      rintro H hH
      (refine run_seq ?_; refine run_region ?_; refine xep rfl rfl ?_)
      refine runL_callZ H [] rfl rfl rfl rfl rfl rfl rfl (pf rfl) (fun y => by (first | rfl | (simp only [List.append_eq, cnt_append, cnt_cons, cnt_nil, blk]; omega) | (simp only [List.append_eq, cnt_append, cnt_cons, cnt_nil, blk]; done))) (sp_sall _ m M (hH.in fun x mx => by simp [mx]) hw.b hw.len) ?_
      rw [hall]
      rintro v A9 own9
      obtain ⟨a9, c9, rfl, own9⟩ := own9.at
      (refine xep rfl rfl ?_)
      refine runL_ev rfl rfl rfl rfl (ev_callQ rfl rfl rfl (pf rfl) (sp_sameOrd _ a9 a7 all.length c9 c7 all rfl (by omega) (own9.src fun z mz => by simp only [List.mem_append, mz, true_or, or_true]) srcA.up)) ?_
      have hgd : true = true := rfl
      (refine xep rfl rfl ?_; refine runL_yes rfl rfl hgd ?_; refine xel rfl (ev_callQ rfl rfl rfl (pf rfl) (q3 ..)) ?_; (iterate 2 refine xep rfl rfl ?_); refine runL_nil ?_; refine then_normal ?_; refine run_ret ?_)
      exact ⟨_, rfl, rfl⟩
end Go.Proofs.Ytfhpoagnfmgfkaa
