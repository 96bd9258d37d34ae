/- Contracts of functions of the given program over its translation, each proved by walking its text; used by the laws' rows. It proves no given statement by itself. -/
import Derived.Test.YtfclaleiciodmaaSLLvl4
import Derived.Test.YtfclaleiciodmaaSLMaps
set_option autoImplicit false
set_option linter.unusedSectionVars false
set_option linter.unusedSimpArgs false
set_option linter.unusedVariables false
namespace Go.Proofs.Ytfclaleiciodmaa
open Go Go.SL Go.Proofs
theorem ctOrd : CmpOk Try.prog 25 9 := ⟨by kernel_rfl, by kernel_rfl, by kernel_rfl, by kernel_rfl⟩
theorem ctHit : CmpOk Try.prog 35 10 := ⟨by kernel_rfl, by kernel_rfl, by kernel_rfl, by kernel_rfl⟩
theorem tyOrd (o : Ord) : tyQ Try.prog 4 25 o.cells = true := by kernel_rfl
theorem tyHit (h : Ord × Int) : tyQ Try.prog 4 35 (hcell h) = true := by kernel_rfl
theorem eqOrd (o : Ord) : eqK o.cells o.cells = some true := by simp [Ord.cells, eqK, kNum]
theorem eqHit (h : Ord × Int) : eqK (hcell h) (hcell h) = some true := by simp [hcell, eqK, kNum]
theorem pm2 : PairMap Try.prog 52 54 3 4 :=
  ⟨by kernel_rfl, by kernel_rfl, ⟨.i64, by kernel_rfl⟩, ⟨by kernel_rfl, by kernel_rfl, by kernel_rfl, by kernel_rfl⟩, by kernel_rfl, fun p => by kernel_rfl, by kernel_rfl⟩
variable [Base]
set_option maxRecDepth 4000 in
theorem sp_sameOrd (F : Heap) (a1 a2 : Option Addr) (k c1 c2 : Nat) (l : List Ord) (hl : l.length = k) (hk : k ≤ 2097152) (h1 : SrcIs F a1 k 9 (rows Ord.cells l)) (h2 : SrcIs F a2 k 9 (rows Ord.cells l)) :
    Sp Try.prog F 15 [.slice a1 k c1, .slice a2 k c2] [] (Ret (.bool true)) := by
  refine sp_of_code Try.func15 rfl rfl ?_
  (refine run_seq ?_; refine run_region ?_; refine xep rfl rfl ?_; refine runL_nil ?_; refine then_normal ?_; (iterate 2 refine run_seq ?_); refine run_region ?_; refine xep rfl rfl ?_; refine xel rfl (ev_len rfl rfl (se rfl)) ?_; refine xep rfl rfl ?_; refine xel rfl (ev_len rfl rfl (se rfl)) ?_; refine xep rfl rfl ?_; refine runL_nil ?_; refine then_normal ?_)
  refine run_condF rfl (by simp) ?_
  (refine run_skip ?_; refine then_normal ?_; (iterate 2 refine run_seq ?_); refine run_region ?_; refine xep rfl rfl ?_; refine runL_nil ?_; refine then_normal ?_; refine run_block ?_)
  refine run_loopK (σ := Nat) [0, 1, 5] (fun i => [(0, .slice a1 k c1), (1, .slice a2 k c2), (5, .int .i64 i)]) (fun _ => []) (fun i => i ≤ k) (fun i => k - i) 0 (Nat.zero_le _) rfl (fun _ => rfl) ?_
  intro i gi
  ((iterate 2 refine run_seq ?_); refine run_region ?_; (iterate 2 refine xep rfl rfl ?_); refine xel rfl (ev_len rfl rfl (se rfl)) ?_; refine xep rfl rfl ?_; refine runL_nil ?_; refine then_normal ?_)
  (refine run_cond rfl (fun hc => ?_) (fun hc => ?_) <;> (try simp only [z0, z1, z2, z3, z4, z5, z6, z7, z8, z9, Bool.not_true, Bool.not_false, Bool.false_or, Bool.true_and, true_and, and_true, false_or, or_false, reduceCtorEq, Bool.false_eq_true] at hc))
  · obtain ⟨b1, o1, _, _, _, rfl, _⟩ := h1.pos (by omega)
    obtain ⟨b2, o2, _, _, _, rfl, _⟩ := h2.pos (by omega)
    obtain ⟨x, hx⟩ : ∃ x, l[i]? = some x := ⟨l[i]'(by omega), List.getElem?_eq_getElem _⟩
    have l1 := SrcIs.row oc_len h1 hl hx
    have l2 := SrcIs.row oc_len h2 hl hx
    have k1 := ctOrd
    have k2 := tyOrd x
    have k3 := eqOrd x
    (refine run_skip ?_; refine then_normal ?_; refine run_seq ?_; refine run_block ?_; refine run_seq ?_; refine run_region_draw mo (by kernel_rfl) ?_; (iterate 2 refine xqp rfl rfl ?_); refine xql rfl (ev_indexAddr rfl rfl rfl (se rfl) (by omega) (by omega)) ?_; refine xql rfl (ev_loadAF rfl rfl (ag rfl) (sz rfl) l1 rfl) ?_; (iterate 2 refine xqp rfl rfl ?_); refine xql rfl (ev_indexAddr rfl rfl rfl (se rfl) (by omega) (by omega)) ?_; refine xql rfl (ev_loadAF rfl rfl (ag rfl) (sz rfl) l2 rfl) ?_; refine xql rfl (ev_neqQ rfl rfl rfl k1 rfl k2 k3) ?_; refine runQ_nil ?_; refine then_normal ?_)
    refine run_condF rfl rfl ?_
    (refine run_skip ?_; refine in_normal ?_; refine then_normal ?_; refine run_region ?_; refine xep rfl rfl ?_; refine xel rfl (ev_add rfl rfl rfl (by omega)) ?_; refine xep rfl rfl ?_; refine runL_nil ?_; refine then_normal ?_)
    exact ⟨i + 1, by omega, by omega, rfl, [], fun _ => rfl⟩
  · (refine run_exit ?_; (iterate 2 refine then_exit ?_); refine in_exit ?_; refine then_normal ?_)
    (refine run_seq ?_; refine run_region ?_; refine xep rfl rfl ?_; refine runL_nil ?_; refine then_normal ?_; refine run_ret ?_)
    exact ⟨_, rfl, rfl⟩
set_option maxRecDepth 4000 in
theorem sp_sameHit (F : Heap) (a1 a2 : Option Addr) (k c1 c2 : Nat) (l : List (Ord × Int)) (hl : l.length = k) (hk : k ≤ 2097152) (h1 : SrcIs F a1 k 10 (rows hcell l)) (h2 : SrcIs F a2 k 10 (rows hcell l)) :
    Sp Try.prog F 14 [.slice a1 k c1, .slice a2 k c2] [] (Ret (.bool true)) := by
  refine sp_of_code Try.func14 rfl rfl ?_
  (refine run_seq ?_; refine run_region ?_; refine xep rfl rfl ?_; refine runL_nil ?_; refine then_normal ?_; (iterate 2 refine run_seq ?_); refine run_region ?_; refine xep rfl rfl ?_; refine xel rfl (ev_len rfl rfl (se rfl)) ?_; refine xep rfl rfl ?_; refine xel rfl (ev_len rfl rfl (se rfl)) ?_; refine xep rfl rfl ?_; refine runL_nil ?_; refine then_normal ?_)
  refine run_condF rfl (by simp) ?_
  (refine run_skip ?_; refine then_normal ?_; (iterate 2 refine run_seq ?_); refine run_region ?_; refine xep rfl rfl ?_; refine runL_nil ?_; refine then_normal ?_; refine run_block ?_)
  refine run_loopK (σ := Nat) [0, 1, 5] (fun i => [(0, .slice a1 k c1), (1, .slice a2 k c2), (5, .int .i64 i)]) (fun _ => []) (fun i => i ≤ k) (fun i => k - i) 0 (Nat.zero_le _) rfl (fun _ => rfl) ?_
  intro i gi
  ((iterate 2 refine run_seq ?_); refine run_region ?_; (iterate 2 refine xep rfl rfl ?_); refine xel rfl (ev_len rfl rfl (se rfl)) ?_; refine xep rfl rfl ?_; refine runL_nil ?_; refine then_normal ?_)
  (refine run_cond rfl (fun hc => ?_) (fun hc => ?_) <;> (try simp only [z0, z1, z2, z3, z4, z5, z6, z7, z8, z9, Bool.not_true, Bool.not_false, Bool.false_or, Bool.true_and, true_and, and_true, false_or, or_false, reduceCtorEq, Bool.false_eq_true] at hc))
  · obtain ⟨b1, o1, _, _, _, rfl, _⟩ := h1.pos (by omega)
    obtain ⟨b2, o2, _, _, _, rfl, _⟩ := h2.pos (by omega)
    obtain ⟨x, hx⟩ : ∃ x, l[i]? = some x := ⟨l[i]'(by omega), List.getElem?_eq_getElem _⟩
    have l1 := SrcIs.row hcell_len h1 hl hx
    have l2 := SrcIs.row hcell_len h2 hl hx
    have k1 := ctHit
    have k2 := tyHit x
    have k3 := eqHit x
    (refine run_skip ?_; refine then_normal ?_; refine run_seq ?_; refine run_block ?_; refine run_seq ?_; refine run_region_draw mo (by kernel_rfl) ?_; (iterate 2 refine xqp rfl rfl ?_); refine xql rfl (ev_indexAddr rfl rfl rfl (se rfl) (by omega) (by omega)) ?_; refine xql rfl (ev_loadAF rfl rfl (ag rfl) (sz rfl) l1 rfl) ?_; (iterate 2 refine xqp rfl rfl ?_); refine xql rfl (ev_indexAddr rfl rfl rfl (se rfl) (by omega) (by omega)) ?_; refine xql rfl (ev_loadAF rfl rfl (ag rfl) (sz rfl) l2 rfl) ?_; refine xql rfl (ev_neqQ rfl rfl rfl k1 rfl k2 k3) ?_; refine runQ_nil ?_; refine then_normal ?_)
    refine run_condF rfl rfl ?_
    (refine run_skip ?_; refine in_normal ?_; refine then_normal ?_; refine run_region ?_; refine xep rfl rfl ?_; refine xel rfl (ev_add rfl rfl rfl (by omega)) ?_; refine xep rfl rfl ?_; refine runL_nil ?_; refine then_normal ?_)
    exact ⟨i + 1, by omega, by omega, rfl, [], fun _ => rfl⟩
  · (refine run_exit ?_; (iterate 2 refine then_exit ?_); refine in_exit ?_; refine then_normal ?_)
    (refine run_seq ?_; refine run_region ?_; refine xep rfl rfl ?_; refine runL_nil ?_; refine then_normal ?_; refine run_ret ?_)
    exact ⟨_, rfl, rfl⟩
def mkO (r : List Int) : Ord :=
  ⟨win (r.getD 1 0) 0 3, win (r.getD 2 0) 0 9, (win (r.getD 1 0) 0 3).tdiv 2, 2, 1, 7, win (r.getD 3 0) 1 12, win (r.getD 4 0) 0 (win (r.getD 3 0) 1 12), 0⟩
set_option maxRecDepth 4000 in
theorem sp_made (F : Heap) (r : List Int) (hr : r.length = 5) : Sp Try.prog F 22 [.agg ⟨ints r⟩] [] (Ret (ov (mkO r))) := by
  match r, hr with
  | [a, b, c, d, e], _ =>
  have q1 := fun F => sp_Win F b 0 3 (by omega) (by omega) (by omega)
  have q2 := fun F => sp_Win F c 0 9 (by omega) (by omega) (by omega)
  have q3 := fun F => sp_Win F d 1 12 (by omega) (by omega) (by omega)
  have w1 := win_in b (show (0 : Int) ≤ 3 by omega)
  have w2 := win_in c (show (0 : Int) ≤ 9 by omega)
  have w3 := win_in d (show (1 : Int) ≤ 12 by omega)
  have q4 := fun F => sp_Win F e 0 (win d 1 12) (by omega) (by omega) (by omega)
  show Sp _ _ _ _ _ (Ret (ov ⟨win b 0 3, win c 0 9, (win b 0 3).tdiv 2, 2, 1, 7, win d 1 12, win e 0 (win d 1 12), 0⟩))
  generalize win b 0 3 = t at *
  generalize win c 0 9 = i at *
  generalize win d 1 12 = q at *
  generalize win e 0 q = s at *
  refine sp_of_codeR Try.func22 rfl rfl ?_
  (refine run_seq ?_; refine run_region ?_; refine runL_box rfl rfl rfl rfl rfl rfl (fun _ => ?_); refine runL_alloc rfl rfl rfl rfl rfl ze25 (fun _ => ?_); refine runL_nil ?_; refine then_normal ?_; refine run_seq ?_)
  rename_i b1 b2
  refine RunC.freeze ?_
  refine run_region_D mo ?_
  (refine runD_q 0 rfl rfl (by kernel_rfl) ?_; refine ⟨_, fun _ => ev_fieldAddr rfl rfl (fo rfl), ?_⟩; refine runD_q 1 rfl rfl (by kernel_rfl) ?_; refine ⟨_, fun _ => ev_loadK rfl rfl (sc rfl) (memR (memF (.tail _ (.head _)))) rfl, ?_⟩; refine runD_q 2 rfl rfl (by kernel_rfl) ?_; refine ⟨_, fun _ => ev_callQ rfl rfl rfl (pf rfl) (q1 ..), ?_⟩; refine runD_q 3 rfl rfl (by kernel_rfl) ?_; refine ⟨_, fun _ => ev_fieldAddr rfl rfl (fo rfl), ?_⟩; refine runD_q 4 rfl rfl (by kernel_rfl) ?_; refine ⟨_, fun _ => ev_loadK rfl rfl (sc rfl) (memR (memF (.tail _ (.head _)))) rfl, ?_⟩; refine runD_q 5 rfl rfl (by kernel_rfl) ?_; refine ⟨_, fun _ => ev_callQ rfl rfl rfl (pf rfl) (q2 ..), ?_⟩; refine runD_q 6 rfl rfl (by kernel_rfl) ?_; refine ⟨_, fun _ => ev_fieldAddr rfl rfl (fo rfl), ?_⟩; refine runD_q 7 rfl rfl (by kernel_rfl) ?_; refine ⟨_, fun _ => ev_loadK rfl rfl (sc rfl) (memR (memF (.tail _ (.head _)))) rfl, ?_⟩; refine runD_q 8 rfl rfl (by kernel_rfl) ?_; refine ⟨_, fun _ => ev_callQ rfl rfl rfl (pf rfl) (q3 ..), ?_⟩; refine runD_q 9 rfl rfl (by kernel_rfl) ?_; refine ⟨_, fun _ => ev_build rfl pl25 rfl, ?_⟩; refine runD_1 10 (by kernel_rfl) rfl rfl rfl ?_; refine runL_alloc rfl rfl rfl rfl rfl ze25 (fun _ => ?_); refine runL_nil ?_; refine endS_d rfl ?_; refine runD_1 11 (by kernel_rfl) rfl rfl rfl ?_; refine runL_store0 rfl rfl rfl rfl rfl (sz rfl) rfl rfl rfl rfl rfl ?_; refine runL_nil ?_; refine endS_n rfl ?_; refine runD_done (by kernel_rfl) ?_; refine then_normal ?_; refine run_seq ?_; refine run_region ?_; refine xel rfl (ev_fieldAddr rfl rfl (fo rfl)) ?_; refine xel rfl (ev_loadK rfl rfl (sc rfl) (memF (.head _)) rfl) ?_; refine xel rfl (ev_quo rfl rfl rfl (by omega) (tdiv_range (by omega) (by omega) (by omega))) ?_; refine xel rfl (ev_fieldAddr rfl rfl (fo rfl)) ?_; refine runL_store0 rfl rfl rfl rfl rfl (sz rfl) rfl rfl rfl rfl rfl ?_; refine runL_nil ?_; refine then_normal ?_; refine run_seq ?_; refine run_region ?_; refine xel rfl (ev_fieldAddr rfl rfl (fo rfl)) ?_; refine xel rfl (ev_loadK rfl rfl (sc rfl) (memF (.tail _ (.tail _ (.head _)))) rfl) ?_; refine xel rfl (ev_fieldAddr rfl rfl (fo rfl)) ?_; refine xel rfl (ev_loadK rfl rfl (sc rfl) (memF (.head _)) rfl) ?_; refine xel rfl (ev_callQ rfl rfl rfl (pf rfl) (q4 ..)) ?_; refine xel rfl (ev_fieldAddr rfl rfl (fo rfl)) ?_; refine runL_store0 rfl rfl rfl rfl rfl (sz rfl) rfl rfl rfl rfl rfl ?_; refine runL_nil ?_; refine then_normal ?_; refine run_seq ?_; refine run_region ?_; refine xel rfl (ev_loadAK rfl rfl (ag rfl) (sz rfl) (memF (.head _)) rfl) ?_; refine runL_store1 rfl rfl rfl rfl rfl (sz rfl) rfl rfl rfl rfl rfl ?_; refine runL_nil ?_; refine then_normal ?_; refine run_ret ?_)
  first
    | exact ⟨_, .agg rfl (memF (.tail _ (.head _))) (ag rfl) (sz rfl) rfl .nil, rfl⟩
    | exact ⟨_, .agg rfl (memF (.tail _ (.tail _ (.head _)))) (ag rfl) (sz rfl) rfl .nil, rfl⟩
    | exact ⟨_, .agg rfl (memF (.head _)) (ag rfl) (sz rfl) rfl .nil, rfl⟩
def fstep (s : List (Int × Int) × List Ent) (r : List Int) : List (Int × Int) × List Ent :=
  if ((mkO r).trader, (mkO r).id) ∈ s.1 then s else (s.1 ++ [((mkO r).trader, (mkO r).id)], s.2 ++ [⟨mkO r, tip (mkO r)⟩])
def fills (rows : List (List Int)) (k : Nat) : List (Int × Int) × List Ent := (rows.take k).foldl fstep ([], [])
theorem fills_succ {rows : List (List Int)} {k : Nat} {r : List Int} (h : rows[k]? = some r) : fills rows (k + 1) = fstep (fills rows k) r := by
  have hi := (List.getElem?_eq_some_iff.1 h).1
  unfold fills
  rw [List.take_succ_eq_append_getElem hi, List.foldl_append, (List.getElem?_eq_some_iff.1 h).2]; rfl
theorem mkO_ok (r : List Int) : 0 ≤ (mkO r).trader ∧ (mkO r).trader ≤ 3 ∧ 0 ≤ (mkO r).id ∧ (mkO r).id ≤ 9 ∧ 1 ≤ (mkO r).qty ∧ (mkO r).qty ≤ 12 ∧ 0 ≤ (mkO r).show_ ∧ (mkO r).show_ ≤ (mkO r).qty := by
  have w1 := win_in (r.getD 1 0) (show (0 : Int) ≤ 3 by omega)
  have w2 := win_in (r.getD 2 0) (show (0 : Int) ≤ 9 by omega)
  have w3 := win_in (r.getD 3 0) (show (1 : Int) ≤ 12 by omega)
  have w4 := win_in (r.getD 4 0) (show (0 : Int) ≤ win (r.getD 3 0) 1 12 by omega)
  unfold mkO; dsimp only; omega
theorem mkO_tip (r : List Int) : 1 ≤ tip (mkO r) ∧ tip (mkO r) ≤ (mkO r).qty := by
  have := mkO_ok r
  unfold tip; split <;> omega
/-- All orders of a filled level are small, and each is there once. -/
structure FillOk (k : Nat) (s : List (Int × Int) × List Ent) : Prop where
  len : s.2.length ≤ k
  small : ∀ x ∈ s.2, 1 ≤ x.o.qty ∧ x.o.qty ≤ 12 ∧ 1 ≤ x.seen ∧ x.seen ≤ x.o.qty ∧ 0 ≤ x.o.trader ∧ x.o.trader ≤ 3 ∧ 0 ≤ x.o.show_ ∧ x.o.show_ ≤ x.o.qty ∧ x.seen = tip x.o
  keys : s.1 = s.2.map fun x => (x.o.trader, x.o.id)
  once : s.1.Nodup
theorem fills_ok (rows : List (List Int)) : ∀ k, FillOk k (fills rows k)
  | 0 => ⟨by simp [fills], fun x h => by simp [fills] at h, by simp [fills], by simp [fills]⟩
  | k + 1 => by
    have ih := fills_ok rows k
    cases hr : rows[k]? with
    | none =>
      have : fills rows (k + 1) = fills rows k := by
        have := List.getElem?_eq_none_iff.1 hr
        unfold fills; rw [List.take_of_length_le (by omega), List.take_of_length_le (by omega)]
      rw [this]
      exact ⟨by have := ih.len; omega, ih.small, ih.keys, ih.once⟩
    | some r =>
      rw [fills_succ hr]
      unfold fstep
      split
      · exact ⟨by have := ih.len; omega, ih.small, ih.keys, ih.once⟩
      · rename_i hn
        have h1 := mkO_ok r
        have h2 := mkO_tip r
        refine ⟨?_, fun x m => ?_, ?_, ?_⟩
        · rw [List.length_append]; have := ih.len; show _ + 1 ≤ _; omega
        · rcases List.mem_append.1 m with m | m
          · exact ih.small x m
          · simp only [List.mem_singleton] at m; subst m; dsimp only; omega
        · dsimp only; rw [ih.keys, List.map_append]; rfl
        · rw [List.nodup_append]
          refine ⟨ih.once, by simp, fun a ha b hb => ?_⟩
          simp only [List.mem_singleton] at hb
          subst hb
          intro e; subst e; exact hn ha
theorem FillOk.lb {k : Nat} {s : List (Int × Int) × List Ent} (h : FillOk k s) (hk : k ≤ 65536) : LB s.2 :=
  ⟨by have := h.len; omega, fun x m => by have := h.small x m; omega⟩
set_option maxRecDepth 4000 in
set_option maxHeartbeats 1000000 in
theorem sp_filledW (F : Heap) (a : Option Addr) (len cap : Nat) (rs : List (List Int)) (hR : RowsF F a len 5 rs) (hM : len ≤ 9223372036854775807) :
    Sp Try.prog F 16 [.slice a len cap] [] (fun v h' => ∃ b, v = .pointer (some ⟨b, 0, none⟩) ∧ LvH b 7 (fills rs 20).2 h') := by
  refine Sp.up ?_
  refine sp_of_code Try.func16 rfl rfl ?_
  (refine run_seq ?_; refine run_region ?_; refine xep rfl rfl ?_; refine runL_nil ?_; refine then_normal ?_; refine run_seq ?_; refine run_region ?_)
  refine runL_call0 rfl rfl rfl rfl rfl rfl rfl (pf rfl) (sp_lnew _ 7) ?_
  rintro v h1 ⟨b, rfl, a0, c0, A0, own0, rfl⟩
  (refine xep rfl rfl ?_; refine runL_nil ?_; refine then_normal ?_; (iterate 2 refine run_seq ?_); refine run_region ?_; refine xep rfl rfl ?_; refine xel rfl (ev_eqNil rfl rfl rfl (pt rfl)) ?_; refine runL_nil ?_; refine then_normal ?_)
  refine run_condF rfl rfl ?_
  (refine run_skip ?_; refine then_normal ?_; refine run_seq ?_; refine run_region ?_)
  refine runL_makeMap rfl rfl rfl rfl rfl (fun mb => ?_)
  (refine xep rfl rfl ?_; refine runL_nil ?_; refine then_normal ?_; (iterate 2 refine run_seq ?_); refine run_region ?_; refine xep rfl rfl ?_; refine runL_nil ?_; refine then_normal ?_; refine run_block ?_)
  have hrl := hR.1
  refine run_loopK (σ := Nat × Heap) [0, 3, 4, 5] (fun s => [(0, .slice a len cap), (3, .pointer (some ⟨b, 0, none⟩)), (4, .map (some mb)), (5, .int .i64 s.1)]) (fun s => (mb, setO (fills rs s.1).1) :: s.2)
    (fun s => s.1 ≤ len ∧ s.1 ≤ 20 ∧ LvH b 7 (fills rs s.1).2 s.2) (fun s => 20 - s.1) (0, blk b [.int .i64 7, .slice a0 0 c0] 58 :: A0) ⟨Nat.zero_le _, Nat.zero_le _, a0, c0, A0, own0, rfl⟩ rfl (fun x => by show cnt x (_ :: _ :: (A0 ++ [])) = _; rw [List.append_nil]; rfl) ?_
  rintro ⟨k, H⟩ ⟨g1, g2, hH⟩
  dsimp only at g1 g2 hH ⊢
  have hok := fills_ok rs k
  ((iterate 2 refine run_seq ?_); refine run_region ?_; (iterate 2 refine xep rfl rfl ?_); refine xel rfl (ev_len rfl rfl (se rfl)) ?_; (iterate 2 refine xep rfl rfl ?_); (iterate 2 refine xgp rfl rfl rfl ?_); refine xep rfl rfl ?_; refine runL_nil ?_; refine then_normal ?_)
  (refine run_cond rfl (fun hc => ?_) (fun hc => ?_) <;> (try simp only [z0, z1, z2, z3, z4, z5, z6, z7, z8, z9, Bool.not_true, Bool.not_false, Bool.false_or, Bool.true_and, true_and, and_true, false_or, or_false, reduceCtorEq, Bool.false_eq_true] at hc))
  · obtain ⟨zb, off, rfl⟩ := hR.pos (by omega)
    obtain ⟨r, hr, hrl5, hrI, l1⟩ := RowsF.cell hR (i := k) (by omega)
    have q1 := fun F => sp_made F r hrl5
    have hfs := fills_succ hr
    (refine run_skip ?_; refine then_normal ?_; refine run_seq ?_; refine run_block ?_; refine run_seq ?_; refine run_region ?_; (iterate 2 refine xep rfl rfl ?_); refine xel rfl (ev_indexAddr rfl rfl rfl (se rfl) (by omega) (by omega)) ?_)
    refine runL_ev rfl rfl rfl rfl (ev_loadAF rfl rfl (ag rfl) (sz rfl) l1 (by rw [ints_len]; exact hrl5)) ?_
    (refine xel rfl (ev_callQ rfl rfl rfl (pf rfl) (q1 ..)) ?_; refine runL_alloc rfl rfl rfl rfl rfl ze25 (fun _ => ?_); refine runL_store0 rfl rfl rfl rfl rfl (sz rfl) rfl rfl rfl rfl rfl ?_; refine runL_nil ?_; refine then_normal ?_; refine run_seq ?_; refine run_region ?_; refine xep rfl rfl ?_; refine xel rfl (ev_fieldAddr rfl rfl (fo rfl)) ?_; refine xel rfl (ev_loadK rfl rfl (sc rfl) (memF (.head _)) rfl) ?_; refine xel rfl (ev_fieldAddr rfl rfl (fo rfl)) ?_; refine xel rfl (ev_loadK rfl rfl (sc rfl) (memF (.head _)) rfl) ?_; refine xel rfl (ev_buildA rfl (ar rfl) ze54 rfl rfl) ?_)
    rename_i b6
    have hu : fills rs (k + 1) = if ((mkO r).trader, (mkO r).id) ∈ (fills rs k).1 then fills rs k else ((fills rs k).1 ++ [((mkO r).trader, (mkO r).id)], (fills rs k).2 ++ [⟨mkO r, tip (mkO r)⟩]) := hfs
    generalize mkO r = o at *
    skip
    refine runL_ev rfl rfl rfl rfl (ev_lookup (p := (o.trader, o.id)) (l := (fills rs k).1) rfl rfl rfl pm2 (memF (.tail _ (.head _)))) ?_
    (refine xep rfl rfl ?_; refine runL_nil ?_; refine then_normal ?_)
    by_cases hm : (o.trader, o.id) ∈ (fills rs k).1
    · refine run_condF rfl (by rw [decide_eq_true hm]; rfl) ?_
      rw [if_pos hm] at hu
      (refine run_skip ?_; refine in_normal ?_; refine then_normal ?_; refine run_region ?_; refine xep rfl rfl ?_; refine xel rfl (ev_add rfl rfl rfl (by omega)) ?_; refine xep rfl rfl ?_; refine runL_nil ?_; refine then_normal ?_)
      exact ⟨(k + 1, H), ⟨by show k + 1 ≤ len; omega, by show k + 1 ≤ 20; omega, by dsimp only; rw [hu]; exact hH⟩, by show 20 - (k + 1) < 20 - k; omega, rfl, [blk b6 o.cells 25], fun x => by dsimp only; rw [hu]; show cnt x (blk b6 o.cells 25 :: _) = _; (first | rfl | (simp only [List.append_eq, cnt_append, cnt_cons, cnt_nil, blk]; omega) | (simp only [List.append_eq, cnt_append, cnt_cons, cnt_nil, blk]; done))⟩
    · refine run_condT rfl (by rw [decide_eq_false hm]; rfl) ?_
      rw [if_neg hm] at hu
      refine RunC.perm (h' := (mb, setO (fills rs k).1) :: blk b6 o.cells 25 :: H) (fun x => by show cnt x (blk b6 o.cells 25 :: _) = _; (first | rfl | (simp only [List.append_eq, cnt_append, cnt_cons, cnt_nil, blk]; omega) | (simp only [List.append_eq, cnt_append, cnt_cons, cnt_nil, blk]; done))) ?_
      (refine run_seq ?_; refine run_region ?_; refine xep rfl rfl ?_; refine xel rfl (ev_fieldAddr rfl rfl (fo rfl)) ?_; refine xel rfl (ev_loadK rfl rfl (sc rfl) (memF (.tail _ (.head _))) rfl) ?_; refine xel rfl (ev_fieldAddr rfl rfl (fo rfl)) ?_; refine xel rfl (ev_loadK rfl rfl (sc rfl) (memF (.tail _ (.head _))) rfl) ?_; refine xel rfl (ev_buildA rfl (ar rfl) ze54 rfl rfl) ?_)
      skip
      refine runL_mapPut (p := (o.trader, o.id)) rfl rfl rfl rfl rfl rfl pm2 hm ?_
      (refine runL_nil ?_; refine then_normal ?_; refine run_region ?_; refine xep rfl rfl ?_; refine xel rfl (ev_loadAK rfl rfl (ag rfl) (sz rfl) (memF (.tail _ (.head _))) rfl) ?_)
      refine runL_call (caps := []) ((mb, setO ((fills rs k).1 ++ [(o.trader, o.id)])) :: [blk b6 o.cells 25]) H rfl rfl rfl rfl rfl rfl rfl (pf rfl) (fun x => by (first | rfl | (simp only [List.append_eq, cnt_append, cnt_cons, cnt_nil, blk]; omega) | (simp only [List.append_eq, cnt_append, cnt_cons, cnt_nil, blk]; done))) (by rw [List.append_nil]; exact sp_ladd _ H b 7 _ hH (by have := hok.len; omega) o) ?_
      rintro v h1 hh
      (refine runL_nil ?_; refine in_normal ?_; refine then_normal ?_; refine run_region ?_; refine xep rfl rfl ?_; refine xel rfl (ev_add rfl rfl rfl (by omega)) ?_; refine xep rfl rfl ?_; refine runL_nil ?_; refine then_normal ?_)
      refine ⟨(k + 1, h1), ⟨by show k + 1 ≤ len; omega, by show k + 1 ≤ 20; omega, by dsimp only; rw [hu]; exact hh⟩, by show 20 - (k + 1) < 20 - k; omega, rfl, [blk b6 o.cells 25], fun x => by dsimp only; rw [hu]; (first | rfl | (simp only [List.append_eq, cnt_append, cnt_cons, cnt_nil, blk]; omega) | (simp only [List.append_eq, cnt_append, cnt_cons, cnt_nil, blk]; done))⟩
  · have hk : fills rs 20 = fills rs k := by
      unfold fills
      rcases (by omega : k = 20 ∨ len ≤ k) with h | h
      · rw [h]
      · rw [List.take_of_length_le (by omega), List.take_of_length_le (by omega)]
    (refine run_exit ?_; (iterate 2 refine then_exit ?_); refine in_exit ?_; refine then_normal ?_)
    (refine run_seq ?_; refine run_region ?_; (iterate 2 refine xep rfl rfl ?_); refine runL_nil ?_; refine then_normal ?_; refine run_ret ?_)
    refine ⟨_, rfl, H, [(mb, setO (fills rs k).1)], ⟨b, rfl, by rw [hk]; exact hH⟩, fun x => by (first | rfl | (simp only [List.append_eq, cnt_append, cnt_cons, cnt_nil, blk]; omega) | (simp only [List.append_eq, cnt_append, cnt_cons, cnt_nil, blk]; done))⟩
theorem sp_filled (F : Heap) (a : Option Addr) (len cap : Nat) (rs : List (List Int)) (hR : RowsF F a len 5 rs) (hC : len ≤ cap) (hM : cap ≤ 9223372036854775807) :
    Sp Try.prog F 16 [.slice a len cap] [] (fun v h' => ∃ b, v = .pointer (some ⟨b, 0, none⟩) ∧ LvH b 7 (fills rs 20).2 h') := sp_filledW F a len cap rs hR (by omega)
end Go.Proofs.Ytfclaleiciodmaa
