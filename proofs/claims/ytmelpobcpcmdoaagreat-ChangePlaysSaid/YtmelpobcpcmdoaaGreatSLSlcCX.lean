/- Contracts of functions of the given program over its translation, each proved by walking its text; used by the laws' rows. It proves no given statement by itself. -/
import Derived.Test.YtmelpobcpcmdoaaGreatSLSlcEX
import Derived.Test.YtmelpobcpcmdoaaGreatSLCopy
import Derived.Test.YtmelpobcpcmdoaaGreatSLMore3
import Derived.Test.YtmelpobcpcmdoaaGreatSLPlJX
import Derived.Test.YtmelpobcpcmdoaaGreatSLSlcOX
import Derived.Test.YtmelpobcpcmdoaaGreatSLLaw10bX
import Derived.Test.YtmelpobcpcmdoaaGreatSLOrdBX
set_option autoImplicit false
set_option linter.unusedSectionVars false
set_option linter.unusedSimpArgs false
set_option linter.unusedVariables false
set_option maxRecDepth 4000
set_option maxHeartbeats 16000000
namespace Go.Proofs.YtmelpobcpcmdoaaGreat
open Go Go.SL Go.Proofs
/-- A slice of orders where it lies. -/
def slcV (t : (Option Addr × Nat) × List Ord) : List Value := [.slice t.1.1 t.2.length t.1.2]
theorem slcV_len (t : (Option Addr × Nat) × List Ord) : (slcV t).length = 1 := rfl
def catL : List ((Option Addr × Nat) × List Ord) → List Ord
  | [] => []
  | t :: r => t.2 ++ catL r
theorem catL_take {l : List ((Option Addr × Nat) × List Ord)} {i : Nat} {t : (Option Addr × Nat) × List Ord} (h : l[i]? = some t) : catL (l.take (i + 1)) = catL (l.take i) ++ t.2 := by
  have hi := (List.getElem?_eq_some_iff.1 h).1
  have e := (List.getElem?_eq_some_iff.1 h).2
  rw [List.take_succ_eq_append_getElem hi, e]
  generalize l.take i = m
  induction m with
  | nil => simp [catL]
  | cons x m ih => simp only [List.cons_append, catL, ih, List.append_assoc]
theorem catL_le (l : List ((Option Addr × Nat) × List Ord)) (i : Nat) : (catL (l.take i)).length ≤ (catL l).length := by
  induction l generalizing i with
  | nil => simp
  | cons x l ih =>
    cases i with
    | zero => simp [catL]
    | succ i =>
      have := ih i
      simp only [List.take_succ_cons, catL, List.length_append]; omega
variable [Base]
theorem sp_grow0 (F : Heap) (n : Nat) (hn : n ≤ 65536) : Sp Tryz.prog F 70 [.slice none 0 0, .int .i64 n] [] (fun v h' => OwnS 35 9 v 0 [] h') := by
  refine sp_of_code Tryz.func70 rfl rfl ?_
  (refine run_seq ?_; refine run_region ?_; refine xep rfl rfl ?_; refine runL_nil ?_; refine then_normal ?_; (iterate 2 refine run_seq ?_); refine run_region ?_; (iterate 2 refine xep rfl rfl ?_); refine runL_nil ?_; refine then_normal ?_)
  refine run_condF rfl (decide_eq_false (by omega)) ?_
  (refine run_skip ?_; refine then_normal ?_; (iterate 2 refine run_seq ?_); refine run_region ?_; (iterate 2 refine xep rfl rfl ?_); refine xel rfl (ev_cap rfl rfl (se rfl)) ?_; refine xep rfl rfl ?_; refine xel rfl (ev_len rfl rfl (se rfl)) ?_; (iterate 2 refine xel rfl (ev_sub rfl rfl rfl (by omega)) ?_); refine xep rfl rfl ?_; refine runL_nil ?_; refine then_normal ?_; refine run_seq ?_; refine run_region ?_; (iterate 2 refine xep rfl rfl ?_); refine runL_nil ?_; refine then_normal ?_)
  by_cases h0 : n = 0
  · refine run_condF rfl (decide_eq_false (by omega)) ?_
    (refine run_skip ?_; refine then_normal ?_; refine run_seq ?_; refine run_region ?_; (iterate 2 refine xep rfl rfl ?_); refine runL_nil ?_; refine then_normal ?_; refine run_ret ?_)
    exact ⟨_, rfl, .nil _ _⟩
  · refine run_condT rfl (decide_eq_true (by omega)) ?_
    (refine run_region ?_; (iterate 2 refine xep rfl rfl ?_); refine xel rfl (ev_cap rfl rfl (se rfl)) ?_; refine xel rfl (ev_sliceHi rfl rfl rfl (se rfl) (by omega) (by omega)) ?_; refine xep rfl rfl ?_)
    refine runL_appendZ (m := n) (cl := []) rfl rfl rfl rfl rfl rfl rfl (by omega) (se rfl) (kn := .i64) (by kernel_rfl) ze35 rfl rfl (byt rfl) ⟨rfl, .inl rfl⟩ (by omega) (by omega) (by decide) (by decide) (by omega) ?_
    rintro b zs rst cap' hz hcap hlen
    (refine xep rfl rfl ?_; refine xel rfl (ev_len rfl rfl (se rfl)) ?_; refine xel rfl (ev_sliceHi rfl rfl rfl (se rfl) (by omega) (by omega)) ?_; refine xep rfl rfl ?_; refine runL_nil ?_; refine then_normal ?_; refine run_seq ?_; refine run_region ?_; (iterate 2 refine xep rfl rfl ?_); refine runL_nil ?_; refine then_normal ?_; refine run_ret ?_)
    exact ⟨_, rfl, .inr ⟨b, zs ++ rst, cap', rfl, by simp, rfl, by rw [List.length_append]; omega, Nat.zero_le _⟩⟩
theorem sp_concat (F : Heap) (a : Option Addr) (c : Nat) (l : List ((Option Addr × Nat) × List Ord)) (n : Nat) (hn : l.length = n) (hn2 : n ≤ 1000) (hl : (catL l).length ≤ 65536) (h : SrcIs F a n 1 (rows slcV l))
    (hs : ∀ t ∈ l, SrcIs F t.1.1 t.2.length 9 (rows Ord.cells t.2)) :
    Sp Tryz.prog F 45 [.slice a n c] [] (fun v h' => OwnS 35 9 v (catL l).length (rows Ord.cells (catL l)) h') := by
  refine Sp.up ?_
  refine sp_of_code Tryz.func45 rfl rfl ?_
  (refine run_seq ?_; refine run_region ?_; refine xep rfl rfl ?_; refine runL_nil ?_; refine then_normal ?_; refine run_seq ?_; refine run_region ?_; refine xep rfl rfl ?_; refine runL_nil ?_; refine then_normal ?_; (iterate 2 refine run_seq ?_); refine run_region ?_; refine xep rfl rfl ?_; refine xel rfl (ev_len rfl rfl (se rfl)) ?_; refine xep rfl rfl ?_; refine runL_nil ?_; refine then_normal ?_; refine run_block ?_)
  refine run_loopK (σ := Nat) [0, 3, 9, 10, 11] (fun i => [(0, .slice a n c), (3, .int .i64 (catL (l.take i)).length), (9, .slice a n c), (10, .int .i64 n), (11, .int .i64 i)]) (fun _ => []) (fun i => i ≤ n) (fun i => n - i) 0 (Nat.zero_le _) rfl (fun _ => rfl) ?_
  intro i gi
  have hle := catL_le l i
  (refine run_seq ?_; refine run_region ?_; refine xep rfl rfl ?_; refine runL_nil ?_; refine then_normal ?_; refine run_seq ?_)
  (refine run_cond rfl (fun hc => ?_) (fun hc => ?_) <;> (try simp only [z0, z1, z2, z3, z4, z5, z6, z7, z8, z9, Bool.not_true, Bool.not_false, Bool.false_or, Bool.true_and, true_and, and_true, false_or, or_false, reduceCtorEq, Bool.false_eq_true] at hc))
  · obtain ⟨b1, off1, _, _, _, rfl, _⟩ := h.pos (by omega)
    obtain ⟨t, ht⟩ : ∃ t, l[i]? = some t := ⟨l[i]'(by omega), List.getElem?_eq_getElem _⟩
    have l1 : LoadsF F b1 (off1 + (i : Int).toNat * 1) (.slice t.1.1 t.2.length t.1.2) := (SrcIs.row slcV_len h hn ht).at 0 _ rfl
    have e := catL_take ht
    have hle2 := catL_le l (i + 1)
    rw [e, List.length_append] at hle2
    (refine run_skip ?_; refine then_normal ?_; refine run_seq ?_; refine run_block ?_; refine run_seq ?_; refine run_region ?_; refine xel rfl (ev_indexAddr rfl rfl rfl (se rfl) (by omega) (by omega)) ?_; refine xel rfl (ev_loadF rfl rfl (sc rfl) l1) ?_; refine xep rfl rfl ?_; refine runL_nil ?_; refine then_normal ?_; refine run_seq ?_; refine run_region ?_; (iterate 2 refine xep rfl rfl ?_); refine xel rfl (ev_len rfl rfl (se rfl)) ?_; refine xel rfl (ev_add rfl rfl rfl (by omega)) ?_; refine xep rfl rfl ?_; refine runL_nil ?_; refine then_normal ?_; refine run_seq ?_; refine run_region ?_; (iterate 2 refine xep rfl rfl ?_); refine runL_nil ?_; refine then_normal ?_)
    refine run_condF rfl (decide_eq_false (by omega)) ?_
    (refine run_skip ?_; refine in_normal ?_; refine then_normal ?_; refine run_region ?_; refine xel rfl (ev_add rfl rfl rfl (by omega)) ?_; refine xep rfl rfl ?_; refine runL_nil ?_; refine then_normal ?_)
    exact ⟨i + 1, by show i + 1 ≤ n; omega, by show n - (i + 1) < n - i; omega, by rw [e, List.length_append, Int.natCast_add]; rfl, [], fun _ => rfl⟩
  · have ei : l.take i = l := List.take_of_length_le (by omega)
    rw [ei]
    (refine run_exit ?_; (iterate 2 refine then_exit ?_); refine in_exit ?_; refine then_normal ?_)
    (refine run_seq ?_; refine run_region ?_; refine xep rfl rfl ?_)
    refine runL_call0 rfl rfl rfl rfl rfl rfl rfl (pf rfl) (sp_grow0 _ (catL l).length hl) ?_
    rintro v A0 own0
    obtain ⟨a0, c0, rfl, own0⟩ := own0.at
    (refine xep rfl rfl ?_; refine runL_nil ?_; refine then_normal ?_; (iterate 2 refine run_seq ?_); refine run_region ?_; refine xep rfl rfl ?_; refine xel rfl (ev_len rfl rfl (se rfl)) ?_; refine xep rfl rfl ?_; refine runL_nil ?_; refine then_normal ?_; refine run_block ?_)
    refine run_loopK (σ := Nat × (Option Addr × Nat × Heap)) [0, 6, 25, 26, 27] (fun s => [(0, .slice a n c), (6, .slice s.2.1 (catL (l.take s.1)).length s.2.2.1), (25, .slice a n c), (26, .int .i64 n), (27, .int .i64 s.1)]) (fun s => s.2.2.2)
      (fun s => s.1 ≤ n ∧ OwnS 35 9 (.slice s.2.1 (catL (l.take s.1)).length s.2.2.1) (catL (l.take s.1)).length (rows Ord.cells (catL (l.take s.1))) s.2.2.2) (fun s => n - s.1) (0, (a0, c0, A0)) ⟨Nat.zero_le _, own0⟩ rfl (fun x => by (first | rfl | (simp only [List.append_eq, cnt_append, cnt_cons, cnt_nil, blk]; omega) | (simp only [List.append_eq, cnt_append, cnt_cons, cnt_nil, blk]; done))) ?_
    rintro ⟨j, ao, co, A⟩ ⟨gj, own⟩
    dsimp only at gj own ⊢
    have hle3 := catL_le l j
    (refine run_seq ?_; refine run_region ?_; refine xep rfl rfl ?_; refine runL_nil ?_; refine then_normal ?_; refine run_seq ?_)
    (refine run_cond rfl (fun hc => ?_) (fun hc => ?_) <;> (try simp only [z0, z1, z2, z3, z4, z5, z6, z7, z8, z9, Bool.not_true, Bool.not_false, Bool.false_or, Bool.true_and, true_and, and_true, false_or, or_false, reduceCtorEq, Bool.false_eq_true] at hc))
    · obtain ⟨b1, off1, _, _, _, rfl, _⟩ := h.pos (by omega)
      obtain ⟨t, ht⟩ : ∃ t, l[j]? = some t := ⟨l[j]'(by omega), List.getElem?_eq_getElem _⟩
      have l1 : LoadsF F b1 (off1 + (j : Int).toNat * 1) (.slice t.1.1 t.2.length t.1.2) := (SrcIs.row slcV_len h hn ht).at 0 _ rfl
      have e := catL_take ht
      have hle2 := catL_le l (j + 1)
      rw [e, List.length_append] at hle2
      (refine run_skip ?_; refine then_normal ?_; refine run_seq ?_; refine run_block ?_; refine run_seq ?_; refine run_region ?_; refine xel rfl (ev_indexAddr rfl rfl rfl (se rfl) (by omega) (by omega)) ?_; refine xel rfl (ev_loadF rfl rfl (sc rfl) l1) ?_; refine xep rfl rfl ?_; refine runL_nil ?_; refine then_normal ?_; refine run_region ?_; (iterate 2 refine xep rfl rfl ?_))
      refine runL_append (sl := rows Ord.cells t.2) [] rfl rfl rfl rfl rfl rfl rfl (se rfl) (se rfl) ze35 rfl (byt rfl) own (fun y => by rw [List.append_nil]) ((hs t (List.mem_of_getElem? ht)).up) (rows_cells (fun _ => rfl) _) (by decide) (by decide) (by omega) ?_
      rintro v' A8 own'
      rw [← rows_append, ← List.length_append, ← e] at own'
      obtain ⟨a8, c8, rfl, own8⟩ := own'.at
      (refine xep rfl rfl ?_; refine runL_nil ?_; refine in_normal ?_; refine then_normal ?_; refine run_region ?_; refine xel rfl (ev_add rfl rfl rfl (by omega)) ?_; refine xep rfl rfl ?_; refine runL_nil ?_; refine then_normal ?_)
      exact ⟨(j + 1, a8, c8, A8), ⟨by show j + 1 ≤ n; omega, own8⟩, by show n - (j + 1) < n - j; omega, rfl, [], fun y => by (first | rfl | (simp only [List.append_eq, cnt_append, cnt_cons, cnt_nil, blk]; omega) | (simp only [List.append_eq, cnt_append, cnt_cons, cnt_nil, blk]; done))⟩
    · have ej : l.take j = l := List.take_of_length_le (by omega)
      rw [ej] at own ⊢
      (refine run_exit ?_; (iterate 2 refine then_exit ?_); refine in_exit ?_; refine then_normal ?_)
      (refine run_seq ?_; refine run_region ?_; (iterate 2 refine xep rfl rfl ?_); refine runL_nil ?_; refine then_normal ?_; refine run_ret ?_)
      exact ⟨_, rfl, A, [], own, fun y => by (first | rfl | (simp only [List.append_eq, cnt_append, cnt_cons, cnt_nil, blk]; omega) | (simp only [List.append_eq, cnt_append, cnt_cons, cnt_nil, blk]; done))⟩
end Go.Proofs.YtmelpobcpcmdoaaGreat

set_option autoImplicit false
set_option linter.unusedSectionVars false
set_option linter.unusedSimpArgs false
set_option linter.unusedVariables false
set_option maxRecDepth 4000
set_option maxHeartbeats 64000000
namespace Go.Proofs.YtmelpobcpcmdoaaGreat
open Go Go.SL Go.Proofs
def mall (M : Mk) : List Ord := ordersL (M.B.side 1) ++ (ordersL (M.B.side 2) ++ M.W)
theorem mall_len (M : Mk) : (mall M).length = mlen M := by
  have h1 := ordersL_len (M.B.side 1)
  have h2 := ordersL_len (M.B.side 2)
  have hs1 : lenL (M.B.side 1) = lenL M.B.buys := rfl
  have hs2 : lenL (M.B.side 2) = lenL M.B.sells := rfl
  unfold mall mlen
  rw [List.length_append, List.length_append]; omega
variable [Base]
theorem sp_sall (F : Heap) (m : Nat) (M : Mk) (h : MkIn F m M) (hw : BW M.B) (hl : mlen M ≤ 64) : Sp Tryz.prog F 15 [.pointer (some ⟨m, 0, none⟩)] [] (fun v h' => OwnS 35 9 v (mall M).length (rows Ord.cells (mall M)) h') := by
  obtain ⟨b, a, c, hB, h2, hs, hm⟩ := h
  have l1 : LoadsF F m (0 + 0) (.pointer (some ⟨b, 0, none⟩)) := ⟨_, _, _, hm, rfl⟩
  have l2 : LoadsF F m (0 + 1) (.slice a M.W.length c) := ⟨_, _, _, hm, rfl⟩
  refine Sp.up ?_
  refine sp_of_code Tryz.func15 rfl rfl ?_
  (refine run_seq ?_; refine run_region ?_; refine xep rfl rfl ?_; refine runL_nil ?_; refine then_normal ?_; refine run_seq ?_)
  refine run_region_D mo ?_
  (refine runD_q 0 rfl rfl (by kernel_rfl) ?_; refine ⟨_, fun _ => ev_pure rfl, ?_⟩; refine runD_q 1 rfl rfl (by kernel_rfl) ?_; refine ⟨_, fun _ => ev_pure rfl, ?_⟩; refine runD_q 2 rfl rfl (by kernel_rfl) ?_; refine ⟨_, fun _ => ev_fieldAddr rfl rfl (fo rfl), ?_⟩; refine runD_q 3 rfl rfl (by kernel_rfl) ?_; refine ⟨_, fun _ => ev_loadF rfl rfl (sc rfl) l1, ?_⟩; refine runD_q 5 rfl rfl (by kernel_rfl) ?_; refine ⟨_, fun _ => ev_pure rfl, ?_⟩; refine runD_q 6 rfl rfl (by kernel_rfl) ?_; refine ⟨_, fun _ => ev_pure rfl, ?_⟩; refine runD_q 7 rfl rfl (by kernel_rfl) ?_; refine ⟨_, fun _ => ev_fieldAddr rfl rfl (fo rfl), ?_⟩; refine runD_q 8 rfl rfl (by kernel_rfl) ?_; refine ⟨_, fun _ => ev_loadF rfl rfl (sc rfl) l1, ?_⟩; refine runD_q 10 rfl rfl (by kernel_rfl) ?_; refine ⟨_, fun _ => ev_pure rfl, ?_⟩; refine runD_q 11 rfl rfl (by kernel_rfl) ?_; refine ⟨_, fun _ => ev_pure rfl, ?_⟩; refine runD_q 12 rfl rfl (by kernel_rfl) ?_; refine ⟨_, fun _ => ev_fieldAddr rfl rfl (fo rfl), ?_⟩; refine runD_q 13 rfl rfl (by kernel_rfl) ?_; refine ⟨_, fun _ => ev_loadF rfl rfl (sc rfl) l2, ?_⟩; refine runD_1 4 (by kernel_rfl) rfl rfl rfl ?_)
  refine runL_callZ [] [] rfl rfl rfl rfl rfl rfl rfl (pf rfl) (fun x => by (first | rfl | (simp only [List.append_eq, cnt_append, cnt_cons, cnt_nil, blk]; omega) | (simp only [List.append_eq, cnt_append, cnt_cons, cnt_nil, blk]; done))) (sp_borders _ b M.B hB.up hw 1) ?_
  rintro v A1 own1
  obtain ⟨a1, c1, rfl, own1⟩ := own1.at
  (refine runL_nil ?_; refine endS_d rfl ?_; refine runD_1 9 (by kernel_rfl) rfl rfl rfl ?_)
  refine runL_callZ A1 [] rfl rfl rfl rfl rfl rfl rfl (pf rfl) (fun x => by (first | rfl | (simp only [List.append_eq, cnt_append, cnt_cons, cnt_nil, blk]; omega) | (simp only [List.append_eq, cnt_append, cnt_cons, cnt_nil, blk]; done))) (sp_borders _ b M.B hB.up hw 2) ?_
  rintro v A2 own2
  obtain ⟨a2, c2, rfl, own2⟩ := own2.at
  (refine runL_nil ?_; refine endS_d rfl ?_; refine runD_1 14 (by kernel_rfl) rfl rfl rfl ?_)
  refine runL_buildSlice (l := rows slcV [((a1, c1), ordersL (M.B.side 1)), ((a2, c2), ordersL (M.B.side 2)), ((a, c), M.W)]) rfl rfl rfl rfl rfl (se rfl) ze43 rfl rfl rfl rfl rfl (fun b14 => ?_)
  (refine runL_nil ?_; refine endS_d rfl ?_; refine runD_1 15 (by kernel_rfl) rfl rfl rfl ?_)
  have hcat : catL [((a1, c1), ordersL (M.B.side 1)), ((a2, c2), ordersL (M.B.side 2)), ((a, c), M.W)] = mall M := by simp [catL, mall]
  have hml := mall_len M
  refine runL_callZ (blk b14 (rows slcV [((a1, c1), ordersL (M.B.side 1)), ((a2, c2), ordersL (M.B.side 2)), ((a, c), M.W)]) 43 :: (A1 ++ A2)) [] rfl rfl rfl rfl rfl rfl rfl (pf rfl) (fun x => by (first | rfl | (simp only [List.append_eq, cnt_append, cnt_cons, cnt_nil, blk]; omega) | (simp only [List.append_eq, cnt_append, cnt_cons, cnt_nil, blk]; done))) (sp_concat _ _ _ [((a1, c1), ordersL (M.B.side 1)), ((a2, c2), ordersL (M.B.side 2)), ((a, c), M.W)] 3 rfl (by decide) (by rw [hcat]; omega) ⟨rfl, .inr ⟨b14, 0, _, _, _, rfl, memF (.head _), by simp [rows, slcV], rfl⟩⟩ fun t mt => by
    rcases List.mem_cons.1 mt with rfl | mt
    · exact own1.src fun x mx => by simp [mx]
    · rcases List.mem_cons.1 mt with rfl | mt
      · exact own2.src fun x mx => by simp [mx]
      · rw [List.mem_singleton] at mt
        subst mt
        exact hs.up) ?_
  rw [hcat]
  rintro v A3 own3
  obtain ⟨a3, c3, rfl, own3⟩ := own3.at
  (refine runL_nil ?_; refine endS_d rfl ?_; refine runD_q 16 rfl rfl (by kernel_rfl) ?_; refine ⟨_, fun _ => ev_pure rfl, ?_⟩; refine runD_done (by kernel_rfl) ?_; refine then_normal ?_; refine run_ret ?_)
  exact ⟨_, rfl, A3, blk b14 (rows slcV [((a1, c1), ordersL (M.B.side 1)), ((a2, c2), ordersL (M.B.side 2)), ((a, c), M.W)]) 43 :: (A1 ++ A2), own3, fun y => by (first | rfl | (simp only [List.append_eq, cnt_append, cnt_cons, cnt_nil, blk]; omega) | (simp only [List.append_eq, cnt_append, cnt_cons, cnt_nil, blk]; done))⟩
end Go.Proofs.YtmelpobcpcmdoaaGreat

set_option autoImplicit false
set_option linter.unusedSectionVars false
set_option linter.unusedSimpArgs false
set_option linter.unusedVariables false
set_option maxRecDepth 4000
namespace Go.Proofs.YtmelpobcpcmdoaaGreat
open Go Go.SL Go.Proofs
theorem orders_mem {l : List Lv} {x : Ord} : x ∈ ordersL l ↔ ∃ lv ∈ l, ∃ e ∈ lv.es, e.o = x := by
  induction l with
  | nil => simp [ordersL]
  | cons y l ih => simp [ordersL, ih]
def sumO : List Ord → Int
  | [] => 0
  | o :: r => o.qty + sumO r
theorem sumO_append (l m : List Ord) : sumO (l ++ m) = sumO l + sumO m := by
  induction l with
  | nil => simp [sumO]
  | cons x l ih => simp only [List.cons_append, sumO, ih]; omega
theorem orders_qty {l : List Lv} (h : ∀ lv ∈ l, lv.Ok) {x : Ord} (hx : x ∈ ordersL l) : 1 ≤ x.qty ∧ x.qty ≤ 1048576 := by
  obtain ⟨lv, m, e, me, rfl⟩ := orders_mem.1 hx
  have := (h lv m).1.2 e me
  omega
theorem sumO_part {l : List Ord} (h : ∀ x ∈ l, 1 ≤ x.qty ∧ x.qty ≤ 1048576) (i : Nat) : 0 ≤ sumO (l.take i) ∧ sumO (l.take i) ≤ 1048576 * (l.length : Nat) := by
  have gen : ∀ m : List Ord, (∀ x ∈ m, 1 ≤ x.qty ∧ x.qty ≤ 1048576) → 0 ≤ sumO m ∧ sumO m ≤ 1048576 * (m.length : Nat) := by
    intro m hm
    induction m with
    | nil => exact ⟨Int.le_refl _, Int.le_refl _⟩
    | cons y m ih =>
      have h1 := ih fun z hz => hm z (List.mem_cons_of_mem _ hz)
      have h2 := hm y (List.mem_cons_self ..)
      simp only [sumO, List.length_cons]; push_cast; omega
  have h1 := gen (l.take i) fun x m => h x (List.mem_of_mem_take m)
  have : (l.take i).length ≤ l.length := by rw [List.length_take]; omega
  omega
end Go.Proofs.YtmelpobcpcmdoaaGreat

set_option autoImplicit false
set_option linter.unusedSectionVars false
set_option linter.unusedSimpArgs false
set_option linter.unusedVariables false
set_option maxRecDepth 4000
set_option maxHeartbeats 16000000
namespace Go.Proofs.YtmelpobcpcmdoaaGreat
open Go Go.SL Go.Proofs
variable [Base]
/-- What is so of what comes of an order. -/
structure CountIs (o : Ord) (B : Bk) : Prop where
  chain : FlsOk o.firm (3 - o.side) B.no o.qty (badd o B).1.fs
  num : (badd o B).1.fs.length ≤ 1048576
  got : 0 ≤ sumF (badd o B).1.fs ∧ sumF (badd o B).1.fs ≤ o.qty
  err : (badd o B).1.err ≠ 0 → (badd o B).1.fs = [] ∧ (badd o B).1.left = o.qty ∧ (badd o B).1.rests = false ∧ (badd o B).2 = B
  left : (badd o B).1.left = o.qty - sumF (badd o B).1.fs
  mine : sumO (ordersL ((badd o B).2.side o.side)) = sumO (ordersL (B.side o.side)) + (if (badd o B).1.rests = true then (badd o B).1.left else 0)
  theirs : sumO (ordersL ((badd o B).2.side (3 - o.side))) = sumO (ordersL (B.side (3 - o.side))) - sumF (badd o B).1.fs
  no : (badd o B).2.no = B.no + (badd o B).1.fs.length
end Go.Proofs.YtmelpobcpcmdoaaGreat

set_option autoImplicit false
set_option linter.unusedSectionVars false
set_option linter.unusedSimpArgs false
set_option linter.unusedVariables false
set_option maxRecDepth 4000
namespace Go.Proofs.YtmelpobcpcmdoaaGreat
open Go Go.SL Go.Proofs
/-! The same by fuel: closed sentences are reckoned so. -/
def menterF (n : Nat) (o : Ord) (B : Bk) : Out × Bk := (⟨o, (baddF n (bare o) B).1.fs, (baddF n (bare o) B).1.left, (baddF n (bare o) B).1.rests, (baddF n (bare o) B).1.waits, (baddF n (bare o) B).1.self, (baddF n (bare o) B).1.err⟩, (baddF n (bare o) B).2)
theorem menter_eqF (n : Nat) (o : Ord) (B : Bk) (h : o.qty.toNat ≤ n) : menter o B = menterF n o B := by
  unfold menter menterF
  rw [badd_eqF n (bare o) B h]
def mtrigF (f : Nat) : Nat → Mk → List Out × Mk
  | 0, M => ([], M)
  | n + 1, M => match M.W.findIdx? (fun o => hit o M.B.last) with
    | none => ([], M)
    | some k => match M.W[k]? with
      | none => ([], M)
      | some o => ((menterF f o M.B).1 :: (mtrigF f n ⟨(menterF f o M.B).2, M.W.take k ++ M.W.drop (k + 1)⟩).1, (mtrigF f n ⟨(menterF f o M.B).2, M.W.take k ++ M.W.drop (k + 1)⟩).2)
theorem mtrig_eqF (f : Nat) : ∀ (n : Nat) (M : Mk), (∀ x ∈ M.W, x.qty.toNat ≤ f) → mtrig n M = mtrigF f n M
  | 0, _, _ => rfl
  | n + 1, M, h => by
    unfold mtrig mtrigF
    cases hf : M.W.findIdx? (fun o => hit o M.B.last) with
    | none => rfl
    | some k =>
      dsimp only
      cases ho : M.W[k]? with
      | none => rfl
      | some o =>
        dsimp only
        rw [menter_eqF f o _ (h o (List.mem_of_getElem? ho)), mtrig_eqF f n ⟨(menterF f o M.B).2, M.W.take k ++ M.W.drop (k + 1)⟩ fun x m => h x (cut_mem m)]
def mfirstF (f : Nat) (o : Ord) (M : Mk) : Out × Mk :=
  if mrefused o M ≠ 0 then (⟨o, [], o.qty, false, false, false, mrefused o M⟩, M)
  else if 0 < o.stop ∧ hit o M.B.last = false then (⟨o, [], o.qty, false, true, false, 0⟩, ⟨M.B, M.W ++ [o]⟩)
  else ((menterF f o M.B).1, ⟨(menterF f o M.B).2, M.W⟩)
theorem mfirst_eqF (f : Nat) (o : Ord) (M : Mk) (h : o.qty.toNat ≤ f) : mfirst o M = mfirstF f o M := by
  unfold mfirst mfirstF
  rw [menter_eqF f o M.B h]
theorem mfirst_W {o x : Ord} {M : Mk} (h : x ∈ (mfirst o M).2.W) : x ∈ M.W ∨ x = o := by
  unfold mfirst at h
  split at h
  · exact .inl h
  · split at h
    · rcases List.mem_append.1 h with h | h
      · exact .inl h
      · exact .inr (by simpa using h)
    · exact .inl h
def maddF (f : Nat) (o : Ord) (M : Mk) : List Out × Mk := ((mfirstF f o M).1 :: (mtrigF f (mfirstF f o M).2.W.length (mfirstF f o M).2).1, (mtrigF f (mfirstF f o M).2.W.length (mfirstF f o M).2).2)
theorem madd_eqF (f : Nat) (o : Ord) (M : Mk) (h : o.qty.toNat ≤ f) (hW : ∀ x ∈ M.W, x.qty.toNat ≤ f) : madd o M = maddF f o M := by
  unfold madd maddF
  rw [← mfirst_eqF f o M h]
  rw [mtrig_eqF f _ _ fun x m => by
    rcases mfirst_W m with m | rfl
    · exact hW x m
    · exact h]
def uA : Ord := ⟨1, 1, 1, 2, 1, 10, 5, 0, 0⟩
def uB : Ord := ⟨1, 2, 1, 2, 1, 11, 5, 0, 0⟩
def uC : Ord := ⟨2, 1, 2, 1, 1, 12, 3, 0, 10⟩
def uD : Ord := ⟨3, 1, 3, 1, 1, 10, 5, 0, 0⟩
def m1 : Mk := ⟨⟨[], [⟨10, [⟨uA, 5⟩]⟩], 0, 0⟩, []⟩
def m2 : Mk := ⟨⟨[], [⟨10, [⟨uA, 5⟩]⟩, ⟨11, [⟨uB, 5⟩]⟩], 0, 0⟩, []⟩
def m3 : Mk := ⟨⟨[], [⟨10, [⟨uA, 5⟩]⟩, ⟨11, [⟨uB, 5⟩]⟩], 0, 0⟩, [uC]⟩
def m4 : Mk := ⟨⟨[], [⟨11, [⟨wq uB 2, 2⟩]⟩], 11, 2⟩, []⟩
end Go.Proofs.YtmelpobcpcmdoaaGreat

set_option autoImplicit false
set_option linter.unusedSectionVars false
set_option linter.unusedSimpArgs false
set_option linter.unusedVariables false
set_option maxRecDepth 4000
set_option maxHeartbeats 16000000
namespace Go.Proofs.YtmelpobcpcmdoaaGreat
open Go Go.SL Go.Proofs
/-- The order of numbers that may wait. -/
def kS (r : List Int) : Ord := ⟨(kO r).trader, (kO r).id, (kO r).firm, (kO r).side, (kO r).kind, (kO r).price, (kO r).qty, (kO r).show_, if win (r.getD 6 0) 0 32 < 11 then 95 + win (r.getD 6 0) 0 32 else 0⟩
theorem kS_right (r : List Int) : rightP (kS r) ∧ (kS r).trader ≤ 5 ∧ (kS r).id ≤ 15 ∧ (kS r).qty ≤ 12 ∧ 1 ≤ (kS r).qty := by
  have w := win_in (r.getD 6 0) (show (0 : Int) ≤ 32 by omega)
  have h := kO_right r
  unfold rightP at h ⊢
  unfold kS
  dsimp only
  split <;> omega
theorem ctFl : CmpOk Tryz.prog 93 21 := ⟨by kernel_rfl, by kernel_rfl, by kernel_rfl, by kernel_rfl⟩
theorem tyFl (o : Fl) : tyQ Tryz.prog 4 93 (fcell o) = true := by kernel_rfl
theorem eqFl (o : Fl) : eqK (fcell o) (fcell o) = some true := by simp [fcell, eqK, kNum]
variable [Base]
theorem sp_kStop (F : Heap) (r : List Int) (hr : r.length = 7) : Sp Tryz.prog F 8 [.agg ⟨ints r⟩] [] (Ret (ov (kS r))) := by
  have q1 := fun F => sp_kOrder F r hr
  show Sp _ _ _ _ _ (Ret (ov ⟨(kO r).trader, (kO r).id, (kO r).firm, (kO r).side, (kO r).kind, (kO r).price, (kO r).qty, (kO r).show_, if win (r.getD 6 0) 0 32 < 11 then 95 + win (r.getD 6 0) 0 32 else 0⟩))
  have hst := (kO_right r).2.1
  match r, hr with
  | [r0, r1, r2, r3, r4, r5, r6], _ =>
  have q2 := fun F => sp_Win F r6 0 32 (by omega) (by omega) (by omega)
  have w := win_in r6 (show (0 : Int) ≤ 32 by omega)
  show Sp _ _ _ _ _ (Ret (ov ⟨_, _, _, _, _, _, _, _, if win r6 0 32 < 11 then 95 + win r6 0 32 else 0⟩))
  generalize win r6 0 32 = x at *
  generalize kO [r0, r1, r2, r3, r4, r5, r6] = o at *
  refine sp_of_codeR Tryz.func8 rfl rfl ?_
  (refine run_seq ?_; refine run_region ?_; refine runL_box rfl rfl rfl rfl rfl rfl (fun _ => ?_); refine runL_alloc rfl rfl rfl rfl rfl ze35 (fun _ => ?_); refine runL_nil ?_; refine then_normal ?_; refine run_seq ?_; refine run_region ?_; refine xel rfl (ev_loadAK rfl rfl (ag rfl) (sz rfl) (memF (.tail _ (.head _))) rfl) ?_; refine xel rfl (ev_callQ rfl rfl rfl (pf rfl) (q1 ..)) ?_; refine runL_alloc rfl rfl rfl rfl rfl ze35 (fun _ => ?_); refine runL_store0 rfl rfl rfl rfl rfl (sz rfl) rfl rfl rfl rfl rfl ?_; refine runL_nil ?_; refine then_normal ?_; (iterate 2 refine run_seq ?_); refine run_region ?_; refine xel rfl (ev_fieldAddr rfl rfl (fo rfl)) ?_; refine xel rfl (ev_loadK rfl rfl (sc rfl) (memF (.tail _ (.tail _ (.head _)))) rfl) ?_; refine xel rfl (ev_callQ rfl rfl rfl (pf rfl) (q2 ..)) ?_; refine xep rfl rfl ?_; refine runL_nil ?_; refine then_normal ?_; refine run_seq ?_; refine run_region ?_; (iterate 2 refine xep rfl rfl ?_); refine runL_nil ?_; refine then_normal ?_)
  rename_i b1 b2 b3
  by_cases hx : x < 11
  · rw [if_pos hx]
    refine run_condT rfl (decide_eq_true hx) ?_
    (refine run_region ?_; refine xep rfl rfl ?_; refine xel rfl (ev_add rfl rfl rfl (by omega)) ?_; refine xel rfl (ev_fieldAddr rfl rfl (fo rfl)) ?_; refine runL_store0 rfl rfl rfl rfl rfl (sz rfl) rfl rfl rfl rfl rfl ?_; refine runL_nil ?_; refine then_normal ?_; refine run_seq ?_; refine run_region ?_; refine xel rfl (ev_loadAK rfl rfl (ag rfl) (sz rfl) (memF (.head _)) rfl) ?_; refine runL_store1 rfl rfl rfl rfl rfl (sz rfl) rfl rfl rfl rfl rfl ?_; refine runL_nil ?_; refine then_normal ?_; refine run_ret ?_)
    exact ⟨_, .agg rfl (memF (.tail _ (.head _))) (ag rfl) (sz rfl) rfl .nil, rfl⟩
  · rw [if_neg hx]
    refine run_condF rfl (decide_eq_false hx) ?_
    (refine run_skip ?_; refine then_normal ?_; refine run_seq ?_; refine run_region ?_; refine xel rfl (ev_loadAK rfl rfl (ag rfl) (sz rfl) (memF (.head _)) rfl) ?_; refine runL_store1 rfl rfl rfl rfl rfl (sz rfl) rfl rfl rfl rfl rfl ?_; refine runL_nil ?_; refine then_normal ?_; refine run_ret ?_)
    exact ⟨_, .agg rfl (memF (.tail _ (.head _))) (ag rfl) (sz rfl) rfl .nil, by rw [← hst]; rfl⟩
theorem sp_sameFl (F : Heap) (a1 a2 : Option Addr) (k c1 c2 : Nat) (l : List Fl) (hl : l.length = k) (hk : k ≤ 2097152) (h1 : SrcIs F a1 k 21 (rows fcell l)) (h2 : SrcIs F a2 k 21 (rows fcell l)) :
    Sp Tryz.prog F 50 [.slice a1 k c1, .slice a2 k c2] [] (Ret (.bool true)) := by
  refine sp_of_code Tryz.func50 rfl rfl ?_
  (refine run_seq ?_; refine run_region ?_; refine xep rfl rfl ?_; refine runL_nil ?_; refine then_normal ?_; (iterate 2 refine run_seq ?_); refine run_region ?_; refine xep rfl rfl ?_; refine xel rfl (ev_len rfl rfl (se rfl)) ?_; refine xep rfl rfl ?_; refine xel rfl (ev_len rfl rfl (se rfl)) ?_; refine xep rfl rfl ?_; refine runL_nil ?_; refine then_normal ?_)
  refine run_condF rfl (by simp) ?_
  (refine run_skip ?_; refine then_normal ?_; (iterate 2 refine run_seq ?_); refine run_region ?_; refine xep rfl rfl ?_; refine runL_nil ?_; refine then_normal ?_; refine run_block ?_)
  refine run_loopK (σ := Nat) [0, 1, 5] (fun i => [(0, .slice a1 k c1), (1, .slice a2 k c2), (5, .int .i64 i)]) (fun _ => []) (fun i => i ≤ k) (fun i => k - i) 0 (Nat.zero_le _) rfl (fun _ => rfl) ?_
  intro i gi
  ((iterate 2 refine run_seq ?_); refine run_region ?_; (iterate 2 refine xep rfl rfl ?_); refine xel rfl (ev_len rfl rfl (se rfl)) ?_; refine xep rfl rfl ?_; refine runL_nil ?_; refine then_normal ?_)
  (refine run_cond rfl (fun hc => ?_) (fun hc => ?_) <;> (try simp only [z0, z1, z2, z3, z4, z5, z6, z7, z8, z9, Bool.not_true, Bool.not_false, Bool.false_or, Bool.true_and, true_and, and_true, false_or, or_false, reduceCtorEq, Bool.false_eq_true] at hc))
  · obtain ⟨b1, o1, _, _, _, rfl, _⟩ := h1.pos (by omega)
    obtain ⟨b2, o2, _, _, _, rfl, _⟩ := h2.pos (by omega)
    obtain ⟨x, hx⟩ : ∃ x, l[i]? = some x := ⟨l[i]'(by omega), List.getElem?_eq_getElem _⟩
    have l1 := SrcIs.row fcell_len h1 hl hx
    have l2 := SrcIs.row fcell_len h2 hl hx
    have k1 := ctFl
    have k2 := tyFl x
    have k3 := eqFl x
    (refine run_skip ?_; refine then_normal ?_; refine run_seq ?_; refine run_block ?_; refine run_seq ?_; refine run_region_draw mo (by kernel_rfl) ?_; (iterate 2 refine xqp rfl rfl ?_); refine xql rfl (ev_indexAddr rfl rfl rfl (se rfl) (by omega) (by omega)) ?_; refine xql rfl (ev_loadAF rfl rfl (ag rfl) (sz rfl) l1 rfl) ?_; (iterate 2 refine xqp rfl rfl ?_); refine xql rfl (ev_indexAddr rfl rfl rfl (se rfl) (by omega) (by omega)) ?_; refine xql rfl (ev_loadAF rfl rfl (ag rfl) (sz rfl) l2 rfl) ?_; refine xql rfl (ev_neqQ rfl rfl rfl k1 rfl k2 k3) ?_; refine runQ_nil ?_; refine then_normal ?_)
    refine run_condF rfl rfl ?_
    (refine run_skip ?_; refine in_normal ?_; refine then_normal ?_; refine run_region ?_; refine xep rfl rfl ?_; refine xel rfl (ev_add rfl rfl rfl (by omega)) ?_; refine xep rfl rfl ?_; refine runL_nil ?_; refine then_normal ?_)
    exact ⟨i + 1, by omega, by omega, rfl, [], fun _ => rfl⟩
  · (refine run_exit ?_; (iterate 2 refine then_exit ?_); refine in_exit ?_; refine then_normal ?_)
    (refine run_seq ?_; refine run_region ?_; refine xep rfl rfl ?_; refine runL_nil ?_; refine then_normal ?_; refine run_ret ?_)
    exact ⟨_, rfl, rfl⟩
theorem sp_kOutcome (F : Heap) (a1 a2 : Option Addr) (c1 c2 : Nat) (x : Out) (hk : x.fs.length ≤ 2097152) (h1 : SrcIs F a1 x.fs.length 21 (rows fcell x.fs)) (h2 : SrcIs F a2 x.fs.length 21 (rows fcell x.fs)) :
    Sp Tryz.prog F 21 [.agg ⟨outV a1 c1 x⟩, .agg ⟨outV a2 c2 x⟩] [] (Ret (.bool true)) := by
  have q1 := fun G : Heap => sp_sameFl (G ++ F) a1 a2 x.fs.length c1 c2 x.fs rfl hk h1.up h2.up
  obtain ⟨o, fs, left, rs, wt, self, err⟩ := x
  have k1 := ctOrd
  have k2 := tyOrd o
  have k3 := eqOrd o
  have hgd : true = true := rfl
  refine sp_of_code Tryz.func21 rfl rfl ?_
  (refine run_seq ?_; refine run_region ?_; (iterate 2 refine runL_box rfl rfl rfl rfl rfl rfl (fun _ => ?_)); refine xep rfl rfl ?_; refine runL_nil ?_; refine then_normal ?_; refine run_seq ?_; refine run_region ?_; refine xel rfl (ev_fieldAddr rfl rfl (fo rfl)) ?_; refine xel rfl (ev_loadAK rfl rfl (ag rfl) (sz rfl) (memF (.tail _ (.head _))) rfl) ?_; refine xel rfl (ev_fieldAddr rfl rfl (fo rfl)) ?_; refine xel rfl (ev_loadAK rfl rfl (ag rfl) (sz rfl) (memF (.head _)) rfl) ?_; refine xel rfl (ev_eqQ rfl rfl rfl k1 rfl k2 k3) ?_; refine xep rfl rfl ?_; refine runL_yes rfl rfl hgd ?_; refine xel rfl (ev_fieldAddr rfl rfl (fo rfl)) ?_; refine runL_yes rfl rfl hgd ?_; refine xel rfl (ev_loadK rfl rfl (sc rfl) (memF (.tail _ (.head _))) rfl) ?_; refine runL_yes rfl rfl hgd ?_; refine xel rfl (ev_fieldAddr rfl rfl (fo rfl)) ?_; refine runL_yes rfl rfl hgd ?_; refine xel rfl (ev_loadK rfl rfl (sc rfl) (memF (.head _)) rfl) ?_; refine runL_yes rfl rfl hgd ?_; refine xel rfl (ev_callQ rfl rfl rfl (pf rfl) (q1 ..)) ?_; (iterate 2 refine xep rfl rfl ?_); refine runL_yes rfl rfl hgd ?_; refine xel rfl (ev_fieldAddr rfl rfl (fo rfl)) ?_; refine runL_yes rfl rfl hgd ?_; refine xel rfl (ev_loadK rfl rfl (sc rfl) (memF (.tail _ (.head _))) rfl) ?_; refine runL_yes rfl rfl hgd ?_; refine xel rfl (ev_fieldAddr rfl rfl (fo rfl)) ?_; refine runL_yes rfl rfl hgd ?_; refine xel rfl (ev_loadK rfl rfl (sc rfl) (memF (.head _)) rfl) ?_; refine runL_yes rfl rfl hgd ?_; (iterate 3 refine xep rfl rfl ?_); refine xgl rfl rfl (fun hq => ev_fieldAddr rfl rfl (fo rfl)) ?_; refine xgl rfl rfl (fun hq => ev_loadK rfl rfl (sc rfl) (memF (.tail _ (.head _))) rfl) ?_; refine xgl rfl rfl (fun hq => ev_fieldAddr rfl rfl (fo rfl)) ?_; refine xgl rfl rfl (fun hq => ev_loadK rfl rfl (sc rfl) (memF (.head _)) rfl) ?_; refine xgl rfl rfl (fun hq => ev_eqB rfl rfl rfl (bt rfl)) ?_; (iterate 2 refine xep rfl rfl ?_); refine xgl rfl rfl (fun hq => ev_fieldAddr rfl rfl (fo rfl)) ?_; refine xgl rfl rfl (fun hq => ev_loadK rfl rfl (sc rfl) (memF (.tail _ (.head _))) rfl) ?_; refine xgl rfl rfl (fun hq => ev_fieldAddr rfl rfl (fo rfl)) ?_; refine xgl rfl rfl (fun hq => ev_loadK rfl rfl (sc rfl) (memF (.head _)) rfl) ?_; refine xgl rfl rfl (fun hq => ev_eqB rfl rfl rfl (bt rfl)) ?_; (iterate 2 refine xep rfl rfl ?_); refine xgl rfl rfl (fun hq => ev_fieldAddr rfl rfl (fo rfl)) ?_; refine xgl rfl rfl (fun hq => ev_loadK rfl rfl (sc rfl) (memF (.tail _ (.head _))) rfl) ?_; refine xgl rfl rfl (fun hq => ev_fieldAddr rfl rfl (fo rfl)) ?_; refine xgl rfl rfl (fun hq => ev_loadK rfl rfl (sc rfl) (memF (.head _)) rfl) ?_; refine xgl rfl rfl (fun hq => ev_eqB rfl rfl rfl (bt rfl)) ?_; (iterate 2 refine xep rfl rfl ?_); refine xgl rfl rfl (fun hq => ev_fieldAddr rfl rfl (fo rfl)) ?_; refine xgl rfl rfl (fun hq => ev_loadK rfl rfl (sc rfl) (memF (.tail _ (.head _))) rfl) ?_; refine xgl rfl rfl (fun hq => ev_fieldAddr rfl rfl (fo rfl)) ?_; refine xgl rfl rfl (fun hq => ev_loadK rfl rfl (sc rfl) (memF (.head _)) rfl) ?_; refine xgp rfl rfl rfl ?_; (iterate 2 refine xep rfl rfl ?_); refine runL_nil ?_; refine then_normal ?_; refine run_ret ?_)
  exact ⟨_, rfl, by simp; rfl⟩
end Go.Proofs.YtmelpobcpcmdoaaGreat
