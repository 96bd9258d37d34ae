/- Contracts of functions of the given program over its translation, each proved by walking its text; used by the laws' rows. It proves no given statement by itself. -/
import Derived.Test.YtfhpoagnfmgfkaaSLBk2
set_option autoImplicit false
set_option linter.unusedSectionVars false
set_option linter.unusedSimpArgs false
set_option linter.unusedVariables false
set_option maxRecDepth 4000
set_option maxHeartbeats 16000000
namespace Go.Proofs.Ytfhpoagnfmgfkaa
open Go Go.SL Go.Proofs
def isO (t i : Int) (o : Ord) : Bool := decide (o.trader = t) && decide (o.id = i)
theorem find_here {α : Type} {p : α → Bool} {l : List α} {k : Nat} {x : α} (hx : l[k]? = some x) (hp : p x = true) (hn : ∀ j y, j < k → l[j]? = some y → p y = false) : l.find? p = some x := by
  induction l generalizing k with
  | nil => simp at hx
  | cons a l ih =>
    cases k with
    | zero =>
      simp only [List.getElem?_cons_zero, Option.some.injEq] at hx
      subst hx; simp [hp]
    | succ k =>
      have h0 := hn 0 a (by omega) rfl
      simp only [List.getElem?_cons_succ] at hx
      rw [List.find?_cons, h0]
      exact ih hx fun j y hj hy => hn (j + 1) y (by omega) (by simpa using hy)
theorem find_no {α : Type} {p : α → Bool} {l : List α} (hn : ∀ (j : Nat) y, l[j]? = some y → p y = false) : l.find? p = none := by
  rw [List.find?_eq_none]
  intro x m
  obtain ⟨j, hj⟩ := List.mem_iff_getElem?.1 m
  rw [hn j x hj]; simp
theorem findL_here {t i : Int} {l : List Lv} {k : Nat} {lv : Lv} {o : Ord} (hx : l[k]? = some lv) (hp : (lv.es.map (·.o)).find? (isO t i) = some o) (hn : ∀ (j : Nat) y, j < k → l[j]? = some y → (y.es.map (·.o)).find? (isO t i) = none) : findL t i l = some (k, o) := by
  induction l generalizing k with
  | nil => simp at hx
  | cons a l ih =>
    cases k with
    | zero =>
      simp only [List.getElem?_cons_zero, Option.some.injEq] at hx
      subst hx
      unfold findL
      rw [show (fun o : Ord => decide (o.trader = t) && decide (o.id = i)) = isO t i from rfl, hp]
    | succ k =>
      have h0 := hn 0 a (by omega) rfl
      simp only [List.getElem?_cons_succ] at hx
      unfold findL
      rw [show (fun o : Ord => decide (o.trader = t) && decide (o.id = i)) = isO t i from rfl, h0]
      simp only [ih hx fun j y hj hy => hn (j + 1) y (by omega) (by simpa using hy)]
theorem findL_no {t i : Int} {l : List Lv} (hn : ∀ (j : Nat) y, l[j]? = some y → (y.es.map (·.o)).find? (isO t i) = none) : findL t i l = none := by
  induction l with
  | nil => rfl
  | cons a l ih =>
    have h0 := hn 0 a rfl
    unfold findL
    rw [show (fun o : Ord => decide (o.trader = t) && decide (o.id = i)) = isO t i from rfl, h0]
    simp only [ih fun j y hy => hn (j + 1) y (by simpa using hy)]
variable [Base]
def findV (b : Nat) : Option (Int × Nat × Ord) → Value
  | some (s, k, o) => .tuple #[sideV b s, .int .i64 k, ov o]
  | none => .tuple #[.pointer none, .int .i64 0, ov o0]
theorem sp_bfind (F : Heap) (b : Nat) (B : Bk) (h : BkIn F b B) (hw : BW B) (t i : Int) :
    Sp Try.prog F 49 [.pointer (some ⟨b, 0, none⟩), .int .i64 t, .int .i64 i] [] (Ret (findV b (findB t i B))) := by
  have hsd : ∀ j : Nat, j < 2 → ∃ (a : Option Addr) (l : List Lv) (c : Nat) (bs : List Nat), l = (if j = 0 then B.buys else B.sells) ∧ LoadsF F b (0 + 0 + (j : Int).toNat * 1) (.slice a l.length c) ∧ SrcIs F a l.length 1 (rows pc bs) ∧ LvsIn F bs l ∧ (∀ lv ∈ l, lv.Ok) ∧ lenL l ≤ 64 := by
    obtain ⟨v0, v1, ⟨a0, c0, bs0, hc0, rfl, s0, i0⟩, ⟨a1, c1, bs1, hc1, rfl, s1, i1⟩, hm⟩ := h
    have hlen := hw.len
    intro j hj
    match j, hj with
    | 0, _ => exact ⟨a0, B.buys, c0, bs0, rfl, ⟨_, _, _, hm, rfl⟩, s0, i0, hw.buys, by omega⟩
    | 1, _ => exact ⟨a1, B.sells, c1, bs1, rfl, ⟨_, _, _, hm, rfl⟩, s1, i1, hw.sells, by omega⟩
  refine Sp.up ?_
  refine sp_of_codeR Try.func49 rfl rfl ?_
  (refine run_seq ?_; refine run_region ?_; (iterate 2 refine xep rfl rfl ?_); refine runL_alloc rfl rfl rfl rfl rfl ze24 (fun _ => ?_); refine runL_nil ?_; refine then_normal ?_; (iterate 2 refine run_seq ?_); refine run_region ?_; refine xep rfl rfl ?_; refine runL_nil ?_; refine then_normal ?_; refine run_block ?_)
  rename_i b8
  refine run_loopK (σ := Nat) [0, 1, 2, 8, 14] (fun j => [(0, .pointer (some ⟨b, 0, none⟩)), (1, .int .i64 t), (2, .int .i64 i), (8, .pointer (some ⟨b8, 0, none⟩)), (14, .int .i64 j)]) (fun _ => [blk b8 o0.cells 24])
    (fun j => j ≤ 2 ∧ (0 < j → findL t i B.buys = none) ∧ (1 < j → findL t i B.sells = none)) (fun j => 2 - j) 0 ⟨Nat.zero_le _, fun h => absurd h (Nat.lt_irrefl _), fun h => absurd h (by omega)⟩ rfl (fun _ => rfl) ?_
  rintro j ⟨hj, hf1, hf2⟩
  (refine run_seq ?_; refine run_region ?_; refine xep rfl rfl ?_; refine runL_nil ?_; refine then_normal ?_; refine run_seq ?_)
  (refine run_cond rfl (fun hc => ?_) (fun hc => ?_) <;> (try simp only [z0, z1, z2, z3, z4, z5, z6, z7, z8, z9, Bool.not_true, Bool.not_false, Bool.false_or, Bool.true_and, true_and, and_true, false_or, or_false, reduceCtorEq, Bool.false_eq_true] at hc))
  · obtain ⟨a, l, c, bs, hl, l1, hsrc, hin, hok, h64⟩ := hsd j (by omega)
    have gl := lenL_ge hok
    have hB : ∀ k o, findL t i l = some (k, o) → findB t i B = some ((j : Int) + 1, k, o) := by
      intro k o hk
      unfold findB
      rcases (by omega : j = 0 ∨ j = 1) with rfl | rfl
      · rw [if_pos rfl] at hl; subst hl; rw [hk]; rfl
      · rw [if_neg (by omega)] at hl; subst hl; rw [hf1 (by omega), hk]; rfl
    (refine run_skip ?_; refine then_normal ?_; refine run_seq ?_; refine run_block ?_; refine run_seq ?_; refine run_region ?_; (iterate 2 refine xep rfl rfl ?_); refine runL_nil ?_; refine then_normal ?_; refine run_seq ?_; refine run_region ?_; (iterate 3 refine xep rfl rfl ?_); refine xel rfl (ev_fieldAddr rfl rfl (fo rfl)) ?_; refine xel rfl (ev_indexAddrA rfl rfl rfl (ar rfl) (by omega) (by omega)) ?_; refine xel rfl (ev_loadF rfl rfl (sc rfl) l1) ?_; refine xel rfl (ev_len rfl rfl (se rfl)) ?_; refine xep rfl rfl ?_; refine runL_nil ?_; refine then_normal ?_; refine run_block ?_)
    clear l1
    refine run_loopK (σ := Nat) [0, 1, 2, 8, 9, 14, 22, 23, 24] (fun k => [(0, .pointer (some ⟨b, 0, none⟩)), (1, .int .i64 t), (2, .int .i64 i), (8, .pointer (some ⟨b8, 0, none⟩)), (9, .int .i64 j), (14, .int .i64 j), (22, .slice a l.length c), (23, .int .i64 l.length), (24, .int .i64 k)]) (fun _ => [blk b8 o0.cells 24])
      (fun k => k ≤ l.length ∧ ∀ (q : Nat) y, q < k → l[q]? = some y → (y.es.map (·.o)).find? (isO t i) = none) (fun k => l.length - k) 0 ⟨Nat.zero_le _, fun q y h => absurd h (Nat.not_lt_zero _)⟩ rfl (fun _ => rfl) ?_
    rintro k ⟨gk, hk⟩
    (refine run_seq ?_; refine run_region ?_; refine xep rfl rfl ?_; refine runL_nil ?_; refine then_normal ?_; refine run_seq ?_)
    (refine run_cond rfl (fun hc => ?_) (fun hc => ?_) <;> (try simp only [z0, z1, z2, z3, z4, z5, z6, z7, z8, z9, Bool.not_true, Bool.not_false, Bool.false_or, Bool.true_and, true_and, and_true, false_or, or_false, reduceCtorEq, Bool.false_eq_true] at hc))
    · obtain ⟨b2, off, bi, lv, rfl, hlv, l1, hi⟩ := SdIn.level (n := 0) (cap := 0) hsrc hin (i := k) (by omega)
      have hlok := hok lv (List.mem_of_getElem? hlv)
      have hlb := hlok.1.1
      (refine run_skip ?_; refine then_normal ?_; refine run_seq ?_; refine run_block ?_; refine run_seq ?_; refine run_region ?_; refine xep rfl rfl ?_; refine xel rfl (ev_indexAddr rfl rfl rfl (se rfl) (by omega) (by omega)) ?_; refine xel rfl (ev_loadF rfl rfl (sc rfl) l1) ?_; (iterate 2 refine xep rfl rfl ?_); refine runL_nil ?_; refine then_normal ?_; refine run_seq ?_; refine run_region ?_; refine xep rfl rfl ?_)
      refine runL_callZ [blk b8 o0.cells 24] [] rfl rfl rfl rfl rfl rfl rfl (pf rfl) (fun y => by (first | rfl | (simp only [List.append_eq, cnt_append, cnt_cons, cnt_nil, blk]; omega) | (simp only [List.append_eq, cnt_append, cnt_cons, cnt_nil, blk]; done))) (sp_lorders _ bi lv.p lv.es (hi.mono fun x m => List.mem_append_right _ m) hlb) ?_
      rintro v A2 own2
      obtain ⟨a2, c2, rfl, own2⟩ := own2.at
      (refine xel rfl (ev_len rfl rfl (se rfl)) ?_; refine xep rfl rfl ?_; refine runL_nil ?_; refine then_normal ?_; refine run_block ?_; refine RunC.whole rfl ?_)
      have src2 := fun G : Heap => own2.src (H := G ++ A2 ++ F) fun x m => by simp [m]
      refine run_loopK (σ := Nat) [0, 1, 2, 8, 9, 10, 14, 22, 23, 24, 30, 31, 32] (fun q => [(0, .pointer (some ⟨b, 0, none⟩)), (1, .int .i64 t), (2, .int .i64 i), (8, .pointer (some ⟨b8, 0, none⟩)), (9, .int .i64 j), (10, .int .i64 k), (14, .int .i64 j), (22, .slice (some ⟨b2, off, none⟩) l.length c), (23, .int .i64 l.length), (24, .int .i64 k), (30, .slice a2 lv.es.length c2), (31, .int .i64 lv.es.length), (32, .int .i64 q)]) (fun _ => blk b8 o0.cells 24 :: A2)
        (fun q => q ≤ lv.es.length ∧ ∀ (r : Nat) y, r < q → (lv.es.map (·.o))[r]? = some y → isO t i y = false) (fun q => lv.es.length - q) 0 ⟨Nat.zero_le _, fun q y h => absurd h (Nat.not_lt_zero _)⟩ rfl (fun y => by (first | rfl | (simp only [List.append_eq, cnt_append, cnt_cons, cnt_nil, blk]; omega) | (simp only [List.append_eq, cnt_append, cnt_cons, cnt_nil, blk]; done))) ?_
      rintro q ⟨gq, hq⟩
      (refine run_seq ?_; refine run_region ?_; refine xep rfl rfl ?_; refine runL_nil ?_; refine then_normal ?_; refine run_seq ?_)
      (refine run_cond rfl (fun hc => ?_) (fun hc => ?_) <;> (try simp only [z0, z1, z2, z3, z4, z5, z6, z7, z8, z9, Bool.not_true, Bool.not_false, Bool.false_or, Bool.true_and, true_and, and_true, false_or, or_false, reduceCtorEq, Bool.false_eq_true] at hc))
      · obtain ⟨b3, rest, c3, hv3, hA3, hl3, hr3, hk3⟩ := own2.pos (by omega)
        cases hv3
        obtain ⟨x, hx⟩ : ∃ x, (lv.es.map (·.o))[q]? = some x := ⟨(lv.es.map (·.o))[q]'(by rw [List.length_map]; omega), List.getElem?_eq_getElem _⟩
        have r1 : RowAt (rows Ord.cells (lv.es.map (·.o)) ++ rest) (0 + (q : Int).toNat * 9) x.cells := by
          rw [Nat.zero_add]; exact rows_at oc_len hx rest
        rw [hA3]
        (refine run_skip ?_; refine then_normal ?_; refine run_seq ?_; refine run_block ?_; refine run_seq ?_; refine run_region ?_; refine xel rfl (ev_indexAddr rfl rfl rfl (se rfl) (by omega) (by omega)) ?_; refine xel rfl (ev_loadAR rfl rfl (ag rfl) (sz rfl) (memF (.tail _ (.head _))) r1 rfl) ?_; refine runL_alloc rfl rfl rfl rfl rfl ze24 (fun _ => ?_); refine runL_store0 rfl rfl rfl rfl rfl (sz rfl) rfl rfl rfl rfl rfl ?_; refine runL_nil ?_; refine then_normal ?_; refine run_seq ?_; refine run_region ?_; refine xel rfl (ev_fieldAddr rfl rfl (fo rfl)) ?_; refine xel rfl (ev_loadK rfl rfl (sc rfl) (memF (.head _)) rfl) ?_; (iterate 3 refine xep rfl rfl ?_); refine xgl rfl rfl (fun hq => ev_fieldAddr rfl rfl (fo rfl)) ?_; refine xgl rfl rfl (fun hq => ev_loadK rfl rfl (sc rfl) (memF (.head _)) rfl) ?_; (iterate 2 refine xgp rfl rfl rfl ?_); refine xep rfl rfl ?_; refine runL_nil ?_; refine then_normal ?_)
        rename_i b13
        by_cases hit : isO t i x = true
        · refine run_condT rfl hit ?_
          (refine run_seq ?_)
          refine RunC.perm (h' := blk b8 o0.cells 24 :: blk b13 x.cells 24 :: [blk b3 (rows Ord.cells (lv.es.map (·.o)) ++ rest) 24]) (fun y => by (simp only [List.append_eq, cnt_append, cnt_cons, cnt_nil, blk, Ord.cells]; omega)) ?_
          refine run_region_D mo ?_
          (refine runD_q 0 rfl rfl (by kernel_rfl) ?_; refine ⟨_, fun _ => ev_pure rfl, ?_⟩; refine runD_q 1 rfl rfl (by kernel_rfl) ?_; refine ⟨_, fun _ => ev_pure rfl, ?_⟩; refine runD_q 2 rfl rfl (by kernel_rfl) ?_; refine ⟨_, fun _ => ev_pure rfl, ?_⟩; refine runD_q 3 rfl rfl (by kernel_rfl) ?_; refine ⟨_, fun _ => ev_fieldAddr rfl rfl (fo rfl), ?_⟩; refine runD_q 4 rfl rfl (by kernel_rfl) ?_; refine ⟨_, fun _ => ev_indexAddrA rfl rfl rfl (ar rfl) (by omega) (by omega), ?_⟩; refine runD_q 5 rfl rfl (by kernel_rfl) ?_; refine ⟨_, fun _ => ev_pure rfl, ?_⟩; refine runD_q 7 rfl rfl (by kernel_rfl) ?_; refine ⟨_, fun _ => ev_pure rfl, ?_⟩; refine runD_q 8 rfl rfl (by kernel_rfl) ?_; refine ⟨_, fun _ => ev_pure rfl, ?_⟩; refine runD_1 6 (by kernel_rfl) rfl rfl rfl ?_; refine xel rfl (ev_loadAK rfl rfl (ag rfl) (sz rfl) (memF (.tail _ (.head _))) rfl) ?_; refine runL_nil ?_; refine endS_d rfl ?_; refine runD_1 9 (by kernel_rfl) rfl rfl rfl ?_; refine runL_store0 rfl rfl rfl rfl rfl (sz rfl) rfl rfl rfl rfl rfl ?_; refine runL_nil ?_; refine endS_n rfl ?_; refine runD_done (by kernel_rfl) ?_; refine then_normal ?_; refine run_ret ?_; refine in_ret ?_; (iterate 2 refine then_ret ?_); (iterate 2 refine in_ret ?_); (iterate 2 refine then_ret ?_); (iterate 2 refine in_ret ?_); (iterate 2 refine then_ret ?_); refine in_ret ?_; refine then_ret ?_)
          have hfb := hB k x (findL_here hlv (find_here hx hit hq) hk)
          refine ⟨_, .tmp rfl (.tmp rfl (.agg rfl (memF (.head _)) (ag rfl) (sz rfl) rfl .nil)), [], blk b8 x.cells 24 :: blk b13 x.cells 24 :: [blk b3 (rows Ord.cells (lv.es.map (·.o)) ++ rest) 24], ?_, fun y => by (simp only [List.append_eq, cnt_append, cnt_cons, cnt_nil, blk, Ord.cells]; omega)⟩
          show _ = findV b (findB t i B)
          rw [hfb]
          rcases (by omega : j = 0 ∨ j = 1) with rfl | rfl <;> rfl
        · refine run_condF rfl (by simpa [isO] using hit) ?_
          (refine run_skip ?_; refine in_normal ?_; refine then_normal ?_; refine run_region ?_; refine xel rfl (ev_add rfl rfl rfl (by omega)) ?_; refine xep rfl rfl ?_; refine runL_nil ?_; refine then_normal ?_)
          refine ⟨q + 1, ⟨by omega, fun r y hr hy => ?_⟩, by omega, rfl, [blk b13 x.cells 24], fun y => by (simp only [List.append_eq, cnt_append, cnt_cons, cnt_nil, blk, Ord.cells]; omega)⟩
          by_cases e : r = q
          · subst e; rw [hx] at hy; cases hy; simpa using hit
          · exact hq r y (by omega) hy
      · have : q = lv.es.length := by omega
        subst this
        (refine run_exit ?_; (iterate 2 refine then_exit ?_); refine in_exit ?_; refine in_normal ?_; refine then_normal ?_)
        (refine run_region ?_; refine xel rfl (ev_add rfl rfl rfl (by omega)) ?_; refine xep rfl rfl ?_; refine runL_nil ?_; refine then_normal ?_)
        refine ⟨k + 1, ⟨by omega, fun r y hr hy => ?_⟩, by omega, rfl, A2, fun y => by (first | rfl | (simp only [List.append_eq, cnt_append, cnt_cons, cnt_nil, blk]; omega) | (simp only [List.append_eq, cnt_append, cnt_cons, cnt_nil, blk]; done))⟩
        by_cases e : r = k
        · subst e; rw [hlv] at hy; cases hy
          exact find_no fun j y hy => hq j y (by have := (List.getElem?_eq_some_iff.1 hy).1; rw [List.length_map] at this; exact this) hy
        · exact hk r y (by omega) hy
    · have : k = l.length := by omega
      subst this
      have hno := findL_no fun j y hy => hk j y ((List.getElem?_eq_some_iff.1 hy).1) hy
      (refine run_exit ?_; (iterate 2 refine then_exit ?_); refine in_exit ?_; refine in_normal ?_; refine then_normal ?_)
      (refine run_region ?_; refine xel rfl (ev_add rfl rfl rfl (by omega)) ?_; refine xep rfl rfl ?_; refine runL_nil ?_; refine then_normal ?_)
      refine ⟨j + 1, ⟨by omega, fun h0 => ?_, fun h0 => ?_⟩, by omega, rfl, [], fun y => by (first | rfl | (simp only [List.append_eq, cnt_append, cnt_cons, cnt_nil, blk]; omega) | (simp only [List.append_eq, cnt_append, cnt_cons, cnt_nil, blk]; done))⟩
      · rcases (by omega : j = 0 ∨ j = 1) with rfl | rfl
        · rw [if_pos rfl] at hl; subst hl; exact hno
        · exact hf1 (by omega)
      · have : j = 1 := by omega
        subst this
        rw [if_neg (by omega)] at hl; subst hl; exact hno
  · have : j = 2 := by omega
    subst this
    (refine run_exit ?_; (iterate 2 refine then_exit ?_); refine in_exit ?_; refine then_normal ?_)
    (refine run_seq ?_; refine run_region ?_; refine xel rfl (ev_build rfl pl24 rfl) ?_; (iterate 2 refine xep rfl rfl ?_); refine runL_store0 rfl rfl rfl rfl rfl (sz rfl) rfl rfl rfl rfl rfl ?_; refine runL_nil ?_; refine then_normal ?_; refine run_ret ?_)
    refine ⟨_, .tmp rfl (.tmp rfl (.agg rfl (memF (.head _)) (ag rfl) (sz rfl) rfl .nil)), [], [blk b8 o0.cells 24], ?_, fun y => by (simp only [List.append_eq, cnt_append, cnt_cons, cnt_nil, blk, Ord.cells, ec, hcell, o0]; omega)⟩
    show _ = findV b (findB t i B)
    have : findB t i B = none := by unfold findB; rw [hf1 (by omega), hf2 (by omega)]
    rw [this]; rfl
end Go.Proofs.Ytfhpoagnfmgfkaa
