/- Contracts of functions of the given program over its translation, each proved by walking its text; used by the laws' rows. It proves no given statement by itself. -/
import Derived.Test.YtmelpobcpcmdoaaGreatSLRBkTX
set_option autoImplicit false
set_option linter.unusedSectionVars false
set_option linter.unusedSimpArgs false
set_option linter.unusedVariables false
set_option maxRecDepth 4000
set_option maxHeartbeats 16000000
namespace Go.Proofs.YtmelpobcpcmdoaaGreat
open Go Go.SL Go.Proofs
def isO (t i : Int) (o : Ord) : Bool := decide (o.trader = t) && decide (o.id = i)
theorem find_here {α : Type} {p : α → Bool} {l : List α} {k : Nat} {x : α} (hx : l[k]? = some x) (hp : p x = true) (hn : ∀ j y, j < k → l[j]? = some y → p y = false) : l.find? p = some x := by
  induction l generalizing k with
  | nil => simp at hx
  | cons a l ih =>
    cases k with
    | zero =>
      simp only [List.getElem?_cons_zero, Option.some.injEq] at hx
      subst hx; simp [hp]
    | succ k =>
      have h0 := hn 0 a (by omega) rfl
      simp only [List.getElem?_cons_succ] at hx
      rw [List.find?_cons, h0]
      exact ih hx fun j y hj hy => hn (j + 1) y (by omega) (by simpa using hy)
theorem find_no {α : Type} {p : α → Bool} {l : List α} (hn : ∀ (j : Nat) y, l[j]? = some y → p y = false) : l.find? p = none := by
  rw [List.find?_eq_none]
  intro x m
  obtain ⟨j, hj⟩ := List.mem_iff_getElem?.1 m
  rw [hn j x hj]; simp
theorem findL_here {t i : Int} {l : List Lv} {k : Nat} {lv : Lv} {o : Ord} (hx : l[k]? = some lv) (hp : (lv.es.map (·.o)).find? (isO t i) = some o) (hn : ∀ (j : Nat) y, j < k → l[j]? = some y → (y.es.map (·.o)).find? (isO t i) = none) : findL t i l = some (k, o) := by
  induction l generalizing k with
  | nil => simp at hx
  | cons a l ih =>
    cases k with
    | zero =>
      simp only [List.getElem?_cons_zero, Option.some.injEq] at hx
      subst hx
      unfold findL
      rw [show (fun o : Ord => decide (o.trader = t) && decide (o.id = i)) = isO t i from rfl, hp]
    | succ k =>
      have h0 := hn 0 a (by omega) rfl
      simp only [List.getElem?_cons_succ] at hx
      unfold findL
      rw [show (fun o : Ord => decide (o.trader = t) && decide (o.id = i)) = isO t i from rfl, h0]
      simp only [ih hx fun j y hj hy => hn (j + 1) y (by omega) (by simpa using hy)]
theorem findL_no {t i : Int} {l : List Lv} (hn : ∀ (j : Nat) y, l[j]? = some y → (y.es.map (·.o)).find? (isO t i) = none) : findL t i l = none := by
  induction l with
  | nil => rfl
  | cons a l ih =>
    have h0 := hn 0 a rfl
    unfold findL
    rw [show (fun o : Ord => decide (o.trader = t) && decide (o.id = i)) = isO t i from rfl, h0]
    simp only [ih fun j y hy => hn (j + 1) y (by simpa using hy)]
variable [Base]
def findV (b : Nat) : Option (Int × Nat × Ord) → Value
  | some (s, k, o) => .tuple #[sideV b s, .int .i64 k, ov o]
  | none => .tuple #[.pointer none, .int .i64 0, ov o0]
theorem sp_bfind (F : Heap) (b : Nat) (B : Bk) (h : BkIn F b B) (hw : BW B) (t i : Int) :
    Sp Tryz.prog F 65 [.pointer (some ⟨b, 0, none⟩), .int .i64 t, .int .i64 i] [] (Ret (findV b (findB t i B))) := by
  have hsd : ∀ j : Nat, j < 2 → ∃ (a : Option Addr) (l : List Lv) (c : Nat) (bs : List Nat), l = (if j = 0 then B.buys else B.sells) ∧ LoadsF F b (0 + 0 + (j : Int).toNat * 1) (.slice a l.length c) ∧ SrcIs F a l.length 1 (rows pc bs) ∧ LvsIn F bs l ∧ (∀ lv ∈ l, lv.Ok) ∧ lenL l ≤ 64 := by
    obtain ⟨v0, v1, ⟨a0, c0, bs0, hc0, rfl, s0, i0⟩, ⟨a1, c1, bs1, hc1, rfl, s1, i1⟩, hm⟩ := h
    have hlen := hw.len
    intro j hj
    match j, hj with
    | 0, _ => exact ⟨a0, B.buys, c0, bs0, rfl, ⟨_, _, _, hm, rfl⟩, s0, i0, hw.buys, by omega⟩
    | 1, _ => exact ⟨a1, B.sells, c1, bs1, rfl, ⟨_, _, _, hm, rfl⟩, s1, i1, hw.sells, by omega⟩
  refine Sp.up ?_
  refine sp_of_codeR Tryz.func65 rfl rfl ?_
  (refine run_seq ?_; refine run_region ?_; (iterate 2 refine xep rfl rfl ?_); refine runL_alloc rfl rfl rfl rfl rfl ze35 (fun _ => ?_); refine runL_nil ?_; refine then_normal ?_; (iterate 2 refine run_seq ?_); refine run_region ?_; refine xep rfl rfl ?_; refine runL_nil ?_; refine then_normal ?_; refine run_block ?_)
  rename_i b8
  refine run_loopK (σ := Nat) [0, 1, 2, 8, 14] (fun j => [(0, .pointer (some ⟨b, 0, none⟩)), (1, .int .i64 t), (2, .int .i64 i), (8, .pointer (some ⟨b8, 0, none⟩)), (14, .int .i64 j)]) (fun _ => [blk b8 o0.cells 35])
    (fun j => j ≤ 2 ∧ (0 < j → findL t i B.buys = none) ∧ (1 < j → findL t i B.sells = none)) (fun j => 2 - j) 0 ⟨Nat.zero_le _, fun h => absurd h (Nat.lt_irrefl _), fun h => absurd h (by omega)⟩ rfl (fun _ => rfl) ?_
  rintro j ⟨hj, hf1, hf2⟩
  (refine run_seq ?_; refine run_region ?_; refine xep rfl rfl ?_; refine runL_nil ?_; refine then_normal ?_; refine run_seq ?_)
  (refine run_cond rfl (fun hc => ?_) (fun hc => ?_) <;> (try simp only [z0, z1, z2, z3, z4, z5, z6, z7, z8, z9, Bool.not_true, Bool.not_false, Bool.false_or, Bool.true_and, true_and, and_true, false_or, or_false, reduceCtorEq, Bool.false_eq_true] at hc))
  · obtain ⟨a, l, c, bs, hl, l1, hsrc, hin, hok, h64⟩ := hsd j (by omega)
    have gl := lenL_ge hok
    have hB : ∀ k o, findL t i l = some (k, o) → findB t i B = some ((j : Int) + 1, k, o) := by
      intro k o hk
      unfold findB
      rcases (by omega : j = 0 ∨ j = 1) with rfl | rfl
      · rw [if_pos rfl] at hl; subst hl; rw [hk]; rfl
      · rw [if_neg (by omega)] at hl; subst hl; rw [hf1 (by omega), hk]; rfl
    (refine run_skip ?_; refine then_normal ?_; refine run_seq ?_; refine run_block ?_; refine run_seq ?_; refine run_region ?_; (iterate 2 refine xep rfl rfl ?_); refine runL_nil ?_; refine then_normal ?_; refine run_seq ?_; refine run_region ?_; (iterate 3 refine xep rfl rfl ?_); refine xel rfl (ev_fieldAddr rfl rfl (fo rfl)) ?_; refine xel rfl (ev_indexAddrA rfl rfl rfl (ar rfl) (by omega) (by omega)) ?_; refine xel rfl (ev_loadF rfl rfl (sc rfl) l1) ?_; refine xel rfl (ev_len rfl rfl (se rfl)) ?_; refine xep rfl rfl ?_; refine runL_nil ?_; refine then_normal ?_; refine run_block ?_)
    clear l1
    refine run_loopK (σ := Nat) [0, 1, 2, 8, 9, 14, 22, 23, 24] (fun k => [(0, .pointer (some ⟨b, 0, none⟩)), (1, .int .i64 t), (2, .int .i64 i), (8, .pointer (some ⟨b8, 0, none⟩)), (9, .int .i64 j), (14, .int .i64 j), (22, .slice a l.length c), (23, .int .i64 l.length), (24, .int .i64 k)]) (fun _ => [blk b8 o0.cells 35])
      (fun k => k ≤ l.length ∧ ∀ (q : Nat) y, q < k → l[q]? = some y → (y.es.map (·.o)).find? (isO t i) = none) (fun k => l.length - k) 0 ⟨Nat.zero_le _, fun q y h => absurd h (Nat.not_lt_zero _)⟩ rfl (fun _ => rfl) ?_
    rintro k ⟨gk, hk⟩
    (refine run_seq ?_; refine run_region ?_; refine xep rfl rfl ?_; refine runL_nil ?_; refine then_normal ?_; refine run_seq ?_)
    (refine run_cond rfl (fun hc => ?_) (fun hc => ?_) <;> (try simp only [z0, z1, z2, z3, z4, z5, z6, z7, z8, z9, Bool.not_true, Bool.not_false, Bool.false_or, Bool.true_and, true_and, and_true, false_or, or_false, reduceCtorEq, Bool.false_eq_true] at hc))
    · obtain ⟨b2, off, bi, lv, rfl, hlv, l1, hi⟩ := SdIn.level (n := 0) (cap := 0) hsrc hin (i := k) (by omega)
      have hlok := hok lv (List.mem_of_getElem? hlv)
      have hlb := hlok.1.1
      (refine run_skip ?_; refine then_normal ?_; refine run_seq ?_; refine run_block ?_; refine run_seq ?_; refine run_region ?_; refine xep rfl rfl ?_; refine xel rfl (ev_indexAddr rfl rfl rfl (se rfl) (by omega) (by omega)) ?_; refine xel rfl (ev_loadF rfl rfl (sc rfl) l1) ?_; (iterate 2 refine xep rfl rfl ?_); refine runL_nil ?_; refine then_normal ?_; refine run_seq ?_; refine run_region ?_; refine xep rfl rfl ?_)
      refine runL_callZ [blk b8 o0.cells 35] [] rfl rfl rfl rfl rfl rfl rfl (pf rfl) (fun y => by (first | rfl | (simp only [List.append_eq, cnt_append, cnt_cons, cnt_nil, blk]; omega) | (simp only [List.append_eq, cnt_append, cnt_cons, cnt_nil, blk]; done))) (sp_lorders _ bi lv.p lv.es (hi.mono fun x m => List.mem_append_right _ m) hlb) ?_
      rintro v A2 own2
      obtain ⟨a2, c2, rfl, own2⟩ := own2.at
      (refine xel rfl (ev_len rfl rfl (se rfl)) ?_; refine xep rfl rfl ?_; refine runL_nil ?_; refine then_normal ?_; refine run_block ?_; refine RunC.whole rfl ?_)
      have src2 := fun G : Heap => own2.src (H := G ++ A2 ++ F) fun x m => by simp [m]
      refine run_loopK (σ := Nat) [0, 1, 2, 8, 9, 10, 14, 22, 23, 24, 30, 31, 32] (fun q => [(0, .pointer (some ⟨b, 0, none⟩)), (1, .int .i64 t), (2, .int .i64 i), (8, .pointer (some ⟨b8, 0, none⟩)), (9, .int .i64 j), (10, .int .i64 k), (14, .int .i64 j), (22, .slice (some ⟨b2, off, none⟩) l.length c), (23, .int .i64 l.length), (24, .int .i64 k), (30, .slice a2 lv.es.length c2), (31, .int .i64 lv.es.length), (32, .int .i64 q)]) (fun _ => blk b8 o0.cells 35 :: A2)
        (fun q => q ≤ lv.es.length ∧ ∀ (r : Nat) y, r < q → (lv.es.map (·.o))[r]? = some y → isO t i y = false) (fun q => lv.es.length - q) 0 ⟨Nat.zero_le _, fun q y h => absurd h (Nat.not_lt_zero _)⟩ rfl (fun y => by (first | rfl | (simp only [List.append_eq, cnt_append, cnt_cons, cnt_nil, blk]; omega) | (simp only [List.append_eq, cnt_append, cnt_cons, cnt_nil, blk]; done))) ?_
      rintro q ⟨gq, hq⟩
      (refine run_seq ?_; refine run_region ?_; refine xep rfl rfl ?_; refine runL_nil ?_; refine then_normal ?_; refine run_seq ?_)
      (refine run_cond rfl (fun hc => ?_) (fun hc => ?_) <;> (try simp only [z0, z1, z2, z3, z4, z5, z6, z7, z8, z9, Bool.not_true, Bool.not_false, Bool.false_or, Bool.true_and, true_and, and_true, false_or, or_false, reduceCtorEq, Bool.false_eq_true] at hc))
      · obtain ⟨b3, rest, c3, hv3, hA3, hl3, hr3, hk3⟩ := own2.pos (by omega)
        cases hv3
        obtain ⟨x, hx⟩ : ∃ x, (lv.es.map (·.o))[q]? = some x := ⟨(lv.es.map (·.o))[q]'(by rw [List.length_map]; omega), List.getElem?_eq_getElem _⟩
        have r1 : RowAt (rows Ord.cells (lv.es.map (·.o)) ++ rest) (0 + (q : Int).toNat * 9) x.cells := by
          rw [Nat.zero_add]; exact rows_at oc_len hx rest
        rw [hA3]
        (refine run_skip ?_; refine then_normal ?_; refine run_seq ?_; refine run_block ?_; refine run_seq ?_; refine run_region ?_; refine xel rfl (ev_indexAddr rfl rfl rfl (se rfl) (by omega) (by omega)) ?_; refine xel rfl (ev_loadAR rfl rfl (ag rfl) (sz rfl) (memF (.tail _ (.head _))) r1 rfl) ?_; refine runL_alloc rfl rfl rfl rfl rfl ze35 (fun _ => ?_); refine runL_store0 rfl rfl rfl rfl rfl (sz rfl) rfl rfl rfl rfl rfl ?_; refine runL_nil ?_; refine then_normal ?_; refine run_seq ?_; refine run_region ?_; refine xel rfl (ev_fieldAddr rfl rfl (fo rfl)) ?_; refine xel rfl (ev_loadK rfl rfl (sc rfl) (memF (.head _)) rfl) ?_; (iterate 3 refine xep rfl rfl ?_); refine xgl rfl rfl (fun hq => ev_fieldAddr rfl rfl (fo rfl)) ?_; refine xgl rfl rfl (fun hq => ev_loadK rfl rfl (sc rfl) (memF (.head _)) rfl) ?_; (iterate 2 refine xgp rfl rfl rfl ?_); refine xep rfl rfl ?_; refine runL_nil ?_; refine then_normal ?_)
        rename_i b13
        by_cases hit : isO t i x = true
        · refine run_condT rfl hit ?_
          (refine run_seq ?_)
          refine RunC.perm (h' := blk b8 o0.cells 35 :: blk b13 x.cells 35 :: [blk b3 (rows Ord.cells (lv.es.map (·.o)) ++ rest) 35]) (fun y => by (simp only [List.append_eq, cnt_append, cnt_cons, cnt_nil, blk, Ord.cells]; omega)) ?_
          refine run_region_D mo ?_
          (refine runD_q 0 rfl rfl (by kernel_rfl) ?_; refine ⟨_, fun _ => ev_pure rfl, ?_⟩; refine runD_q 1 rfl rfl (by kernel_rfl) ?_; refine ⟨_, fun _ => ev_pure rfl, ?_⟩; refine runD_q 2 rfl rfl (by kernel_rfl) ?_; refine ⟨_, fun _ => ev_pure rfl, ?_⟩; refine runD_q 3 rfl rfl (by kernel_rfl) ?_; refine ⟨_, fun _ => ev_fieldAddr rfl rfl (fo rfl), ?_⟩; refine runD_q 4 rfl rfl (by kernel_rfl) ?_; refine ⟨_, fun _ => ev_indexAddrA rfl rfl rfl (ar rfl) (by omega) (by omega), ?_⟩; refine runD_q 5 rfl rfl (by kernel_rfl) ?_; refine ⟨_, fun _ => ev_pure rfl, ?_⟩; refine runD_q 7 rfl rfl (by kernel_rfl) ?_; refine ⟨_, fun _ => ev_pure rfl, ?_⟩; refine runD_q 8 rfl rfl (by kernel_rfl) ?_; refine ⟨_, fun _ => ev_pure rfl, ?_⟩; refine runD_1 6 (by kernel_rfl) rfl rfl rfl ?_; refine xel rfl (ev_loadAK rfl rfl (ag rfl) (sz rfl) (memF (.tail _ (.head _))) rfl) ?_; refine runL_nil ?_; refine endS_d rfl ?_; refine runD_1 9 (by kernel_rfl) rfl rfl rfl ?_; refine runL_store0 rfl rfl rfl rfl rfl (sz rfl) rfl rfl rfl rfl rfl ?_; refine runL_nil ?_; refine endS_n rfl ?_; refine runD_done (by kernel_rfl) ?_; refine then_normal ?_; refine run_ret ?_; refine in_ret ?_; (iterate 2 refine then_ret ?_); (iterate 2 refine in_ret ?_); (iterate 2 refine then_ret ?_); (iterate 2 refine in_ret ?_); (iterate 2 refine then_ret ?_); refine in_ret ?_; refine then_ret ?_)
          have hfb := hB k x (findL_here hlv (find_here hx hit hq) hk)
          refine ⟨_, .tmp rfl (.tmp rfl (.agg rfl (memF (.head _)) (ag rfl) (sz rfl) rfl .nil)), [], blk b8 x.cells 35 :: blk b13 x.cells 35 :: [blk b3 (rows Ord.cells (lv.es.map (·.o)) ++ rest) 35], ?_, fun y => by (simp only [List.append_eq, cnt_append, cnt_cons, cnt_nil, blk, Ord.cells]; omega)⟩
          show _ = findV b (findB t i B)
          rw [hfb]
          rcases (by omega : j = 0 ∨ j = 1) with rfl | rfl <;> rfl
        · refine run_condF rfl (by simpa [isO] using hit) ?_
          (refine run_skip ?_; refine in_normal ?_; refine then_normal ?_; refine run_region ?_; refine xel rfl (ev_add rfl rfl rfl (by omega)) ?_; refine xep rfl rfl ?_; refine runL_nil ?_; refine then_normal ?_)
          refine ⟨q + 1, ⟨by omega, fun r y hr hy => ?_⟩, by omega, rfl, [blk b13 x.cells 35], fun y => by (simp only [List.append_eq, cnt_append, cnt_cons, cnt_nil, blk, Ord.cells]; omega)⟩
          by_cases e : r = q
          · subst e; rw [hx] at hy; cases hy; simpa using hit
          · exact hq r y (by omega) hy
      · have : q = lv.es.length := by omega
        subst this
        (refine run_exit ?_; (iterate 2 refine then_exit ?_); refine in_exit ?_; refine in_normal ?_; refine then_normal ?_)
        (refine run_region ?_; refine xel rfl (ev_add rfl rfl rfl (by omega)) ?_; refine xep rfl rfl ?_; refine runL_nil ?_; refine then_normal ?_)
        refine ⟨k + 1, ⟨by omega, fun r y hr hy => ?_⟩, by omega, rfl, A2, fun y => by (first | rfl | (simp only [List.append_eq, cnt_append, cnt_cons, cnt_nil, blk]; omega) | (simp only [List.append_eq, cnt_append, cnt_cons, cnt_nil, blk]; done))⟩
        by_cases e : r = k
        · subst e; rw [hlv] at hy; cases hy
          exact find_no fun j y hy => hq j y (by have := (List.getElem?_eq_some_iff.1 hy).1; rw [List.length_map] at this; exact this) hy
        · exact hk r y (by omega) hy
    · have : k = l.length := by omega
      subst this
      have hno := findL_no fun j y hy => hk j y ((List.getElem?_eq_some_iff.1 hy).1) hy
      (refine run_exit ?_; (iterate 2 refine then_exit ?_); refine in_exit ?_; refine in_normal ?_; refine then_normal ?_)
      (refine run_region ?_; refine xel rfl (ev_add rfl rfl rfl (by omega)) ?_; refine xep rfl rfl ?_; refine runL_nil ?_; refine then_normal ?_)
      refine ⟨j + 1, ⟨by omega, fun h0 => ?_, fun h0 => ?_⟩, by omega, rfl, [], fun y => by (first | rfl | (simp only [List.append_eq, cnt_append, cnt_cons, cnt_nil, blk]; omega) | (simp only [List.append_eq, cnt_append, cnt_cons, cnt_nil, blk]; done))⟩
      · rcases (by omega : j = 0 ∨ j = 1) with rfl | rfl
        · rw [if_pos rfl] at hl; subst hl; exact hno
        · exact hf1 (by omega)
      · have : j = 1 := by omega
        subst this
        rw [if_neg (by omega)] at hl; subst hl; exact hno
  · have : j = 2 := by omega
    subst this
    (refine run_exit ?_; (iterate 2 refine then_exit ?_); refine in_exit ?_; refine then_normal ?_)
    (refine run_seq ?_; refine run_region ?_; refine xel rfl (ev_build rfl pl35 rfl) ?_; (iterate 2 refine xep rfl rfl ?_); refine runL_store0 rfl rfl rfl rfl rfl (sz rfl) rfl rfl rfl rfl rfl ?_; refine runL_nil ?_; refine then_normal ?_; refine run_ret ?_)
    refine ⟨_, .tmp rfl (.tmp rfl (.agg rfl (memF (.head _)) (ag rfl) (sz rfl) rfl .nil)), [], [blk b8 o0.cells 35], ?_, fun y => by (simp only [List.append_eq, cnt_append, cnt_cons, cnt_nil, blk, Ord.cells, ec, hcell, o0]; omega)⟩
    show _ = findV b (findB t i B)
    have : findB t i B = none := by unfold findB; rw [hf1 (by omega), hf2 (by omega)]
    rw [this]; rfl
end Go.Proofs.YtmelpobcpcmdoaaGreat

set_option autoImplicit false
set_option linter.unusedSectionVars false
set_option linter.unusedSimpArgs false
set_option linter.unusedVariables false
set_option maxRecDepth 4000
set_option maxHeartbeats 16000000
namespace Go.Proofs.YtmelpobcpcmdoaaGreat
open Go Go.SL Go.Proofs
def bfind (t i : Int) (B : Bk) : Ord × Bool := match findB t i B with
  | some (_, _, o) => (o, true)
  | none => (o0, false)
theorem findB_side {t i : Int} {B : Bk} {s : Int} {k : Nat} {o : Ord} (h : findB t i B = some (s, k, o)) : s = 1 ∨ s = 2 := by
  unfold findB at h
  split at h
  · cases h; exact .inl rfl
  · split at h
    · cases h; exact .inr rfl
    · cases h
/-- What a removal tells, and leaves. -/
def bremove (t i : Int) (B : Bk) : Ord × Bool × Bk := match findB t i B with
  | none => (o0, false, B)
  | some (s, k, _) => match (B.side s)[k]? with
    | none => (o0, false, B)
    | some lv => ((lrem t i lv.es).1, (lrem t i lv.es).2.1, B.put s (if (lrem t i lv.es).2.2 = [] then (B.side s).eraseIdx k else (B.side s).set k ⟨lv.p, (lrem t i lv.es).2.2⟩))
theorem findL_get {t i : Int} : ∀ {l : List Lv} {k : Nat} {o : Ord}, findL t i l = some (k, o) → ∃ lv, l[k]? = some lv ∧ (lv.es.map (·.o)).find? (isO t i) = some o
  | [], _, _, h => by cases h
  | a :: l, k, o, h => by
    unfold findL at h
    rw [show (fun o : Ord => decide (o.trader = t) && decide (o.id = i)) = isO t i from rfl] at h
    split at h
    · rename_i x hx
      cases h
      exact ⟨a, rfl, hx⟩
    · split at h
      · rename_i k' o' hk
        cases h
        obtain ⟨lv, h1, h2⟩ := findL_get hk
        exact ⟨lv, by simpa using h1, h2⟩
      · cases h
theorem findB_get {t i : Int} {B : Bk} {s : Int} {k : Nat} {o : Ord} (h : findB t i B = some (s, k, o)) : ∃ lv, (B.side s)[k]? = some lv ∧ (lv.es.map (·.o)).find? (isO t i) = some o := by
  unfold findB at h
  split at h
  · rename_i k' o' hk
    cases h; exact findL_get hk
  · split at h
    · rename_i k' o' hk
      cases h; exact findL_get hk
    · cases h
variable [Base]
theorem sp_bFind (F : Heap) (b : Nat) (B : Bk) (h : BkIn F b B) (hw : BW B) (t i : Int) :
    Sp Tryz.prog F 62 [.pointer (some ⟨b, 0, none⟩), .int .i64 t, .int .i64 i] [] (Ret (.tuple #[ov (bfind t i B).1, .bool (bfind t i B).2])) := by
  have q1 := fun G : Heap => sp_bfind (G ++ F) b B h.up hw t i
  unfold bfind
  cases hf : findB t i B with
  | none =>
    rw [hf] at q1
    refine sp_of_codeR Tryz.func62 rfl rfl ?_
    (refine run_seq ?_; refine run_region ?_; refine runL_alloc rfl rfl rfl rfl rfl ze35 (fun _ => ?_); refine xep rfl rfl ?_; refine runL_nil ?_; refine then_normal ?_; refine run_seq ?_; refine run_region ?_; (iterate 3 refine xep rfl rfl ?_); refine xel rfl (ev_callQ rfl rfl rfl (pf rfl) (q1 ..)) ?_; (iterate 4 refine xep rfl rfl ?_); refine runL_alloc rfl rfl rfl rfl rfl ze35 (fun _ => ?_); (iterate 2 refine xep rfl rfl ?_); refine runL_store0 rfl rfl rfl rfl rfl (sz rfl) rfl rfl rfl rfl rfl ?_; refine runL_nil ?_; refine then_normal ?_; refine run_seq ?_; refine run_region ?_; refine xel rfl (ev_loadAK rfl rfl (ag rfl) (sz rfl) (memF (.head _)) rfl) ?_; refine xep rfl rfl ?_; refine xel rfl (ev_neqNil rfl rfl rfl (pt rfl)) ?_; refine runL_store1 rfl rfl rfl rfl rfl (sz rfl) rfl rfl rfl rfl rfl ?_; refine xep rfl rfl ?_; refine runL_nil ?_; refine then_normal ?_; refine run_ret ?_)
    rename_i b6 b10
    exact ⟨_, .agg rfl (memF (.tail _ (.head _))) (ag rfl) (sz rfl) rfl (.tmp rfl .nil), rfl⟩
  | some r =>
    obtain ⟨s, k, o⟩ := r
    rw [hf] at q1
    have q2 : ∀ G : Heap, Sp Tryz.prog (G ++ F) 65 [.pointer (some ⟨b, 0, none⟩), .int .i64 t, .int .i64 i] [] (Ret (.tuple #[.pointer (some ⟨b, (s - 1).toNat, none⟩), .int .i64 k, ov o])) := by
      intro G
      have := q1 G
      rcases findB_side hf with rfl | rfl <;> exact this
    clear q1
    refine sp_of_codeR Tryz.func62 rfl rfl ?_
    (refine run_seq ?_; refine run_region ?_; refine runL_alloc rfl rfl rfl rfl rfl ze35 (fun _ => ?_); refine xep rfl rfl ?_; refine runL_nil ?_; refine then_normal ?_; refine run_seq ?_; refine run_region ?_; (iterate 3 refine xep rfl rfl ?_); refine xel rfl (ev_callQ rfl rfl rfl (pf rfl) (q2 ..)) ?_; (iterate 4 refine xep rfl rfl ?_); refine runL_alloc rfl rfl rfl rfl rfl ze35 (fun _ => ?_); (iterate 2 refine xep rfl rfl ?_); refine runL_store0 rfl rfl rfl rfl rfl (sz rfl) rfl rfl rfl rfl rfl ?_; refine runL_nil ?_; refine then_normal ?_; refine run_seq ?_; refine run_region ?_; refine xel rfl (ev_loadAK rfl rfl (ag rfl) (sz rfl) (memF (.head _)) rfl) ?_; refine xep rfl rfl ?_; refine xel rfl (ev_neqNil rfl rfl rfl (pt rfl)) ?_; refine runL_store1 rfl rfl rfl rfl rfl (sz rfl) rfl rfl rfl rfl rfl ?_; refine xep rfl rfl ?_; refine runL_nil ?_; refine then_normal ?_; refine run_ret ?_)
    rename_i b6 b10
    exact ⟨_, .agg rfl (memF (.tail _ (.head _))) (ag rfl) (sz rfl) rfl (.tmp rfl .nil), rfl⟩
/-- A side, its level at hand. -/
theorem SdH.open {v : Value} {l : List Lv} {H : Heap} {k : Nat} {lv : Lv} (h : SdH v l H) (hk : l[k]? = some lv) : ∃ ba c cap bi H1 H2, v = .slice (some ⟨ba, 0, none⟩) l.length cap ∧ l.length ≤ cap ∧ c[0 + (k : Int).toNat * 1]? = some (.pointer (some ⟨bi, 0, none⟩)) ∧ LvH bi lv.p lv.es H1 ∧
    (∀ x, cnt x H = cnt x (blk ba c 110 :: (H1 ++ H2))) ∧ ∀ p es' H1', LvH bi p es' H1' → ∃ H', SdH v (l.set k ⟨p, es'⟩) H' ∧ ∀ x, cnt x H' = cnt x (blk ba c 110 :: (H1' ++ H2)) := by
  obtain ⟨a, cap, bs, A, L, rfl, own, hL, rfl⟩ := h
  have hlt := (List.getElem?_eq_some_iff.1 hk).1
  have hlen := hL.len
  have hb : bs[k]? = some (bs[k]'(by omega)) := List.getElem?_eq_getElem (by omega)
  obtain ⟨H1, H2, h1, hp, hs, -⟩ := hL.out hb hk
  have own0 := own
  obtain ⟨ba, rest, cap', hv, rfl, hl2, hr2, hk2⟩ := own.pos (by omega)
  cases hv
  refine ⟨ba, rows pc bs ++ rest, cap, bs[k], H1, H2, rfl, hk2, ?_, h1, fun x => ?_, fun p es' H1' h' => ?_⟩
  · have := (rows_at pc_len hb rest).get (k := 0) (v := .pointer (some ⟨bs[k], 0, none⟩)) rfl
    rw [Int.toNat_natCast, Nat.zero_add]; exact this
  · rw [List.cons_append, cnt_cons, cnt_cons, List.nil_append, hp x]
  · obtain ⟨H', h1', hp'⟩ := hs p es' H1' h'
    refine ⟨[blk ba (rows pc bs ++ rest) 110] ++ H', ⟨some ⟨ba, 0, none⟩, cap, bs, _, H', by rw [List.length_set], by rw [List.length_set]; exact own0, h1', rfl⟩, fun x => ?_⟩
    rw [List.cons_append, cnt_cons, cnt_cons, List.nil_append, hp' x]
theorem SdH.lt {v : Value} {l : List Lv} {H : Heap} (h : SdH v l H) : ∃ a cap, v = .slice a l.length cap ∧ l.length ≤ cap := by
  obtain ⟨a, cap, bs, A, L, rfl, own, hL, rfl⟩ := h
  obtain ⟨_, _, hv, h2⟩ := own.form
  cases hv; exact ⟨a, cap, rfl, h2⟩
theorem sp_swept1 (F H1 H2 : Heap) (b : Nat) (w v : Value) (last no : Int) (l : List Lv) (h : SdH v l H1) (hl : l.length ≤ 65536) (k : Nat) (lv : Lv) (hk : l[k]? = some lv) :
    Sp Tryz.prog F 86 [.pointer (some ⟨b, 0, none⟩), .int .i64 k] (blk b [v,w, .int .i64 last, .int .i64 no] 90 :: (H1 ++ H2)) (fun _ h' => ∃ v' H1', SdH v' (if lv.es = [] then l.eraseIdx k else l) H1' ∧ h' = blk b [v',w, .int .i64 last, .int .i64 no] 90 :: (H1' ++ H2)) := by
  have hlt := (List.getElem?_eq_some_iff.1 hk).1
  have h0 := h
  obtain ⟨a, cap, bs, A, L, rfl, own, hL, rfl⟩ := h
  have hlen := hL.len
  have hb : bs[k]? = some (bs[k]'(by omega)) := List.getElem?_eq_getElem (by omega)
  have hin := hL.in (F := (blk b [.slice a l.length cap,w, .int .i64 last, .int .i64 no] 90 :: (A ++ L ++ H2)) ++ F) fun x m => by simp [m]
  obtain ⟨ba, rest, cap', hv, hA, hl2, hr2, hk2⟩ := own.pos (by omega)
  cases hv
  have g1 : (rows pc bs ++ rest)[0 + (k : Int).toNat * 1]? = some (.pointer (some ⟨bs[k], 0, none⟩)) := by
    have := (rows_at pc_len hb rest).get (k := 0) (v := .pointer (some ⟨bs[k], 0, none⟩)) rfl
    rw [Int.toNat_natCast, Nat.zero_add]; exact this
  rw [hA] at hin ⊢
  refine Sp.up ?_
  refine Sp.perm (h' := blk b [.slice (some ⟨ba, 0, none⟩) l.length cap,w, .int .i64 last, .int .i64 no] 90 :: blk ba (rows pc bs ++ rest) 110 :: (L ++ H2)) (fun x => by (first | rfl | (simp only [List.append_eq, cnt_append, cnt_cons, cnt_nil, blk]; omega) | (simp only [List.append_eq, cnt_append, cnt_cons, cnt_nil, blk]; done))) ?_
  refine sp_of_code Tryz.func86 rfl rfl ?_
  (refine run_seq ?_; refine run_region ?_; (iterate 2 refine xep rfl rfl ?_); refine xel rfl (ev_loadK rfl rfl (sc rfl) (memF (.head _)) rfl) ?_; refine xep rfl rfl ?_; refine xel rfl (ev_indexAddr rfl rfl rfl (se rfl) (by omega) (by omega)) ?_; refine xel rfl (ev_load rfl rfl (sc rfl) (memF (.tail _ (.head _))) g1) ?_)
  refine runL_ev rfl rfl rfl rfl (ev_callQ rfl rfl rfl (pf rfl) (sp_llen _ bs[k] lv.p lv.es ((hin.2 k _ lv hb hk).mono fun x m => by simpa using m))) ?_
  (refine xep rfl rfl ?_; refine runL_nil ?_; refine then_normal ?_)
  (refine run_cond rfl (fun hc => ?_) (fun hc => ?_) <;> (try simp only [z0, z1, z2, z3, z4, z5, z6, z7, z8, z9, Bool.not_true, Bool.not_false, Bool.false_or, Bool.true_and, true_and, and_true, false_or, or_false, reduceCtorEq, Bool.false_eq_true] at hc))
  · have hes : lv.es = [] := List.eq_nil_of_length_eq_zero (by omega)
    rw [if_pos hes]
    obtain ⟨G1, G2, g0, gp, -, G3, ge, gq⟩ := hL.out hb hk
    (refine run_region ?_; (iterate 3 refine xep rfl rfl ?_); refine xel rfl (ev_loadK rfl rfl (sc rfl) (memF (.head _)) rfl) ?_; (iterate 2 refine xep rfl rfl ?_); refine xel rfl (ev_add rfl rfl rfl (by omega)) ?_)
    refine runL_callZ (blk b [.slice (some ⟨ba, 0, none⟩) l.length cap,w, .int .i64 last, .int .i64 no] 90 :: (L ++ H2)) A rfl rfl rfl rfl rfl rfl rfl (pf rfl) (fun x => by rw [hA]; (first | rfl | (simp only [List.append_eq, cnt_append, cnt_cons, cnt_nil, blk]; omega) | (simp only [List.append_eq, cnt_append, cnt_cons, cnt_nil, blk]; done))) (sp_delLvl _ A _ _ _ _ own (rows_cells pc_cells _) k (k + 1) (by omega) (by omega)) ?_
    rintro v A' own'
    have e1 : (rows pc bs).take (k * 1) ++ (rows pc bs).drop ((k + 1) * 1) = rows pc (bs.eraseIdx k) := by
      rw [rows_take pc_len _ (by omega), rows_drop pc_len _ (by omega), ← rows_append, List.eraseIdx_eq_take_drop_succ]
    have e2 : l.length - (k + 1 - k) = (l.eraseIdx k).length := by rw [List.length_eraseIdx_of_lt hlt]; omega
    rw [e1, e2] at own'
    obtain ⟨a5, c5, rfl, own5⟩ := own'.at
    (refine xep rfl rfl ?_; refine runL_store0 rfl rfl rfl rfl rfl (sz rfl) rfl rfl rfl rfl rfl ?_; refine runL_nil ?_)
    exact ⟨_, rfl, _, G1, ⟨_, A' ++ G3, ⟨a5, c5, _, A', G3, rfl, own5, ge, rfl⟩, rfl⟩, fun x => by
      have h1 := gp x
      have h2 := gq x
      simp only [List.append_eq, cnt_append, cnt_cons, cnt_nil, blk] at h1 h2 ⊢; omega⟩
  · have hes : lv.es ≠ [] := fun e => by rw [e] at hc; exact hc rfl
    rw [if_neg hes]
    (refine run_skip ?_)
    exact ⟨_, rfl, _, [], ⟨_, _, h0, rfl⟩, fun x => by rw [hA]; (first | rfl | (simp only [List.append_eq, cnt_append, cnt_cons, cnt_nil, blk]; omega) | (simp only [List.append_eq, cnt_append, cnt_cons, cnt_nil, blk]; done))⟩
theorem sp_swept2 (F H1 H2 : Heap) (b : Nat) (w v : Value) (last no : Int) (l : List Lv) (h : SdH v l H1) (hl : l.length ≤ 65536) (k : Nat) (lv : Lv) (hk : l[k]? = some lv) :
    Sp Tryz.prog F 86 [.pointer (some ⟨b, 1, none⟩), .int .i64 k] (blk b [w,v, .int .i64 last, .int .i64 no] 90 :: (H1 ++ H2)) (fun _ h' => ∃ v' H1', SdH v' (if lv.es = [] then l.eraseIdx k else l) H1' ∧ h' = blk b [w,v', .int .i64 last, .int .i64 no] 90 :: (H1' ++ H2)) := by
  have hlt := (List.getElem?_eq_some_iff.1 hk).1
  have h0 := h
  obtain ⟨a, cap, bs, A, L, rfl, own, hL, rfl⟩ := h
  have hlen := hL.len
  have hb : bs[k]? = some (bs[k]'(by omega)) := List.getElem?_eq_getElem (by omega)
  have hin := hL.in (F := (blk b [w,.slice a l.length cap, .int .i64 last, .int .i64 no] 90 :: (A ++ L ++ H2)) ++ F) fun x m => by simp [m]
  obtain ⟨ba, rest, cap', hv, hA, hl2, hr2, hk2⟩ := own.pos (by omega)
  cases hv
  have g1 : (rows pc bs ++ rest)[0 + (k : Int).toNat * 1]? = some (.pointer (some ⟨bs[k], 0, none⟩)) := by
    have := (rows_at pc_len hb rest).get (k := 0) (v := .pointer (some ⟨bs[k], 0, none⟩)) rfl
    rw [Int.toNat_natCast, Nat.zero_add]; exact this
  rw [hA] at hin ⊢
  refine Sp.up ?_
  refine Sp.perm (h' := blk b [w,.slice (some ⟨ba, 0, none⟩) l.length cap, .int .i64 last, .int .i64 no] 90 :: blk ba (rows pc bs ++ rest) 110 :: (L ++ H2)) (fun x => by (first | rfl | (simp only [List.append_eq, cnt_append, cnt_cons, cnt_nil, blk]; omega) | (simp only [List.append_eq, cnt_append, cnt_cons, cnt_nil, blk]; done))) ?_
  refine sp_of_code Tryz.func86 rfl rfl ?_
  (refine run_seq ?_; refine run_region ?_; (iterate 2 refine xep rfl rfl ?_); refine xel rfl (ev_loadK rfl rfl (sc rfl) (memF (.head _)) rfl) ?_; refine xep rfl rfl ?_; refine xel rfl (ev_indexAddr rfl rfl rfl (se rfl) (by omega) (by omega)) ?_; refine xel rfl (ev_load rfl rfl (sc rfl) (memF (.tail _ (.head _))) g1) ?_)
  refine runL_ev rfl rfl rfl rfl (ev_callQ rfl rfl rfl (pf rfl) (sp_llen _ bs[k] lv.p lv.es ((hin.2 k _ lv hb hk).mono fun x m => by simpa using m))) ?_
  (refine xep rfl rfl ?_; refine runL_nil ?_; refine then_normal ?_)
  (refine run_cond rfl (fun hc => ?_) (fun hc => ?_) <;> (try simp only [z0, z1, z2, z3, z4, z5, z6, z7, z8, z9, Bool.not_true, Bool.not_false, Bool.false_or, Bool.true_and, true_and, and_true, false_or, or_false, reduceCtorEq, Bool.false_eq_true] at hc))
  · have hes : lv.es = [] := List.eq_nil_of_length_eq_zero (by omega)
    rw [if_pos hes]
    obtain ⟨G1, G2, g0, gp, -, G3, ge, gq⟩ := hL.out hb hk
    (refine run_region ?_; (iterate 3 refine xep rfl rfl ?_); refine xel rfl (ev_loadK rfl rfl (sc rfl) (memF (.head _)) rfl) ?_; (iterate 2 refine xep rfl rfl ?_); refine xel rfl (ev_add rfl rfl rfl (by omega)) ?_)
    refine runL_callZ (blk b [w,.slice (some ⟨ba, 0, none⟩) l.length cap, .int .i64 last, .int .i64 no] 90 :: (L ++ H2)) A rfl rfl rfl rfl rfl rfl rfl (pf rfl) (fun x => by rw [hA]; (first | rfl | (simp only [List.append_eq, cnt_append, cnt_cons, cnt_nil, blk]; omega) | (simp only [List.append_eq, cnt_append, cnt_cons, cnt_nil, blk]; done))) (sp_delLvl _ A _ _ _ _ own (rows_cells pc_cells _) k (k + 1) (by omega) (by omega)) ?_
    rintro v A' own'
    have e1 : (rows pc bs).take (k * 1) ++ (rows pc bs).drop ((k + 1) * 1) = rows pc (bs.eraseIdx k) := by
      rw [rows_take pc_len _ (by omega), rows_drop pc_len _ (by omega), ← rows_append, List.eraseIdx_eq_take_drop_succ]
    have e2 : l.length - (k + 1 - k) = (l.eraseIdx k).length := by rw [List.length_eraseIdx_of_lt hlt]; omega
    rw [e1, e2] at own'
    obtain ⟨a5, c5, rfl, own5⟩ := own'.at
    (refine xep rfl rfl ?_; refine runL_store0 rfl rfl rfl rfl rfl (sz rfl) rfl rfl rfl rfl rfl ?_; refine runL_nil ?_)
    exact ⟨_, rfl, _, G1, ⟨_, A' ++ G3, ⟨a5, c5, _, A', G3, rfl, own5, ge, rfl⟩, rfl⟩, fun x => by
      have h1 := gp x
      have h2 := gq x
      simp only [List.append_eq, cnt_append, cnt_cons, cnt_nil, blk] at h1 h2 ⊢; omega⟩
  · have hes : lv.es ≠ [] := fun e => by rw [e] at hc; exact hc rfl
    rw [if_neg hes]
    (refine run_skip ?_)
    exact ⟨_, rfl, _, [], ⟨_, _, h0, rfl⟩, fun x => by rw [hA]; (first | rfl | (simp only [List.append_eq, cnt_append, cnt_cons, cnt_nil, blk]; omega) | (simp only [List.append_eq, cnt_append, cnt_cons, cnt_nil, blk]; done))⟩
end Go.Proofs.YtmelpobcpcmdoaaGreat

set_option autoImplicit false
set_option linter.unusedSectionVars false
set_option linter.unusedSimpArgs false
set_option linter.unusedVariables false
set_option maxRecDepth 4000
set_option maxHeartbeats 16000000
namespace Go.Proofs.YtmelpobcpcmdoaaGreat
open Go Go.SL Go.Proofs
theorem findB_of {B : Bk} {t i : Int} {j k : Nat} {o : Ord} (hj : j < 3) (h1 : 1 < j → findL t i B.buys = none) (h : findL t i (B.side j) = some (k, o)) : findB t i B = some ((j : Int), k, o) := by
  match j, hj with
  | 0, _ => exact absurd h (by unfold Bk.side findL; simp)
  | 1, _ =>
    have h : findL t i B.buys = some (k, o) := h
    unfold findB; rw [h]; rfl
  | 2, _ =>
    have h : findL t i B.sells = some (k, o) := h
    unfold findB; rw [h1 (by decide), h]; rfl
variable [Base]
theorem sp_rbfind (F : Heap) (b : Nat) (B : Bk) (h : RbIn F b B) (hw : BW B) (t i : Int) :
    Sp Tryz.prog F 29 [.pointer (some ⟨b, 0, none⟩), .int .i64 t, .int .i64 i] [] (Ret (.tuple #[ov (bfind t i B).1, .bool (bfind t i B).2])) := by
  refine Sp.up ?_
  refine sp_of_codeR Tryz.func29 rfl rfl ?_
  (refine run_seq ?_; refine run_region ?_; refine runL_alloc rfl rfl rfl rfl rfl ze35 (fun _ => ?_); refine xep rfl rfl ?_; refine runL_nil ?_; refine then_normal ?_; (iterate 2 refine run_seq ?_); refine run_region ?_; refine xep rfl rfl ?_; refine runL_nil ?_; refine then_normal ?_; refine run_block ?_)
  rename_i b8
  refine run_loopK (σ := Nat) [0, 1, 2, 6, 13] (fun j => [(0, .pointer (some ⟨b, 0, none⟩)), (1, .int .i64 t), (2, .int .i64 i), (6, .pointer (some ⟨b8, 0, none⟩)), (13, .int .i64 j)]) (fun _ => [blk b8 o0.cells 35])
    (fun j => j ≤ 3 ∧ (1 < j → findL t i B.buys = none) ∧ (2 < j → findL t i B.sells = none)) (fun j => 3 - j) 0 ⟨Nat.zero_le _, fun h => absurd h (by omega), fun h => absurd h (by omega)⟩ rfl (fun _ => rfl) ?_
  rintro j ⟨hj, hf1, hf2⟩
  (refine run_seq ?_; refine run_region ?_; refine xep rfl rfl ?_; refine runL_nil ?_; refine then_normal ?_; refine run_seq ?_)
  (refine run_cond rfl (fun hc => ?_) (fun hc => ?_) <;> (try simp only [z0, z1, z2, z3, z4, z5, z6, z7, z8, z9, Bool.not_true, Bool.not_false, Bool.false_or, Bool.true_and, true_and, and_true, false_or, or_false, reduceCtorEq, Bool.false_eq_true] at hc))
  · obtain ⟨a, c, bs, l1, hcl, hsrc, hin⟩ := h.side j (by omega)
    obtain ⟨hok, h64⟩ := hw.side j
    have gl := lenL_ge hok
    have hB : ∀ k o, findL t i (B.side j) = some (k, o) → findB t i B = some ((j : Int), k, o) := fun k o hk => findB_of (by omega) hf1 hk
    generalize hl : B.side (j : Int) = l at *
    (refine run_skip ?_; refine then_normal ?_; refine run_seq ?_; refine run_block ?_; refine run_seq ?_; refine run_region ?_; (iterate 2 refine xep rfl rfl ?_); refine runL_nil ?_; refine then_normal ?_; refine run_seq ?_; refine run_region ?_; (iterate 3 refine xep rfl rfl ?_); refine xel rfl (ev_fieldAddr rfl rfl (fo rfl)) ?_; refine xel rfl (ev_indexAddrA rfl rfl rfl (ar rfl) (by omega) (by omega)) ?_; refine xel rfl (ev_loadF rfl rfl (sc rfl) l1) ?_; refine xel rfl (ev_len rfl rfl (se rfl)) ?_; refine xep rfl rfl ?_; refine runL_nil ?_; refine then_normal ?_; refine run_block ?_)
    clear l1
    refine run_loopK (σ := Nat) [0, 1, 2, 6, 13, 21, 22, 23] (fun k => [(0, .pointer (some ⟨b, 0, none⟩)), (1, .int .i64 t), (2, .int .i64 i), (6, .pointer (some ⟨b8, 0, none⟩)), (13, .int .i64 j), (21, .slice a l.length c), (22, .int .i64 l.length), (23, .int .i64 k)]) (fun _ => [blk b8 o0.cells 35])
      (fun k => k ≤ l.length ∧ ∀ (q : Nat) y, q < k → l[q]? = some y → (y.es.map (·.o)).find? (isO t i) = none) (fun k => l.length - k) 0 ⟨Nat.zero_le _, fun q y h => absurd h (Nat.not_lt_zero _)⟩ rfl (fun _ => rfl) ?_
    rintro k ⟨gk, hk⟩
    (refine run_seq ?_; refine run_region ?_; refine xep rfl rfl ?_; refine runL_nil ?_; refine then_normal ?_; refine run_seq ?_)
    (refine run_cond rfl (fun hc => ?_) (fun hc => ?_) <;> (try simp only [z0, z1, z2, z3, z4, z5, z6, z7, z8, z9, Bool.not_true, Bool.not_false, Bool.false_or, Bool.true_and, true_and, and_true, false_or, or_false, reduceCtorEq, Bool.false_eq_true] at hc))
    · obtain ⟨b2, off, bi, lv, rfl, hlv, l1, hi⟩ := RsIn.level (n := 0) (cap := 0) hsrc hin (i := k) (by omega)
      have hlok := hok lv (List.mem_of_getElem? hlv)
      have hlb := hlok.1.1
      obtain ⟨a3, c3, hc3, hm3, hs3⟩ := hi
      have l2 : LoadsF F bi (0 + 1) (.slice a3 lv.es.length c3) := ⟨_, _, _, hm3, rfl⟩
      (refine run_skip ?_; refine then_normal ?_; refine run_seq ?_; refine run_block ?_; refine run_seq ?_; refine run_region ?_; refine xel rfl (ev_indexAddr rfl rfl rfl (se rfl) (by omega) (by omega)) ?_; refine xel rfl (ev_loadF rfl rfl (sc rfl) l1) ?_; refine xep rfl rfl ?_; refine runL_nil ?_; refine then_normal ?_; refine run_seq ?_; refine run_region ?_; (iterate 2 refine xep rfl rfl ?_); refine xel rfl (ev_fieldAddr rfl rfl (fo rfl)) ?_; refine xel rfl (ev_loadF rfl rfl (sc rfl) l2) ?_; refine xel rfl (ev_len rfl rfl (se rfl)) ?_; refine xep rfl rfl ?_; refine runL_nil ?_; refine then_normal ?_; refine run_block ?_)
      clear l1 l2
      refine run_loopK (σ := Nat) [0, 1, 2, 6, 13, 21, 22, 23, 30, 31, 32] (fun q => [(0, .pointer (some ⟨b, 0, none⟩)), (1, .int .i64 t), (2, .int .i64 i), (6, .pointer (some ⟨b8, 0, none⟩)), (13, .int .i64 j), (21, .slice (some ⟨b2, off, none⟩) l.length c), (22, .int .i64 l.length), (23, .int .i64 k), (30, .slice a3 lv.es.length c3), (31, .int .i64 lv.es.length), (32, .int .i64 q)]) (fun _ => [blk b8 o0.cells 35])
        (fun q => q ≤ lv.es.length ∧ ∀ (r : Nat) y, r < q → (lv.es.map (·.o))[r]? = some y → isO t i y = false) (fun q => lv.es.length - q) 0 ⟨Nat.zero_le _, fun q y h => absurd h (Nat.not_lt_zero _)⟩ rfl (fun y => by (first | rfl | (simp only [List.append_eq, cnt_append, cnt_cons, cnt_nil, blk]; omega) | (simp only [List.append_eq, cnt_append, cnt_cons, cnt_nil, blk]; done))) ?_
      rintro q ⟨gq, hq⟩
      (refine run_seq ?_; refine run_region ?_; refine xep rfl rfl ?_; refine runL_nil ?_; refine then_normal ?_; refine run_seq ?_)
      (refine run_cond rfl (fun hc => ?_) (fun hc => ?_) <;> (try simp only [z0, z1, z2, z3, z4, z5, z6, z7, z8, z9, Bool.not_true, Bool.not_false, Bool.false_or, Bool.true_and, true_and, and_true, false_or, or_false, reduceCtorEq, Bool.false_eq_true] at hc))
      · obtain ⟨b3, off3, _, _, _, rfl, _⟩ := hs3.pos (by omega)
        obtain ⟨x, hx⟩ : ∃ x, lv.es[q]? = some x := ⟨lv.es[q]'(by omega), List.getElem?_eq_getElem _⟩
        have hx2 : (lv.es.map (·.o))[q]? = some x.o := by rw [List.getElem?_map, hx]; rfl
        have l1 := SrcIs.row ec_len hs3 rfl hx
        (refine run_skip ?_; refine then_normal ?_; refine run_seq ?_; refine run_block ?_; refine run_seq ?_; refine run_region ?_; refine xel rfl (ev_indexAddr rfl rfl rfl (se rfl) (by omega) (by omega)) ?_; refine xel rfl (ev_loadAF rfl rfl (ag rfl) (sz rfl) l1 rfl) ?_; refine runL_alloc rfl rfl rfl rfl rfl ze84 (fun _ => ?_); refine runL_store0 rfl rfl rfl rfl rfl (sz rfl) rfl rfl rfl rfl rfl ?_; refine runL_nil ?_; refine then_normal ?_; refine run_seq ?_; refine run_region ?_; (iterate 2 refine xel rfl (ev_fieldAddr rfl rfl (fo rfl)) ?_); refine xel rfl (ev_loadK rfl rfl (sc rfl) (memF (.head _)) rfl) ?_; (iterate 3 refine xep rfl rfl ?_); (iterate 2 refine xgl rfl rfl (fun hq => ev_fieldAddr rfl rfl (fo rfl)) ?_); refine xgl rfl rfl (fun hq => ev_loadK rfl rfl (sc rfl) (memF (.head _)) rfl) ?_; (iterate 2 refine xgp rfl rfl rfl ?_); refine xep rfl rfl ?_; refine runL_nil ?_; refine then_normal ?_)
        rename_i b13
        by_cases hit : isO t i x.o = true
        · refine run_condT rfl hit ?_
          (refine run_seq ?_; refine run_region ?_; refine xel rfl (ev_fieldAddr rfl rfl (fo rfl)) ?_; refine xel rfl (ev_loadAK rfl rfl (ag rfl) (sz rfl) (memF (.head _)) rfl) ?_; refine runL_store1 rfl rfl rfl rfl rfl (sz rfl) rfl rfl rfl rfl rfl ?_; refine xep rfl rfl ?_; refine runL_nil ?_; refine then_normal ?_; refine run_ret ?_; refine in_ret ?_; (iterate 2 refine then_ret ?_); (iterate 2 refine in_ret ?_); (iterate 2 refine then_ret ?_); (iterate 2 refine in_ret ?_); (iterate 2 refine then_ret ?_); refine in_ret ?_; refine then_ret ?_)
          have hfb := hB k x.o (findL_here hlv (find_here hx2 hit hq) hk)
          have e : bfind t i B = (x.o, true) := by unfold bfind; rw [hfb]
          rw [e]
          refine ⟨_, .agg rfl (memF (.tail _ (.head _))) (ag rfl) (sz rfl) rfl (.tmp rfl .nil), [], blk b8 x.o.cells 35 :: [blk b13 (ec x) 102], rfl, fun y => ?_⟩
          simp only [List.append_eq, cnt_append, cnt_cons, cnt_nil, blk, ec, Ord.cells]; omega
        · refine run_condF rfl (by simpa [isO] using hit) ?_
          (refine run_skip ?_; refine in_normal ?_; refine then_normal ?_; refine run_region ?_; refine xel rfl (ev_add rfl rfl rfl (by omega)) ?_; refine xep rfl rfl ?_; refine runL_nil ?_; refine then_normal ?_)
          refine ⟨q + 1, ⟨by omega, fun r y hr hy => ?_⟩, by omega, rfl, [blk b13 (ec x) 102], fun y => by simp only [List.append_eq, cnt_append, cnt_cons, cnt_nil, blk, ec, Ord.cells, o0]; omega⟩
          by_cases e : r = q
          · subst e; rw [hx2] at hy; cases hy; simpa using hit
          · exact hq r y (by omega) hy
      · have : q = lv.es.length := by omega
        subst this
        (refine run_exit ?_; (iterate 2 refine then_exit ?_); refine in_exit ?_; refine in_normal ?_; refine then_normal ?_)
        (refine run_region ?_; refine xel rfl (ev_add rfl rfl rfl (by omega)) ?_; refine xep rfl rfl ?_; refine runL_nil ?_; refine then_normal ?_)
        refine ⟨k + 1, ⟨by omega, fun r y hr hy => ?_⟩, by omega, rfl, [], fun y => by (first | rfl | (simp only [List.append_eq, cnt_append, cnt_cons, cnt_nil, blk]; omega) | (simp only [List.append_eq, cnt_append, cnt_cons, cnt_nil, blk]; done))⟩
        by_cases e : r = k
        · subst e; rw [hlv] at hy; cases hy
          exact find_no fun j y hy => hq j y (by have := (List.getElem?_eq_some_iff.1 hy).1; rw [List.length_map] at this; exact this) hy
        · exact hk r y (by omega) hy
    · have : k = l.length := by omega
      subst this
      have hno := findL_no fun j y hy => hk j y ((List.getElem?_eq_some_iff.1 hy).1) hy
      (refine run_exit ?_; (iterate 2 refine then_exit ?_); refine in_exit ?_; refine in_normal ?_; refine then_normal ?_)
      (refine run_region ?_; refine xel rfl (ev_add rfl rfl rfl (by omega)) ?_; refine xep rfl rfl ?_; refine runL_nil ?_; refine then_normal ?_)
      refine ⟨j + 1, ⟨by omega, fun h0 => ?_, fun h0 => ?_⟩, by omega, rfl, [], fun y => by (first | rfl | (simp only [List.append_eq, cnt_append, cnt_cons, cnt_nil, blk]; omega) | (simp only [List.append_eq, cnt_append, cnt_cons, cnt_nil, blk]; done))⟩
      · rcases (by omega : j = 1 ∨ j = 2) with rfl | rfl
        · exact (show findL t i B.buys = none by rw [show B.buys = B.side ((1 : Nat) : Int) from rfl, hl]; exact hno)
        · exact hf1 (by omega)
      · have : j = 2 := by omega
        subst this
        exact (show findL t i B.sells = none by rw [show B.sells = B.side ((2 : Nat) : Int) from rfl, hl]; exact hno)
  · have : j = 3 := by omega
    subst this
    (refine run_exit ?_; (iterate 2 refine then_exit ?_); refine in_exit ?_; refine then_normal ?_)
    (refine run_seq ?_; refine run_region ?_; refine xel rfl (ev_build rfl pl35 rfl) ?_; refine runL_store0 rfl rfl rfl rfl rfl (sz rfl) rfl rfl rfl rfl rfl ?_; refine xep rfl rfl ?_; refine runL_nil ?_; refine then_normal ?_; refine run_ret ?_)
    have e : bfind t i B = (o0, false) := by
      unfold bfind findB; rw [hf1 (by omega), hf2 (by omega)]
    rw [e]
    exact ⟨_, .agg rfl (memF (.head _)) (ag rfl) (sz rfl) rfl (.tmp rfl .nil), [], [blk b8 o0.cells 35], rfl, fun y => by (simp only [List.append_eq, cnt_append, cnt_cons, cnt_nil, blk, Ord.cells, ec, hcell, o0]; omega)⟩
end Go.Proofs.YtmelpobcpcmdoaaGreat
