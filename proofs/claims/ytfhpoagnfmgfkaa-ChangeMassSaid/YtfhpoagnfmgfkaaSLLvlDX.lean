/- Contracts of functions of the given program over its translation, each proved by walking its text; used by the laws' rows. It proves no given statement by itself. -/
import Derived.Test.YtfhpoagnfmgfkaaSLLvl4
import Derived.Test.YtfhpoagnfmgfkaaSLMore3
import Derived.Test.YtfhpoagnfmgfkaaSLLvl2
set_option autoImplicit false
set_option linter.unusedSectionVars false
set_option linter.unusedSimpArgs false
set_option linter.unusedVariables false
set_option maxRecDepth 4000
namespace Go.Proofs.Ytfhpoagnfmgfkaa
open Go Go.SL Go.Proofs
def o0 : Ord := ⟨0, 0, 0, 0, 0, 0, 0, 0, 0⟩
/-- What a removal tells, and leaves. -/
def lrem (t i : Int) (es : List Ent) : Ord × Bool × List Ent := match es.findIdx? (isIt t i) with
  | none => (o0, false, es)
  | some k => match es[k]? with
    | none => (o0, false, es)
    | some x => (x.o, true, es.take k ++ es.drop (k + 1))
variable [Base]
theorem lrem_none {t i : Int} {es : List Ent} (h : ∀ x ∈ es, isIt t i x = false) : lrem t i es = (o0, false, es) := by
  unfold lrem; rw [List.findIdx?_eq_none_iff.2 h]
theorem lrem_some {t i : Int} {es : List Ent} {k : Nat} {x : Ent} (hx : es[k]? = some x) (hp : isIt t i x = true) (hn : ∀ j y, j < k → es[j]? = some y → isIt t i y = false) : lrem t i es = (x.o, true, es.take k ++ es.drop (k + 1)) := by
  have hlt := (List.getElem?_eq_some_iff.1 hx).1
  have hx2 := (List.getElem?_eq_some_iff.1 hx).2
  have : es.findIdx? (isIt t i) = some k := by
    rw [List.findIdx?_eq_some_iff_getElem]
    refine ⟨hlt, by rw [hx2]; exact hp, fun j hj => ?_⟩
    have := hn j _ hj (List.getElem?_eq_getElem (by omega))
    rw [this]; simp
  unfold lrem; rw [this]; simp only [hx]
set_option maxHeartbeats 1000000 in
theorem sp_lremove (F : Heap) (H : Heap) (b : Nat) (p : Int) (es : List Ent) (hH : LvH b p es H) (hb : es.length ≤ 65536) (t i : Int) :
    Sp Try.prog F 54 [.pointer (some ⟨b, 0, none⟩), .int .i64 t, .int .i64 i] H (fun v h' => v = .tuple #[ov (lrem t i es).1, .bool (lrem t i es).2.1] ∧ LvH b p (lrem t i es).2.2 h') := by
  have hin := fun G : Heap => hH.in (F := H ++ G) fun x m => List.mem_append_left _ m
  obtain ⟨a, cap, A, own, rfl⟩ := hH
  refine Sp.up ?_
  refine sp_of_codeR Try.func54 rfl rfl ?_
  (refine run_seq ?_; refine run_region ?_; refine runL_alloc rfl rfl rfl rfl rfl ze24 (fun _ => ?_); refine xep rfl rfl ?_; refine runL_nil ?_; refine then_normal ?_; refine run_seq ?_; refine run_region ?_; (iterate 3 refine xep rfl rfl ?_))
  rename_i b6
  refine runL_ev rfl rfl rfl rfl (ev_callQ rfl rfl rfl (pf rfl) (sp_lfind _ b p es ((hin F).mono fun x m => List.mem_cons_of_mem _ m) hb t i)) ?_
  (refine xep rfl rfl ?_; refine runL_nil ?_; refine then_normal ?_; (iterate 2 refine run_seq ?_); refine run_region ?_; (iterate 2 refine xep rfl rfl ?_); refine runL_nil ?_; refine then_normal ?_)
  rcases idxI_cases (isIt t i) es with ⟨hk, hno⟩ | ⟨k, x, hk, hx, hp, hn⟩
  · rw [hk, lrem_none hno]
    refine run_condT rfl rfl ?_
    (refine run_seq ?_; refine run_region ?_; refine xel rfl (ev_build rfl pl24 rfl) ?_; refine runL_store0 rfl rfl rfl rfl rfl (sz rfl) rfl rfl rfl rfl rfl ?_; refine xep rfl rfl ?_; refine runL_nil ?_; refine then_normal ?_; refine run_ret ?_; refine then_ret ?_)
    exact ⟨_, .agg rfl (memF (.head _)) (ag rfl) (sz rfl) rfl (.tmp rfl .nil), blk b [.int .i64 p, .slice a es.length cap] 96 :: A, [blk b6 o0.cells 24], ⟨rfl, a, cap, A, own, rfl⟩, fun y => by show cnt y (blk b6 o0.cells 24 :: _) = _; (first | rfl | (simp only [List.append_eq, cnt_append, cnt_cons, cnt_nil, blk]; omega) | (simp only [List.append_eq, cnt_append, cnt_cons, cnt_nil, blk]; done))⟩
  · rw [hk, lrem_some hx hp hn]
    have hlt := (List.getElem?_eq_some_iff.1 hx).1
    obtain ⟨b2, rest, cap', hv, rfl, hl2, hr2, hk2⟩ := own.pos (by omega)
    cases hv
    refine run_condF rfl (decide_eq_false (by omega)) ?_
    have r1 : RowAt (rows ec es ++ rest) (0 + (k : Int).toNat * 10) (ec x) := by
      rw [Nat.zero_add]; exact rows_at ec_len hx rest
    (refine run_skip ?_; refine then_normal ?_; refine run_seq ?_; refine run_region ?_; (iterate 2 refine xep rfl rfl ?_); refine xel rfl (ev_fieldAddr rfl rfl (fo rfl)) ?_; refine xel rfl (ev_loadK rfl rfl (sc rfl) (memF (.tail _ (.head _))) rfl) ?_; refine xep rfl rfl ?_; refine xel rfl (ev_indexAddr rfl rfl rfl (se rfl) (by omega) (by omega)) ?_; refine xel rfl (ev_fieldAddr rfl rfl (fo rfl)) ?_; refine xel rfl (ev_loadAR1 rfl rfl (ag rfl) (sz rfl) (memF (.tail _ (.tail _ (.head _)))) r1 rfl) ?_; refine runL_alloc rfl rfl rfl rfl rfl ze24 (fun _ => ?_); refine runL_store0 rfl rfl rfl rfl rfl (sz rfl) rfl rfl rfl rfl rfl ?_; refine runL_nil ?_; refine then_normal ?_; refine run_seq ?_; refine run_region ?_; (iterate 3 refine xep rfl rfl ?_); refine xel rfl (ev_fieldAddr rfl rfl (fo rfl)) ?_; refine xel rfl (ev_loadK rfl rfl (sc rfl) (memF (.tail _ (.tail _ (.head _)))) rfl) ?_; (iterate 2 refine xep rfl rfl ?_); refine xel rfl (ev_add rfl rfl rfl (by omega)) ?_)
    rename_i b9
    refine runL_callZ [blk b9 x.o.cells 24, blk b6 o0.cells 24, blk b [.int .i64 p, .slice (some ⟨b2, 0, none⟩) es.length cap] 96] [blk b2 (rows ec es ++ rest) 98] rfl rfl rfl rfl rfl rfl rfl (pf rfl) (fun y => rfl) (sp_delEnt _ _ _ _ _ _ own (rows_cells ec_cells _) k (k + 1) (by omega) (by omega)) ?_
    rintro v A' own'
    rw [rows_take ec_len es (by omega), rows_drop ec_len es (by omega), ← rows_append] at own'
    have hlen : es.length - (k + 1 - k) = (es.take k ++ es.drop (k + 1)).length := by
      rw [List.length_append, List.length_take, List.length_drop]; omega
    rw [hlen] at own'
    obtain ⟨a5, c5, rfl, own5⟩ := own'.at
    generalize es.take k ++ es.drop (k + 1) = es2 at *
    (refine xep rfl rfl ?_; refine xel rfl (ev_fieldAddr rfl rfl (fo rfl)) ?_; refine runL_store2 rfl rfl rfl rfl rfl (sz rfl) rfl rfl rfl rfl rfl ?_; refine runL_nil ?_; refine then_normal ?_; refine run_seq ?_; refine run_region ?_; refine xel rfl (ev_loadAK rfl rfl (ag rfl) (sz rfl) (memF (.head _)) rfl) ?_; refine runL_store1 rfl rfl rfl rfl rfl (sz rfl) rfl rfl rfl rfl rfl ?_; refine xep rfl rfl ?_; refine runL_nil ?_; refine then_normal ?_; refine run_ret ?_)
    exact ⟨_, .agg rfl (memF (.tail _ (.head _))) (ag rfl) (sz rfl) rfl (.tmp rfl .nil), blk b [.int .i64 p, .slice a5 es2.length c5] 96 :: A', [blk b9 x.o.cells 24, blk b6 x.o.cells 24], ⟨rfl, a5, c5, A', own5, rfl⟩, fun y => by show cnt y (blk b9 x.o.cells 24 :: blk b6 x.o.cells 24 :: blk b [.int .i64 p, .slice a5 es2.length c5] 96 :: A') = _; (first | rfl | (simp only [List.append_eq, cnt_append, cnt_cons, cnt_nil, blk]; omega) | (simp only [List.append_eq, cnt_append, cnt_cons, cnt_nil, blk]; done))⟩
end Go.Proofs.Ytfhpoagnfmgfkaa

set_option autoImplicit false
set_option linter.unusedSectionVars false
set_option linter.unusedSimpArgs false
set_option linter.unusedVariables false
namespace Go.Proofs.Ytfhpoagnfmgfkaa
open Go Go.SL Go.Proofs
variable [Base]
def lless (t i q : Int) (es : List Ent) : Bool × List Ent := match es.findIdx? (isIt t i) with
  | none => (false, es)
  | some k => match es[k]? with
    | none => (false, es)
    | some x => if q < 1 ∨ x.o.qty < q then (false, es) else (true, es.set k ⟨wq x.o q, min x.seen q⟩)
theorem lless_none {t i q : Int} {es : List Ent} (h : ∀ x ∈ es, isIt t i x = false) : lless t i q es = (false, es) := by
  unfold lless; rw [List.findIdx?_eq_none_iff.2 h]
theorem lless_some {t i q : Int} {es : List Ent} {k : Nat} {x : Ent} (hx : es[k]? = some x) (hp : isIt t i x = true) (hn : ∀ j y, j < k → es[j]? = some y → isIt t i y = false) :
    lless t i q es = if q < 1 ∨ x.o.qty < q then (false, es) else (true, es.set k ⟨wq x.o q, min x.seen q⟩) := by
  have hlt := (List.getElem?_eq_some_iff.1 hx).1
  have hx2 := (List.getElem?_eq_some_iff.1 hx).2
  have : es.findIdx? (isIt t i) = some k := by
    rw [List.findIdx?_eq_some_iff_getElem]
    refine ⟨hlt, by rw [hx2]; exact hp, fun j hj => ?_⟩
    have := hn j _ hj (List.getElem?_eq_getElem (by omega))
    rw [this]; simp
  unfold lless; rw [this]; simp only [hx]
set_option maxHeartbeats 1000000 in
theorem sp_lless (F : Heap) (H : Heap) (b : Nat) (p : Int) (es : List Ent) (hH : LvH b p es H) (hb : es.length ≤ 65536) (t i q : Int) :
    Sp Try.prog F 53 [.pointer (some ⟨b, 0, none⟩), .int .i64 t, .int .i64 i, .int .i64 q] H (fun v h' => v = .bool (lless t i q es).1 ∧ LvH b p (lless t i q es).2 h') := by
  have hin := fun G : Heap => hH.in (F := H ++ G) fun x m => List.mem_append_left _ m
  obtain ⟨a, cap, A, own, rfl⟩ := hH
  refine sp_of_code Try.func53 rfl rfl ?_
  (refine run_seq ?_; refine run_region ?_; refine xep rfl rfl ?_; refine runL_nil ?_; refine then_normal ?_; refine run_seq ?_; refine run_region ?_; (iterate 3 refine xep rfl rfl ?_))
  refine runL_ev rfl rfl rfl rfl (ev_callQ rfl rfl rfl (pf rfl) (sp_lfind _ b p es (hin F) hb t i)) ?_
  (refine xep rfl rfl ?_; refine runL_nil ?_; refine then_normal ?_; (iterate 2 refine run_seq ?_); refine run_region ?_; (iterate 3 refine xep rfl rfl ?_); (iterate 2 refine xgp rfl rfl rfl ?_); (iterate 2 refine xep rfl rfl ?_); (iterate 3 refine xgp rfl rfl rfl ?_); refine xgl rfl rfl (fun hq => ev_fieldAddr rfl rfl (fo rfl)) ?_; refine xgl rfl rfl (fun hq => ev_loadK rfl rfl (sc rfl) (memF (.head _)) rfl) ?_; refine xgp rfl rfl rfl ?_)
  rcases idxI_cases (isIt t i) es with ⟨hk, hno⟩ | ⟨k, x, hk, hx, hp, hn⟩
  · rw [hk, lless_none hno]
    have hgd : true = true := rfl
    ((iterate 5 refine runL_no rfl rfl rfl rfl hgd rfl rfl ?_); refine xel rfl (ev_pickT rfl rfl hgd rfl) ?_; refine runL_nil ?_; refine then_normal ?_)
    refine run_condT rfl rfl ?_
    (refine run_seq ?_; refine run_region ?_; refine xep rfl rfl ?_; refine runL_nil ?_; refine then_normal ?_; refine run_ret ?_; refine then_ret ?_)
    exact ⟨_, rfl, rfl, a, cap, A, own, rfl⟩
  · rw [hk, lless_some hx hp hn]
    have hlt := (List.getElem?_eq_some_iff.1 hx).1
    obtain ⟨b2, rest, cap', hv, rfl, hl2, hr2, hk2⟩ := own.pos (by omega)
    cases hv
    have r1 : RowAt (rows ec es ++ rest) (0 + (k : Int).toNat * 10) (ec x) := by
      rw [Nat.zero_add]; exact rows_at ec_len hx rest
    have y1 : decide ((k : Int) < 0) = false := decide_eq_false (by omega)
    (refine xgl rfl rfl (fun hq => ev_indexAddr rfl rfl rfl (se rfl) (by (try simp only [z0, z1, z2, z3, z4, z5, z6, z7, z8, z9, Bool.not_true, Bool.not_false, Bool.false_or, Bool.true_and, true_and, and_true, false_or, or_false, reduceCtorEq, Bool.false_eq_true] at hq); omega) (by (try simp only [z0, z1, z2, z3, z4, z5, z6, z7, z8, z9, Bool.not_true, Bool.not_false, Bool.false_or, Bool.true_and, true_and, and_true, false_or, or_false, reduceCtorEq, Bool.false_eq_true] at hq); omega)) ?_; (iterate 2 refine xgl rfl rfl (fun hq => ev_fieldAddr rfl rfl (fo rfl)) ?_); refine xgl rfl rfl (fun hq => ev_loadR1 rfl rfl (sc rfl) (memF (.tail _ (.head _))) r1 rfl) ?_; refine xgp rfl rfl rfl ?_; refine xep rfl rfl ?_; refine runL_nil ?_; refine then_normal ?_)
    by_cases hc : q < 1 ∨ x.o.qty < q
    · rw [if_pos hc]
      refine run_condT rfl (by rw [y1]; rcases hc with h | h <;> simp [h]) ?_
      (refine run_seq ?_; refine run_region ?_; refine xep rfl rfl ?_; refine runL_nil ?_; refine then_normal ?_; refine run_ret ?_; refine then_ret ?_)
      exact ⟨_, rfl, rfl, _, cap, _, own, rfl⟩
    · rw [if_neg hc]
      refine run_condF rfl (by rw [y1, decide_eq_false (by omega : ¬ q < 1), decide_eq_false (by omega : ¬ x.o.qty < q)]; rfl) ?_
      have hlen : (rows ec es ++ rest).length = cap * 10 := by rw [List.length_append, hl2]; exact hr2
      (refine run_skip ?_; refine then_normal ?_; refine run_seq ?_; refine run_region ?_; (iterate 2 refine xep rfl rfl ?_); refine xel rfl (ev_fieldAddr rfl rfl (fo rfl)) ?_; refine xel rfl (ev_loadK rfl rfl (sc rfl) (memF (.head _)) rfl) ?_; refine xep rfl rfl ?_; refine xel rfl (ev_indexAddr rfl rfl rfl (se rfl) (by omega) (by omega)) ?_; refine xep rfl rfl ?_; refine runL_nil ?_; refine then_normal ?_; refine run_seq ?_; refine run_region ?_; (iterate 5 refine xep rfl rfl ?_); refine xel rfl (ev_fieldAddr rfl rfl (fo rfl)) ?_; refine xel rfl (ev_loadR1 rfl rfl (sc rfl) (memF (.tail _ (.head _))) r1 rfl) ?_; refine xep rfl rfl ?_; refine xel rfl (ev_min rfl rfl rfl) ?_; refine xep rfl rfl ?_; (iterate 2 refine xel rfl (ev_fieldAddr rfl rfl (fo rfl)) ?_))
      refine runL_set [blk b [.int .i64 p, .slice (some ⟨b2, 0, none⟩) es.length cap] 96] [] rfl rfl rfl rfl rfl (sz rfl) rfl (by rw [hlen]; show 0 + (k : Int).toNat * 10 + 0 + 6 < _; rw [Int.toNat_natCast]; omega) rfl ?_
      rw [show 0 + (k : Int).toNat * 10 + 0 + 6 = k * 10 + 6 by rw [Int.toNat_natCast]; omega, rows_set ec_len hx (y := ⟨wq x.o q, x.seen⟩) (by omega) rfl]
      have hx3 : (es.set k ⟨wq x.o q, x.seen⟩)[k]? = some ⟨wq x.o q, x.seen⟩ := List.getElem?_set_self hlt
      have hlen2 : (rows ec (es.set k ⟨wq x.o q, x.seen⟩) ++ rest).length = cap * 10 := by rw [List.length_append, rows_len ec_len, List.length_set]; omega
      (refine xep rfl rfl ?_; refine xel rfl (ev_fieldAddr rfl rfl (fo rfl)) ?_)
      refine runL_set [blk b [.int .i64 p, .slice (some ⟨b2, 0, none⟩) es.length cap] 96] [] rfl rfl rfl rfl rfl (sz rfl) rfl (by rw [hlen2]; show 0 + (k : Int).toNat * 10 + 9 < _; rw [Int.toNat_natCast]; omega) rfl ?_
      rw [show 0 + (k : Int).toNat * 10 + 9 = k * 10 + 9 by rw [Int.toNat_natCast]; omega, rows_set ec_len hx3 (y := ⟨wq x.o q, min x.seen q⟩) (by omega) rfl, List.set_set]
      (refine runL_nil ?_; refine then_normal ?_; refine run_seq ?_; refine run_region ?_; refine xep rfl rfl ?_; refine runL_nil ?_; refine then_normal ?_; refine run_ret ?_)
      refine ⟨_, rfl, rfl, some ⟨b2, 0, none⟩, cap, [blk b2 (rows ec (es.set k ⟨wq x.o q, min x.seen q⟩) ++ rest) 98], .inr ⟨b2, rest, cap, rfl, rfl, ?_, ?_, ?_⟩, ?_⟩
      · rw [rows_len ec_len]
      · rw [List.length_set]; exact hr2
      · rw [List.length_set]; exact hk2
      · rw [List.length_set]; rfl
end Go.Proofs.Ytfhpoagnfmgfkaa

set_option autoImplicit false
set_option linter.unusedSectionVars false
set_option linter.unusedSimpArgs false
set_option linter.unusedVariables false
set_option maxRecDepth 4000
namespace Go.Proofs.Ytfhpoagnfmgfkaa
open Go Go.SL Go.Proofs
theorem i64_and_7 (n : Int) : bits .and .i64 n 7 = n % 8 := by
  have h1 : (BitVec.ofInt 64 7).toNat = 2 ^ 3 - 1 := by decide
  have key : (BitVec.ofInt 64 n &&& BitVec.ofInt 64 7).toNat = (n % ((2 ^ 64 : Nat) : Int)).toNat % 2 ^ 3 := by
    rw [BitVec.toNat_and, BitVec.toNat_ofInt, h1, Nat.and_two_pow_sub_one_eq_mod]
  show IntKind.i64.wrap ((BitVec.ofInt 64 n &&& BitVec.ofInt 64 7).toNat : Nat) = n % 8
  rw [key, IntKind.wrap_i64]
  omega
variable [Base]
def key (x : Ent) : Int × Int := (x.o.trader, x.o.id)
theorem isIt_key {t i : Int} {x : Ent} : isIt t i x = true ↔ key x = (t, i) := by
  unfold isIt key; simp
theorem giveE_keys {e : Ent} {l : List Ent} {n : Int} (h : ((e :: l).map key).Nodup) : ((giveE e l n).map key).Nodup := by
  rw [List.map_cons, List.nodup_cons] at h
  unfold giveE
  split
  · rw [List.map_cons, List.nodup_cons]; exact h
  · split
    · rw [List.map_append, List.nodup_append]
      refine ⟨h.2, by simp, fun a ha b hb => ?_⟩
      simp only [List.map_cons, List.map_nil, List.mem_singleton] at hb
      subst hb
      intro e2; subst e2; exact h.1 ha
    · exact h.2
theorem take_keys {firm : Int} (k : Nat) : ∀ (q : Int) (es : List Ent), q.toNat ≤ k → LB es → (es.map key).Nodup → ((take firm q es).2.2.map key).Nodup := by
  induction k with
  | zero =>
    intro q es hk hb hn
    rw [take_le (by omega)]; exact hn
  | succ k ih =>
    intro q es hk hb hn
    by_cases h0 : 0 < q
    · cases es with
      | nil => rw [take_nil]; exact hn
      | cons e l =>
        have he := hb.2 e (by simp)
        by_cases hf : e.o.firm = firm
        · rw [take_own h0 hf]; exact hn
        · rw [take_cons h0 hf he.2.2.1]
          exact ih _ _ (by omega) (giveE_LB (n := min q e.seen) hb (by omega) (by omega)).1 (giveE_keys hn)
    · rw [take_le (by omega)]; exact hn
/-- All but one. -/
def cutE (k : Nat) (es : List Ent) : List Ent := es.take k ++ es.drop (k + 1)
theorem split_at {α : Type} {es : List α} {k : Nat} {x : α} (hx : es[k]? = some x) : es = es.take k ++ x :: es.drop (k + 1) := by
  have hi := (List.getElem?_eq_some_iff.1 hx).1
  have h2 := (List.getElem?_eq_some_iff.1 hx).2
  rw [← h2, ← List.drop_eq_getElem_cons hi, List.take_append_drop]
theorem keys_at {es : List Ent} {k : Nat} {x : Ent} (hx : es[k]? = some x) (hn : (es.map key).Nodup) : ∀ y ∈ cutE k es, key y ≠ key x := by
  rw [split_at hx, List.map_append, List.map_cons, List.nodup_append] at hn
  obtain ⟨-, h2, h3⟩ := hn
  rw [List.nodup_cons] at h2
  intro y hy
  rcases List.mem_append.1 hy with m | m
  · exact h3 _ (List.mem_map_of_mem m) _ (by simp)
  · intro e; exact h2.1 (e ▸ List.mem_map_of_mem m)
theorem lrem_at {es : List Ent} {k : Nat} {x : Ent} (hx : es[k]? = some x) (hn : (es.map key).Nodup) : lrem x.o.trader x.o.id es = (x.o, true, cutE k es) := by
  have hk := keys_at hx hn
  refine lrem_some hx (isIt_key.2 rfl) fun j y hj hy => ?_
  rw [Bool.eq_false_iff]
  intro hi
  have hm : y ∈ cutE k es := List.mem_append_left _ (List.mem_iff_getElem?.2 ⟨j, by rw [List.getElem?_take_of_lt hj]; exact hy⟩)
  exact hk y hm (isIt_key.1 hi)
theorem lrem_again {es : List Ent} {k : Nat} {x : Ent} (hx : es[k]? = some x) (hn : (es.map key).Nodup) : lrem x.o.trader x.o.id (cutE k es) = (o0, false, cutE k es) := by
  refine lrem_none fun y hy => ?_
  rw [Bool.eq_false_iff]
  intro hi
  exact keys_at hx hn y hy (isIt_key.1 hi)
theorem sumE_cut {g : Ent → Int} {es : List Ent} {k : Nat} {x : Ent} (hx : es[k]? = some x) : sumE g es = g x + sumE g (cutE k es) := by
  conv => lhs; rw [split_at hx]
  unfold cutE
  rw [sumE_append, sumE_append]; simp only [sumE]; omega
theorem cutE_len {es : List Ent} {k : Nat} (hk : k < es.length) : (cutE k es).length = es.length - 1 := by
  unfold cutE
  rw [List.length_append, List.length_take, List.length_drop]; omega
theorem cutE_LB {es : List Ent} {k : Nat} (h : LB es) : LB (cutE k es) := by
  refine ⟨?_, fun x m => ?_⟩
  · unfold cutE; rw [List.length_append, List.length_take, List.length_drop]; have := h.1; omega
  · rcases List.mem_append.1 m with m | m
    · exact h.2 x (List.mem_of_mem_take m)
    · exact h.2 x (List.mem_of_mem_drop m)
end Go.Proofs.Ytfhpoagnfmgfkaa

set_option autoImplicit false
set_option linter.unusedSectionVars false
set_option linter.unusedSimpArgs false
set_option linter.unusedVariables false
namespace Go.Proofs.Ytfhpoagnfmgfkaa
open Go Go.SL Go.Proofs
variable [Base]
/-- How much there is ahead of the firm's own order; is there one? -/
def reach (firm : Int) : List Ent → Int × Bool
  | [] => (0, false)
  | x :: l => if x.o.firm = firm then (0, true) else ((reach firm l).1 + x.seen, (reach firm l).2)
def reachR (firm : Int) (es : List Ent) : Int × Bool := if (reach firm es).2 then ((reach firm es).1, true) else (sumE (fun x => x.o.qty) es, false)
theorem reach_take {firm : Int} {es : List Ent} {i : Nat} (h : ∀ (j : Nat) (y : Ent), j < i → es[j]? = some y → y.o.firm ≠ firm) (hi : i ≤ es.length) :
    reach firm es = (sumE (fun x => x.seen) (es.take i) + (reach firm (es.drop i)).1, (reach firm (es.drop i)).2) := by
  induction i generalizing es with
  | zero => simp [sumE]
  | succ i ih =>
    cases es with
    | nil => simp at hi
    | cons x l =>
      have h0 := h 0 x (by omega) rfl
      have := ih (es := l) (fun j y hj hy => h (j + 1) y (by omega) (by simpa using hy)) (by simpa using hi)
      simp only [reach, List.take_succ_cons, List.drop_succ_cons, sumE]
      rw [if_neg h0, this]
      congr 1; omega
set_option maxRecDepth 4000 in
theorem sp_lreach (F : Heap) (b : Nat) (p : Int) (es : List Ent) (hl : LvIn F b p es) (hb : LB es) (firm : Int) :
    Sp Try.prog F 82 [.pointer (some ⟨b, 0, none⟩), .int .i64 firm] [] (Ret (.tuple #[.int .i64 (reachR firm es).1, .bool (reachR firm es).2])) := by
  have q1 := fun G : Heap => sp_lwhole (G ++ F) b p es hl.up hb
  obtain ⟨a, cap, hm, hs⟩ := hl
  obtain ⟨hb1, hb2⟩ := hb
  have l1 : LoadsF F b (0 + 1) (.slice a es.length cap) := ⟨_, _, _, hm, rfl⟩
  refine sp_of_code Try.func82 rfl rfl ?_
  (refine run_seq ?_; refine run_region ?_; (iterate 2 refine xep rfl rfl ?_); refine runL_nil ?_; refine then_normal ?_; refine run_seq ?_; refine run_region ?_; refine xep rfl rfl ?_; refine runL_nil ?_; refine then_normal ?_; (iterate 2 refine run_seq ?_); refine run_region ?_; (iterate 2 refine xep rfl rfl ?_); refine xel rfl (ev_fieldAddr rfl rfl (fo rfl)) ?_; refine xel rfl (ev_loadF rfl rfl (sc rfl) l1) ?_; refine xel rfl (ev_len rfl rfl (se rfl)) ?_; refine xep rfl rfl ?_; refine runL_nil ?_; refine then_normal ?_; refine run_block ?_)
  clear l1
  refine run_loopK (σ := Nat) [0, 1, 12, 13, 14, 6] (fun i => [(0, .pointer (some ⟨b, 0, none⟩)), (1, .int .i64 firm), (12, .slice a es.length cap), (13, .int .i64 es.length), (14, .int .i64 i), (6, .int .i64 (sumE (fun x => x.seen) (es.take i)))]) (fun _ => [])
    (fun i => i ≤ es.length ∧ ∀ (j : Nat) (y : Ent), j < i → es[j]? = some y → y.o.firm ≠ firm) (fun i => es.length - i) 0 ⟨Nat.zero_le _, fun j y h => absurd h (Nat.not_lt_zero _)⟩ rfl (fun _ => rfl) ?_
  rintro i ⟨gi, hn⟩
  have hs1 := sumE_in (g := fun x => x.seen) (l := es.take i) fun x m => by have := hb2 x (List.mem_of_mem_take m); omega
  have hlen : (es.take i).length ≤ 65536 := by rw [List.length_take]; omega
  have hrt := reach_take hn gi
  (refine run_seq ?_; refine run_region ?_; refine xep rfl rfl ?_; refine runL_nil ?_; refine then_normal ?_; refine run_seq ?_)
  (refine run_cond rfl (fun hc => ?_) (fun hc => ?_) <;> (try simp only [z0, z1, z2, z3, z4, z5, z6, z7, z8, z9, Bool.not_true, Bool.not_false, Bool.false_or, Bool.true_and, true_and, and_true, false_or, or_false, reduceCtorEq, Bool.false_eq_true] at hc))
  · obtain ⟨b2, off, _, _, _, rfl, _⟩ := hs.pos (by omega)
    obtain ⟨x, hx⟩ : ∃ x, es[i]? = some x := ⟨es[i]'(by omega), List.getElem?_eq_getElem _⟩
    have l1 := SrcIs.row ec_len hs rfl hx
    have hx2 := hb2 x (List.mem_of_getElem? hx)
    have hst := sumE_take (g := fun x => x.seen) hx
    have hdr : es.drop i = x :: es.drop (i + 1) := by rw [List.drop_eq_getElem_cons (List.getElem?_eq_some_iff.1 hx).1, (List.getElem?_eq_some_iff.1 hx).2]
    (refine run_skip ?_; refine then_normal ?_; refine run_seq ?_; refine run_block ?_; refine run_seq ?_; refine run_region ?_; refine xel rfl (ev_indexAddr rfl rfl rfl (se rfl) (by omega) (by omega)) ?_; refine xel rfl (ev_loadAF rfl rfl (ag rfl) (sz rfl) l1 rfl) ?_; refine runL_alloc rfl rfl rfl rfl rfl ze26 (fun _ => ?_); refine runL_store0 rfl rfl rfl rfl rfl (sz rfl) rfl rfl rfl rfl rfl ?_; refine runL_nil ?_; refine then_normal ?_; (iterate 2 refine run_seq ?_); refine run_region ?_; (iterate 2 refine xel rfl (ev_fieldAddr rfl rfl (fo rfl)) ?_); refine xel rfl (ev_loadK rfl rfl (sc rfl) (memF (.head _)) rfl) ?_; (iterate 2 refine xep rfl rfl ?_); refine runL_nil ?_; refine then_normal ?_)
    (refine run_cond rfl (fun hc => ?_) (fun hc => ?_) <;> (try simp only [z0, z1, z2, z3, z4, z5, z6, z7, z8, z9, Bool.not_true, Bool.not_false, Bool.false_or, Bool.true_and, true_and, and_true, false_or, or_false, reduceCtorEq, Bool.false_eq_true] at hc))
    · (refine run_seq ?_; refine run_region ?_; (iterate 3 refine xep rfl rfl ?_); refine runL_nil ?_; refine then_normal ?_; refine run_ret ?_; refine then_ret ?_; refine in_ret ?_; (iterate 2 refine then_ret ?_); refine in_ret ?_; refine then_ret ?_)
      refine ⟨_, rfl, ?_⟩
      have e : reach firm es = (sumE (fun x => x.seen) (es.take i), true) := by
        rw [hrt, hdr]; simp only [reach]; rw [if_pos hc]; simp
      have e2 : reachR firm es = (sumE (fun x => x.seen) (es.take i), true) := by
        unfold reachR; simp only [e]; rfl
      rw [e2]; rfl
    · have hpx := hc
      (refine run_skip ?_; refine then_normal ?_; refine run_region ?_; refine xep rfl rfl ?_; refine xel rfl (ev_fieldAddr rfl rfl (fo rfl)) ?_; refine xel rfl (ev_loadK rfl rfl (sc rfl) (memF (.head _)) rfl) ?_; refine xel rfl (ev_add rfl rfl rfl (by omega)) ?_; refine xep rfl rfl ?_; refine runL_nil ?_; refine in_normal ?_; refine then_normal ?_; refine run_region ?_; refine xel rfl (ev_add rfl rfl rfl (by omega)) ?_; refine xep rfl rfl ?_; refine runL_nil ?_; refine then_normal ?_)
      refine ⟨i + 1, ⟨by omega, fun j y hj hy => ?_⟩, by omega, ?_, [_], fun _ => rfl⟩
      · by_cases e : j = i
        · subst e; rw [hx] at hy; cases hy; exact hpx
        · exact hn j y (by omega) hy
      · rw [hst]; rfl
  · have : i = es.length := by omega
    subst this
    (refine run_exit ?_; (iterate 2 refine then_exit ?_); refine in_exit ?_; refine then_normal ?_)
    (refine run_seq ?_; refine run_region ?_; refine xep rfl rfl ?_; refine xel rfl (ev_callQ rfl rfl rfl (pf rfl) (q1 ..)) ?_; (iterate 2 refine xep rfl rfl ?_); refine runL_nil ?_; refine then_normal ?_; refine run_ret ?_)
    refine ⟨_, rfl, ?_⟩
    have e : (reach firm es).2 = false := by rw [hrt, List.drop_length]; rfl
    have e2 : reachR firm es = (sumE (fun x => x.o.qty) es, false) := by
      unfold reachR; rw [if_neg (by rw [e]; simp)]
    rw [e2]; rfl
end Go.Proofs.Ytfhpoagnfmgfkaa
