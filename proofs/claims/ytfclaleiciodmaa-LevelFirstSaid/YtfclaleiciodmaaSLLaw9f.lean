/- Contracts of functions of the given program over its translation, each proved by walking its text; used by the laws' rows. It proves no given statement by itself. -/
import Derived.Test.YtfclaleiciodmaaSLLaw9d
import Derived.Test.YtfclaleiciodmaaSLLaw9b
set_option autoImplicit false
set_option linter.unusedSectionVars false
set_option linter.unusedSimpArgs false
set_option linter.unusedVariables false
set_option maxRecDepth 4000
namespace Go.Proofs.Ytfclaleiciodmaa
open Go Go.SL Go.Proofs
variable [Base]
theorem rowsF_src {F : Heap} {a : Option Addr} {k n : Nat} {l : List (List Int)} (h : SrcIs F a k n (rows ints l)) (hl : l.length = k) (hr : ∀ r ∈ l, r.length = n ∧ ∀ z ∈ r, InI z) : RowsF F a k n l := by
  refine ⟨hl, hr, ?_⟩
  rcases h.2 with h2 | ⟨b, off, c, e, fz, rfl, hm, hle, hc⟩
  · exact .inl h2
  · refine .inr ⟨b, off, c, e, fz, rfl, hm, fun i r hi => ?_⟩
    have hlt := (List.getElem?_eq_some_iff.1 hi).1
    have hr1 := (hr r (List.mem_of_getElem? hi)).1
    have hpre : (rows ints (l.take i)).length = i * n := by
      have : ∀ m : List (List Int), (∀ r ∈ m, r.length = n) → (rows ints m).length = m.length * n := by
        intro m hm
        induction m with
        | nil => simp [rows]
        | cons x m ih => rw [rows, List.length_append, ih fun r h => hm r (List.mem_cons_of_mem _ h), ints_len, hm x (by simp), List.length_cons, Nat.add_mul]; omega
      rw [this _ fun r m => (hr r (List.mem_of_mem_take m)).1, List.length_take, Nat.min_eq_left (by omega)]
    have hs := rows_split (f := ints) hi
    have hkn : (i + 1) * n ≤ k * n := Nat.mul_le_mul_right _ (by omega)
    rw [Nat.add_mul] at hkn
    refine ⟨by omega, ?_⟩
    have e1 : (List.drop (off + i * n) c).take n = ((List.take (k * n) (List.drop off c)).drop (i * n)).take n := by
      rw [List.drop_take, List.take_take, List.drop_drop, Nat.min_eq_left (by omega)]
    rw [e1, hc, hs, List.append_assoc, List.drop_append_of_le_length (by omega), ← hpre, List.drop_length, List.nil_append, ← hr1, ← ints_len, List.take_left]
def dz (r : List Int) : List Int := [r.getD 0 0, r.getD 1 0, r.getD 2 0, r.getD 3 0, 0]
theorem fills_plain (rs : List (List Int)) : ∀ k, ∀ x ∈ (fills (rs.map dz) k).2, x.o.show_ = 0
  | 0 => fun x h => by simp [fills] at h
  | k + 1 => by
    cases hr : (rs.map dz)[k]? with
    | none =>
      have : fills (rs.map dz) (k + 1) = fills (rs.map dz) k := by
        have := List.getElem?_eq_none_iff.1 hr
        unfold fills; rw [List.take_of_length_le (by omega), List.take_of_length_le (by omega)]
      rw [this]; exact fills_plain rs k
    | some r =>
      rw [fills_succ hr]
      unfold fstep
      split
      · exact fills_plain rs k
      · intro x m
        rcases List.mem_append.1 m with m | m
        · exact fills_plain rs k x m
        · simp only [List.mem_singleton] at m
          subst m
          rw [List.getElem?_map] at hr
          cases h0 : rs[k]? with
          | none => rw [h0] at hr; cases hr
          | some r0 =>
            rw [h0] at hr
            simp only [Option.map_some, Option.some.injEq] at hr
            subst hr
            have := mkO_ok (dz r0)
            show win 0 0 (win (r0.getD 3 0) 1 12) = 0
            have w1 := win_in (r0.getD 3 0) (show (1 : Int) ≤ 12 by omega)
            show 0 + (0 : Int).emod (win (r0.getD 3 0) 1 12 - 0 + 1) = 0
            rw [show (0 : Int).emod (win (r0.getD 3 0) 1 12 - 0 + 1) = 0 from Int.zero_emod _]; rfl
/-- All of it is given, one behind the other. -/
theorem take_plain {firm : Int} : ∀ (es : List Ent) (q : Int), LB es → (∀ x ∈ es, x.o.firm ≠ firm ∧ x.seen = x.o.qty) → sumE (fun x => x.o.qty) es ≤ q →
    take firm q es = (es.map (fun x => (x.o, x.o.qty)), false, [])
  | [], q, _, _, _ => by rw [take_nil]; rfl
  | e :: l, q, hb, hf, hs => by
    have he := hb.2 e (by simp)
    have hfe := hf e (by simp)
    have hbl : LB l := ⟨by have := hb.1; rw [List.length_cons] at this; omega, fun x m => hb.2 x (List.mem_cons_of_mem _ m)⟩
    have hsl := sumE_in (g := fun x => x.o.qty) (l := l) fun x m => by have := hbl.2 x m; omega
    simp only [sumE] at hs
    have e1 : min q e.seen = e.o.qty := by omega
    rw [take_cons (by omega) hfe.1 he.2.2.1, e1]
    have e2 : giveE e l e.o.qty = l := by
      unfold giveE; rw [if_neg (by omega), if_neg (by omega)]
    rw [e2, take_plain l _ hbl (fun x m => hf x (List.mem_cons_of_mem _ m)) (by omega)]
    rfl
theorem lless_at {es : List Ent} {k : Nat} {x : Ent} (q : Int) (hx : es[k]? = some x) (hn : (es.map key).Nodup) : lless x.o.trader x.o.id q es = if q < 1 ∨ x.o.qty < q then (false, es) else (true, es.set k ⟨wq x.o q, min x.seen q⟩) := by
  have hk := keys_at hx hn
  refine lless_some hx (isIt_key.2 rfl) fun j y hj hy => ?_
  rw [Bool.eq_false_iff]
  intro hi
  have hm : y ∈ cutE k es := List.mem_append_left _ (List.mem_iff_getElem?.2 ⟨j, by rw [List.getElem?_take_of_lt hj]; exact hy⟩)
  exact hk y hm (isIt_key.1 hi)
theorem set_keys {es : List Ent} {k : Nat} {x y : Ent} (hx : es[k]? = some x) (hy : key y = key x) : (es.set k y).map key = es.map key := by
  rw [List.map_set, hy]
  have hlt := (List.getElem?_eq_some_iff.1 hx).1
  have h2 := (List.getElem?_eq_some_iff.1 hx).2
  apply List.ext_getElem?
  intro i
  rw [List.getElem?_set]
  split
  · rename_i e; subst e
    rw [if_pos (by rw [List.length_map]; exact hlt), List.getElem?_map, hx]; rfl
  · rfl
set_option maxHeartbeats 8000000 in
theorem levelFirst_sp (F : Heap) (a : Option Addr) (len cap : Nat) (rs : List (List Int)) (at0 q0 : Int) (hR : RowsF F a len 5 rs) (hC : len ≤ cap) (hM : cap ≤ 9223372036854775807) (h1 : InI at0) (h2 : InI q0) :
    Sp Try.prog F 6 [.slice a len cap, .int .i64 at0, .int .i64 q0] [] (Ret (.bool true)) := by
  have q3 := @levelRuns_sp
  have hrl := hR.1
  refine sp_of_code Try.func6 rfl rfl ?_
  (refine run_seq ?_; refine run_region ?_; refine xep rfl rfl ?_; refine runL_nil ?_; refine then_normal ?_; refine run_seq ?_; refine run_region ?_; refine xep rfl rfl ?_; refine runL_nil ?_; refine then_normal ?_; (iterate 2 refine run_seq ?_); refine run_region ?_; refine xep rfl rfl ?_; refine runL_nil ?_; refine then_normal ?_; refine run_block ?_)
  refine run_loopK (σ := Nat × Option Addr × Nat × Heap) [0, 1, 2, 7, 8] (fun s => [(0, .slice a len cap), (1, .int .i64 at0), (2, .int .i64 q0), (7, .slice s.2.1 s.1 s.2.2.1), (8, .int .i64 s.1)]) (fun s => s.2.2.2)
    (fun s => s.1 ≤ len ∧ s.1 ≤ 20 ∧ OwnS 43 5 (.slice s.2.1 s.1 s.2.2.1) s.1 (rows ints ((rs.take s.1).map dz)) s.2.2.2) (fun s => 20 - s.1) (0, none, 0, []) ⟨Nat.zero_le _, Nat.zero_le _, .nil _ _⟩ rfl (fun _ => rfl) ?_
  rintro ⟨i, ao, co, A⟩ ⟨g1, g2, own⟩
  dsimp only at g1 g2 own ⊢
  have hgd : true = true := rfl
  ((iterate 2 refine run_seq ?_); refine run_region ?_; (iterate 2 refine xep rfl rfl ?_); refine xel rfl (ev_len rfl rfl (se rfl)) ?_; (iterate 2 refine xep rfl rfl ?_); (iterate 2 refine xgp rfl rfl rfl ?_); refine xep rfl rfl ?_; refine runL_nil ?_; refine then_normal ?_)
  (refine run_cond rfl (fun hc => ?_) (fun hc => ?_) <;> (try simp only [z0, z1, z2, z3, z4, z5, z6, z7, z8, z9, Bool.not_true, Bool.not_false, Bool.false_or, Bool.true_and, true_and, and_true, false_or, or_false, reduceCtorEq, Bool.false_eq_true] at hc))
  · obtain ⟨zb, off, rfl⟩ := hR.pos (by omega)
    obtain ⟨r, hr, hrl5, hrI, l1⟩ := RowsF.cell hR (i := i) (by omega)
    match r, hrl5 with
    | [ra, rb, rc, rd, re], _ =>
    (refine run_skip ?_; refine then_normal ?_; refine run_seq ?_; refine run_block ?_; refine run_seq ?_; refine run_region ?_; (iterate 2 refine xep rfl rfl ?_); refine xel rfl (ev_indexAddr rfl rfl rfl (se rfl) (by omega) (by omega)) ?_; refine xel rfl (ev_loadAF rfl rfl (ag rfl) (sz rfl) l1 rfl) ?_; refine runL_alloc rfl rfl rfl rfl rfl ze43 (fun _ => ?_); refine runL_store0 rfl rfl rfl rfl rfl (sz rfl) rfl rfl rfl rfl rfl ?_; refine runL_nil ?_; refine then_normal ?_; refine run_seq ?_; refine run_region ?_; refine xel rfl (ev_fieldAddr rfl rfl (fo rfl)) ?_; refine runL_store0 rfl rfl rfl rfl rfl (sz rfl) rfl rfl rfl rfl rfl ?_; refine runL_nil ?_; refine then_normal ?_; refine run_region ?_; refine xep rfl rfl ?_; refine xel rfl (ev_loadAK rfl rfl (ag rfl) (sz rfl) (memF (.head _)) rfl) ?_)
    rename_i b9
    refine runL_buildSlice (l := ints [ra, rb, rc, rd, 0]) rfl rfl rfl rfl rfl (se rfl) ze43 rfl rfl rfl rfl rfl (fun b10 => ?_)
    skip
    refine runL_append (sl := ints [ra, rb, rc, rd, 0]) [blk b10 (ints [ra, rb, rc, rd, 0]) 43, blk b9 (ints [ra, rb, rc, rd, 0]) 43] rfl rfl rfl rfl rfl rfl rfl (se rfl) (se rfl) ze43 rfl (byt rfl) own (fun y => by show cnt y (blk b10 (ints [ra, rb, rc, rd, 0]) 43 :: blk b9 (ints [ra, rb, rc, rd, 0]) 43 :: A) = _; (first | rfl | (simp only [List.append_eq, cnt_append, cnt_cons, cnt_nil, blk]; omega) | (simp only [List.append_eq, cnt_append, cnt_cons, cnt_nil, blk]; done))) ⟨rfl, .inr ⟨b10, 0, _, _, _, rfl, memF (.head _), by simp [ints], rfl⟩⟩ rfl (by decide) (by decide) (by omega) ?_
    rintro v' A' own'
    have own2 := own'.snoc (f := ints) (x := dz [ra, rb, rc, rd, re]) (by rw [List.length_map, List.length_take]; omega)
    have e : (rs.take i).map dz ++ [dz [ra, rb, rc, rd, re]] = (rs.take (i + 1)).map dz := by
      have hi := (List.getElem?_eq_some_iff.1 hr).1
      rw [List.take_succ_eq_append_getElem hi, List.map_append, (List.getElem?_eq_some_iff.1 hr).2]; rfl
    rw [e, List.length_map, List.length_take, Nat.min_eq_left (by omega)] at own2
    obtain ⟨a5, c5, rfl, own3⟩ := own2.at
    (refine xep rfl rfl ?_; refine runL_nil ?_; refine in_normal ?_; refine then_normal ?_; refine run_region ?_; refine xep rfl rfl ?_; refine xel rfl (ev_add rfl rfl rfl (by omega)) ?_; refine xep rfl rfl ?_; refine runL_nil ?_; refine then_normal ?_)
    exact ⟨(i + 1, a5, c5, A'), ⟨by show i + 1 ≤ _; omega, by show i + 1 ≤ _; omega, own3⟩, by show 20 - (i + 1) < 20 - i; omega, rfl, _, fun _ => rfl⟩
  · have hi : i = 20 ∨ i = len := by omega
    have hR2 : RowsF (A ++ F) ao i 5 ((rs.take i).map dz) := by
      refine rowsF_src (own.src fun x m => by simp [m]) (by rw [List.length_map, List.length_take]; omega) fun r m => ?_
      obtain ⟨r0, m0, rfl⟩ := List.mem_map.1 m
      have h5 := hR.2.1 r0 (List.mem_of_mem_take m0)
      match r0, h5.1 with
      | [ra, rb, rc, rd, re], _ =>
      refine ⟨rfl, fun z hz => ?_⟩
      simp only [dz, List.getD_cons_zero, List.getD_cons_succ, List.mem_cons, List.not_mem_nil, or_false] at hz
      rcases hz with rfl | rfl | rfl | rfl | rfl
      · exact h5.2 _ (by simp)
      · exact h5.2 _ (by simp)
      · exact h5.2 _ (by simp)
      · exact h5.2 _ (by simp)
      · unfold InI; omega
    have hpl := fills_plain (rs.take i) 20
    have hfi := fills_firm ((rs.take i).map dz) 20
    generalize (rs.take i).map dz = rs2 at *
    have hok := fills_ok rs2 20
    have hlb := hok.lb (by omega)
    have hnd := hok.nodup
    have hl20 := hok.len
    have hsm := hok.small
    (refine run_exit ?_; (iterate 2 refine then_exit ?_); refine in_exit ?_; refine then_normal ?_)
    (refine run_seq ?_; refine run_region ?_; refine xep rfl rfl ?_)
    refine runL_callZ A [] rfl rfl rfl rfl rfl rfl rfl (pf rfl) (fun x => by (first | rfl | (simp only [List.append_eq, cnt_append, cnt_cons, cnt_nil, blk]; omega) | (simp only [List.append_eq, cnt_append, cnt_cons, cnt_nil, blk]; done))) (sp_filledW _ ao i co rs2 hR2 (by omega)) ?_
    rintro v H1 ⟨b, rfl, hH1⟩
    generalize (fills rs2 20).2 = es at *
    clear hok
    (refine xep rfl rfl ?_; refine runL_nil ?_; refine then_normal ?_; (iterate 2 refine run_seq ?_); refine run_region ?_; refine xep rfl rfl ?_; refine xel rfl (ev_eqNil rfl rfl rfl (pt rfl)) ?_; refine runL_nil ?_; refine then_normal ?_)
    refine run_condF rfl rfl ?_
    (refine run_skip ?_; refine then_normal ?_; refine run_seq ?_; refine run_region ?_; refine xep rfl rfl ?_)
    refine runL_callZ (A ++ H1) [] rfl rfl rfl rfl rfl rfl rfl (pf rfl) (fun x => by (first | rfl | (simp only [List.append_eq, cnt_append, cnt_cons, cnt_nil, blk]; omega) | (simp only [List.append_eq, cnt_append, cnt_cons, cnt_nil, blk]; done))) (sp_lorders _ b 7 es (hH1.in fun x m => by simp [m]) hlb.1) ?_
    rintro v A6 own6
    obtain ⟨a6, c6, rfl, own6⟩ := own6.at
    (refine xep rfl rfl ?_; refine runL_nil ?_; refine then_normal ?_; (iterate 2 refine run_seq ?_); refine run_region ?_; refine xep rfl rfl ?_; refine xel rfl (ev_len rfl rfl (se rfl)) ?_; refine xep rfl rfl ?_; refine runL_nil ?_; refine then_normal ?_)
    (refine run_cond rfl (fun hc => ?_) (fun hc => ?_) <;> (try simp only [z0, z1, z2, z3, z4, z5, z6, z7, z8, z9, Bool.not_true, Bool.not_false, Bool.false_or, Bool.true_and, true_and, and_true, false_or, or_false, reduceCtorEq, Bool.false_eq_true] at hc))
    · (refine run_seq ?_; refine run_region ?_; refine xel rfl (ev_callQ rfl rfl rfl (pf rfl) (q3 ..)) ?_; refine xep rfl rfl ?_; refine runL_nil ?_; refine then_normal ?_; refine run_ret ?_; refine then_ret ?_)
      exact ⟨_, rfl, rfl⟩
    · have w1 := win_in at0 (show (0 : Int) ≤ (es.length : Int) - 1 by omega)
      have q4 := fun F => sp_Win F at0 0 ((es.length : Int) - 1) (by omega) (by omega) (by omega)
      obtain ⟨k, hk⟩ : ∃ k : Nat, win at0 0 ((es.length : Int) - 1) = k := ⟨(win at0 0 ((es.length : Int) - 1)).toNat, by omega⟩
      rw [hk] at w1 q4
      obtain ⟨y, hy⟩ : ∃ y, es[k]? = some y := ⟨es[k]'(by omega), List.getElem?_eq_getElem _⟩
      have hym := hsm y (List.mem_of_getElem? hy)
      have hyp := hpl y (List.mem_of_getElem? hy)
      have w2 := win_in q0 (show (1 : Int) ≤ y.o.qty by omega)
      have q5 := fun F => sp_Win F q0 1 y.o.qty (by omega) (by omega) (by omega)
      generalize win q0 1 y.o.qty = n at *
      obtain ⟨b6, rest, cap6, hv, rfl, hl2, hr2, hk2⟩ := own6.pos (by omega)
      cases hv
      have r1 : RowAt (rows Ord.cells (es.map (·.o)) ++ rest) (0 + (k : Int).toNat * 9) y.o.cells := by
        rw [Nat.zero_add]; exact rows_at (i := k) oc_len (by rw [List.getElem?_map, hy]; rfl) rest
      have hgd : true = true := rfl
      have y1 : (!true) = false := rfl
      have l0 : AggF ((blk b6 (rows Ord.cells (es.map (·.o)) ++ rest) 25 :: A) ++ F) b6 (0 + k * 9) y.o.cells := ⟨_, _, _, memF (.head _), by simpa using r1.1, by simpa using r1.2⟩
      have l2 := l0.at 0 _ rfl
      have l3 := l0.at 1 _ rfl
      have r2 := r1.get (k := 6) rfl
      refine RunC.perm (h' := blk b6 (rows Ord.cells (es.map (·.o)) ++ rest) 25 :: (A ++ H1)) (fun x => by (first | rfl | (simp only [List.append_eq, cnt_append, cnt_cons, cnt_nil, blk]; omega) | (simp only [List.append_eq, cnt_append, cnt_cons, cnt_nil, blk]; done))) ?_
      (refine run_skip ?_; refine then_normal ?_; refine run_seq ?_; refine run_region ?_; (iterate 2 refine xep rfl rfl ?_); refine xel rfl (ev_len rfl rfl (se rfl)) ?_; refine xel rfl (ev_sub rfl rfl rfl (by omega)) ?_; refine xel rfl (ev_callQ rfl rfl rfl (pf rfl) (q4 ..)) ?_; refine xep rfl rfl ?_; refine runL_nil ?_; refine then_normal ?_; refine run_seq ?_; refine run_region ?_; (iterate 3 refine xep rfl rfl ?_); refine xel rfl (ev_indexAddr rfl rfl rfl (se rfl) (by omega) (by omega)) ?_; refine xel rfl (ev_fieldAddr rfl rfl (fo rfl)) ?_; refine xel rfl (ev_loadR1 rfl rfl (sc rfl) (memF (.head _)) r1 rfl) ?_; refine xel rfl (ev_callQ rfl rfl rfl (pf rfl) (q5 ..)) ?_; refine xep rfl rfl ?_; refine runL_nil ?_; refine then_normal ?_; (iterate 2 refine run_seq ?_))
      refine RunC.perm (h' := H1 ++ (blk b6 (rows Ord.cells (es.map (·.o)) ++ rest) 25 :: A)) (fun x => by (first | rfl | (simp only [List.append_eq, cnt_append, cnt_cons, cnt_nil, blk]; omega) | (simp only [List.append_eq, cnt_append, cnt_cons, cnt_nil, blk]; done))) ?_
      refine RunC.freezeR ?_
      refine run_region_D mo ?_
      (refine runD_q 0 rfl rfl (by kernel_rfl) ?_; refine ⟨_, fun _ => ev_pure rfl, ?_⟩; refine runD_q 1 rfl rfl (by kernel_rfl) ?_; refine ⟨_, fun _ => ev_pure rfl, ?_⟩; refine runD_q 2 rfl rfl (by kernel_rfl) ?_; refine ⟨_, fun _ => ev_pure rfl, ?_⟩; refine runD_q 3 rfl rfl (by kernel_rfl) ?_; refine ⟨_, fun _ => ev_indexAddr rfl rfl rfl (se rfl) (by omega) (by omega), ?_⟩; refine runD_q 4 rfl rfl (by kernel_rfl) ?_; refine ⟨_, fun _ => ev_fieldAddr rfl rfl (fo rfl), ?_⟩; refine runD_q 5 rfl rfl (by kernel_rfl) ?_; refine ⟨_, fun _ => ev_loadF rfl rfl (sc rfl) l2, ?_⟩; refine runD_q 6 rfl rfl (by kernel_rfl) ?_; refine ⟨_, fun _ => ev_pure rfl, ?_⟩; refine runD_q 7 rfl rfl (by kernel_rfl) ?_; refine ⟨_, fun _ => ev_pure rfl, ?_⟩; refine runD_q 8 rfl rfl (by kernel_rfl) ?_; refine ⟨_, fun _ => ev_indexAddr rfl rfl rfl (se rfl) (by omega) (by omega), ?_⟩; refine runD_q 9 rfl rfl (by kernel_rfl) ?_; refine ⟨_, fun _ => ev_fieldAddr rfl rfl (fo rfl), ?_⟩; refine runD_q 10 rfl rfl (by kernel_rfl) ?_; refine ⟨_, fun _ => ev_loadF rfl rfl (sc rfl) l3, ?_⟩; refine runD_q 11 rfl rfl (by kernel_rfl) ?_; refine ⟨_, fun _ => ev_pure rfl, ?_⟩; refine runD_1 12 (by kernel_rfl) rfl rfl rfl ?_)
      refine runL_callZ [] H1 rfl rfl rfl rfl rfl rfl rfl (pf rfl) (fun x => by (first | rfl | (simp only [List.append_eq, cnt_append, cnt_cons, cnt_nil, blk]; omega) | (simp only [List.append_eq, cnt_append, cnt_cons, cnt_nil, blk]; done))) (sp_lless _ H1 b 7 es hH1 hlb.1 y.o.trader y.o.id n) ?_
      rintro v H2 ⟨rfl, hH2⟩
      rw [lless_at n hy hnd, if_neg (by omega)] at hH2 ⊢
      have hset : (es.set k ⟨wq y.o n, min y.seen n⟩)[k]? = some ⟨wq y.o n, min y.seen n⟩ := List.getElem?_set_self (by omega)
      have hkeys := set_keys (y := ⟨wq y.o n, min y.seen n⟩) hy rfl
      have hnd2 : ((es.set k ⟨wq y.o n, min y.seen n⟩).map key).Nodup := by rw [hkeys]; exact hnd
      have hmap : (es.map (·.o)).set k (wq y.o n) = (es.set k ⟨wq y.o n, min y.seen n⟩).map (·.o) := by rw [List.map_set]
      have hlen2 : (es.set k ⟨wq y.o n, min y.seen n⟩).length = es.length := List.length_set
      have hsp : ∀ x ∈ es.set k ⟨wq y.o n, min y.seen n⟩, x.o.firm ≠ 9 ∧ x.seen = x.o.qty ∧ 1 ≤ x.o.qty ∧ x.o.qty ≤ 12 := by
        intro x hx
        rcases List.mem_or_eq_of_mem_set hx with hx | rfl
        · have h5 := hsm x hx
          have h6 := hpl x hx
          have h7 := hfi x hx
          have h8 := h5.2.2.2.2.2.2.2.2
          unfold tip at h8
          rw [if_neg (by omega)] at h8
          exact ⟨by omega, h8, by omega, by omega⟩
        · have h7 := hfi y (List.mem_of_getElem? hy)
          have h8 := hym.2.2.2.2.2.2.2.2
          unfold tip at h8
          rw [if_neg (by omega)] at h8
          refine ⟨by show y.o.firm ≠ 9; omega, by show min y.seen n = n; omega, by show 1 ≤ n; omega, by show n ≤ 12; omega⟩
      dsimp only at hH2 ⊢
      generalize es.set k ⟨wq y.o n, min y.seen n⟩ = es2 at *
      have hlb2 : LB es2 := ⟨by omega, fun x hx => by have := hsp x hx; omega⟩
      (refine runL_nil ?_; refine endS_d rfl ?_; refine runD_q 13 rfl rfl (by kernel_rfl) ?_; refine ⟨_, fun _ => ev_pure rfl, ?_⟩; refine runD_q 14 rfl rfl (by kernel_rfl) ?_; refine ⟨_, fun _ => ev_pure rfl, ?_⟩; refine runD_gq 15 rfl rfl rfl rfl rfl rfl y1 (by kernel_rfl) ?_; refine ⟨_, fun _ => ev_pure rfl, ?_⟩; refine runD_gq 16 rfl rfl rfl rfl rfl rfl y1 (by kernel_rfl) ?_; refine ⟨_, fun _ => ev_pure rfl, ?_⟩; refine runD_gq 17 rfl rfl rfl rfl rfl rfl y1 (by kernel_rfl) ?_; refine ⟨_, fun _ => ev_pure rfl, ?_⟩; refine runD_gq 18 rfl rfl rfl rfl rfl rfl y1 (by kernel_rfl) ?_; refine ⟨_, fun _ => ev_indexAddr rfl rfl rfl (se rfl) (by omega) (by omega), ?_⟩; refine runD_gq 19 rfl rfl rfl rfl rfl rfl y1 (by kernel_rfl) ?_; refine ⟨_, fun _ => ev_fieldAddr rfl rfl (fo rfl), ?_⟩; refine runD_gq 20 rfl rfl rfl rfl rfl rfl y1 (by kernel_rfl) ?_; refine ⟨_, fun _ => ev_loadF rfl rfl (sc rfl) l2, ?_⟩; refine runD_gq 21 rfl rfl rfl rfl rfl rfl y1 (by kernel_rfl) ?_; refine ⟨_, fun _ => ev_pure rfl, ?_⟩; refine runD_gq 22 rfl rfl rfl rfl rfl rfl y1 (by kernel_rfl) ?_; refine ⟨_, fun _ => ev_pure rfl, ?_⟩; refine runD_gq 23 rfl rfl rfl rfl rfl rfl y1 (by kernel_rfl) ?_; refine ⟨_, fun _ => ev_indexAddr rfl rfl rfl (se rfl) (by omega) (by omega), ?_⟩; refine runD_gq 24 rfl rfl rfl rfl rfl rfl y1 (by kernel_rfl) ?_; refine ⟨_, fun _ => ev_fieldAddr rfl rfl (fo rfl), ?_⟩; refine runD_gq 25 rfl rfl rfl rfl rfl rfl y1 (by kernel_rfl) ?_; refine ⟨_, fun _ => ev_loadF rfl rfl (sc rfl) l3, ?_⟩; refine runD_gq 26 rfl rfl rfl rfl rfl rfl y1 (by kernel_rfl) ?_; refine ⟨_, fun _ => ev_pure rfl, ?_⟩; refine runD_gq 27 rfl rfl rfl rfl rfl rfl y1 (by kernel_rfl) ?_; refine ⟨_, fun _ => ev_add rfl rfl rfl (by omega), ?_⟩; refine runD_g1 28 (by kernel_rfl) rfl rfl rfl rfl y1 rfl rfl ?_)
      refine runL_callZ [] H2 rfl rfl rfl rfl rfl rfl rfl (pf rfl) (fun x => by (first | rfl | (simp only [List.append_eq, cnt_append, cnt_cons, cnt_nil, blk]; omega) | (simp only [List.append_eq, cnt_append, cnt_cons, cnt_nil, blk]; done))) (sp_lless _ H2 b 7 es2 hH2 hlb2.1 y.o.trader y.o.id (n + 1)) ?_
      rintro v H3 ⟨rfl, hH3⟩
      have hle : lless y.o.trader y.o.id (n + 1) es2 = (false, es2) := by
        have := lless_at (n + 1) hset hnd2
        rw [if_pos (by right; show n < n + 1; omega)] at this
        exact this
      rw [hle] at hH3 ⊢
      dsimp only at hH3 ⊢
      (refine runL_nil ?_; refine endS_d rfl ?_; refine runD_q 29 rfl rfl (by kernel_rfl) ?_; refine ⟨_, fun _ => ev_pure rfl, ?_⟩; refine runD_done (by kernel_rfl) ?_; refine then_normal ?_)
      refine run_condF rfl rfl ?_
      refine RunC.perm (h' := blk b6 (rows Ord.cells (es.map (·.o)) ++ rest) 25 :: (A ++ H3)) (fun x => by (first | rfl | (simp only [List.append_eq, cnt_append, cnt_cons, cnt_nil, blk]; omega) | (simp only [List.append_eq, cnt_append, cnt_cons, cnt_nil, blk]; done))) ?_
      have hlenb : (rows Ord.cells (es.map (·.o)) ++ rest).length = c6 * 9 := by rw [List.length_append, hl2]; exact hr2
      (refine run_skip ?_; refine then_normal ?_; refine run_seq ?_; refine run_region ?_; (iterate 3 refine xep rfl rfl ?_); refine xel rfl (ev_indexAddr rfl rfl rfl (se rfl) (by omega) (by omega)) ?_; refine xel rfl (ev_fieldAddr rfl rfl (fo rfl)) ?_)
      refine runL_set [] (A ++ H3) rfl rfl rfl rfl rfl (sz rfl) rfl (by rw [hlenb]; show 0 + (k : Int).toNat * 9 + 6 < _; rw [Int.toNat_natCast]; omega) rfl ?_
      rw [show 0 + (k : Int).toNat * 9 + 6 = k * 9 + 6 by rw [Int.toNat_natCast]; omega, rows_set oc_len (x := y.o) (y := wq y.o n) (by rw [List.getElem?_map, hy]; rfl) (by omega) rfl, hmap]
      clear l0 l2 l3 r1 r2
      (refine runL_nil ?_; refine then_normal ?_; (iterate 2 refine run_seq ?_); refine run_region ?_; refine xep rfl rfl ?_)
      refine runL_callZ (blk b6 (rows Ord.cells (es2.map (·.o)) ++ rest) 25 :: (A ++ H3)) [] rfl rfl rfl rfl rfl rfl rfl (pf rfl) (fun x => by (first | rfl | (simp only [List.append_eq, cnt_append, cnt_cons, cnt_nil, blk]; omega) | (simp only [List.append_eq, cnt_append, cnt_cons, cnt_nil, blk]; done))) (sp_lorders _ b 7 es2 (hH3.in fun x m => by simp [m]) hlb2.1) ?_
      rintro v A7 own7
      rw [hlen2] at own7
      obtain ⟨a7, c7, rfl, own7⟩ := own7.at
      have own6b : OwnS 25 9 (.slice (some ⟨b6, 0, none⟩) es.length c6) es.length (rows Ord.cells (es2.map (·.o))) [blk b6 (rows Ord.cells (es2.map (·.o)) ++ rest) 25] :=
        .inr ⟨b6, rest, c6, rfl, rfl, by rw [rows_len oc_len, List.length_map, hlen2], hr2, hk2⟩
      (refine xep rfl rfl ?_)
      refine runL_ev rfl rfl rfl rfl (ev_callQ rfl rfl rfl (pf rfl) (sp_sameOrd _ a7 (some ⟨b6, 0, none⟩) es.length c7 c6 (es2.map (·.o)) (by rw [List.length_map]; exact hlen2) (by omega) (own7.src fun x m => by simp [m]) (own6b.src fun x m => by simp at m; simp [m]))) ?_
      (refine xep rfl rfl ?_; refine runL_nil ?_; refine then_normal ?_)
      refine run_condF rfl rfl ?_
      (refine run_skip ?_; refine then_normal ?_; refine run_seq ?_; refine run_region ?_; refine xep rfl rfl ?_)
      have hsum := sumE_in (g := fun x => x.o.qty) (l := es2) fun x m => by have := hlb2.2 x m; omega
      have hsum2 : sumE (fun x => x.o.qty) es2 ≤ 1000 := by
        have : ∀ m : List Ent, (∀ x ∈ m, x.o.qty ≤ 12) → sumE (fun x => x.o.qty) m ≤ m.length * 12 := by
          intro m hm
          induction m with
          | nil => simp [sumE]
          | cons x m ih =>
            have h1 := ih fun z hz => hm z (List.mem_cons_of_mem _ hz)
            have h2 := hm x (List.mem_cons_self ..)
            simp only [sumE, List.length_cons]; omega
        have := this es2 fun x hx => (hsp x hx).2.2.2
        omega
      refine runL_callZ (blk b6 (rows Ord.cells (es2.map (·.o)) ++ rest) 25 :: (A ++ A7)) H3 rfl rfl rfl rfl rfl rfl rfl (pf rfl) (fun x => by (first | rfl | (simp only [List.append_eq, cnt_append, cnt_cons, cnt_nil, blk]; omega) | (simp only [List.append_eq, cnt_append, cnt_cons, cnt_nil, blk]; done))) (sp_ltake _ H3 b 7 es2 hH3 hlb2 9 1000 (inI rfl) (by decide)) ?_
      rw [take_plain es2 1000 hlb2 (fun x hx => ⟨(hsp x hx).1, (hsp x hx).2.1⟩) hsum2]
      rintro v _ ⟨a8, c8, A8, H4, rfl, own8, hH4, rfl⟩
      dsimp only at own8 hH4 ⊢
      rw [List.length_map, hlen2] at own8 ⊢
      ((iterate 5 refine xep rfl rfl ?_); refine runL_nil ?_; refine then_normal ?_; (iterate 2 refine run_seq ?_); refine run_region ?_; refine xep rfl rfl ?_; refine xel rfl (ev_len rfl rfl (se rfl)) ?_; refine xep rfl rfl ?_; refine xel rfl (ev_len rfl rfl (se rfl)) ?_; refine xep rfl rfl ?_; refine runL_nil ?_; refine then_normal ?_)
      refine run_condF rfl (by simp) ?_
      (refine run_skip ?_; refine then_normal ?_; (iterate 2 refine run_seq ?_); refine run_region ?_; refine xep rfl rfl ?_; refine xel rfl (ev_len rfl rfl (se rfl)) ?_; refine xep rfl rfl ?_; refine runL_nil ?_; refine then_normal ?_; refine run_block ?_)
      obtain ⟨HH, hHH⟩ : ∃ HH, HH = blk b6 (rows Ord.cells (es2.map (·.o)) ++ rest) 25 :: (A ++ A7) ++ (H4 ++ A8) := ⟨_, rfl⟩
      rw [← hHH]
      have s6 := own6b.src (H := HH ++ F) fun x m => by simp at m; simp [hHH, m]
      have s8 := own8.src (H := HH ++ F) fun x m => by simp [hHH, m]
      have hIn : LvIn (HH ++ F) b 7 [] := hH4.in fun x m => by simp [hHH, m]
      refine RunC.freeze ?_
      refine run_loopK (σ := Nat) [10, 11, 14, 109, 110] (fun i => [(10, .pointer (some ⟨b, 0, none⟩)), (11, .slice (some ⟨b6, 0, none⟩) es.length c6), (14, .slice a8 es.length c8), (109, .int .i64 es.length), (110, .int .i64 i)]) (fun _ => []) (fun i => i ≤ es.length) (fun i => es.length - i) 0 (Nat.zero_le _) rfl (fun _ => rfl) ?_
      intro j gj
      (refine run_seq ?_; refine run_region ?_; refine xep rfl rfl ?_; refine runL_nil ?_; refine then_normal ?_; refine run_seq ?_)
      (refine run_cond rfl (fun hc => ?_) (fun hc => ?_) <;> (try simp only [z0, z1, z2, z3, z4, z5, z6, z7, z8, z9, Bool.not_true, Bool.not_false, Bool.false_or, Bool.true_and, true_and, and_true, false_or, or_false, reduceCtorEq, Bool.false_eq_true] at hc))
      · obtain ⟨bh, oh, _, _, _, rfl, _⟩ := s8.pos (by omega)
        obtain ⟨x, hx⟩ : ∃ x, es2[j]? = some x := ⟨es2[j]'(by omega), List.getElem?_eq_getElem _⟩
        have hxs := hsp x (List.mem_of_getElem? hx)
        have l0 := SrcIs.row hcell_len s8 (by rw [List.length_map]; exact hlen2) (i := j) (x := (x.o, x.o.qty)) (by rw [List.getElem?_map, hx]; rfl)
        have l1 := l0.sub (j := 0) (n := 9) (l' := x.o.cells) rfl
        have l2 := l0.at 9 _ rfl
        have l3 := SrcIs.row oc_len s6 (by rw [List.length_map]; exact hlen2) (i := j) (x := x.o) (by rw [List.getElem?_map, hx]; rfl)
        have l4 := l3.at 6 _ rfl
        have k1 := ctOrd
        have k2 := tyOrd x.o
        have k3 := eqOrd x.o
        (refine run_skip ?_; refine then_normal ?_; refine run_seq ?_; refine run_block ?_; refine run_seq ?_; refine run_region ?_; (iterate 2 refine xep rfl rfl ?_); refine runL_nil ?_; refine then_normal ?_; refine run_seq ?_; refine run_region_draw mo (by kernel_rfl) ?_; (iterate 2 refine xqp rfl rfl ?_); refine xql rfl (ev_indexAddr rfl rfl rfl (se rfl) (by omega) (by omega)) ?_; refine xql rfl (ev_fieldAddr rfl rfl (fo rfl)) ?_; refine xql rfl (ev_loadAF rfl rfl (ag rfl) (sz rfl) l1 rfl) ?_; (iterate 2 refine xqp rfl rfl ?_); refine xql rfl (ev_indexAddr rfl rfl rfl (se rfl) (by omega) (by omega)) ?_; refine xql rfl (ev_loadAF rfl rfl (ag rfl) (sz rfl) l3 rfl) ?_; refine xql rfl (ev_neqQ rfl rfl rfl k1 rfl k2 k3) ?_; refine xqp rfl rfl ?_; (iterate 2 refine xhp rfl rfl rfl ?_); refine xhl rfl rfl (fun hq => ev_indexAddr rfl rfl rfl (se rfl) (by (try simp only [z0, z1, z2, z3, z4, z5, z6, z7, z8, z9, Bool.not_true, Bool.not_false, Bool.false_or, Bool.true_and, true_and, and_true, false_or, or_false, reduceCtorEq, Bool.false_eq_true] at hq); omega) (by (try simp only [z0, z1, z2, z3, z4, z5, z6, z7, z8, z9, Bool.not_true, Bool.not_false, Bool.false_or, Bool.true_and, true_and, and_true, false_or, or_false, reduceCtorEq, Bool.false_eq_true] at hq); omega)) ?_; refine xhl rfl rfl (fun hq => ev_fieldAddr rfl rfl (fo rfl)) ?_; refine xhl rfl rfl (fun hq => ev_loadF rfl rfl (sc rfl) l2) ?_; (iterate 2 refine xhp rfl rfl rfl ?_); refine xhl rfl rfl (fun hq => ev_indexAddr rfl rfl rfl (se rfl) (by (try simp only [z0, z1, z2, z3, z4, z5, z6, z7, z8, z9, Bool.not_true, Bool.not_false, Bool.false_or, Bool.true_and, true_and, and_true, false_or, or_false, reduceCtorEq, Bool.false_eq_true] at hq); omega) (by (try simp only [z0, z1, z2, z3, z4, z5, z6, z7, z8, z9, Bool.not_true, Bool.not_false, Bool.false_or, Bool.true_and, true_and, and_true, false_or, or_false, reduceCtorEq, Bool.false_eq_true] at hq); omega)) ?_; refine xhl rfl rfl (fun hq => ev_fieldAddr rfl rfl (fo rfl)) ?_; refine xhl rfl rfl (fun hq => ev_loadF rfl rfl (sc rfl) l4) ?_; refine xhp rfl rfl rfl ?_; refine xqp rfl rfl ?_; refine runQ_nil ?_; refine then_normal ?_)
        refine run_condF rfl (by simp) ?_
        (refine run_skip ?_; refine in_normal ?_; refine then_normal ?_; refine run_region ?_; refine xel rfl (ev_add rfl rfl rfl (by omega)) ?_; refine xep rfl rfl ?_; refine runL_nil ?_; refine then_normal ?_)
        exact ⟨j + 1, by omega, by omega, rfl, [], fun _ => rfl⟩
      · have : j = es.length := by omega
        subst this
        (refine run_exit ?_; (iterate 2 refine then_exit ?_); refine in_exit ?_; refine then_normal ?_)
        have q6 := fun K : Heap => sp_llen (K ++ (HH ++ F)) b 7 [] hIn.up
        have y2 : decide ((([] : List Ent).length : Int) = 0) = true := rfl
        refine RunC.freezeR (h := []) (A := HH) ?_
        (refine run_seq ?_; refine run_region ?_; refine xep rfl rfl ?_; refine xel rfl (ev_callQ rfl rfl rfl (pf rfl) (q6 ..)) ?_; (iterate 2 refine xep rfl rfl ?_); refine runL_yes rfl rfl hgd ?_; refine xel rfl (ev_callQ rfl rfl rfl (pf rfl) (q3 ..)) ?_; (iterate 2 refine xep rfl rfl ?_); refine runL_nil ?_; refine then_normal ?_; refine run_ret ?_)
        exact ⟨_, rfl, rfl⟩
end Go.Proofs.Ytfclaleiciodmaa
