/- Contracts of functions of the given program over its translation, each proved by walking its text; used by the laws' rows. It proves no given statement by itself. -/
import Derived.Test.YtfclaleiciodmaaSLRLvl5
import Derived.Test.YtfclaleiciodmaaSLLaw9b
import Derived.Test.YtfclaleiciodmaaSLLaw9d
set_option autoImplicit false
set_option linter.unusedSectionVars false
set_option linter.unusedSimpArgs false
set_option linter.unusedVariables false
set_option maxRecDepth 4000
namespace Go.Proofs.Ytfclaleiciodmaa
open Go Go.SL Go.Proofs
variable [Base]
/-- What LevelPlays holds of a level after so many calls. -/
def PlOk (n : Nat) (es : List Ent) : Prop := LB es ∧ es.length ≤ n ∧ sumE (fun x => x.o.qty) es ≤ 12 * n
theorem PlOk.more {n : Nat} {es : List Ent} (h : PlOk n es) : PlOk (n + 1) es := ⟨h.1, by have := h.2.1; omega, by have := h.2.2; omega⟩
theorem take_sum {firm : Int} (k : Nat) : ∀ (q : Int) (es : List Ent), q.toNat ≤ k → LB es → sumE (fun x => x.o.qty) (take firm q es).2.2 + (take firm q es).1.length ≤ sumE (fun x => x.o.qty) es := by
  induction k with
  | zero =>
    intro q es hk hb
    rw [take_le (by omega)]; simp
  | succ k ih =>
    intro q es hk hb
    by_cases h0 : 0 < q
    · cases es with
      | nil => rw [take_nil]; simp
      | cons e l =>
        have he := hb.2 e (by simp)
        by_cases hf : e.o.firm = firm
        · rw [take_own h0 hf]; simp
        · rw [take_cons h0 hf he.2.2.1]
          have := ih (q - min q e.seen) (giveE e l (min q e.seen)) (by omega) (giveE_LB (n := min q e.seen) hb (by omega) (by omega)).1
          rw [giveE_sum (by omega) (by omega)] at this
          simp only [sumE, List.length_cons]; omega
    · rw [take_le (by omega)]; simp
theorem PlOk.take {n : Nat} {es : List Ent} (h : PlOk n es) (firm q : Int) : PlOk n (take firm q es).2.2 := by
  have h1 := take_len (firm := firm) q.toNat q es (Nat.le_refl _) h.1
  have h2 := take_sum (firm := firm) q.toNat q es (Nat.le_refl _) h.1
  exact ⟨h1.2.1, by have := h.2.1; omega, by have := h.2.2; omega⟩
theorem PlOk.rem {n : Nat} {es : List Ent} (h : PlOk n es) (t i : Int) : PlOk n (lrem t i es).2.2 := by
  rcases idxI_cases (isIt t i) es with ⟨_, hno⟩ | ⟨k, x, _, hx, hp, hn⟩
  · rw [lrem_none hno]; exact h
  · rw [lrem_some hx hp hn]
    have hlt := (List.getElem?_eq_some_iff.1 hx).1
    have h1 := cutE_LB (k := k) h.1
    have h2 := cutE_len (es := es) (k := k) hlt
    have h3 := sumE_cut (g := fun x => x.o.qty) hx
    have h4 := h.1.2 x (List.mem_of_getElem? hx)
    exact ⟨h1, by show (cutE k es).length ≤ n; have := h.2.1; omega, by show sumE _ (cutE k es) ≤ _; have := h.2.2; omega⟩
theorem sumE_set {g : Ent → Int} {es : List Ent} {k : Nat} {x y : Ent} (hx : es[k]? = some x) : sumE g (es.set k y) = sumE g es - g x + g y := by
  have hi := (List.getElem?_eq_some_iff.1 hx).1
  conv => rhs; rw [split_at hx]
  rw [List.set_eq_take_append_cons_drop, if_pos hi, sumE_append, sumE_append]; simp only [sumE]; omega
theorem PlOk.less {n : Nat} {es : List Ent} (h : PlOk n es) (t i q : Int) : PlOk n (lless t i q es).2 := by
  rcases idxI_cases (isIt t i) es with ⟨_, hno⟩ | ⟨k, x, _, hx, hp, hn⟩
  · rw [lless_none hno]; exact h
  · rw [lless_some hx hp hn]
    split
    · exact h
    · rename_i hc
      have h4 := h.1.2 x (List.mem_of_getElem? hx)
      refine ⟨⟨by rw [List.length_set]; exact h.1.1, fun y m => ?_⟩, by rw [List.length_set]; exact h.2.1, ?_⟩
      · rcases List.mem_or_eq_of_mem_set m with m | rfl
        · exact h.1.2 y m
        · dsimp only [wq]; omega
      · have := sumE_set (g := fun x => x.o.qty) (y := ⟨wq x.o q, min x.seen q⟩) hx
        dsimp only at this ⊢
        rw [this]; show _ - _ + q ≤ _; have := h.2.2; omega
theorem PlOk.add {n : Nat} {es : List Ent} (h : PlOk n es) (hn : n ≤ 100) {o : Ord} (ho : 1 ≤ o.qty ∧ o.qty ≤ 12) (ht : 1 ≤ tip o ∧ tip o ≤ o.qty) : PlOk (n + 1) (es ++ [⟨o, tip o⟩]) := by
  refine ⟨⟨by rw [List.length_append]; have := h.2.1; show _ + 1 ≤ _; omega, fun x m => ?_⟩, by rw [List.length_append]; have := h.2.1; show _ + 1 ≤ _; omega, ?_⟩
  · rcases List.mem_append.1 m with m | m
    · exact h.1.2 x m
    · simp only [List.mem_singleton] at m
      subst m; dsimp only; omega
  · rw [sumE_append]; show _ + (o.qty + 0) ≤ _; have := h.2.2; omega
set_option maxHeartbeats 16000000 in
theorem levelPlays_sp (F : Heap) (a : Option Addr) (len cap : Nat) (rs : List (List Int)) (hR : RowsF F a len 5 rs) (hC : len ≤ cap) (hM : cap ≤ 9223372036854775807) :
    Sp Try.prog F 8 [.slice a len cap] [] (Ret (.bool true)) := by
  have q3 := @levelRuns_sp
  refine sp_of_code Try.func8 rfl rfl ?_
  (refine run_seq ?_; refine run_region ?_; refine xep rfl rfl ?_; refine runL_nil ?_; refine then_normal ?_; refine run_seq ?_; refine run_region ?_)
  refine runL_call0 rfl rfl rfl rfl rfl rfl rfl (pf rfl) (sp_lnew _ 7) ?_
  rintro v H0 ⟨b, rfl, hH0⟩
  (refine xel rfl (ev_build rfl pl51 rfl) ?_; refine runL_box rfl rfl rfl rfl rfl rfl (fun _ => ?_); (iterate 2 refine xep rfl rfl ?_); refine runL_nil ?_; refine then_normal ?_; (iterate 2 refine run_seq ?_); refine run_region ?_; refine xep rfl rfl ?_; refine xel rfl (ev_eqNil rfl rfl rfl (pt rfl)) ?_; refine runL_nil ?_; refine then_normal ?_)
  rename_i bw
  refine run_condF rfl rfl ?_
  (refine run_skip ?_; refine then_normal ?_; refine run_seq ?_; refine run_region ?_)
  refine runL_makeMap rfl rfl rfl rfl rfl (fun mb => ?_)
  (refine xep rfl rfl ?_; refine runL_nil ?_; refine then_normal ?_; (iterate 2 refine run_seq ?_); refine run_region ?_; refine xep rfl rfl ?_; refine runL_nil ?_; refine then_normal ?_; refine run_block ?_)
  refine run_loopK (σ := Nat × List Ent × List (Int × Int) × Heap × Heap) [0, 3, 4, 5, 6] (fun s => [(0, .slice a len cap), (3, .pointer (some ⟨b, 0, none⟩)), (4, .pointer (some ⟨bw, 0, none⟩)), (5, .map (some mb)), (6, .int .i64 s.1)])
    (fun s => (mb, setO s.2.2.1) :: (s.2.2.2.1 ++ s.2.2.2.2)) (fun s => s.1 ≤ len ∧ s.1 ≤ 50 ∧ LvH b 7 s.2.1 s.2.2.2.1 ∧ RvH bw 7 s.2.1 s.2.2.2.2 ∧ PlOk s.1 s.2.1) (fun s => 50 - s.1)
    (0, [], [], H0, [blk bw [.int .i64 7, .slice none 0 0] 51]) ⟨Nat.zero_le _, Nat.zero_le _, hH0, ⟨none, 0, [], .nil _ _, rfl⟩, ⟨⟨by simp, by simp⟩, Nat.zero_le _, by simp [sumE]⟩⟩ rfl (fun x => by show cnt x ((mb, setO []) :: blk bw [.int .i64 7, .slice none 0 0] 51 :: (H0 ++ [])) = cnt x ((mb, setO []) :: (H0 ++ [blk bw [.int .i64 7, .slice none 0 0] 51])); (first | rfl | (simp only [List.append_eq, cnt_append, cnt_cons, cnt_nil, blk]; omega) | (simp only [List.append_eq, cnt_append, cnt_cons, cnt_nil, blk]; done))) ?_
  rintro ⟨i, es, keys, H, R⟩ ⟨g1, g2, hH, hRv, hpl⟩
  dsimp only at g1 g2 hH hRv hpl ⊢
  have hgd : true = true := rfl
  ((iterate 2 refine run_seq ?_); refine run_region ?_; (iterate 2 refine xep rfl rfl ?_); refine xel rfl (ev_len rfl rfl (se rfl)) ?_; (iterate 2 refine xep rfl rfl ?_); (iterate 2 refine xgp rfl rfl rfl ?_); refine xep rfl rfl ?_; refine runL_nil ?_; refine then_normal ?_)
  (refine run_cond rfl (fun hc => ?_) (fun hc => ?_) <;> (try simp only [z0, z1, z2, z3, z4, z5, z6, z7, z8, z9, Bool.not_true, Bool.not_false, Bool.false_or, Bool.true_and, true_and, and_true, false_or, or_false, reduceCtorEq, Bool.false_eq_true] at hc))
  · obtain ⟨zb, off, rfl⟩ := hR.pos (by omega)
    obtain ⟨r, hr, hrl5, hrI, l1⟩ := RowsF.cell hR (i := i) (by omega)
    have q1 := fun F => sp_made F r hrl5
    have hok := mkO_ok r
    have htip := mkO_tip r
    generalize mkO r = o at *
    match r, hrl5 with
    | [kd, qa, qb, qc, qd], _ =>
    have hqb := hrI qb (by simp)
    (refine run_skip ?_; refine then_normal ?_; refine run_seq ?_; refine run_block ?_; refine run_seq ?_; refine run_region ?_; (iterate 2 refine xep rfl rfl ?_); refine xel rfl (ev_indexAddr rfl rfl rfl (se rfl) (by omega) (by omega)) ?_; refine xel rfl (ev_loadAF rfl rfl (ag rfl) (sz rfl) l1 rfl) ?_; refine runL_alloc rfl rfl rfl rfl rfl ze43 (fun _ => ?_); refine runL_store0 rfl rfl rfl rfl rfl (sz rfl) rfl rfl rfl rfl rfl ?_; refine runL_nil ?_; refine then_normal ?_; refine run_seq ?_; refine run_region ?_; refine xep rfl rfl ?_; refine runL_nil ?_; refine then_normal ?_; (iterate 2 refine run_seq ?_); refine run_region ?_; refine xel rfl (ev_fieldAddr rfl rfl (fo rfl)) ?_; refine xel rfl (ev_loadK rfl rfl (sc rfl) (memF (.head _)) rfl) ?_; refine runL_nil ?_; refine then_normal ?_; refine run_block ?_; refine run_seq ?_; refine run_region ?_; (iterate 2 refine xep rfl rfl ?_); refine runL_nil ?_; refine then_normal ?_)
    rename_i b7
    have hlb := hpl.1
    by_cases hdup : kd = 1 ∧ (o.trader, o.id) ∈ keys
    · obtain ⟨rfl, hmem⟩ := hdup
      refine run_condT rfl rfl ?_
      (refine run_seq ?_; refine run_region ?_; refine xel rfl (ev_loadAK rfl rfl (ag rfl) (sz rfl) (memF (.head _)) rfl) ?_; refine xel rfl (ev_callQ rfl rfl rfl (pf rfl) (q1 ..)) ?_; refine runL_alloc rfl rfl rfl rfl rfl ze25 (fun _ => ?_); refine runL_store0 rfl rfl rfl rfl rfl (sz rfl) rfl rfl rfl rfl rfl ?_; refine runL_nil ?_; refine then_normal ?_; (iterate 2 refine run_seq ?_); refine run_region ?_; refine xep rfl rfl ?_; refine xel rfl (ev_fieldAddr rfl rfl (fo rfl)) ?_; refine xel rfl (ev_loadK rfl rfl (sc rfl) (memF (.head _)) rfl) ?_; refine xel rfl (ev_fieldAddr rfl rfl (fo rfl)) ?_; refine xel rfl (ev_loadK rfl rfl (sc rfl) (memF (.head _)) rfl) ?_; refine xel rfl (ev_buildA rfl (ar rfl) ze54 rfl rfl) ?_)
      rename_i b9
      refine runL_ev rfl rfl rfl rfl (ev_lookup (p := (o.trader, o.id)) (l := keys) rfl rfl rfl pm2 (memF (.tail _ (.tail _ (.head _))))) ?_
      (refine runL_nil ?_; refine then_normal ?_)
      refine run_condT rfl (decide_eq_true hmem) ?_
      (refine run_exit ?_; refine then_exit ?_; refine in_pass rfl ?_; refine then_exit ?_; refine in_exit ?_; refine then_normal ?_; refine run_region ?_; refine xep rfl rfl ?_; refine xel rfl (ev_add rfl rfl rfl (by omega)) ?_; refine xep rfl rfl ?_; refine runL_nil ?_; refine then_normal ?_)
      exact ⟨(i + 1, es, keys, H, R), ⟨by show i + 1 ≤ len; omega, by show i + 1 ≤ 50; omega, hH, hRv, hpl.more⟩, by show 50 - (i + 1) < 50 - i; omega, rfl, [blk b9 o.cells 25, blk b7 (ints [1, qa, qb, qc, qd]) 43], fun x => by simp only [List.append_eq, cnt_append, cnt_cons, cnt_nil, blk, Ord.cells, ints, List.map]; omega⟩
    · refine run_midO (σ := List Ent × List (Int × Int) × Heap × Heap) [0, 3, 4, 5, 6] (fun _ => [(8, .bool true)]) (fun s => (mb, setO s.2.1) :: (s.2.2.1 ++ s.2.2.2)) (fun s => LvH b 7 s.1 s.2.2.1 ∧ RvH bw 7 s.1 s.2.2.2 ∧ PlOk (i + 1) s.1) rfl ?_ ?_
      · (refine run_cond rfl (fun hc => ?_) (fun hc => ?_) <;> (try simp only [z0, z1, z2, z3, z4, z5, z6, z7, z8, z9, Bool.not_true, Bool.not_false, Bool.false_or, Bool.true_and, true_and, and_true, false_or, or_false, reduceCtorEq, Bool.false_eq_true] at hc))
        · have hm : (o.trader, o.id) ∉ keys := fun h => hdup ⟨hc, h⟩
          (refine run_seq ?_; refine run_region ?_; refine xel rfl (ev_loadAK rfl rfl (ag rfl) (sz rfl) (memF (.head _)) rfl) ?_; refine xel rfl (ev_callQ rfl rfl rfl (pf rfl) (q1 ..)) ?_; refine runL_alloc rfl rfl rfl rfl rfl ze25 (fun _ => ?_); refine runL_store0 rfl rfl rfl rfl rfl (sz rfl) rfl rfl rfl rfl rfl ?_; refine runL_nil ?_; refine then_normal ?_; (iterate 2 refine run_seq ?_); refine run_region ?_; refine xep rfl rfl ?_; refine xel rfl (ev_fieldAddr rfl rfl (fo rfl)) ?_; refine xel rfl (ev_loadK rfl rfl (sc rfl) (memF (.head _)) rfl) ?_; refine xel rfl (ev_fieldAddr rfl rfl (fo rfl)) ?_; refine xel rfl (ev_loadK rfl rfl (sc rfl) (memF (.head _)) rfl) ?_; refine xel rfl (ev_buildA rfl (ar rfl) ze54 rfl rfl) ?_)
          rename_i b9
          refine runL_ev rfl rfl rfl rfl (ev_lookup (p := (o.trader, o.id)) (l := keys) rfl rfl rfl pm2 (memF (.tail _ (.tail _ (.head _))))) ?_
          (refine runL_nil ?_; refine then_normal ?_)
          refine run_condF rfl (decide_eq_false hm) ?_
          refine RunC.perm (h' := (mb, setO keys) :: blk b9 o.cells 25 :: (blk b7 (ints [kd, qa, qb, qc, qd]) 43 :: (H ++ R))) (fun x => by simp only [List.append_eq, cnt_append, cnt_cons, cnt_nil, blk, Ord.cells, ints, List.map]; omega) ?_
          (refine run_skip ?_; refine then_normal ?_; refine run_seq ?_; refine run_region ?_; refine xep rfl rfl ?_; refine xel rfl (ev_fieldAddr rfl rfl (fo rfl)) ?_; refine xel rfl (ev_loadK rfl rfl (sc rfl) (memF (.tail _ (.head _))) rfl) ?_; refine xel rfl (ev_fieldAddr rfl rfl (fo rfl)) ?_; refine xel rfl (ev_loadK rfl rfl (sc rfl) (memF (.tail _ (.head _))) rfl) ?_; refine xel rfl (ev_buildA rfl (ar rfl) ze54 rfl rfl) ?_)
          refine runL_mapPut (p := (o.trader, o.id)) rfl rfl rfl rfl rfl rfl pm2 hm ?_
          (refine runL_nil ?_; refine then_normal ?_; refine run_seq ?_; refine run_region ?_; refine xep rfl rfl ?_; refine xel rfl (ev_loadAK rfl rfl (ag rfl) (sz rfl) (memF (.tail _ (.head _))) rfl) ?_)
          refine runL_callZ ((mb, setO (keys ++ [(o.trader, o.id)])) :: blk b9 o.cells 25 :: (blk b7 (ints [kd, qa, qb, qc, qd]) 43 :: R)) H rfl rfl rfl rfl rfl rfl rfl (pf rfl) (fun x => by (first | rfl | (simp only [List.append_eq, cnt_append, cnt_cons, cnt_nil, blk]; omega) | (simp only [List.append_eq, cnt_append, cnt_cons, cnt_nil, blk]; done))) (sp_ladd _ H b 7 es hH (by have := hpl.2.1; omega) o) ?_
          rintro v H2 hH2
          (refine runL_nil ?_; refine then_normal ?_; refine run_region ?_; refine xep rfl rfl ?_; refine xel rfl (ev_loadAK rfl rfl (ag rfl) (sz rfl) (memF (.tail _ (.head _))) rfl) ?_)
          refine runL_callZ ((mb, setO (keys ++ [(o.trader, o.id)])) :: blk b9 o.cells 25 :: (blk b7 (ints [kd, qa, qb, qc, qd]) 43 :: H2)) R rfl rfl rfl rfl rfl rfl rfl (pf rfl) (fun x => by (first | rfl | (simp only [List.append_eq, cnt_append, cnt_cons, cnt_nil, blk]; omega) | (simp only [List.append_eq, cnt_append, cnt_cons, cnt_nil, blk]; done))) (sp_radd _ R bw 7 es hRv (by have := hpl.2.1; omega) o) ?_
          rintro v R2 hR2
          (refine runL_nil ?_)
          exact midN (es ++ [⟨o, tip o⟩], keys ++ [(o.trader, o.id)], H2, R2) [blk b9 o.cells 25, blk b7 (ints [kd, qa, qb, qc, qd]) 43] ⟨hH2, hR2, hpl.add (by omega) (by omega) htip⟩ rfl (fun x => by (first | rfl | (simp only [List.append_eq, cnt_append, cnt_cons, cnt_nil, blk]; omega) | (simp only [List.append_eq, cnt_append, cnt_cons, cnt_nil, blk]; done)))
        · (refine run_seq ?_; refine run_region ?_; (iterate 2 refine xep rfl rfl ?_); refine runL_nil ?_; refine then_normal ?_)
          (refine run_cond rfl (fun hc => ?_) (fun hc => ?_) <;> (try simp only [z0, z1, z2, z3, z4, z5, z6, z7, z8, z9, Bool.not_true, Bool.not_false, Bool.false_or, Bool.true_and, true_and, and_true, false_or, or_false, reduceCtorEq, Bool.false_eq_true] at hc))
          · (refine run_seq ?_; refine run_region ?_; refine xep rfl rfl ?_; refine xel rfl (ev_fieldAddr rfl rfl (fo rfl)) ?_; refine xel rfl (ev_loadK rfl rfl (sc rfl) (memF (.head _)) rfl) ?_; refine xel rfl (ev_fieldAddr rfl rfl (fo rfl)) ?_; refine xel rfl (ev_loadK rfl rfl (sc rfl) (memF (.head _)) rfl) ?_)
            have hts := take_sum (firm := qa) qb.toNat qb es (Nat.le_refl _) hlb
            have hpt := hpl.take qa qb
            have hsm := sumE_in (g := fun x => x.o.qty) (l := (take qa qb es).2.2) fun x m => by have := hpt.1.2 x m; omega
            have hps := hpl.2.2
            refine runL_callZ (blk b7 (ints [kd, qa, qb, qc, qd]) 43 :: (mb, setO keys) :: R) H rfl rfl rfl rfl rfl rfl rfl (pf rfl) (fun x => by simp only [List.append_eq, cnt_append, cnt_cons, cnt_nil, blk, ints, List.map]; omega) (sp_ltakeW _ H b 7 es hH hlb qa qb hqb (by omega)) ?_
            rintro v _ ⟨a3, c3, A3, H2, rfl, own3, hH2, rfl⟩
            ((iterate 5 refine xep rfl rfl ?_); refine runL_nil ?_; refine then_normal ?_; refine run_seq ?_; refine run_region ?_; refine xep rfl rfl ?_; refine xel rfl (ev_fieldAddr rfl rfl (fo rfl)) ?_; refine xel rfl (ev_loadK rfl rfl (sc rfl) (memF (.head _)) rfl) ?_; refine xel rfl (ev_fieldAddr rfl rfl (fo rfl)) ?_; refine xel rfl (ev_loadK rfl rfl (sc rfl) (memF (.head _)) rfl) ?_)
            refine runL_callZ (blk b7 (ints [kd, qa, qb, qc, qd]) 43 :: (mb, setO keys) :: (H2 ++ A3)) R rfl rfl rfl rfl rfl rfl rfl (pf rfl) (fun x => by (first | rfl | (simp only [List.append_eq, cnt_append, cnt_cons, cnt_nil, blk]; omega) | (simp only [List.append_eq, cnt_append, cnt_cons, cnt_nil, blk]; done))) (sp_rtake _ R bw 7 es hRv hlb qa qb hqb (by omega)) ?_
            rintro v _ ⟨a4, c4, A4, R2, rfl, own4, hR2, rfl⟩
            generalize take qa qb es = T at *
            obtain ⟨hs, self, es2⟩ := T
            dsimp only at *
            ((iterate 5 refine xep rfl rfl ?_); refine runL_nil ?_; refine then_normal ?_; refine run_region ?_; (iterate 2 refine xep rfl rfl ?_))
            refine runL_ev rfl rfl rfl rfl (ev_callQ rfl rfl rfl (pf rfl) (sp_sameHit _ a3 a4 hs.length c3 c4 hs rfl (by omega) (own3.src fun x m => by simp [m]) (own4.src fun x m => by simp [m]))) ?_
            (refine xep rfl rfl ?_; refine runL_yes rfl rfl hgd ?_; refine xep rfl rfl ?_; refine runL_yes rfl rfl hgd ?_; refine xep rfl rfl ?_; refine runL_yes rfl rfl hgd ?_; refine xel rfl (ev_eqB rfl rfl rfl (bt rfl)) ?_; (iterate 2 refine xep rfl rfl ?_); refine runL_nil ?_)
            cases self <;> exact midN (es2, keys, H2, R2) (blk b7 (ints [kd, qa, qb, qc, qd]) 43 :: (A3 ++ A4)) ⟨hH2, hR2, hpt.more⟩ rfl (fun x => by (first | rfl | (simp only [List.append_eq, cnt_append, cnt_cons, cnt_nil, blk]; omega) | (simp only [List.append_eq, cnt_append, cnt_cons, cnt_nil, blk]; done)))
          · (refine run_seq ?_; refine run_region ?_; (iterate 2 refine xep rfl rfl ?_); refine runL_nil ?_; refine then_normal ?_)
            (refine run_cond rfl (fun hc => ?_) (fun hc => ?_) <;> (try simp only [z0, z1, z2, z3, z4, z5, z6, z7, z8, z9, Bool.not_true, Bool.not_false, Bool.false_or, Bool.true_and, true_and, and_true, false_or, or_false, reduceCtorEq, Bool.false_eq_true] at hc))
            · (refine run_seq ?_; refine run_region ?_; refine xep rfl rfl ?_; refine xel rfl (ev_fieldAddr rfl rfl (fo rfl)) ?_; refine xel rfl (ev_loadK rfl rfl (sc rfl) (memF (.head _)) rfl) ?_; refine xel rfl (ev_fieldAddr rfl rfl (fo rfl)) ?_; refine xel rfl (ev_loadK rfl rfl (sc rfl) (memF (.head _)) rfl) ?_)
              have hpt := hpl.rem qa qb
              refine runL_callZ (blk b7 (ints [kd, qa, qb, qc, qd]) 43 :: (mb, setO keys) :: R) H rfl rfl rfl rfl rfl rfl rfl (pf rfl) (fun x => by simp only [List.append_eq, cnt_append, cnt_cons, cnt_nil, blk, ints, List.map]; omega) (sp_lremove _ H b 7 es hH hlb.1 qa qb) ?_
              rintro v H2 ⟨rfl, hH2⟩
              have cr := fun G => sp_rremove G R bw 7 es hRv hlb.1 qa qb
              generalize lrem qa qb es = T at *
              obtain ⟨o2, is, es2⟩ := T
              dsimp only at *
              ((iterate 3 refine xep rfl rfl ?_); refine runL_alloc rfl rfl rfl rfl rfl ze25 (fun _ => ?_); refine runL_store0 rfl rfl rfl rfl rfl (sz rfl) rfl rfl rfl rfl rfl ?_; refine xep rfl rfl ?_; refine runL_nil ?_; refine then_normal ?_; refine run_seq ?_; refine run_region ?_; refine xep rfl rfl ?_; refine xel rfl (ev_fieldAddr rfl rfl (fo rfl)) ?_; refine xel rfl (ev_loadK rfl rfl (sc rfl) (memF (.tail _ (.head _))) rfl) ?_; refine xel rfl (ev_fieldAddr rfl rfl (fo rfl)) ?_; refine xel rfl (ev_loadK rfl rfl (sc rfl) (memF (.tail _ (.head _))) rfl) ?_)
              rename_i b14
              refine runL_callZ (blk b14 o2.cells 25 :: blk b7 (ints [kd, qa, qb, qc, qd]) 43 :: (mb, setO keys) :: H2) R rfl rfl rfl rfl rfl rfl rfl (pf rfl) (fun x => by simp only [List.append_eq, cnt_append, cnt_cons, cnt_nil, blk, ints, List.map, Ord.cells]; omega) (cr _) ?_
              rintro v R2 ⟨rfl, hR2⟩
              have k1 := ctOrd
              have k2 := tyOrd o2
              have k3 := eqOrd o2
              ((iterate 3 refine xep rfl rfl ?_); refine runL_alloc rfl rfl rfl rfl rfl ze25 (fun _ => ?_); refine runL_store0 rfl rfl rfl rfl rfl (sz rfl) rfl rfl rfl rfl rfl ?_; refine xep rfl rfl ?_; refine runL_nil ?_; refine then_normal ?_; refine run_region ?_; refine xel rfl (ev_loadAK rfl rfl (ag rfl) (sz rfl) (memF (.tail _ (.head _))) rfl) ?_; refine xel rfl (ev_loadAK rfl rfl (ag rfl) (sz rfl) (memF (.head _)) rfl) ?_; refine xel rfl (ev_eqQ rfl rfl rfl k1 rfl k2 k3) ?_; refine xep rfl rfl ?_; refine runL_yes rfl rfl hgd ?_; refine xep rfl rfl ?_; refine runL_yes rfl rfl hgd ?_; refine xep rfl rfl ?_; refine runL_yes rfl rfl hgd ?_; refine xel rfl (ev_eqB rfl rfl rfl (bt rfl)) ?_; (iterate 2 refine xep rfl rfl ?_); refine runL_nil ?_)
              rename_i b16
              cases is <;> exact midN (es2, keys, H2, R2) (blk b16 o2.cells 25 :: blk b14 o2.cells 25 :: [blk b7 (ints [kd, qa, qb, qc, qd]) 43]) ⟨hH2, hR2, hpt.more⟩ rfl (fun x => by simp only [List.append_eq, cnt_append, cnt_cons, cnt_nil, blk, ints, List.map, Ord.cells]; omega)
            · (refine run_seq ?_; refine run_region ?_; (iterate 2 refine xep rfl rfl ?_); refine runL_nil ?_; refine then_normal ?_)
              (refine run_cond rfl (fun hc => ?_) (fun hc => ?_) <;> (try simp only [z0, z1, z2, z3, z4, z5, z6, z7, z8, z9, Bool.not_true, Bool.not_false, Bool.false_or, Bool.true_and, true_and, and_true, false_or, or_false, reduceCtorEq, Bool.false_eq_true] at hc))
              · have hpt := hpl.less qa qb qc
                skip
                refine RunC.perm (h' := H ++ R ++ (blk b7 (ints [kd, qa, qb, qc, qd]) 43 :: [(mb, setO keys)])) (fun x => by simp only [List.append_eq, cnt_append, cnt_cons, cnt_nil, blk, ints, List.map]; omega) ?_
                refine RunC.freezeR ?_
                have l1 : AggF ((blk b7 (ints [kd, qa, qb, qc, qd]) 43 :: [(mb, setO keys)]) ++ F) b7 0 (ints [kd, qa, qb, qc, qd]) := ⟨_, _, _, memF (.head _), by simp, rfl⟩
                have l2 := l1.at 1 _ rfl
                have l3 := l1.at 2 _ rfl
                have l4 := l1.at 3 _ rfl
                refine run_region_D mo ?_
                (refine runD_q 0 rfl rfl (by kernel_rfl) ?_; refine ⟨_, fun _ => ev_pure rfl, ?_⟩; refine runD_q 1 rfl rfl (by kernel_rfl) ?_; refine ⟨_, fun _ => ev_fieldAddr rfl rfl (fo rfl), ?_⟩; refine runD_q 2 rfl rfl (by kernel_rfl) ?_; refine ⟨_, fun _ => ev_loadK rfl rfl (sc rfl) (memR (memF (.head _))) rfl, ?_⟩; refine runD_q 3 rfl rfl (by kernel_rfl) ?_; refine ⟨_, fun _ => ev_fieldAddr rfl rfl (fo rfl), ?_⟩; refine runD_q 4 rfl rfl (by kernel_rfl) ?_; refine ⟨_, fun _ => ev_loadK rfl rfl (sc rfl) (memR (memF (.head _))) rfl, ?_⟩; refine runD_q 5 rfl rfl (by kernel_rfl) ?_; refine ⟨_, fun _ => ev_fieldAddr rfl rfl (fo rfl), ?_⟩; refine runD_q 6 rfl rfl (by kernel_rfl) ?_; refine ⟨_, fun _ => ev_loadK rfl rfl (sc rfl) (memR (memF (.head _))) rfl, ?_⟩; refine runD_q 8 rfl rfl (by kernel_rfl) ?_; refine ⟨_, fun _ => ev_pure rfl, ?_⟩; refine runD_q 9 rfl rfl (by kernel_rfl) ?_; refine ⟨_, fun _ => ev_fieldAddr rfl rfl (fo rfl), ?_⟩; refine runD_q 10 rfl rfl (by kernel_rfl) ?_; refine ⟨_, fun _ => ev_loadK rfl rfl (sc rfl) (memR (memF (.head _))) rfl, ?_⟩; refine runD_q 11 rfl rfl (by kernel_rfl) ?_; refine ⟨_, fun _ => ev_fieldAddr rfl rfl (fo rfl), ?_⟩; refine runD_q 12 rfl rfl (by kernel_rfl) ?_; refine ⟨_, fun _ => ev_loadK rfl rfl (sc rfl) (memR (memF (.head _))) rfl, ?_⟩; refine runD_q 13 rfl rfl (by kernel_rfl) ?_; refine ⟨_, fun _ => ev_fieldAddr rfl rfl (fo rfl), ?_⟩; refine runD_q 14 rfl rfl (by kernel_rfl) ?_; refine ⟨_, fun _ => ev_loadK rfl rfl (sc rfl) (memR (memF (.head _))) rfl, ?_⟩; refine runD_1 7 (by kernel_rfl) rfl rfl rfl ?_)
                refine runL_callZ R H rfl rfl rfl rfl rfl rfl rfl (pf rfl) (fun x => by (first | rfl | (simp only [List.append_eq, cnt_append, cnt_cons, cnt_nil, blk]; omega) | (simp only [List.append_eq, cnt_append, cnt_cons, cnt_nil, blk]; done))) (sp_lless _ H b 7 es hH hlb.1 qa qb qc) ?_
                rintro v H2 ⟨rfl, hH2⟩
                (refine runL_nil ?_; refine endS_d rfl ?_; refine runD_1 15 (by kernel_rfl) rfl rfl rfl ?_)
                refine runL_callZ H2 R rfl rfl rfl rfl rfl rfl rfl (pf rfl) (fun x => by (first | rfl | (simp only [List.append_eq, cnt_append, cnt_cons, cnt_nil, blk]; omega) | (simp only [List.append_eq, cnt_append, cnt_cons, cnt_nil, blk]; done))) (sp_rless _ R bw 7 es hRv hlb.1 qa qb qc) ?_
                rintro v R2 ⟨rfl, hR2⟩
                generalize lless qa qb qc es = T at *
                obtain ⟨is, es2⟩ := T
                dsimp only at *
                (refine runL_nil ?_; refine endS_d rfl ?_; refine runD_q 16 rfl rfl (by kernel_rfl) ?_; refine ⟨_, fun _ => ev_eqB rfl rfl rfl (bt rfl), ?_⟩; refine runD_q 17 rfl rfl (by kernel_rfl) ?_; refine ⟨_, fun _ => ev_pure rfl, ?_⟩; refine runD_done (by kernel_rfl) ?_)
                cases is <;> exact midN (es2, keys, H2, R2) [blk b7 (ints [kd, qa, qb, qc, qd]) 43] ⟨hH2, hR2, hpt.more⟩ rfl (fun x => by (first | rfl | (simp only [List.append_eq, cnt_append, cnt_cons, cnt_nil, blk]; omega) | (simp only [List.append_eq, cnt_append, cnt_cons, cnt_nil, blk]; done)))
              · (refine run_skip ?_)
                exact midN (es, keys, H, R) [blk b7 (ints [kd, qa, qb, qc, qd]) 43] ⟨hH, hRv, hpl.more⟩ rfl (fun x => by simp only [List.append_eq, cnt_append, cnt_cons, cnt_nil, blk, ints, List.map]; omega)
      · clear hH hRv hpl hlb hdup keys H R es
        intro fr' h' hm
        (refine in_normal ?_; refine then_normal ?_)
        refine midN_out hm ?_
        rintro ⟨es, keys, H, R⟩ ⟨hH, hRv, hpl⟩
        dsimp only at hH hRv hpl ⊢
        refine RunC.freeze ?_
        obtain ⟨HH, hHH⟩ : ∃ HH, HH = (mb, setO keys) :: (H ++ R) := ⟨_, rfl⟩
        rw [← hHH]
        have hIn : LvIn (HH ++ F) b 7 es := hH.in fun x m => by simp [hHH, m]
        have hRn : RvIn (HH ++ F) bw 7 es := hRv.in fun x m => by simp [hHH, m]
        have hlb := hpl.1
        have q4 := fun K : Heap => sp_lprice (K ++ (HH ++ F)) b 7 es hIn.up
        have q5 := fun K : Heap => sp_lseen (K ++ (HH ++ F)) b 7 es hIn.up hlb
        have q6 := fun K : Heap => sp_rseen (K ++ (HH ++ F)) bw 7 es hRn.up hlb
        have q7 := fun K : Heap => sp_lwhole (K ++ (HH ++ F)) b 7 es hIn.up hlb
        have q8 := fun K : Heap => sp_rwhole (K ++ (HH ++ F)) bw 7 es hRn.up hlb
        have q9 := fun K : Heap => sp_llen (K ++ (HH ++ F)) b 7 es hIn.up
        obtain ⟨aw, cw, -, hmw, -⟩ := id hRn
        have l1 : LoadsF (HH ++ F) bw (0 + 1) (.slice aw es.length cw) := ⟨_, _, _, hmw, rfl⟩
        have y1 : (!true) = false := rfl
        have y2 : (!true || !decide ((7 : Int) = 7)) = false := rfl
        have y3 : (!true || !decide ((7 : Int) = 7) || !decide (sumE (fun x => x.seen) es = sumE (fun x => x.seen) es)) = false := by simp
        have y4 : (!true || !decide ((7 : Int) = 7) || !decide (sumE (fun x => x.seen) es = sumE (fun x => x.seen) es) || !decide (sumE (fun x => x.o.qty) es = sumE (fun x => x.o.qty) es)) = false := by simp
        have y5 : (!true || !decide ((7 : Int) = 7) || !decide (sumE (fun x => x.seen) es = sumE (fun x => x.seen) es) || !decide (sumE (fun x => x.o.qty) es = sumE (fun x => x.o.qty) es) || !decide ((es.length : Int) = es.length)) = false := by simp
        refine run_seq ?_
        refine run_region_D mo ?_
        (refine runD_q 0 rfl rfl (by kernel_rfl) ?_; refine ⟨_, fun _ => ev_pure rfl, ?_⟩; refine runD_q 1 rfl rfl (by kernel_rfl) ?_; refine ⟨_, fun _ => ev_pure rfl, ?_⟩; refine runD_q 2 rfl rfl (by kernel_rfl) ?_; refine ⟨_, fun _ => ev_pure rfl, ?_⟩; refine runD_gq 3 rfl rfl rfl rfl rfl rfl y1 (by kernel_rfl) ?_; refine ⟨_, fun _ => ev_pure rfl, ?_⟩; refine runD_gq 4 rfl rfl rfl rfl rfl rfl y1 (by kernel_rfl) ?_; refine ⟨_, fun _ => ev_callQ rfl rfl rfl (pf rfl) (q4 ..), ?_⟩; refine runD_gq 5 rfl rfl rfl rfl rfl rfl y1 (by kernel_rfl) ?_; refine ⟨_, fun _ => ev_pure rfl, ?_⟩; refine runD_q 6 rfl rfl (by kernel_rfl) ?_; refine ⟨_, fun _ => ev_pure rfl, ?_⟩; refine runD_q 7 rfl rfl (by kernel_rfl) ?_; refine ⟨_, fun _ => ev_pure rfl, ?_⟩; refine runD_gq 8 rfl rfl rfl rfl rfl rfl y1 (by kernel_rfl) ?_; refine ⟨_, fun _ => ev_pure rfl, ?_⟩; refine runD_gq 9 rfl rfl rfl rfl rfl rfl y1 (by kernel_rfl) ?_; refine ⟨_, fun _ => ev_callQ rfl rfl rfl (pf rfl) (q5 ..), ?_⟩; refine runD_gq 10 rfl rfl rfl rfl rfl rfl y1 (by kernel_rfl) ?_; refine ⟨_, fun _ => ev_pure rfl, ?_⟩; refine runD_gq 11 rfl rfl rfl rfl rfl rfl y1 (by kernel_rfl) ?_; refine ⟨_, fun _ => ev_callQ rfl rfl rfl (pf rfl) (q6 ..), ?_⟩; refine runD_gq 12 rfl rfl rfl rfl rfl rfl y1 (by kernel_rfl) ?_; refine ⟨_, fun _ => ev_pure rfl, ?_⟩; refine runD_q 13 rfl rfl (by kernel_rfl) ?_; refine ⟨_, fun _ => ev_pure rfl, ?_⟩; refine runD_q 14 rfl rfl (by kernel_rfl) ?_; refine ⟨_, fun _ => ev_pure rfl, ?_⟩; refine runD_gq 15 rfl rfl rfl rfl rfl rfl y3 (by kernel_rfl) ?_; refine ⟨_, fun _ => ev_pure rfl, ?_⟩; refine runD_gq 16 rfl rfl rfl rfl rfl rfl y3 (by kernel_rfl) ?_; refine ⟨_, fun _ => ev_callQ rfl rfl rfl (pf rfl) (q7 ..), ?_⟩; refine runD_gq 17 rfl rfl rfl rfl rfl rfl y3 (by kernel_rfl) ?_; refine ⟨_, fun _ => ev_pure rfl, ?_⟩; refine runD_gq 18 rfl rfl rfl rfl rfl rfl y3 (by kernel_rfl) ?_; refine ⟨_, fun _ => ev_callQ rfl rfl rfl (pf rfl) (q8 ..), ?_⟩; refine runD_gq 19 rfl rfl rfl rfl rfl rfl y3 (by kernel_rfl) ?_; refine ⟨_, fun _ => ev_pure rfl, ?_⟩; refine runD_q 20 rfl rfl (by kernel_rfl) ?_; refine ⟨_, fun _ => ev_pure rfl, ?_⟩; refine runD_q 21 rfl rfl (by kernel_rfl) ?_; refine ⟨_, fun _ => ev_pure rfl, ?_⟩; refine runD_gq 22 rfl rfl rfl rfl rfl rfl y4 (by kernel_rfl) ?_; refine ⟨_, fun _ => ev_pure rfl, ?_⟩; refine runD_gq 23 rfl rfl rfl rfl rfl rfl y4 (by kernel_rfl) ?_; refine ⟨_, fun _ => ev_callQ rfl rfl rfl (pf rfl) (q9 ..), ?_⟩; refine runD_gq 24 rfl rfl rfl rfl rfl rfl y4 (by kernel_rfl) ?_; refine ⟨_, fun _ => ev_pure rfl, ?_⟩; refine runD_gq 25 rfl rfl rfl rfl rfl rfl y4 (by kernel_rfl) ?_; refine ⟨_, fun _ => ev_pure rfl, ?_⟩; refine runD_gq 26 rfl rfl rfl rfl rfl rfl y4 (by kernel_rfl) ?_; refine ⟨_, fun _ => ev_fieldAddr rfl rfl (fo rfl), ?_⟩; refine runD_gq 27 rfl rfl rfl rfl rfl rfl y4 (by kernel_rfl) ?_; refine ⟨_, fun _ => ev_loadF rfl rfl (sc rfl) l1, ?_⟩; refine runD_gq 28 rfl rfl rfl rfl rfl rfl y4 (by kernel_rfl) ?_; refine ⟨_, fun _ => ev_len rfl rfl (se rfl), ?_⟩; refine runD_gq 29 rfl rfl rfl rfl rfl rfl y4 (by kernel_rfl) ?_; refine ⟨_, fun _ => ev_pure rfl, ?_⟩; refine runD_q 30 rfl rfl (by kernel_rfl) ?_; refine ⟨_, fun _ => ev_pure rfl, ?_⟩; refine runD_q 31 rfl rfl (by kernel_rfl) ?_; refine ⟨_, fun _ => ev_pure rfl, ?_⟩; refine runD_gq 32 rfl rfl rfl rfl rfl rfl y5 (by kernel_rfl) ?_; refine ⟨_, fun _ => ev_pure rfl, ?_⟩; refine runD_gq 34 rfl rfl rfl rfl rfl rfl y5 (by kernel_rfl) ?_; refine ⟨_, fun _ => ev_pure rfl, ?_⟩; refine runD_g1 33 (by kernel_rfl) rfl rfl rfl rfl y5 rfl rfl ?_)
        refine runL_callZ [] [] rfl rfl rfl rfl rfl rfl rfl (pf rfl) (fun x => by (first | rfl | (simp only [List.append_eq, cnt_append, cnt_cons, cnt_nil, blk]; omega) | (simp only [List.append_eq, cnt_append, cnt_cons, cnt_nil, blk]; done))) (sp_lorders _ b 7 _ hIn.up hlb.1) ?_
        rintro v A10 own10
        obtain ⟨a10, c10, rfl, own10⟩ := own10.at
        (refine runL_nil ?_; refine endS_d rfl ?_; refine runD_g1 35 (by kernel_rfl) rfl rfl rfl rfl y5 rfl rfl ?_)
        refine runL_callZ A10 [] rfl rfl rfl rfl rfl rfl rfl (pf rfl) (fun x => by (first | rfl | (simp only [List.append_eq, cnt_append, cnt_cons, cnt_nil, blk]; omega) | (simp only [List.append_eq, cnt_append, cnt_cons, cnt_nil, blk]; done))) (sp_rorders _ bw 7 _ hRn.up hlb.1) ?_
        rintro v A11 own11
        obtain ⟨a11, c11, rfl, own11⟩ := own11.at
        (refine runL_nil ?_; refine endS_d rfl ?_; refine runD_g1 36 (by kernel_rfl) rfl rfl rfl rfl y5 rfl rfl ?_)
        refine runL_ev rfl rfl rfl rfl (ev_callQ rfl rfl rfl (pf rfl) (sp_sameOrd _ a10 a11 es.length c10 c11 (es.map (·.o)) (List.length_map ..) (by have := hlb.1; omega) (own10.src fun x m => by simp [m]) (own11.src fun x m => by simp [m]))) ?_
        (refine runL_nil ?_; refine endS_d rfl ?_; refine runD_gq 37 rfl rfl rfl rfl rfl rfl y5 (by kernel_rfl) ?_; refine ⟨_, fun _ => ev_pure rfl, ?_⟩; refine runD_q 38 rfl rfl (by kernel_rfl) ?_; refine ⟨_, fun _ => ev_pure rfl, ?_⟩; refine runD_done (by kernel_rfl) ?_; refine then_normal ?_)
        refine run_condF rfl (by simp) ?_
        (refine run_skip ?_; refine in_normal ?_; refine then_normal ?_; refine run_region ?_; refine xep rfl rfl ?_; refine xel rfl (ev_add rfl rfl rfl (by omega)) ?_; refine xep rfl rfl ?_; refine runL_nil ?_; refine then_normal ?_)
        exact ⟨(i + 1, es, keys, H, R), ⟨by show i + 1 ≤ len; omega, by show i + 1 ≤ 50; omega, hH, hRv, hpl⟩, by show 50 - (i + 1) < 50 - i; omega, rfl, A10 ++ A11, fun x => by rw [hHH]; (first | rfl | (simp only [List.append_eq, cnt_append, cnt_cons, cnt_nil, blk]; omega) | (simp only [List.append_eq, cnt_append, cnt_cons, cnt_nil, blk]; done))⟩
  · (refine run_exit ?_; (iterate 2 refine then_exit ?_); refine in_exit ?_; refine then_normal ?_)
    (refine run_seq ?_; refine run_region ?_; refine xel rfl (ev_callQ rfl rfl rfl (pf rfl) (q3 ..)) ?_; refine xep rfl rfl ?_; refine runL_nil ?_; refine then_normal ?_; refine run_ret ?_)
    exact ⟨_, rfl, rfl⟩
end Go.Proofs.Ytfclaleiciodmaa
