/- Contracts of functions of the given program over its translation, each proved by walking its text; used by the laws' rows. It proves no given statement by itself. -/
import Derived.Test.YtfclaleiciodmaaSLLaw9
set_option autoImplicit false
set_option linter.unusedSectionVars false
set_option linter.unusedSimpArgs false
set_option linter.unusedVariables false
set_option maxRecDepth 4000
namespace Go.Proofs.Ytfclaleiciodmaa
open Go Go.SL Go.Proofs
variable [Base]
def sumH : List (Ord × Int) → Int
  | [] => 0
  | h :: l => h.2 + sumH l
theorem sumH_append (l m : List (Ord × Int)) : sumH (l ++ m) = sumH l + sumH m := by
  induction l with
  | nil => simp [sumH]
  | cons x l ih => simp only [List.cons_append, sumH, ih]; omega
/-- No more is seen than may be. -/
def SB (es : List Ent) : Prop := ∀ x ∈ es, 0 < x.o.show_ → x.seen ≤ x.o.show_
theorem giveE_SB {e : Ent} {l : List Ent} {n : Int} (h : SB (e :: l)) (h0 : 0 ≤ n) : SB (giveE e l n) := by
  have hl : SB l := fun x m => h x (List.mem_cons_of_mem _ m)
  have he := h e (by simp)
  unfold giveE
  split
  · intro x m
    rcases List.mem_cons.1 m with rfl | m
    · intro hs; have := he hs; dsimp only [wq] at *; omega
    · exact hl x m
  · split
    · intro x m
      rcases List.mem_append.1 m with m | m
      · exact hl x m
      · simp only [List.mem_singleton] at m
        subst m
        intro hs
        dsimp only [tip, wq] at *
        rw [if_pos hs]; omega
    · exact hl
structure TakeOk (firm q : Int) (es : List Ent) (r : List (Ord × Int) × Bool × List Ent) : Prop where
  hits : ∀ h ∈ r.1, 1 ≤ h.2 ∧ h.2 ≤ h.1.qty ∧ h.1.firm ≠ firm ∧ (0 < h.1.show_ → h.2 ≤ h.1.show_)
  sum : sumE (fun x => x.o.qty) es = sumH r.1 + sumE (fun x => x.o.qty) r.2.2
  le : 0 ≤ sumH r.1 ∧ sumH r.1 ≤ q
  own : r.2.1 = true → ∃ e l, r.2.2 = e :: l ∧ e.o.firm = firm ∧ sumH r.1 < q
  all : r.2.1 = false → sumH r.1 = q ∨ r.2.2 = []
theorem take_ok {firm : Int} (k : Nat) : ∀ (q : Int) (es : List Ent), q.toNat ≤ k → 0 ≤ q → LB es → SB es → TakeOk firm q es (take firm q es) := by
  induction k with
  | zero =>
    intro q es hk hq hb hs
    have : q = 0 := by omega
    subst this
    rw [take_le (by omega)]
    exact ⟨fun h m => (nomatch m), by simp [sumH], by simp [sumH], fun h => (nomatch h), fun _ => .inl rfl⟩
  | succ k ih =>
    intro q es hk hq hb hs
    by_cases h0 : 0 < q
    · cases es with
      | nil => rw [take_nil]; exact ⟨fun h m => (nomatch m), by simp [sumH], by simp [sumH]; omega, fun h => (nomatch h), fun _ => .inr rfl⟩
      | cons e l =>
        have he := hb.2 e (by simp)
        by_cases hf : e.o.firm = firm
        · rw [take_own h0 hf]
          exact ⟨fun h m => (nomatch m), by simp [sumH], by simp [sumH]; omega, fun _ => ⟨e, l, rfl, hf, by simpa [sumH] using h0⟩, fun h => (nomatch h)⟩
        · rw [take_cons h0 hf he.2.2.1]
          have hg := giveE_LB (n := min q e.seen) hb (by omega) (by omega)
          have := ih (q - min q e.seen) (giveE e l (min q e.seen)) (by omega) (by omega) hg.1 (giveE_SB hs (by omega))
          obtain ⟨i1, i2, i3, i4, i5⟩ := this
          rw [giveE_sum (by omega) (by omega)] at i2
          have hss := hs e (by simp)
          refine ⟨fun h m => ?_, ?_, ?_, fun h => ?_, fun h => ?_⟩
          · rcases List.mem_cons.1 m with rfl | m
            · dsimp only
              refine ⟨by omega, by omega, hf, fun h => ?_⟩
              have := hss h; omega
            · exact i1 h m
          · simp only [sumE, sumH]; omega
          · simp only [sumH]; omega
          · obtain ⟨e', l', j1, j2, j3⟩ := i4 h
            exact ⟨e', l', j1, j2, by simp only [sumH]; omega⟩
          · rcases i5 h with j | j
            · left; simp only [sumH]; omega
            · exact .inr j
    · have : q = 0 := by omega
      subst this
      rw [take_le (by omega)]
      exact ⟨fun h m => (nomatch m), by simp [sumH], by simp [sumH], fun h => (nomatch h), fun _ => .inl rfl⟩
theorem sumE_le {g f : Ent → Int} {l : List Ent} (h : ∀ x ∈ l, g x ≤ f x) : sumE g l ≤ sumE f l := by
  induction l with
  | nil => exact Int.le_refl _
  | cons x l ih =>
    have h1 := ih fun y m => h y (List.mem_cons_of_mem _ m)
    have h2 := h x (List.mem_cons_self ..)
    simp only [sumE]; omega
theorem FillOk.sb {k : Nat} {s : List (Int × Int) × List Ent} (h : FillOk k s) : SB s.2 := by
  intro x m hs
  have := h.small x m
  rw [this.2.2.2.2.2.2.2.2]
  unfold tip; rw [if_pos hs]; omega
theorem sumH_take {l : List (Ord × Int)} {i : Nat} {x : Ord × Int} (h : l[i]? = some x) : sumH (l.take (i + 1)) = sumH (l.take i) + x.2 := by
  have hi := (List.getElem?_eq_some_iff.1 h).1
  have hx := (List.getElem?_eq_some_iff.1 h).2
  rw [List.take_succ_eq_append_getElem hi, sumH_append, hx]; simp [sumH]
theorem sumH_part {l : List (Ord × Int)} (h : ∀ x ∈ l, 1 ≤ x.2) (i : Nat) : 0 ≤ sumH (l.take i) ∧ sumH (l.take i) ≤ sumH l := by
  have pos : ∀ m : List (Ord × Int), (∀ x ∈ m, 1 ≤ x.2) → 0 ≤ sumH m := by
    intro m hm
    induction m with
    | nil => exact Int.le_refl _
    | cons y m ih =>
      have h1 := ih fun z hz => hm z (List.mem_cons_of_mem _ hz)
      have h2 := hm y (List.mem_cons_self ..)
      simp only [sumH]; omega
  have e : sumH l = sumH (l.take i) + sumH (l.drop i) := by rw [← sumH_append, List.take_append_drop]
  have h1 := pos (l.take i) fun x m => h x (List.mem_of_mem_take m)
  have h2 := pos (l.drop i) fun x m => h x (List.mem_of_mem_drop m)
  omega
set_option maxHeartbeats 1000000 in
theorem levelTakes_sp (F : Heap) (a : Option Addr) (len cap : Nat) (rs : List (List Int)) (firm n0 : Int) (hR : RowsF F a len 5 rs) (hC : len ≤ cap) (hM : cap ≤ 9223372036854775807) (h1 : InI firm) (h2 : InI n0) :
    Sp Try.prog F 5 [.slice a len cap, .int .i64 firm, .int .i64 n0] [] (Ret (.bool true)) := by
  have q1 := fun F => sp_Win F n0 0 100 (by omega) (by omega) (by omega)
  have q3 := @levelRuns_sp
  have w1 := win_in n0 (show (0 : Int) ≤ 100 by omega)
  generalize win n0 0 100 = n at *
  have hok := fills_ok rs 20
  have hlb := hok.lb (by omega)
  have hsb := hok.sb
  refine sp_of_code Try.func5 rfl rfl ?_
  (refine run_seq ?_; refine run_region ?_; refine xep rfl rfl ?_; refine runL_nil ?_; refine then_normal ?_; refine run_seq ?_; refine run_region ?_; refine xep rfl rfl ?_)
  refine runL_call0 rfl rfl rfl rfl rfl rfl rfl (pf rfl) (sp_filled _ a len cap rs (hR.mono fun x m => List.mem_append_right _ m) hC hM) ?_
  rintro v H1 ⟨b, rfl, hH1⟩
  generalize (fills rs 20).2 = es at *
  have t1 := take_len (firm := firm) 100 n es (by omega) hlb
  have t2 := take_ok (firm := firm) 100 n es (by omega) (by omega) hlb hsb
  (refine xep rfl rfl ?_; refine runL_nil ?_; refine then_normal ?_; (iterate 2 refine run_seq ?_); refine run_region ?_; refine xep rfl rfl ?_; refine xel rfl (ev_eqNil rfl rfl rfl (pt rfl)) ?_; refine runL_nil ?_; refine then_normal ?_)
  refine run_condF rfl rfl ?_
  (refine run_skip ?_; refine then_normal ?_; refine run_seq ?_; refine run_region ?_; refine xep rfl rfl ?_; refine xel rfl (ev_callQ rfl rfl rfl (pf rfl) (q1 ..)) ?_; refine xep rfl rfl ?_; refine runL_nil ?_; refine then_normal ?_; refine run_seq ?_; refine run_region ?_; refine xep rfl rfl ?_)
  refine runL_ev rfl rfl rfl rfl (ev_callQ rfl rfl rfl (pf rfl) (sp_lwhole _ b 7 es (hH1.in fun x m => by simp [m]) hlb)) ?_
  (refine xep rfl rfl ?_; refine runL_nil ?_; refine then_normal ?_; refine run_seq ?_; refine run_region ?_; (iterate 3 refine xep rfl rfl ?_))
  refine runL_callZ [] H1 rfl rfl rfl rfl rfl rfl rfl (pf rfl) (fun x => by (first | rfl | (simp only [List.append_eq, cnt_append, cnt_cons, cnt_nil, blk]; omega) | (simp only [List.append_eq, cnt_append, cnt_cons, cnt_nil, blk]; done))) (sp_ltake _ H1 b 7 es hH1 hlb firm n (by unfold InI; omega) (by omega)) ?_
  rintro v _ ⟨a3, c3, A3, L3, rfl, own3, hL3, rfl⟩
  obtain ⟨th, ts, tl, to, ta⟩ := t2
  have hlen := t1.1
  have hlb3 := t1.2.1
  generalize take firm n es = T at *
  obtain ⟨hs, self, es3⟩ := T
  dsimp only at *
  have hsum := sumE_in (g := fun x => x.o.qty) (l := es) fun x m => by have := hlb.2 x m; omega
  have hsum3 := sumE_in (g := fun x => x.o.qty) (l := es3) fun x m => by have := hlb3.2 x m; omega
  have hsee3 := sumE_le (g := fun x => x.seen) (f := fun x => x.o.qty) (l := es3) fun x m => by have := hlb3.2 x m; omega
  have hes := hlb.1
  have hes3 := hlb3.1
  ((iterate 5 refine xep rfl rfl ?_); refine runL_nil ?_; refine then_normal ?_; refine run_seq ?_; refine run_region ?_; refine xep rfl rfl ?_; refine runL_nil ?_; refine then_normal ?_; (iterate 2 refine run_seq ?_); refine run_region ?_; refine xep rfl rfl ?_; refine xel rfl (ev_len rfl rfl (se rfl)) ?_; refine xep rfl rfl ?_; refine runL_nil ?_; refine then_normal ?_; refine run_block ?_; refine RunC.whole rfl ?_)
  have src := own3.src (H := L3 ++ A3 ++ F) fun x m => by simp [m]
  refine RunC.freezeR (h := []) (A := L3 ++ A3) ?_
  have hIn : LvIn ((L3 ++ A3) ++ F) b 7 es3 := hL3.in fun x m => by simp [m]
  clear hL3 own3
  have q4 := fun K : Heap => sp_lwhole (K ++ ((L3 ++ A3) ++ F)) b 7 es3 hIn.up hlb3
  have q5 := fun K : Heap => sp_lseen (K ++ ((L3 ++ A3) ++ F)) b 7 es3 hIn.up hlb3
  have q6 := fun K : Heap => sp_llen (K ++ ((L3 ++ A3) ++ F)) b 7 es3 hIn.up
  refine run_loopK (σ := Nat) [1, 7, 8, 9, 10, 11, 31, 32, 33, 12] (fun i => [(1, .int .i64 firm), (7, .pointer (some ⟨b, 0, none⟩)), (8, .int .i64 n), (9, .int .i64 (sumE (fun x => x.o.qty) es)), (10, .slice a3 hs.length c3), (11, .bool self), (31, .slice a3 hs.length c3), (32, .int .i64 hs.length), (33, .int .i64 i), (12, .int .i64 (sumH (hs.take i)))]) (fun _ => []) (fun i => i ≤ hs.length) (fun i => hs.length - i) 0 (Nat.zero_le _) rfl (fun _ => rfl) ?_
  intro i gi
  have hp := sumH_part (l := hs) (fun x m => (th x m).1) i
  (refine run_seq ?_; refine run_region ?_; refine xep rfl rfl ?_; refine runL_nil ?_; refine then_normal ?_; refine run_seq ?_)
  (refine run_cond rfl (fun hc => ?_) (fun hc => ?_) <;> (try simp only [z0, z1, z2, z3, z4, z5, z6, z7, z8, z9, Bool.not_true, Bool.not_false, Bool.false_or, Bool.true_and, true_and, and_true, false_or, or_false, reduceCtorEq, Bool.false_eq_true] at hc))
  · obtain ⟨b2, off, _, _, _, rfl, _⟩ := src.pos (by omega)
    obtain ⟨x, hx⟩ : ∃ x, hs[i]? = some x := ⟨hs[i]'(by omega), List.getElem?_eq_getElem _⟩
    have l1 := SrcIs.row hcell_len src rfl hx
    have hx2 := th x (List.mem_of_getElem? hx)
    have hst := sumH_take hx
    have hp2 := sumH_part (l := hs) (fun x m => (th x m).1) (i + 1)
    (refine run_skip ?_; refine then_normal ?_; refine run_seq ?_; refine run_block ?_; refine run_seq ?_; refine run_region ?_; refine xel rfl (ev_indexAddr rfl rfl rfl (se rfl) (by omega) (by omega)) ?_; refine xel rfl (ev_loadAF rfl rfl (ag rfl) (sz rfl) l1 rfl) ?_; refine runL_alloc rfl rfl rfl rfl rfl ze35 (fun _ => ?_); refine runL_store0 rfl rfl rfl rfl rfl (sz rfl) rfl rfl rfl rfl rfl ?_; refine runL_nil ?_; refine then_normal ?_; (iterate 2 refine run_seq ?_); refine run_region ?_; refine xel rfl (ev_fieldAddr rfl rfl (fo rfl)) ?_; refine xel rfl (ev_loadK rfl rfl (sc rfl) (memF (.head _)) rfl) ?_; (iterate 2 refine xep rfl rfl ?_); refine xgl rfl rfl (fun hq => ev_fieldAddr rfl rfl (fo rfl)) ?_; refine xgl rfl rfl (fun hq => ev_loadK rfl rfl (sc rfl) (memF (.head _)) rfl) ?_; (iterate 2 refine xgl rfl rfl (fun hq => ev_fieldAddr rfl rfl (fo rfl)) ?_); refine xgl rfl rfl (fun hq => ev_loadK rfl rfl (sc rfl) (memF (.head _)) rfl) ?_; refine xgp rfl rfl rfl ?_; (iterate 2 refine xep rfl rfl ?_); (iterate 2 refine xgl rfl rfl (fun hq => ev_fieldAddr rfl rfl (fo rfl)) ?_); refine xgl rfl rfl (fun hq => ev_loadK rfl rfl (sc rfl) (memF (.head _)) rfl) ?_; (iterate 2 refine xgp rfl rfl rfl ?_); (iterate 2 refine xep rfl rfl ?_); (iterate 2 refine xgl rfl rfl (fun hq => ev_fieldAddr rfl rfl (fo rfl)) ?_); refine xgl rfl rfl (fun hq => ev_loadK rfl rfl (sc rfl) (memF (.head _)) rfl) ?_; (iterate 2 refine xgp rfl rfl rfl ?_); refine xgl rfl rfl (fun hq => ev_fieldAddr rfl rfl (fo rfl)) ?_; refine xgl rfl rfl (fun hq => ev_loadK rfl rfl (sc rfl) (memF (.head _)) rfl) ?_; (iterate 2 refine xgl rfl rfl (fun hq => ev_fieldAddr rfl rfl (fo rfl)) ?_); refine xgl rfl rfl (fun hq => ev_loadK rfl rfl (sc rfl) (memF (.head _)) rfl) ?_; (iterate 2 refine xgp rfl rfl rfl ?_); refine xep rfl rfl ?_; refine runL_nil ?_; refine then_normal ?_)
    refine run_condF rfl ?_ ?_
    · have e1 : ¬ x.2 < 1 := by omega
      have e2 : ¬ x.1.qty < x.2 := by omega
      have e3 : ¬ x.1.firm = firm := hx2.2.2.1
      by_cases e4 : 0 < x.1.show_
      · have e5 : ¬ x.1.show_ < x.2 := by have := hx2.2.2.2 e4; omega
        simp [e1, e2, e3, e4, e5]
      · simp [e1, e2, e3, e4]
    (refine run_skip ?_; refine then_normal ?_; refine run_region ?_; refine xep rfl rfl ?_; refine xel rfl (ev_fieldAddr rfl rfl (fo rfl)) ?_; refine xel rfl (ev_loadK rfl rfl (sc rfl) (memF (.head _)) rfl) ?_; refine xel rfl (ev_add rfl rfl rfl (by omega)) ?_; refine xep rfl rfl ?_; refine runL_nil ?_; refine in_normal ?_; refine then_normal ?_; refine run_region ?_; refine xel rfl (ev_add rfl rfl rfl (by omega)) ?_; refine xep rfl rfl ?_; refine runL_nil ?_; refine then_normal ?_)
    refine ⟨i + 1, by omega, by omega, ?_, [_], fun _ => rfl⟩
    rw [hst]; rfl
  · have : i = hs.length := by omega
    subst this
    rw [List.take_length]
    (refine run_exit ?_; (iterate 2 refine then_exit ?_); refine in_exit ?_; refine then_normal ?_)
    refine RunC.freezeR ?_
    ((iterate 2 refine run_seq ?_); refine run_region ?_; refine xep rfl rfl ?_; refine xel rfl (ev_callQ rfl rfl rfl (pf rfl) (q4 ..)) ?_; (iterate 2 refine xep rfl rfl ?_); refine xel rfl (ev_sub rfl rfl rfl (by omega)) ?_; (iterate 2 refine xep rfl rfl ?_); (iterate 3 refine xgp rfl rfl rfl ?_); (iterate 2 refine xep rfl rfl ?_); refine xgp rfl rfl rfl ?_; refine xgl rfl rfl (fun hq => ev_callQ rfl rfl rfl (pf rfl) (q5 ..)) ?_; refine xgp rfl rfl rfl ?_; refine xgl rfl rfl (fun hq => ev_callQ rfl rfl rfl (pf rfl) (q4 ..)) ?_; refine xgp rfl rfl rfl ?_; refine xep rfl rfl ?_; refine runL_nil ?_; refine then_normal ?_)
    refine run_condF rfl ?_ ?_
    · have e1 : ¬ n < sumH hs := by omega
      have e2 : ¬ sumE (fun x => x.o.qty) es3 < sumE (fun x => x.seen) es3 := by omega
      have e3 : sumE (fun x => x.o.qty) es3 = sumE (fun x => x.o.qty) es - sumH hs := by omega
      simp [e1, e2, ← e3]
    (refine run_skip ?_; refine then_normal ?_; refine run_seq ?_; refine run_region ?_; refine xep rfl rfl ?_)
    refine runL_callZ [] [] rfl rfl rfl rfl rfl rfl rfl (pf rfl) (fun x => by (first | rfl | (simp only [List.append_eq, cnt_append, cnt_cons, cnt_nil, blk]; omega) | (simp only [List.append_eq, cnt_append, cnt_cons, cnt_nil, blk]; done))) (sp_lorders _ b 7 es3 hIn.up hlb3.1) ?_
    rintro v A6 own6
    obtain ⟨a6, c6, rfl, own6⟩ := own6.at
    (refine xep rfl rfl ?_; refine runL_nil ?_; refine then_normal ?_; (iterate 2 refine run_seq ?_); refine run_region ?_; refine xep rfl rfl ?_; refine runL_nil ?_; refine then_normal ?_; refine RunC.whole rfl ?_)
    cases self with
    | true =>
      obtain ⟨e, l, rfl, he, hlt⟩ := to rfl
      refine run_condT rfl rfl ?_
      obtain ⟨b6, rest6, c6', hv, rfl, -, -, -⟩ := own6.pos (by simp)
      cases hv
      have hgd : true = true := rfl
      have y1 : decide ((0 : Int) < ((e :: l).length : Int)) = true := decide_eq_true (by simp)
      (refine run_seq ?_; refine run_region ?_; refine xep rfl rfl ?_; refine xel rfl (ev_len rfl rfl (se rfl)) ?_; (iterate 2 refine xep rfl rfl ?_); refine runL_yes rfl rfl y1 ?_; refine xep rfl rfl ?_; refine runL_yes rfl rfl y1 ?_)
      refine runL_ev rfl rfl rfl rfl (ev_indexAddr rfl rfl rfl (se rfl) (by omega) (by simp)) ?_
      have y2 : (decide ((0 : Int) < ((e :: l).length : Int)) && decide (e.o.firm = firm)) = true := by rw [y1, decide_eq_true he]; rfl
      have y3 : (decide ((0 : Int) < ((e :: l).length : Int)) && decide (e.o.firm = firm) && decide (sumH hs < n)) = true := by rw [y2, decide_eq_true hlt]; rfl
      (refine runL_yes rfl rfl y1 ?_; refine xel rfl (ev_fieldAddr rfl rfl (fo rfl)) ?_; refine runL_yes rfl rfl y1 ?_; refine xel rfl (ev_loadK rfl rfl (sc rfl) (memF (.head _)) rfl) ?_; refine runL_yes rfl rfl y1 ?_; refine xep rfl rfl ?_; refine runL_yes rfl rfl y1 ?_; (iterate 3 refine xep rfl rfl ?_); refine runL_yes rfl rfl y2 ?_; refine xep rfl rfl ?_; refine runL_yes rfl rfl y2 ?_; refine xep rfl rfl ?_; refine runL_yes rfl rfl y2 ?_; (iterate 3 refine xep rfl rfl ?_); refine runL_yes rfl rfl y3 ?_; refine xel rfl (ev_callQ rfl rfl rfl (pf rfl) (q3 ..)) ?_; (iterate 2 refine xep rfl rfl ?_); refine runL_nil ?_; refine then_normal ?_; refine run_ret ?_; refine then_ret ?_)
      exact ⟨_, rfl, congrArg Value.bool (by rw [y3]; rfl)⟩
    | false =>
      refine run_condF rfl rfl ?_
      (refine run_skip ?_; refine then_normal ?_; refine run_seq ?_; refine run_region ?_; (iterate 4 refine xep rfl rfl ?_); refine xgp rfl rfl rfl ?_; refine xgl rfl rfl (fun hq => ev_callQ rfl rfl rfl (pf rfl) (q6 ..)) ?_; refine xgp rfl rfl rfl ?_; (iterate 2 refine xep rfl rfl ?_); refine xgl rfl rfl (fun hq => ev_callQ rfl rfl rfl (pf rfl) (q3 ..)) ?_; (iterate 2 refine xep rfl rfl ?_); refine runL_nil ?_; refine then_normal ?_; refine run_ret ?_)
      refine ⟨_, rfl, congrArg Value.bool ?_⟩
      rcases ta rfl with h | h
      · simp [h]
      · simp [h]
end Go.Proofs.Ytfclaleiciodmaa
