/- Contracts of functions of the given program over its translation, each proved by walking its text; used by the laws' rows. It proves no given statement by itself. -/
import Derived.Test.YtmelpobcpcmdoaaGreatSLRBkOX
import Derived.Test.YtmelpobcpcmdoaaGreatSLBk8X
import Derived.Test.YtmelpobcpcmdoaaGreatSLRLvl5X
import Derived.Test.YtmelpobcpcmdoaaGreatSLDraw3
import Derived.Test.YtmelpobcpcmdoaaGreatSLBk3X
set_option autoImplicit false
set_option linter.unusedSectionVars false
set_option linter.unusedSimpArgs false
set_option linter.unusedVariables false
set_option maxRecDepth 4000
set_option maxHeartbeats 64000000
namespace Go.Proofs.YtmelpobcpcmdoaaGreat
open Go Go.SL Go.Proofs
theorem find_at {α β : Type} {f : α → β} {p : β → Bool} {o : β} : ∀ {es : List α}, (es.map f).find? p = some o → ∃ (k : Nat) (x : α), es[k]? = some x ∧ f x = o ∧ p (f x) = true ∧ ∀ (j : Nat) y, j < k → es[j]? = some y → p (f y) = false
  | [], h => by simp at h
  | e :: r, h => by
    rw [List.map_cons, List.find?_cons] at h
    cases hp : p (f e) with
    | true =>
      rw [hp] at h
      simp only [Option.some.injEq] at h
      exact ⟨0, e, rfl, h, hp, fun j y hj => absurd hj (Nat.not_lt_zero _)⟩
    | false =>
      rw [hp] at h
      obtain ⟨k, x, h1, h2, h3, h4⟩ := find_at h
      refine ⟨k + 1, x, h1, h2, h3, fun j y hj hy => ?_⟩
      cases j with
      | zero => simp only [List.getElem?_cons_zero, Option.some.injEq] at hy; subst hy; exact hp
      | succ j => exact h4 j y (by omega) (by simpa using hy)
theorem find_none_is {t i : Int} {es : List Ent} (h : (es.map (·.o)).find? (isO t i) = none) : ∀ x ∈ es, isIt t i x = false := by
  intro x m
  have := List.find?_eq_none.1 h x.o (List.mem_map_of_mem m)
  show isO t i x.o = false
  simpa using this
theorem put_same {c : List Value} {v : Value} {j : Nat} (h : c[0 + 0 + (j : Int).toNat * 1]? = some v) : c.take j ++ [v] ++ c.drop (j + 1) = c := by
  rw [show 0 + 0 + (j : Int).toNat * 1 = j by rw [Int.toNat_natCast]; omega] at h
  rw [List.append_assoc]
  have hlt := (List.getElem?_eq_some_iff.1 h).1
  have hv := (List.getElem?_eq_some_iff.1 h).2
  rw [← hv, List.singleton_append, List.getElem_cons_drop, List.take_append_drop]
variable [Base]
theorem lless_true {t i q : Int} {es : List Ent} {o : Ord} (h : (es.map (·.o)).find? (isO t i) = some o) (h1 : 1 ≤ q) (h2 : q ≤ o.qty) : (lless t i q es).1 = true := by
  obtain ⟨k, x, hx, rfl, hp, hn⟩ := find_at h
  rw [lless_some hx hp hn, if_neg (by omega)]
theorem lrem_true {t i : Int} {es : List Ent} {o : Ord} (h : (es.map (·.o)).find? (isO t i) = some o) : (lrem t i es).2.1 = true := by
  obtain ⟨k, x, hx, rfl, hp, hn⟩ := find_at h
  rw [lrem_some hx hp hn]
theorem RbH.side3 {b : Nat} {B : Bk} {H : Heap} (h : RbH b B H) {j : Nat} (hj : j < 3) : ∃ c v H0 H1, c.length = 5 ∧ c[0 + 0 + (j : Int).toNat * 1]? = some v ∧ RsH v (B.side j) H0 ∧ (∀ x, cnt x H = cnt x (blk b c 60 :: (H0 ++ H1))) ∧
    (∀ H0', RsH v (B.side j) H0' → ∃ H', RbH b B H' ∧ ∀ x, cnt x H' = cnt x (blk b c 60 :: (H0' ++ H1))) ∧
    (j = 1 ∨ j = 2 → ∀ v' l' H0', RsH v' l' H0' → ∃ H', RbH b (B.put j l') H' ∧ ∀ x, cnt x H' = cnt x (blk b (c.take j ++ [v'] ++ c.drop (j + 1)) 60 :: (H0' ++ H1))) := by
  by_cases h12 : j = 1 ∨ j = 2
  · obtain ⟨c, v, H0, H1, h1, h2, h3, h4, h5⟩ := h.side h12
    refine ⟨c, v, H0, H1, h1, by rw [show 0 + 0 + (j : Int).toNat * 1 = j by rw [Int.toNat_natCast]; omega]; exact h2, h3, h4, fun H0' h' => ?_, fun _ => h5⟩
    obtain ⟨H', g1, g2⟩ := h5 v (B.side j) H0' h'
    have e : B.put j (B.side j) = B := by rcases h12 with rfl | rfl <;> rfl
    rw [e] at g1
    have e2 : c.take j ++ [v] ++ c.drop (j + 1) = c := by
      rw [List.append_assoc]
      have hlt := (List.getElem?_eq_some_iff.1 h2).1
      have hv := (List.getElem?_eq_some_iff.1 h2).2
      rw [← hv, List.singleton_append, List.getElem_cons_drop, List.take_append_drop]
    rw [e2] at g2
    exact ⟨H', g1, g2⟩
  · have : j = 0 := by omega
    subst this
    have h0 := h
    obtain ⟨v0, v1, H0, H1, h1, h2, rfl⟩ := h
    exact ⟨_, .slice none 0 0, [], H0 ++ H1, rfl, rfl, ⟨none, 0, [], [], [], rfl, .nil _ _, rfl, rfl⟩, fun x => rfl, fun H0' h' => by
      obtain ⟨a, cap, bs, A, L, e1, own, hL, rfl⟩ := h'
      have hA : A = [] := by
        rcases own with ⟨_, _, _, h9⟩ | ⟨b, rest, cap', e2, _⟩
        · exact h9
        · rw [← e1] at e2; cases e2
      have hbs0 : bs.length = 0 := hL.len
      have hbs : bs = [] := List.eq_nil_of_length_eq_zero hbs0
      subst hbs
      have hL0 : L = [] := hL
      subst hA; subst hL0
      exact ⟨_, h0, fun x => rfl⟩, fun h9 => absurd h9 (by decide)⟩
theorem sp_rbless (F H : Heap) (b : Nat) (B : Bk) (hH : RbH b B H) (hw : BW B) (t i q : Int) (hq : ∀ s k o, findB t i B = some (s, k, o) → 1 ≤ q ∧ q ≤ o.qty) :
    Sp Tryz.prog F 43 [.pointer (some ⟨b, 0, none⟩), .int .i64 t, .int .i64 i, .int .i64 q] H (fun v h' => v = .bool (bless t i q B).1 ∧ RbH b (bless t i q B).2 h') := by
  refine Sp.up ?_
  refine sp_of_code Tryz.func43 rfl rfl ?_
  (refine run_seq ?_; refine run_region ?_; refine xep rfl rfl ?_; refine runL_nil ?_; refine then_normal ?_; (iterate 2 refine run_seq ?_); refine run_region ?_; refine xep rfl rfl ?_; refine runL_nil ?_; refine then_normal ?_; refine run_block ?_)
  refine run_loopK (σ := Nat × Heap) [0, 1, 2, 3, 12] (fun s => [(0, .pointer (some ⟨b, 0, none⟩)), (1, .int .i64 t), (2, .int .i64 i), (3, .int .i64 q), (12, .int .i64 s.1)]) (fun s => s.2)
    (fun s => s.1 ≤ 3 ∧ RbH b B s.2 ∧ (1 < s.1 → findL t i B.buys = none) ∧ (2 < s.1 → findL t i B.sells = none)) (fun s => 3 - s.1) (0, H) ⟨Nat.zero_le _, hH, fun h => absurd h (by show ¬ 1 < 0; decide), fun h => absurd h (by show ¬ 2 < 0; decide)⟩ rfl (fun _ => rfl) ?_
  clear hH
  rintro ⟨j, H⟩ ⟨hj, hH, hf1, hf2⟩
  dsimp only at hj hH hf1 hf2 ⊢
  (refine run_seq ?_; refine run_region ?_; refine xep rfl rfl ?_; refine runL_nil ?_; refine then_normal ?_; refine run_seq ?_)
  (refine run_cond rfl (fun hc => ?_) (fun hc => ?_) <;> (try simp only [z0, z1, z2, z3, z4, z5, z6, z7, z8, z9, Bool.not_true, Bool.not_false, Bool.false_or, Bool.true_and, true_and, and_true, false_or, or_false, reduceCtorEq, Bool.false_eq_true] at hc))
  · obtain ⟨cc, v, H0, H1, hc5, g1, hS, hp, hback, hput⟩ := hH.side3 (j := j) (by omega)
    obtain ⟨hok, h64⟩ := hw.side (j : Int)
    have gl := lenL_ge hok
    have hB : ∀ k o, findL t i (B.side j) = some (k, o) → findB t i B = some ((j : Int), k, o) := fun k o hk => findB_of (by omega) hf1 hk
    have hfb : ∀ (hn : findL t i (B.side j) = none), (1 < j + 1 → findL t i B.buys = none) ∧ (2 < j + 1 → findL t i B.sells = none) := by
      intro hn
      rcases (by omega : j = 0 ∨ j = 1 ∨ j = 2) with rfl | rfl | rfl
      · exact ⟨fun h => absurd h (by decide), fun h => absurd h (by decide)⟩
      · exact ⟨fun _ => hn, fun h => absurd h (by decide)⟩
      · exact ⟨fun _ => hf1 (by decide), fun _ => hn⟩
    have hj12 : 0 < (B.side j).length → j = 1 ∨ j = 2 := by
      intro h9
      rcases (by omega : j = 0 ∨ j = 1 ∨ j = 2) with rfl | h8
      · exact absurd h9 (by show ¬ 0 < ([] : List Lv).length; decide)
      · exact h8
    have hbl0 : ∀ k o lv, findB t i B = some ((j : Int), k, o) → (B.side j)[k]? = some lv → bless t i q B = ((lless t i q lv.es).1, B.put j ((B.side j).set k ⟨lv.p, (lless t i q lv.es).2⟩)) := by
      intro k o lv h1 h2
      unfold bless; rw [h1]; simp only [h2]
    generalize hl : B.side (j : Int) = l at *
    obtain ⟨a, cap, bs, A, L, rfl, own, hL, rfl⟩ := hS
    have hck : l.length ≤ cap := by
      obtain ⟨_, _, hv, h2⟩ := own.form
      cases hv; exact h2
    refine RunC.perm (h' := blk b cc 60 :: (A ++ (L ++ H1))) (fun x => by
      have h1 := hp x
      simp only [List.append_eq, cnt_append, cnt_cons, cnt_nil, blk] at h1 ⊢
      omega) ?_
    have hcc := put_same g1
    (refine run_skip ?_; refine then_normal ?_; refine run_seq ?_; refine run_block ?_; refine run_seq ?_; refine run_region ?_; (iterate 2 refine xep rfl rfl ?_); refine runL_nil ?_; refine then_normal ?_; refine run_seq ?_; refine run_region ?_; (iterate 3 refine xep rfl rfl ?_); refine xel rfl (ev_fieldAddr rfl rfl (fo rfl)) ?_; refine xel rfl (ev_indexAddrA rfl rfl rfl (ar rfl) (by omega) (by omega)) ?_; refine xel rfl (ev_load rfl rfl (sc rfl) (memF (.head _)) g1) ?_; refine xel rfl (ev_len rfl rfl (se rfl)) ?_; refine xep rfl rfl ?_; refine runL_nil ?_; refine then_normal ?_; refine run_block ?_)
    refine run_loopK (σ := Nat × Heap) [0, 1, 2, 3, 12, 20, 21, 22] (fun s => [(0, .pointer (some ⟨b, 0, none⟩)), (1, .int .i64 t), (2, .int .i64 i), (3, .int .i64 q), (12, .int .i64 j), (20, .slice a l.length cap), (21, .int .i64 l.length), (22, .int .i64 s.1)]) (fun s => blk b cc 60 :: (A ++ (s.2 ++ H1)))
      (fun s => s.1 ≤ l.length ∧ RvsH bs l s.2 ∧ ∀ (r : Nat) y, r < s.1 → l[r]? = some y → (y.es.map (·.o)).find? (isO t i) = none) (fun s => l.length - s.1) (0, L) ⟨Nat.zero_le _, hL, fun r y h => absurd h (Nat.not_lt_zero _)⟩ rfl (fun _ => rfl) ?_
    clear hL g1
    rintro ⟨k, L⟩ ⟨gk, hL, hk⟩
    dsimp only at gk hL hk ⊢
    have hbl := hL.len
    (refine run_seq ?_; refine run_region ?_; refine xep rfl rfl ?_; refine runL_nil ?_; refine then_normal ?_; refine run_seq ?_)
    (refine run_cond rfl (fun hc => ?_) (fun hc => ?_) <;> (try simp only [z0, z1, z2, z3, z4, z5, z6, z7, z8, z9, Bool.not_true, Bool.not_false, Bool.false_or, Bool.true_and, true_and, and_true, false_or, or_false, reduceCtorEq, Bool.false_eq_true] at hc))
    · obtain ⟨lv, hlv⟩ : ∃ lv, l[k]? = some lv := ⟨l[k]'(by omega), List.getElem?_eq_getElem _⟩
      obtain ⟨bi, hbi⟩ : ∃ bi, bs[k]? = some bi := ⟨bs[k]'(by omega), List.getElem?_eq_getElem _⟩
      have hlok := hok lv (List.mem_of_getElem? hlv)
      have hlb := hlok.1.1
      obtain ⟨G1, G2, hG1, hpG, hset, -⟩ := hL.out hbi hlv
      obtain ⟨ba, rest, cap', hv, hA, hl2, hr2, hk2⟩ := own.pos (by omega)
      cases hv
      have g1 : (rows pc bs ++ rest)[0 + (k : Int).toNat * 1]? = some (.pointer (some ⟨bi, 0, none⟩)) := by
        have := (rows_at pc_len hbi rest).get (k := 0) (v := .pointer (some ⟨bi, 0, none⟩)) rfl
        rw [Int.toNat_natCast, Nat.zero_add]; exact this
      rw [hA] at *
      refine RunC.perm (h' := blk b cc 60 :: blk ba (rows pc bs ++ rest) 97 :: (G1 ++ (G2 ++ H1))) (fun x => by
        have h1 := hpG x
        simp only [List.append_eq, cnt_append, cnt_cons, cnt_nil, blk] at h1 ⊢
        omega) ?_
      (refine run_skip ?_; refine then_normal ?_; refine run_seq ?_; refine run_block ?_; refine run_seq ?_; refine run_region ?_; refine xel rfl (ev_indexAddr rfl rfl rfl (se rfl) (by omega) (by omega)) ?_; refine xel rfl (ev_load rfl rfl (sc rfl) (memF (.tail _ (.head _))) g1) ?_; refine xep rfl rfl ?_; refine runL_nil ?_; refine then_normal ?_; refine run_seq ?_; refine run_region ?_; (iterate 4 refine xep rfl rfl ?_))
      refine runL_callZ (blk b cc 60 :: blk ba (rows pc bs ++ rest) 97 :: (G2 ++ H1)) G1 rfl rfl rfl rfl rfl rfl rfl (pf rfl) (fun x => by (first | rfl | (simp only [List.append_eq, cnt_append, cnt_cons, cnt_nil, blk]; omega) | (simp only [List.append_eq, cnt_append, cnt_cons, cnt_nil, blk]; done))) (sp_rless _ G1 bi lv.p lv.es hG1 hlb t i q) ?_
      rintro v G1' ⟨rfl, hG1'⟩
      obtain ⟨L', hL', hpL⟩ := hset lv.p (lless t i q lv.es).2 G1' hG1'
      (refine runL_nil ?_; refine then_normal ?_)
      cases hf : (lv.es.map (·.o)).find? (isO t i) with
      | none =>
        have hno := lless_none (q := q) (find_none_is hf)
        rw [hno] at hL' ⊢
        have e : l.set k ⟨lv.p, lv.es⟩ = l := by
          have hv := (List.getElem?_eq_some_iff.1 hlv).2
          have : (⟨lv.p, lv.es⟩ : Lv) = l[k]'(by omega) := hv.symm
          rw [this, List.set_getElem_self]
        dsimp only at hL'
        rw [e] at hL'
        refine run_condF rfl rfl ?_
        (refine run_skip ?_; refine in_normal ?_; refine then_normal ?_; refine run_region ?_; refine xel rfl (ev_add rfl rfl rfl (by omega)) ?_; refine xep rfl rfl ?_; refine runL_nil ?_; refine then_normal ?_)
        refine ⟨(k + 1, L'), ⟨by show k + 1 ≤ _; omega, hL', fun r y hr hy => ?_⟩, by show l.length - (k + 1) < l.length - k; omega, rfl, [], fun x => by
          have h1 := hpL x
          simp only [List.append_eq, cnt_append, cnt_cons, cnt_nil, blk] at h1 ⊢
          omega⟩
        by_cases e : r = k
        · subst e; rw [hlv] at hy; cases hy; exact hf
        · exact hk r y (by have : r < k + 1 := hr; omega) hy
      | some o =>
        have hfb2 := hB k o (findL_here hlv hf hk)
        have hbe := hbl0 k o lv hfb2 hlv
        have hqq := hq _ _ _ hfb2
        have htr := lless_true (q := q) hf hqq.1 hqq.2
        obtain ⟨H', hH', hp'⟩ := hput (hj12 (by omega)) (.slice (some ⟨ba, 0, none⟩) l.length cap) (l.set k ⟨lv.p, (lless t i q lv.es).2⟩) ([blk ba (rows pc bs ++ rest) 97] ++ L') ⟨some ⟨ba, 0, none⟩, cap, bs, _, L', by rw [List.length_set], by rw [List.length_set]; exact own, hL', rfl⟩
        rw [hbe]
        dsimp only
        rw [htr]
        refine run_condT rfl rfl ?_
        (refine run_seq ?_; refine run_region ?_; refine xep rfl rfl ?_; refine runL_nil ?_; refine then_normal ?_; refine run_ret ?_; refine in_ret ?_; (iterate 2 refine then_ret ?_); (iterate 2 refine in_ret ?_); (iterate 2 refine then_ret ?_); refine in_ret ?_; refine then_ret ?_)
        refine ⟨_, rfl, H', [], ⟨rfl, hH'⟩, fun x => ?_⟩
        have h1 := hp' x
        have h2 := hpL x
        rw [hcc] at h1
        simp only [List.append_eq, cnt_append, cnt_cons, cnt_nil, blk] at h1 h2 ⊢
        omega
    · have : k = l.length := by omega
      subst this
      have hno := findL_no fun j y hy => hk j y ((List.getElem?_eq_some_iff.1 hy).1) hy
      obtain ⟨H', hH', hp'⟩ := hback (A ++ L) ⟨a, cap, bs, A, L, rfl, own, hL, rfl⟩
      (refine run_exit ?_; (iterate 2 refine then_exit ?_); refine in_exit ?_; refine in_normal ?_; refine then_normal ?_)
      (refine run_region ?_; refine xel rfl (ev_add rfl rfl rfl (by omega)) ?_; refine xep rfl rfl ?_; refine runL_nil ?_; refine then_normal ?_)
      exact ⟨(j + 1, H'), ⟨by show j + 1 ≤ 3; omega, hH', (hfb hno).1, (hfb hno).2⟩, by show 3 - (j + 1) < 3 - j; omega, rfl, [], fun x => by
        have h1 := hp' x
        simp only [List.append_eq, cnt_append, cnt_cons, cnt_nil, blk] at h1 ⊢
        omega⟩
  · have : j = 3 := by omega
    subst this
    (refine run_exit ?_; (iterate 2 refine then_exit ?_); refine in_exit ?_; refine then_normal ?_)
    (refine run_seq ?_; refine run_region ?_; refine xep rfl rfl ?_; refine runL_nil ?_; refine then_normal ?_; refine run_ret ?_)
    have hfn : findB t i B = none := by unfold findB; rw [hf1 (by omega), hf2 (by omega)]
    have e : bless t i q B = (false, B) := by unfold bless; rw [hfn]
    rw [e]
    exact ⟨_, rfl, H, [], ⟨rfl, hH⟩, fun x => by (first | rfl | (simp only [List.append_eq, cnt_append, cnt_cons, cnt_nil, blk]; omega) | (simp only [List.append_eq, cnt_append, cnt_cons, cnt_nil, blk]; done))⟩
end Go.Proofs.YtmelpobcpcmdoaaGreat

set_option autoImplicit false
set_option linter.unusedSectionVars false
set_option linter.unusedSimpArgs false
set_option linter.unusedVariables false
set_option maxRecDepth 4000
set_option maxHeartbeats 64000000
namespace Go.Proofs.YtmelpobcpcmdoaaGreat
open Go Go.SL Go.Proofs
variable [Base]
theorem sp_rbremove (F H : Heap) (b : Nat) (B : Bk) (hH : RbH b B H) (hw : BW B) (t i : Int) :
    Sp Tryz.prog F 69 [.pointer (some ⟨b, 0, none⟩), .int .i64 t, .int .i64 i] H (fun v h' => v = .tuple #[ov (bremove t i B).1, .bool (bremove t i B).2.1] ∧ RbH b (bremove t i B).2.2 h') := by
  refine Sp.up ?_
  refine sp_of_codeR Tryz.func69 rfl rfl ?_
  (refine run_seq ?_; refine run_region ?_; refine runL_alloc rfl rfl rfl rfl rfl ze35 (fun _ => ?_); refine xep rfl rfl ?_; refine runL_nil ?_; refine then_normal ?_; (iterate 2 refine run_seq ?_); refine run_region ?_; refine xep rfl rfl ?_; refine runL_nil ?_; refine then_normal ?_; refine run_block ?_)
  rename_i b6
  refine run_loopK (σ := Nat × Heap) [0, 1, 2, 6, 13] (fun s => [(0, .pointer (some ⟨b, 0, none⟩)), (1, .int .i64 t), (2, .int .i64 i), (6, .pointer (some ⟨b6, 0, none⟩)), (13, .int .i64 s.1)]) (fun s => blk b6 o0.cells 35 :: s.2)
    (fun s => s.1 ≤ 3 ∧ RbH b B s.2 ∧ (1 < s.1 → findL t i B.buys = none) ∧ (2 < s.1 → findL t i B.sells = none)) (fun s => 3 - s.1) (0, H) ⟨Nat.zero_le _, hH, fun h => absurd h (by show ¬ 1 < 0; decide), fun h => absurd h (by show ¬ 2 < 0; decide)⟩ rfl (fun _ => rfl) ?_
  clear hH
  rintro ⟨j, H⟩ ⟨hj, hH, hf1, hf2⟩
  dsimp only at hj hH hf1 hf2 ⊢
  (refine run_seq ?_; refine run_region ?_; refine xep rfl rfl ?_; refine runL_nil ?_; refine then_normal ?_; refine run_seq ?_)
  (refine run_cond rfl (fun hc => ?_) (fun hc => ?_) <;> (try simp only [z0, z1, z2, z3, z4, z5, z6, z7, z8, z9, Bool.not_true, Bool.not_false, Bool.false_or, Bool.true_and, true_and, and_true, false_or, or_false, reduceCtorEq, Bool.false_eq_true] at hc))
  · obtain ⟨cc, v, H0, H1, hc5, g1, hS, hp, hback, hput⟩ := hH.side3 (j := j) (by omega)
    obtain ⟨hok, h64⟩ := hw.side (j : Int)
    have gl := lenL_ge hok
    have hB : ∀ k o, findL t i (B.side j) = some (k, o) → findB t i B = some ((j : Int), k, o) := fun k o hk => findB_of (by omega) hf1 hk
    have hfb : ∀ (hn : findL t i (B.side j) = none), (1 < j + 1 → findL t i B.buys = none) ∧ (2 < j + 1 → findL t i B.sells = none) := by
      intro hn
      rcases (by omega : j = 0 ∨ j = 1 ∨ j = 2) with rfl | rfl | rfl
      · exact ⟨fun h => absurd h (by decide), fun h => absurd h (by decide)⟩
      · exact ⟨fun _ => hn, fun h => absurd h (by decide)⟩
      · exact ⟨fun _ => hf1 (by decide), fun _ => hn⟩
    have hj12 : 0 < (B.side j).length → j = 1 ∨ j = 2 := by
      intro h9
      rcases (by omega : j = 0 ∨ j = 1 ∨ j = 2) with rfl | h8
      · exact absurd h9 (by show ¬ 0 < ([] : List Lv).length; decide)
      · exact h8
    have hbl0 : ∀ k o lv, findB t i B = some ((j : Int), k, o) → (B.side j)[k]? = some lv → bremove t i B = ((lrem t i lv.es).1, (lrem t i lv.es).2.1, B.put j (if (lrem t i lv.es).2.2 = [] then (B.side j).eraseIdx k else (B.side j).set k ⟨lv.p, (lrem t i lv.es).2.2⟩)) := by
      intro k o lv h1 h2
      unfold bremove; rw [h1]; simp only [h2]
    generalize hl : B.side (j : Int) = l at *
    obtain ⟨a, cap, bs, A, L, rfl, own, hL, rfl⟩ := hS
    have hck : l.length ≤ cap := by
      obtain ⟨_, _, hv, h2⟩ := own.form
      cases hv; exact h2
    refine RunC.perm (h' := blk b cc 60 :: blk b6 o0.cells 35 :: (A ++ (L ++ H1))) (fun x => by
      have h1 := hp x
      simp only [List.append_eq, cnt_append, cnt_cons, cnt_nil, blk] at h1 ⊢
      omega) ?_
    (refine run_skip ?_; refine then_normal ?_; refine run_seq ?_; refine run_block ?_; refine run_seq ?_; refine run_region ?_; (iterate 2 refine xep rfl rfl ?_); refine runL_nil ?_; refine then_normal ?_; refine run_seq ?_; refine run_region ?_; (iterate 3 refine xep rfl rfl ?_); refine xel rfl (ev_fieldAddr rfl rfl (fo rfl)) ?_; refine xel rfl (ev_indexAddrA rfl rfl rfl (ar rfl) (by omega) (by omega)) ?_; refine xel rfl (ev_load rfl rfl (sc rfl) (memF (.head _)) g1) ?_; refine xel rfl (ev_len rfl rfl (se rfl)) ?_; refine xep rfl rfl ?_; refine runL_nil ?_; refine then_normal ?_; refine run_block ?_)
    refine run_loopK (σ := Nat × Heap) [0, 1, 2, 6, 8, 13, 21, 22, 23] (fun s => [(0, .pointer (some ⟨b, 0, none⟩)), (1, .int .i64 t), (2, .int .i64 i), (6, .pointer (some ⟨b6, 0, none⟩)), (8, .int .i64 j), (13, .int .i64 j), (21, .slice a l.length cap), (22, .int .i64 l.length), (23, .int .i64 s.1)]) (fun s => blk b cc 60 :: blk b6 o0.cells 35 :: (A ++ (s.2 ++ H1)))
      (fun s => s.1 ≤ l.length ∧ RvsH bs l s.2 ∧ ∀ (r : Nat) y, r < s.1 → l[r]? = some y → (y.es.map (·.o)).find? (isO t i) = none) (fun s => l.length - s.1) (0, L) ⟨Nat.zero_le _, hL, fun r y h => absurd h (Nat.not_lt_zero _)⟩ rfl (fun _ => rfl) ?_
    have g0 := g1
    clear hL g1
    rintro ⟨k, L⟩ ⟨gk, hL, hk⟩
    dsimp only at gk hL hk ⊢
    have hbl := hL.len
    (refine run_seq ?_; refine run_region ?_; refine xep rfl rfl ?_; refine runL_nil ?_; refine then_normal ?_; refine run_seq ?_)
    (refine run_cond rfl (fun hc => ?_) (fun hc => ?_) <;> (try simp only [z0, z1, z2, z3, z4, z5, z6, z7, z8, z9, Bool.not_true, Bool.not_false, Bool.false_or, Bool.true_and, true_and, and_true, false_or, or_false, reduceCtorEq, Bool.false_eq_true] at hc))
    · obtain ⟨lv, hlv⟩ : ∃ lv, l[k]? = some lv := ⟨l[k]'(by omega), List.getElem?_eq_getElem _⟩
      obtain ⟨bi, hbi⟩ : ∃ bi, bs[k]? = some bi := ⟨bs[k]'(by omega), List.getElem?_eq_getElem _⟩
      have hlok := hok lv (List.mem_of_getElem? hlv)
      have hlb := hlok.1.1
      obtain ⟨G1, G2, hG1, hpG, hset, G3, hG3, hpG3⟩ := hL.out hbi hlv
      obtain ⟨ba, rest, cap', hv, hA, hl2, hr2, hk2⟩ := own.pos (by omega)
      cases hv
      have g1 : (rows pc bs ++ rest)[0 + (k : Int).toNat * 1]? = some (.pointer (some ⟨bi, 0, none⟩)) := by
        have := (rows_at pc_len hbi rest).get (k := 0) (v := .pointer (some ⟨bi, 0, none⟩)) rfl
        rw [Int.toNat_natCast, Nat.zero_add]; exact this
      rw [hA] at *
      refine RunC.perm (h' := blk b cc 60 :: blk ba (rows pc bs ++ rest) 97 :: (G1 ++ (G2 ++ (blk b6 o0.cells 35 :: H1)))) (fun x => by
        have h1 := hpG x
        simp only [List.append_eq, cnt_append, cnt_cons, cnt_nil, blk] at h1 ⊢
        omega) ?_
      (refine run_skip ?_; refine then_normal ?_; refine run_seq ?_; refine run_block ?_; refine run_seq ?_; refine run_region ?_; refine xep rfl rfl ?_; refine xel rfl (ev_indexAddr rfl rfl rfl (se rfl) (by omega) (by omega)) ?_; refine xel rfl (ev_load rfl rfl (sc rfl) (memF (.tail _ (.head _))) g1) ?_; (iterate 2 refine xep rfl rfl ?_); refine runL_nil ?_; refine then_normal ?_; refine run_seq ?_; refine run_region ?_; (iterate 3 refine xep rfl rfl ?_))
      refine runL_callZ (blk b cc 60 :: blk ba (rows pc bs ++ rest) 97 :: (G2 ++ (blk b6 o0.cells 35 :: H1))) G1 rfl rfl rfl rfl rfl rfl rfl (pf rfl) (fun x => by (first | rfl | (simp only [List.append_eq, cnt_append, cnt_cons, cnt_nil, blk]; omega) | (simp only [List.append_eq, cnt_append, cnt_cons, cnt_nil, blk]; done))) (sp_rremove _ G1 bi lv.p lv.es hG1 hlb t i) ?_
      rintro v G1' ⟨rfl, hG1'⟩
      obtain ⟨L', hL', hpL⟩ := hset lv.p (lrem t i lv.es).2.2 G1' hG1'
      generalize hR : lrem t i lv.es = R at *
      obtain ⟨o2, is, es2⟩ := R
      dsimp only at hG1' hL' hpL ⊢
      ((iterate 3 refine xep rfl rfl ?_); refine runL_alloc rfl rfl rfl rfl rfl ze35 (fun _ => ?_); refine runL_store0 rfl rfl rfl rfl rfl (sz rfl) rfl rfl rfl rfl rfl ?_; refine xep rfl rfl ?_; refine runL_nil ?_; refine then_normal ?_; refine run_seq ?_; refine run_region ?_; refine xep rfl rfl ?_; refine runL_nil ?_; refine then_normal ?_)
      rename_i b11
      cases hf : (lv.es.map (·.o)).find? (isO t i) with
      | none =>
        have hno := lrem_none (find_none_is hf)
        rw [hR] at hno
        simp only [Prod.mk.injEq] at hno
        obtain ⟨rfl, rfl, rfl⟩ := hno
        have e : l.set k ⟨lv.p, lv.es⟩ = l := by
          have hv := (List.getElem?_eq_some_iff.1 hlv).2
          have : (⟨lv.p, lv.es⟩ : Lv) = l[k]'(by omega) := hv.symm
          rw [this, List.set_getElem_self]
        rw [e] at hL'
        refine run_condF rfl rfl ?_
        (refine run_skip ?_; refine in_normal ?_; refine then_normal ?_; refine run_region ?_; refine xel rfl (ev_add rfl rfl rfl (by omega)) ?_; refine xep rfl rfl ?_; refine runL_nil ?_; refine then_normal ?_)
        refine ⟨(k + 1, L'), ⟨by show k + 1 ≤ _; omega, hL', fun r y hr hy => ?_⟩, by show l.length - (k + 1) < l.length - k; omega, rfl, [blk b11 o0.cells 35], fun x => by
          have h1 := hpL x
          simp only [List.append_eq, cnt_append, cnt_cons, cnt_nil, blk, Ord.cells, o0] at h1 ⊢
          omega⟩
        by_cases e : r = k
        · subst e; rw [hlv] at hy; cases hy; exact hf
        · exact hk r y (by have : r < k + 1 := hr; omega) hy
      | some o =>
        have hfb2 := hB k o (findL_here hlv hf hk)
        have hbe := hbl0 k o lv hfb2 hlv
        have htr := lrem_true hf
        rw [hR] at hbe htr
        dsimp only at hbe htr
        subst htr
        rw [hbe]
        dsimp only
        refine run_condT rfl rfl ?_
        obtain ⟨a3, c3, A3, own3, rfl⟩ := hG1'
        refine RunC.perm (h' := blk bi [.int .i64 lv.p, .slice a3 es2.length c3] 100 :: blk b11 o2.cells 35 :: blk b6 o0.cells 35 :: (blk b cc 60 :: blk ba (rows pc bs ++ rest) 97 :: (G2 ++ H1 ++ A3))) (fun x => by
          show cnt x (blk b11 o2.cells 35 :: _) = _
          (first | rfl | (simp only [List.append_eq, cnt_append, cnt_cons, cnt_nil, blk]; omega) | (simp only [List.append_eq, cnt_append, cnt_cons, cnt_nil, blk]; done))) ?_
        have src := own.src (H := [blk ba (rows pc bs ++ rest) 97]) fun x m => m
        ((iterate 2 refine run_seq ?_); refine run_region ?_; (iterate 2 refine xep rfl rfl ?_); refine xel rfl (ev_fieldAddr rfl rfl (fo rfl)) ?_; refine xel rfl (ev_loadK rfl rfl (sc rfl) (memF (.head _)) rfl) ?_; refine xel rfl (ev_len rfl rfl (se rfl)) ?_; refine xep rfl rfl ?_; refine runL_nil ?_; refine then_normal ?_)
        by_cases he : es2 = []
        · rw [if_pos he] at hbe ⊢
          refine run_condT rfl (by rw [he]; rfl) ?_
          skip
          obtain ⟨BB, hBB⟩ : ∃ BB, BB = blk b cc 60 :: blk bi [.int .i64 lv.p, .slice a3 es2.length c3] 100 :: blk b11 o2.cells 35 :: blk b6 o0.cells 35 :: (blk ba (rows pc bs ++ rest) 97 :: (G2 ++ H1 ++ A3)) := ⟨_, rfl⟩
          refine RunC.perm (h' := [] ++ BB) (fun x => by rw [hBB]; (first | rfl | (simp only [List.append_eq, cnt_append, cnt_cons, cnt_nil, blk]; omega) | (simp only [List.append_eq, cnt_append, cnt_cons, cnt_nil, blk]; done))) ?_
          have l1 : LoadsF (BB ++ F) b (0 + (j : Int).toNat * 1) (.slice (some ⟨ba, 0, none⟩) l.length cap) := ⟨_, _, _, by rw [hBB]; exact memF (.head _), by rw [← Nat.zero_add (0 + (j : Int).toNat * 1), ← Nat.add_assoc]; exact g0⟩
          have src2 := src.mono (H' := BB ++ F) fun x m => by simp at m; rw [hBB]; simp [m]
          have s1 := src2.take (k := k) (by omega)
          rw [rows_take pc_len _ (by omega)] at s1
          have s2 := src2.drop (k := k + 1) (cap := cap) (by omega) hck
          rw [rows_drop pc_len _ (by omega)] at s2
          have hel : (l.eraseIdx k).length = l.length - 1 := by rw [List.length_eraseIdx_of_lt (by omega)]
          have heb : bs.take k ++ bs.drop (k + 1) = bs.eraseIdx k := by rw [List.eraseIdx_eq_take_drop_succ]
          refine run_region_D6 (σ := Option Addr × Nat × Heap) 24 2 [6, 8, 11] (fun s => [(63, .slice s.1 (l.eraseIdx k).length s.2.1), (65, .pointer (some ⟨b, 0 + 0, none⟩)), (43, .int .i64 j)]) (fun s => s.2.2) (fun s => OwnS 97 1 (.slice s.1 (l.eraseIdx k).length s.2.1) (l.eraseIdx k).length (rows pc (bs.eraseIdx k)) s.2.2) mo rfl (by kernel_rfl) rfl ?_ ?_
          · (refine runD_q 0 rfl rfl (by kernel_rfl) ?_; refine ⟨_, fun _ => ev_pure rfl, ?_⟩; refine runD_q 1 rfl rfl (by kernel_rfl) ?_; refine ⟨_, fun _ => ev_pure rfl, ?_⟩; refine runD_q 3 rfl rfl (by kernel_rfl) ?_; refine ⟨_, fun _ => ev_pure rfl, ?_⟩; refine runD_q 4 rfl rfl (by kernel_rfl) ?_; refine ⟨_, fun _ => ev_pure rfl, ?_⟩; refine runD_q 5 rfl rfl (by kernel_rfl) ?_; refine ⟨_, fun _ => ev_pure rfl, ?_⟩; refine runD_q 6 rfl rfl (by kernel_rfl) ?_; refine ⟨_, fun _ => ev_fieldAddr rfl rfl (fo rfl), ?_⟩; refine runD_q 7 rfl rfl (by kernel_rfl) ?_; refine ⟨_, fun _ => ev_indexAddrA rfl rfl rfl (ar rfl) (by omega) (by omega), ?_⟩; refine runD_q 8 rfl rfl (by kernel_rfl) ?_; refine ⟨_, fun _ => ev_loadF rfl rfl (sc rfl) l1, ?_⟩; refine runD_q 9 rfl rfl (by kernel_rfl) ?_; refine ⟨_, fun _ => ev_pure rfl, ?_⟩; refine runD_q 10 rfl rfl (by kernel_rfl) ?_; refine ⟨_, fun _ => ev_sliceHi rfl rfl rfl (se rfl) (by omega) (by omega), ?_⟩; refine runD_q 12 rfl rfl (by kernel_rfl) ?_; refine ⟨_, fun _ => ev_pure rfl, ?_⟩; refine runD_q 13 rfl rfl (by kernel_rfl) ?_; refine ⟨_, fun _ => ev_pure rfl, ?_⟩; refine runD_q 14 rfl rfl (by kernel_rfl) ?_; refine ⟨_, fun _ => ev_pure rfl, ?_⟩; refine runD_q 15 rfl rfl (by kernel_rfl) ?_; refine ⟨_, fun _ => ev_fieldAddr rfl rfl (fo rfl), ?_⟩; refine runD_q 16 rfl rfl (by kernel_rfl) ?_; refine ⟨_, fun _ => ev_indexAddrA rfl rfl rfl (ar rfl) (by omega) (by omega), ?_⟩; refine runD_q 17 rfl rfl (by kernel_rfl) ?_; refine ⟨_, fun _ => ev_loadF rfl rfl (sc rfl) l1, ?_⟩; refine runD_q 18 rfl rfl (by kernel_rfl) ?_; refine ⟨_, fun _ => ev_pure rfl, ?_⟩; refine runD_q 19 rfl rfl (by kernel_rfl) ?_; refine ⟨_, fun _ => ev_add rfl rfl rfl (by omega), ?_⟩; refine runD_q 20 rfl rfl (by kernel_rfl) ?_; refine ⟨_, fun _ => ev_sliceLo rfl rfl rfl (se rfl) (by omega) (by omega), ?_⟩; refine runD_q 22 rfl rfl (by kernel_rfl) ?_; refine ⟨_, fun _ => ev_pure rfl, ?_⟩; refine runD_q 23 rfl rfl (by kernel_rfl) ?_; refine ⟨_, fun _ => ev_fieldAddr rfl rfl (fo rfl), ?_⟩; refine runD_1 2 (by kernel_rfl) rfl rfl rfl ?_)
            refine runL_buildSlice (n := 1) (l := []) rfl rfl rfl rfl rfl (se rfl) ze97 rfl rfl rfl rfl rfl (fun b5 => ?_)
            (refine runL_nil ?_; refine endS_d rfl ?_; refine runD_1 11 (by kernel_rfl) rfl rfl rfl ?_)
            refine runL_append (sl := rows pc (bs.take k)) [] rfl rfl rfl rfl rfl rfl rfl (se rfl) (se rfl) ze97 rfl (byt rfl) (OwnS.lit (l := []) rfl) (fun y => by (first | rfl | (simp only [List.append_eq, cnt_append, cnt_cons, cnt_nil, blk]; omega) | (simp only [List.append_eq, cnt_append, cnt_cons, cnt_nil, blk]; done))) (s1.mono fun x m => by simp [m]) (rows_cells pc_cells _) (by decide) (by decide) (by simp only [Int.toNat_natCast]; omega) ?_
            rintro v' A' own'
            obtain ⟨a6, c6, rfl, own6⟩ := own'.at
            (refine runL_nil ?_; refine endS_d rfl ?_; refine runD_1 21 (by kernel_rfl) rfl rfl rfl ?_)
            refine runL_append (sl := rows pc (bs.drop (k + 1))) [] rfl rfl rfl rfl rfl rfl rfl (se rfl) (se rfl) ze97 rfl (byt rfl) own6 (fun y => by (first | rfl | (simp only [List.append_eq, cnt_append, cnt_cons, cnt_nil, blk]; omega) | (simp only [List.append_eq, cnt_append, cnt_cons, cnt_nil, blk]; done))) (s2.mono fun x m => by simp [m]) (rows_cells pc_cells _) (by decide) (by decide) (by simp only [Int.toNat_natCast]; omega) ?_
            rintro v' A'' own''
            rw [List.nil_append, ← rows_append, heb, show 0 + (k : Int).toNat + (l.length - ((k : Int) + 1).toNat) = (l.eraseIdx k).length by rw [hel]; omega] at own''
            obtain ⟨a7, c7, rfl, own7⟩ := own''.at
            (refine runL_nil ?_; refine endS_d rfl ?_; refine runD_done (by kernel_rfl) ?_)
            exact midX (a7, c7, A'') own7 rfl (fun y => by (first | rfl | (simp only [List.append_eq, cnt_append, cnt_cons, cnt_nil, blk]; omega) | (simp only [List.append_eq, cnt_append, cnt_cons, cnt_nil, blk]; done)))
          · rintro ⟨a7, c7, A7⟩ own7
            dsimp only at own7 ⊢
            subst hBB
            obtain ⟨H', hH', hp'⟩ := hput (hj12 (by omega)) (.slice a7 (l.eraseIdx k).length c7) (l.eraseIdx k) (A7 ++ G3) ⟨a7, c7, _, A7, G3, rfl, own7, hG3, rfl⟩
            refine RunD.same (M' := [] ++ blk b cc 60 :: (blk bi [.int .i64 lv.p, .slice a3 es2.length c3] 100 :: blk b11 o2.cells 35 :: blk b6 o0.cells 35 :: (blk ba (rows pc bs ++ rest) 97 :: (G2 ++ H1 ++ A3 ++ A7)))) (fun _ _ h => h) (fun x => by (first | rfl | (simp only [List.append_eq, cnt_append, cnt_cons, cnt_nil, blk]; omega) | (simp only [List.append_eq, cnt_append, cnt_cons, cnt_nil, blk]; done))) ?_
            (refine runD_q 24 rfl rfl (by kernel_rfl) ?_; refine ⟨_, fun _ => ev_indexAddrA rfl rfl rfl (ar rfl) (by omega) (by omega), ?_⟩; refine runD_1 25 (by kernel_rfl) rfl rfl rfl ?_)
            refine runL_store (c := cc) (l := [.slice a7 (l.eraseIdx k).length c7]) [] (blk bi [.int .i64 lv.p, .slice a3 es2.length c3] 100 :: blk b11 o2.cells 35 :: blk b6 o0.cells 35 :: (blk ba (rows pc bs ++ rest) 97 :: (G2 ++ H1 ++ A3 ++ A7))) rfl rfl rfl rfl rfl (sz rfl) rfl rfl rfl (by rw [hc5]; show 0 + 0 + (j : Int).toNat * 1 + 1 ≤ 5; omega) rfl ?_
            rw [show 0 + 0 + (j : Int).toNat * 1 = j by rw [Int.toNat_natCast]; omega]
            (refine runL_nil ?_; refine endS_n rfl ?_; refine runD_done (by kernel_rfl) ?_; refine then_normal ?_; refine run_seq ?_; refine run_region ?_; refine xel rfl (ev_loadAK rfl rfl (ag rfl) (sz rfl) (memF (.tail _ (.tail _ (.head _)))) rfl) ?_; refine runL_store3 rfl rfl rfl rfl rfl (sz rfl) rfl rfl rfl rfl rfl ?_; refine xep rfl rfl ?_; refine runL_nil ?_; refine then_normal ?_; refine run_ret ?_; refine in_ret ?_; (iterate 2 refine then_ret ?_); (iterate 2 refine in_ret ?_); (iterate 2 refine then_ret ?_); refine in_ret ?_; refine then_ret ?_)
            refine ⟨_, .agg rfl (memF (.tail _ (.tail _ (.tail _ (.head _))))) (ag rfl) (sz rfl) rfl (.tmp rfl .nil), H', blk bi [.int .i64 lv.p, .slice a3 es2.length c3] 100 :: blk b11 o2.cells 35 :: blk b6 o2.cells 35 :: blk ba (rows pc bs ++ rest) 97 :: A3, ⟨rfl, hH'⟩, fun x => ?_⟩
            have h1 := hp' x
            have h2 := hpG3 x
            simp only [List.append_eq, cnt_append, cnt_cons, cnt_nil, blk, Ord.cells, List.length_singleton, List.nil_append] at h1 h2 ⊢
            omega
        · rw [if_neg he] at hbe ⊢
          refine run_condF rfl (decide_eq_false (fun h9 => he (List.eq_nil_of_length_eq_zero (by omega)))) ?_
          have hcc := put_same g0
          obtain ⟨H', hH', hp'⟩ := hput (hj12 (by omega)) (.slice (some ⟨ba, 0, none⟩) l.length cap) (l.set k ⟨lv.p, es2⟩) ([blk ba (rows pc bs ++ rest) 97] ++ L') ⟨some ⟨ba, 0, none⟩, cap, bs, _, L', by rw [List.length_set], by rw [List.length_set]; exact own, hL', rfl⟩
          rw [hcc] at hp'
          (refine run_skip ?_; refine then_normal ?_; refine run_seq ?_; refine run_region ?_; refine xel rfl (ev_loadAK rfl rfl (ag rfl) (sz rfl) (memF (.tail _ (.head _))) rfl) ?_; refine runL_store2 rfl rfl rfl rfl rfl (sz rfl) rfl rfl rfl rfl rfl ?_; refine xep rfl rfl ?_; refine runL_nil ?_; refine then_normal ?_; refine run_ret ?_; refine in_ret ?_; (iterate 2 refine then_ret ?_); (iterate 2 refine in_ret ?_); (iterate 2 refine then_ret ?_); refine in_ret ?_; refine then_ret ?_)
          refine ⟨_, .agg rfl (memF (.tail _ (.tail _ (.head _)))) (ag rfl) (sz rfl) rfl (.tmp rfl .nil), H', blk b11 o2.cells 35 :: [blk b6 o2.cells 35], ⟨rfl, hH'⟩, fun x => ?_⟩
          have h1 := hp' x
          have h2 := hpL x
          simp only [List.append_eq, cnt_append, cnt_cons, cnt_nil, blk, Ord.cells] at h1 h2 ⊢
          omega
    · have : k = l.length := by omega
      subst this
      have hno := findL_no fun j y hy => hk j y ((List.getElem?_eq_some_iff.1 hy).1) hy
      obtain ⟨H', hH', hp'⟩ := hback (A ++ L) ⟨a, cap, bs, A, L, rfl, own, hL, rfl⟩
      (refine run_exit ?_; (iterate 2 refine then_exit ?_); refine in_exit ?_; refine in_normal ?_; refine then_normal ?_)
      (refine run_region ?_; refine xel rfl (ev_add rfl rfl rfl (by omega)) ?_; refine xep rfl rfl ?_; refine runL_nil ?_; refine then_normal ?_)
      exact ⟨(j + 1, H'), ⟨by show j + 1 ≤ 3; omega, hH', (hfb hno).1, (hfb hno).2⟩, by show 3 - (j + 1) < 3 - j; omega, rfl, [], fun x => by
        have h1 := hp' x
        simp only [List.append_eq, cnt_append, cnt_cons, cnt_nil, blk] at h1 ⊢
        omega⟩
  · have : j = 3 := by omega
    subst this
    (refine run_exit ?_; (iterate 2 refine then_exit ?_); refine in_exit ?_; refine then_normal ?_)
    (refine run_seq ?_; refine run_region ?_; refine xel rfl (ev_build rfl pl35 rfl) ?_; refine runL_store0 rfl rfl rfl rfl rfl (sz rfl) rfl rfl rfl rfl rfl ?_; refine xep rfl rfl ?_; refine runL_nil ?_; refine then_normal ?_; refine run_ret ?_)
    have hfn : findB t i B = none := by unfold findB; rw [hf1 (by omega), hf2 (by omega)]
    have e : bremove t i B = (o0, false, B) := by unfold bremove; rw [hfn]
    rw [e]
    exact ⟨_, .agg rfl (memF (.head _)) (ag rfl) (sz rfl) rfl (.tmp rfl .nil), H, [blk b6 o0.cells 35], ⟨rfl, hH⟩, fun x => by (simp only [List.append_eq, cnt_append, cnt_cons, cnt_nil, blk, Ord.cells, ec, hcell, o0]; omega)⟩
end Go.Proofs.YtmelpobcpcmdoaaGreat

set_option autoImplicit false
set_option linter.unusedSectionVars false
set_option linter.unusedSimpArgs false
set_option linter.unusedVariables false
set_option maxRecDepth 4000
set_option maxHeartbeats 16000000
namespace Go.Proofs.YtmelpobcpcmdoaaGreat
open Go Go.SL Go.Proofs
/-- A trade. -/
structure Fl where
  (maker taker : Ord)
  (price qty no : Int)
def fcell (f : Fl) : List Value := [.int .i64 f.maker.trader, .int .i64 f.maker.id, .int .i64 f.maker.firm, .int .i64 f.maker.side, .int .i64 f.maker.kind, .int .i64 f.maker.price, .int .i64 f.maker.qty, .int .i64 f.maker.show_, .int .i64 f.maker.stop,
  .int .i64 f.taker.trader, .int .i64 f.taker.id, .int .i64 f.taker.firm, .int .i64 f.taker.side, .int .i64 f.taker.kind, .int .i64 f.taker.price, .int .i64 f.taker.qty, .int .i64 f.taker.show_, .int .i64 f.taker.stop, .int .i64 f.price, .int .i64 f.qty, .int .i64 f.no]
theorem fcell_len (f : Fl) : (fcell f).length = 21 := rfl
def sumH : List (Ord × Int) → Int
  | [] => 0
  | h :: l => h.2 + sumH l
theorem sumH_append (l m : List (Ord × Int)) : sumH (l ++ m) = sumH l + sumH m := by
  induction l with
  | nil => simp [sumH]
  | cons x l ih => simp only [List.cons_append, sumH, ih]; omega
/-- The trades that hits make. -/
def flls (o : Ord) (p : Int) : Int → List (Ord × Int) → List Fl
  | _, [] => []
  | no, h :: r => ⟨h.1, o, p, h.2, no + 1⟩ :: flls (wq o (o.qty - h.2)) p (no + 1) r
theorem wq_wq (o : Ord) (a b : Int) : wq (wq o a) b = wq o b := rfl
theorem flls_len (o : Ord) (p no : Int) (l : List (Ord × Int)) : (flls o p no l).length = l.length := by
  induction l generalizing o no with
  | nil => rfl
  | cons h r ih => simp only [flls, List.length_cons, ih]
theorem flls_snoc (o : Ord) (p no : Int) (l : List (Ord × Int)) (h : Ord × Int) : flls o p no (l ++ [h]) = flls o p no l ++ [⟨h.1, wq o (o.qty - sumH l), p, h.2, no + l.length + 1⟩] := by
  induction l generalizing o no with
  | nil => simp only [List.nil_append, flls, sumH, Int.sub_zero, List.length_nil, Int.natCast_zero, Int.add_zero]; rfl
  | cons a r ih =>
    simp only [List.cons_append, flls, ih, sumH, List.length_cons, wq_wq]
    congr 3
    rw [show (wq o (o.qty - a.2)).qty = o.qty - a.2 from rfl]
    congr 1
    · congr 1; omega
    · push_cast; omega
structure MR where
  fs : List Fl
  qty : Int
  self : Bool
  lvs : List Lv
  last : Int
  no : Int
def MR.pre (out : List Fl) (m : MR) : MR := ⟨out ++ m.fs, m.qty, m.self, m.lvs, m.last, m.no⟩
/-- What a book's side gives to an order. -/
def matchL : Ord → List Lv → Int → Int → MR
  | o, [], last, no => ⟨[], o.qty, false, [], last, no⟩
  | o, lv :: r, last, no =>
    if 0 < o.qty ∧ crosses o lv.p = true then
      if (take o.firm o.qty lv.es).2.1 = true then
        ⟨flls o lv.p no (take o.firm o.qty lv.es).1, o.qty - sumH (take o.firm o.qty lv.es).1, true, (if (take o.firm o.qty lv.es).2.2 = [] then r else ⟨lv.p, (take o.firm o.qty lv.es).2.2⟩ :: r),
          (if (take o.firm o.qty lv.es).1 = [] then last else lv.p), no + (take o.firm o.qty lv.es).1.length⟩
      else if (take o.firm o.qty lv.es).2.2 = [] then
        (matchL (wq o (o.qty - sumH (take o.firm o.qty lv.es).1)) r (if (take o.firm o.qty lv.es).1 = [] then last else lv.p) (no + (take o.firm o.qty lv.es).1.length)).pre (flls o lv.p no (take o.firm o.qty lv.es).1)
      else
        ⟨flls o lv.p no (take o.firm o.qty lv.es).1, o.qty - sumH (take o.firm o.qty lv.es).1, false, ⟨lv.p, (take o.firm o.qty lv.es).2.2⟩ :: r, (if (take o.firm o.qty lv.es).1 = [] then last else lv.p), no + (take o.firm o.qty lv.es).1.length⟩
    else ⟨[], o.qty, false, lv :: r, last, no⟩
/-- What is so of every take. -/
structure TakeIs (firm q : Int) (es : List Ent) (r : List (Ord × Int) × Bool × List Ent) : Prop where
  hits : ∀ h ∈ r.1, 1 ≤ h.2 ∧ h.2 ≤ h.1.qty ∧ h.1.firm ≠ firm
  sum : sumE (fun x => x.o.qty) es = sumH r.1 + sumE (fun x => x.o.qty) r.2.2
  le : 0 ≤ sumH r.1 ∧ sumH r.1 ≤ q
  num : (r.1.length : Int) ≤ sumH r.1
  own : r.2.1 = true → ∃ e l, r.2.2 = e :: l ∧ e.o.firm = firm ∧ sumH r.1 < q
  all : r.2.1 = false → sumH r.1 = q ∨ r.2.2 = []
  lb : LB r.2.2
  len : r.2.2.length ≤ es.length
variable [Base]
theorem take_is {firm : Int} (k : Nat) : ∀ (q : Int) (es : List Ent), q.toNat ≤ k → 0 ≤ q → LB es → TakeIs firm q es (take firm q es) := by
  induction k with
  | zero =>
    intro q es hk hq hb
    have : q = 0 := by omega
    subst this
    rw [take_le (by omega)]
    exact ⟨fun h m => (nomatch m), by simp [sumH], by simp [sumH], by simp [sumH], fun h => (nomatch h), fun _ => .inl rfl, hb, Nat.le_refl _⟩
  | succ k ih =>
    intro q es hk hq hb
    by_cases h0 : 0 < q
    · cases es with
      | nil => rw [take_nil]; exact ⟨fun h m => (nomatch m), by simp [sumH], by simp [sumH]; omega, by simp [sumH], fun h => (nomatch h), fun _ => .inr rfl, hb, Nat.le_refl _⟩
      | cons e l =>
        have he := hb.2 e (by simp)
        by_cases hf : e.o.firm = firm
        · rw [take_own h0 hf]
          exact ⟨fun h m => (nomatch m), by simp [sumH], by simp [sumH]; omega, by simp [sumH], fun _ => ⟨e, l, rfl, hf, by simpa [sumH] using h0⟩, fun h => (nomatch h), hb, Nat.le_refl _⟩
        · rw [take_cons h0 hf he.2.2.1]
          have hg := giveE_LB (n := min q e.seen) hb (by omega) (by omega)
          obtain ⟨i1, i2, i3, i3b, i4, i5, i6, i7⟩ := ih (q - min q e.seen) (giveE e l (min q e.seen)) (by omega) (by omega) hg.1
          rw [giveE_sum (by omega) (by omega)] at i2
          refine ⟨fun h m => ?_, ?_, ?_, ?_, fun h => ?_, fun h => ?_, i6, ?_⟩
          · rcases List.mem_cons.1 m with rfl | m
            · dsimp only; exact ⟨by omega, by omega, hf⟩
            · exact i1 h m
          · simp only [sumE, sumH]; omega
          · simp only [sumH]; omega
          · simp only [sumH, List.length_cons]; push_cast; omega
          · obtain ⟨e2, l2, h1, h2, h3⟩ := i4 h
            exact ⟨e2, l2, h1, h2, by simp only [sumH]; omega⟩
          · rcases i5 h with h1 | h1
            · exact .inl (by simp only [sumH]; omega)
            · exact .inr h1
          · exact Nat.le_trans i7 hg.2
    · have : q = 0 := by omega
      subst this
      rw [take_le (by omega)]
      exact ⟨fun h m => (nomatch m), by simp [sumH], by simp [sumH], by simp [sumH], fun h => (nomatch h), fun _ => .inl rfl, hb, Nat.le_refl _⟩
theorem sumH_take {l : List (Ord × Int)} {i : Nat} {x : Ord × Int} (h : l[i]? = some x) : sumH (l.take (i + 1)) = sumH (l.take i) + x.2 := by
  have hi := (List.getElem?_eq_some_iff.1 h).1
  rw [List.take_succ_eq_append_getElem hi, sumH_append, (List.getElem?_eq_some_iff.1 h).2]; simp [sumH]
theorem sumH_part {l : List (Ord × Int)} (h : ∀ x ∈ l, 1 ≤ x.2) (i : Nat) : 0 ≤ sumH (l.take i) ∧ sumH (l.take i) ≤ sumH l := by
  have pos : ∀ m : List (Ord × Int), (∀ x ∈ m, 1 ≤ x.2) → 0 ≤ sumH m := by
    intro m hm
    induction m with
    | nil => exact Int.le_refl _
    | cons y m ih =>
      have h1 := ih fun z hz => hm z (List.mem_cons_of_mem _ hz)
      have h2 := hm y (List.mem_cons_self ..)
      simp only [sumH]; omega
  have e : sumH l = sumH (l.take i) + sumH (l.drop i) := by rw [← sumH_append, List.take_append_drop]
  have h1 := pos (l.take i) fun x m => h x (List.mem_of_mem_take m)
  have h2 := pos (l.drop i) fun x m => h x (List.mem_of_mem_drop m)
  omega
theorem matchL_zero (o : Ord) (l : List Lv) (last no : Int) (h : ¬ 0 < o.qty) : matchL o l last no = ⟨[], o.qty, false, l, last, no⟩ := by
  cases l with
  | nil => rfl
  | cons lv r => unfold matchL; rw [if_neg (fun h9 => h h9.1)]
end Go.Proofs.YtmelpobcpcmdoaaGreat
