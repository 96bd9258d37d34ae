/- Contracts of functions of the given program over its translation, each proved by walking its text; used by the laws' rows. It proves no given statement by itself. -/
import Derived.Test.YtfhpoagnfmgfkaaSLBk3
set_option autoImplicit false
set_option linter.unusedSectionVars false
set_option linter.unusedSimpArgs false
set_option linter.unusedVariables false
set_option maxRecDepth 4000
set_option maxHeartbeats 16000000
namespace Go.Proofs.Ytfhpoagnfmgfkaa
open Go Go.SL Go.Proofs
def bfind (t i : Int) (B : Bk) : Ord × Bool := match findB t i B with
  | some (_, _, o) => (o, true)
  | none => (o0, false)
theorem findB_side {t i : Int} {B : Bk} {s : Int} {k : Nat} {o : Ord} (h : findB t i B = some (s, k, o)) : s = 1 ∨ s = 2 := by
  unfold findB at h
  split at h
  · cases h; exact .inl rfl
  · split at h
    · cases h; exact .inr rfl
    · cases h
/-- What a removal tells, and leaves. -/
def bremove (t i : Int) (B : Bk) : Ord × Bool × Bk := match findB t i B with
  | none => (o0, false, B)
  | some (s, k, _) => match (B.side s)[k]? with
    | none => (o0, false, B)
    | some lv => ((lrem t i lv.es).1, (lrem t i lv.es).2.1, B.put s (if (lrem t i lv.es).2.2 = [] then (B.side s).eraseIdx k else (B.side s).set k ⟨lv.p, (lrem t i lv.es).2.2⟩))
theorem findL_get {t i : Int} : ∀ {l : List Lv} {k : Nat} {o : Ord}, findL t i l = some (k, o) → ∃ lv, l[k]? = some lv ∧ (lv.es.map (·.o)).find? (isO t i) = some o
  | [], _, _, h => by cases h
  | a :: l, k, o, h => by
    unfold findL at h
    rw [show (fun o : Ord => decide (o.trader = t) && decide (o.id = i)) = isO t i from rfl] at h
    split at h
    · rename_i x hx
      cases h
      exact ⟨a, rfl, hx⟩
    · split at h
      · rename_i k' o' hk
        cases h
        obtain ⟨lv, h1, h2⟩ := findL_get hk
        exact ⟨lv, by simpa using h1, h2⟩
      · cases h
theorem findB_get {t i : Int} {B : Bk} {s : Int} {k : Nat} {o : Ord} (h : findB t i B = some (s, k, o)) : ∃ lv, (B.side s)[k]? = some lv ∧ (lv.es.map (·.o)).find? (isO t i) = some o := by
  unfold findB at h
  split at h
  · rename_i k' o' hk
    cases h; exact findL_get hk
  · split at h
    · rename_i k' o' hk
      cases h; exact findL_get hk
    · cases h
variable [Base]
theorem sp_bFind (F : Heap) (b : Nat) (B : Bk) (h : BkIn F b B) (hw : BW B) (t i : Int) :
    Sp Try.prog F 30 [.pointer (some ⟨b, 0, none⟩), .int .i64 t, .int .i64 i] [] (Ret (.tuple #[ov (bfind t i B).1, .bool (bfind t i B).2])) := by
  have q1 := fun G : Heap => sp_bfind (G ++ F) b B h.up hw t i
  unfold bfind
  cases hf : findB t i B with
  | none =>
    rw [hf] at q1
    refine sp_of_codeR Try.func30 rfl rfl ?_
    (refine run_seq ?_; refine run_region ?_; refine runL_alloc rfl rfl rfl rfl rfl ze24 (fun _ => ?_); refine xep rfl rfl ?_; refine runL_nil ?_; refine then_normal ?_; refine run_seq ?_; refine run_region ?_; (iterate 3 refine xep rfl rfl ?_); refine xel rfl (ev_callQ rfl rfl rfl (pf rfl) (q1 ..)) ?_; (iterate 4 refine xep rfl rfl ?_); refine runL_alloc rfl rfl rfl rfl rfl ze24 (fun _ => ?_); (iterate 2 refine xep rfl rfl ?_); refine runL_store0 rfl rfl rfl rfl rfl (sz rfl) rfl rfl rfl rfl rfl ?_; refine runL_nil ?_; refine then_normal ?_; refine run_seq ?_; refine run_region ?_; refine xel rfl (ev_loadAK rfl rfl (ag rfl) (sz rfl) (memF (.head _)) rfl) ?_; refine xep rfl rfl ?_; refine xel rfl (ev_neqNil rfl rfl rfl (pt rfl)) ?_; refine runL_store1 rfl rfl rfl rfl rfl (sz rfl) rfl rfl rfl rfl rfl ?_; refine xep rfl rfl ?_; refine runL_nil ?_; refine then_normal ?_; refine run_ret ?_)
    rename_i b6 b10
    exact ⟨_, .agg rfl (memF (.tail _ (.head _))) (ag rfl) (sz rfl) rfl (.tmp rfl .nil), rfl⟩
  | some r =>
    obtain ⟨s, k, o⟩ := r
    rw [hf] at q1
    have q2 : ∀ G : Heap, Sp Try.prog (G ++ F) 49 [.pointer (some ⟨b, 0, none⟩), .int .i64 t, .int .i64 i] [] (Ret (.tuple #[.pointer (some ⟨b, (s - 1).toNat, none⟩), .int .i64 k, ov o])) := by
      intro G
      have := q1 G
      rcases findB_side hf with rfl | rfl <;> exact this
    clear q1
    refine sp_of_codeR Try.func30 rfl rfl ?_
    (refine run_seq ?_; refine run_region ?_; refine runL_alloc rfl rfl rfl rfl rfl ze24 (fun _ => ?_); refine xep rfl rfl ?_; refine runL_nil ?_; refine then_normal ?_; refine run_seq ?_; refine run_region ?_; (iterate 3 refine xep rfl rfl ?_); refine xel rfl (ev_callQ rfl rfl rfl (pf rfl) (q2 ..)) ?_; (iterate 4 refine xep rfl rfl ?_); refine runL_alloc rfl rfl rfl rfl rfl ze24 (fun _ => ?_); (iterate 2 refine xep rfl rfl ?_); refine runL_store0 rfl rfl rfl rfl rfl (sz rfl) rfl rfl rfl rfl rfl ?_; refine runL_nil ?_; refine then_normal ?_; refine run_seq ?_; refine run_region ?_; refine xel rfl (ev_loadAK rfl rfl (ag rfl) (sz rfl) (memF (.head _)) rfl) ?_; refine xep rfl rfl ?_; refine xel rfl (ev_neqNil rfl rfl rfl (pt rfl)) ?_; refine runL_store1 rfl rfl rfl rfl rfl (sz rfl) rfl rfl rfl rfl rfl ?_; refine xep rfl rfl ?_; refine runL_nil ?_; refine then_normal ?_; refine run_ret ?_)
    rename_i b6 b10
    exact ⟨_, .agg rfl (memF (.tail _ (.head _))) (ag rfl) (sz rfl) rfl (.tmp rfl .nil), rfl⟩
/-- A side, its level at hand. -/
theorem SdH.open {v : Value} {l : List Lv} {H : Heap} {k : Nat} {lv : Lv} (h : SdH v l H) (hk : l[k]? = some lv) : ∃ ba c cap bi H1 H2, v = .slice (some ⟨ba, 0, none⟩) l.length cap ∧ l.length ≤ cap ∧ c[0 + (k : Int).toNat * 1]? = some (.pointer (some ⟨bi, 0, none⟩)) ∧ LvH bi lv.p lv.es H1 ∧
    (∀ x, cnt x H = cnt x (blk ba c 81 :: (H1 ++ H2))) ∧ ∀ p es' H1', LvH bi p es' H1' → ∃ H', SdH v (l.set k ⟨p, es'⟩) H' ∧ ∀ x, cnt x H' = cnt x (blk ba c 81 :: (H1' ++ H2)) := by
  obtain ⟨a, cap, bs, A, L, rfl, own, hL, rfl⟩ := h
  have hlt := (List.getElem?_eq_some_iff.1 hk).1
  have hlen := hL.len
  have hb : bs[k]? = some (bs[k]'(by omega)) := List.getElem?_eq_getElem (by omega)
  obtain ⟨H1, H2, h1, hp, hs, -⟩ := hL.out hb hk
  have own0 := own
  obtain ⟨ba, rest, cap', hv, rfl, hl2, hr2, hk2⟩ := own.pos (by omega)
  cases hv
  refine ⟨ba, rows pc bs ++ rest, cap, bs[k], H1, H2, rfl, hk2, ?_, h1, fun x => ?_, fun p es' H1' h' => ?_⟩
  · have := (rows_at pc_len hb rest).get (k := 0) (v := .pointer (some ⟨bs[k], 0, none⟩)) rfl
    rw [Int.toNat_natCast, Nat.zero_add]; exact this
  · rw [List.cons_append, cnt_cons, cnt_cons, List.nil_append, hp x]
  · obtain ⟨H', h1', hp'⟩ := hs p es' H1' h'
    refine ⟨[blk ba (rows pc bs ++ rest) 81] ++ H', ⟨some ⟨ba, 0, none⟩, cap, bs, _, H', by rw [List.length_set], by rw [List.length_set]; exact own0, h1', rfl⟩, fun x => ?_⟩
    rw [List.cons_append, cnt_cons, cnt_cons, List.nil_append, hp' x]
theorem SdH.lt {v : Value} {l : List Lv} {H : Heap} (h : SdH v l H) : ∃ a cap, v = .slice a l.length cap ∧ l.length ≤ cap := by
  obtain ⟨a, cap, bs, A, L, rfl, own, hL, rfl⟩ := h
  obtain ⟨_, _, hv, h2⟩ := own.form
  cases hv; exact ⟨a, cap, rfl, h2⟩
theorem sp_swept1 (F H1 H2 : Heap) (b : Nat) (w v : Value) (last no : Int) (l : List Lv) (h : SdH v l H1) (hl : l.length ≤ 65536) (k : Nat) (lv : Lv) (hk : l[k]? = some lv) :
    Sp Try.prog F 55 [.pointer (some ⟨b, 0, none⟩), .int .i64 k] (blk b [v,w, .int .i64 last, .int .i64 no] 84 :: (H1 ++ H2)) (fun _ h' => ∃ v' H1', SdH v' (if lv.es = [] then l.eraseIdx k else l) H1' ∧ h' = blk b [v',w, .int .i64 last, .int .i64 no] 84 :: (H1' ++ H2)) := by
  have hlt := (List.getElem?_eq_some_iff.1 hk).1
  have h0 := h
  obtain ⟨a, cap, bs, A, L, rfl, own, hL, rfl⟩ := h
  have hlen := hL.len
  have hb : bs[k]? = some (bs[k]'(by omega)) := List.getElem?_eq_getElem (by omega)
  have hin := hL.in (F := (blk b [.slice a l.length cap,w, .int .i64 last, .int .i64 no] 84 :: (A ++ L ++ H2)) ++ F) fun x m => by simp [m]
  obtain ⟨ba, rest, cap', hv, hA, hl2, hr2, hk2⟩ := own.pos (by omega)
  cases hv
  have g1 : (rows pc bs ++ rest)[0 + (k : Int).toNat * 1]? = some (.pointer (some ⟨bs[k], 0, none⟩)) := by
    have := (rows_at pc_len hb rest).get (k := 0) (v := .pointer (some ⟨bs[k], 0, none⟩)) rfl
    rw [Int.toNat_natCast, Nat.zero_add]; exact this
  rw [hA] at hin ⊢
  refine Sp.up ?_
  refine Sp.perm (h' := blk b [.slice (some ⟨ba, 0, none⟩) l.length cap,w, .int .i64 last, .int .i64 no] 84 :: blk ba (rows pc bs ++ rest) 81 :: (L ++ H2)) (fun x => by (first | rfl | (simp only [List.append_eq, cnt_append, cnt_cons, cnt_nil, blk]; omega) | (simp only [List.append_eq, cnt_append, cnt_cons, cnt_nil, blk]; done))) ?_
  refine sp_of_code Try.func55 rfl rfl ?_
  (refine run_seq ?_; refine run_region ?_; (iterate 2 refine xep rfl rfl ?_); refine xel rfl (ev_loadK rfl rfl (sc rfl) (memF (.head _)) rfl) ?_; refine xep rfl rfl ?_; refine xel rfl (ev_indexAddr rfl rfl rfl (se rfl) (by omega) (by omega)) ?_; refine xel rfl (ev_load rfl rfl (sc rfl) (memF (.tail _ (.head _))) g1) ?_)
  refine runL_ev rfl rfl rfl rfl (ev_callQ rfl rfl rfl (pf rfl) (sp_llen _ bs[k] lv.p lv.es ((hin.2 k _ lv hb hk).mono fun x m => by simpa using m))) ?_
  (refine xep rfl rfl ?_; refine runL_nil ?_; refine then_normal ?_)
  (refine run_cond rfl (fun hc => ?_) (fun hc => ?_) <;> (try simp only [z0, z1, z2, z3, z4, z5, z6, z7, z8, z9, Bool.not_true, Bool.not_false, Bool.false_or, Bool.true_and, true_and, and_true, false_or, or_false, reduceCtorEq, Bool.false_eq_true] at hc))
  · have hes : lv.es = [] := List.eq_nil_of_length_eq_zero (by omega)
    rw [if_pos hes]
    obtain ⟨G1, G2, g0, gp, -, G3, ge, gq⟩ := hL.out hb hk
    (refine run_region ?_; (iterate 3 refine xep rfl rfl ?_); refine xel rfl (ev_loadK rfl rfl (sc rfl) (memF (.head _)) rfl) ?_; (iterate 2 refine xep rfl rfl ?_); refine xel rfl (ev_add rfl rfl rfl (by omega)) ?_)
    refine runL_callZ (blk b [.slice (some ⟨ba, 0, none⟩) l.length cap,w, .int .i64 last, .int .i64 no] 84 :: (L ++ H2)) A rfl rfl rfl rfl rfl rfl rfl (pf rfl) (fun x => by rw [hA]; (first | rfl | (simp only [List.append_eq, cnt_append, cnt_cons, cnt_nil, blk]; omega) | (simp only [List.append_eq, cnt_append, cnt_cons, cnt_nil, blk]; done))) (sp_delLvl _ A _ _ _ _ own (rows_cells pc_cells _) k (k + 1) (by omega) (by omega)) ?_
    rintro v A' own'
    have e1 : (rows pc bs).take (k * 1) ++ (rows pc bs).drop ((k + 1) * 1) = rows pc (bs.eraseIdx k) := by
      rw [rows_take pc_len _ (by omega), rows_drop pc_len _ (by omega), ← rows_append, List.eraseIdx_eq_take_drop_succ]
    have e2 : l.length - (k + 1 - k) = (l.eraseIdx k).length := by rw [List.length_eraseIdx_of_lt hlt]; omega
    rw [e1, e2] at own'
    obtain ⟨a5, c5, rfl, own5⟩ := own'.at
    (refine xep rfl rfl ?_; refine runL_store0 rfl rfl rfl rfl rfl (sz rfl) rfl rfl rfl rfl rfl ?_; refine runL_nil ?_)
    exact ⟨_, rfl, _, G1, ⟨_, A' ++ G3, ⟨a5, c5, _, A', G3, rfl, own5, ge, rfl⟩, rfl⟩, fun x => by
      have h1 := gp x
      have h2 := gq x
      simp only [List.append_eq, cnt_append, cnt_cons, cnt_nil, blk] at h1 h2 ⊢; omega⟩
  · have hes : lv.es ≠ [] := fun e => by rw [e] at hc; exact hc rfl
    rw [if_neg hes]
    (refine run_skip ?_)
    exact ⟨_, rfl, _, [], ⟨_, _, h0, rfl⟩, fun x => by rw [hA]; (first | rfl | (simp only [List.append_eq, cnt_append, cnt_cons, cnt_nil, blk]; omega) | (simp only [List.append_eq, cnt_append, cnt_cons, cnt_nil, blk]; done))⟩
theorem sp_swept2 (F H1 H2 : Heap) (b : Nat) (w v : Value) (last no : Int) (l : List Lv) (h : SdH v l H1) (hl : l.length ≤ 65536) (k : Nat) (lv : Lv) (hk : l[k]? = some lv) :
    Sp Try.prog F 55 [.pointer (some ⟨b, 1, none⟩), .int .i64 k] (blk b [w,v, .int .i64 last, .int .i64 no] 84 :: (H1 ++ H2)) (fun _ h' => ∃ v' H1', SdH v' (if lv.es = [] then l.eraseIdx k else l) H1' ∧ h' = blk b [w,v', .int .i64 last, .int .i64 no] 84 :: (H1' ++ H2)) := by
  have hlt := (List.getElem?_eq_some_iff.1 hk).1
  have h0 := h
  obtain ⟨a, cap, bs, A, L, rfl, own, hL, rfl⟩ := h
  have hlen := hL.len
  have hb : bs[k]? = some (bs[k]'(by omega)) := List.getElem?_eq_getElem (by omega)
  have hin := hL.in (F := (blk b [w,.slice a l.length cap, .int .i64 last, .int .i64 no] 84 :: (A ++ L ++ H2)) ++ F) fun x m => by simp [m]
  obtain ⟨ba, rest, cap', hv, hA, hl2, hr2, hk2⟩ := own.pos (by omega)
  cases hv
  have g1 : (rows pc bs ++ rest)[0 + (k : Int).toNat * 1]? = some (.pointer (some ⟨bs[k], 0, none⟩)) := by
    have := (rows_at pc_len hb rest).get (k := 0) (v := .pointer (some ⟨bs[k], 0, none⟩)) rfl
    rw [Int.toNat_natCast, Nat.zero_add]; exact this
  rw [hA] at hin ⊢
  refine Sp.up ?_
  refine Sp.perm (h' := blk b [w,.slice (some ⟨ba, 0, none⟩) l.length cap, .int .i64 last, .int .i64 no] 84 :: blk ba (rows pc bs ++ rest) 81 :: (L ++ H2)) (fun x => by (first | rfl | (simp only [List.append_eq, cnt_append, cnt_cons, cnt_nil, blk]; omega) | (simp only [List.append_eq, cnt_append, cnt_cons, cnt_nil, blk]; done))) ?_
  refine sp_of_code Try.func55 rfl rfl ?_
  (refine run_seq ?_; refine run_region ?_; (iterate 2 refine xep rfl rfl ?_); refine xel rfl (ev_loadK rfl rfl (sc rfl) (memF (.head _)) rfl) ?_; refine xep rfl rfl ?_; refine xel rfl (ev_indexAddr rfl rfl rfl (se rfl) (by omega) (by omega)) ?_; refine xel rfl (ev_load rfl rfl (sc rfl) (memF (.tail _ (.head _))) g1) ?_)
  refine runL_ev rfl rfl rfl rfl (ev_callQ rfl rfl rfl (pf rfl) (sp_llen _ bs[k] lv.p lv.es ((hin.2 k _ lv hb hk).mono fun x m => by simpa using m))) ?_
  (refine xep rfl rfl ?_; refine runL_nil ?_; refine then_normal ?_)
  (refine run_cond rfl (fun hc => ?_) (fun hc => ?_) <;> (try simp only [z0, z1, z2, z3, z4, z5, z6, z7, z8, z9, Bool.not_true, Bool.not_false, Bool.false_or, Bool.true_and, true_and, and_true, false_or, or_false, reduceCtorEq, Bool.false_eq_true] at hc))
  · have hes : lv.es = [] := List.eq_nil_of_length_eq_zero (by omega)
    rw [if_pos hes]
    obtain ⟨G1, G2, g0, gp, -, G3, ge, gq⟩ := hL.out hb hk
    (refine run_region ?_; (iterate 3 refine xep rfl rfl ?_); refine xel rfl (ev_loadK rfl rfl (sc rfl) (memF (.head _)) rfl) ?_; (iterate 2 refine xep rfl rfl ?_); refine xel rfl (ev_add rfl rfl rfl (by omega)) ?_)
    refine runL_callZ (blk b [w,.slice (some ⟨ba, 0, none⟩) l.length cap, .int .i64 last, .int .i64 no] 84 :: (L ++ H2)) A rfl rfl rfl rfl rfl rfl rfl (pf rfl) (fun x => by rw [hA]; (first | rfl | (simp only [List.append_eq, cnt_append, cnt_cons, cnt_nil, blk]; omega) | (simp only [List.append_eq, cnt_append, cnt_cons, cnt_nil, blk]; done))) (sp_delLvl _ A _ _ _ _ own (rows_cells pc_cells _) k (k + 1) (by omega) (by omega)) ?_
    rintro v A' own'
    have e1 : (rows pc bs).take (k * 1) ++ (rows pc bs).drop ((k + 1) * 1) = rows pc (bs.eraseIdx k) := by
      rw [rows_take pc_len _ (by omega), rows_drop pc_len _ (by omega), ← rows_append, List.eraseIdx_eq_take_drop_succ]
    have e2 : l.length - (k + 1 - k) = (l.eraseIdx k).length := by rw [List.length_eraseIdx_of_lt hlt]; omega
    rw [e1, e2] at own'
    obtain ⟨a5, c5, rfl, own5⟩ := own'.at
    (refine xep rfl rfl ?_; refine runL_store0 rfl rfl rfl rfl rfl (sz rfl) rfl rfl rfl rfl rfl ?_; refine runL_nil ?_)
    exact ⟨_, rfl, _, G1, ⟨_, A' ++ G3, ⟨a5, c5, _, A', G3, rfl, own5, ge, rfl⟩, rfl⟩, fun x => by
      have h1 := gp x
      have h2 := gq x
      simp only [List.append_eq, cnt_append, cnt_cons, cnt_nil, blk] at h1 h2 ⊢; omega⟩
  · have hes : lv.es ≠ [] := fun e => by rw [e] at hc; exact hc rfl
    rw [if_neg hes]
    (refine run_skip ?_)
    exact ⟨_, rfl, _, [], ⟨_, _, h0, rfl⟩, fun x => by rw [hA]; (first | rfl | (simp only [List.append_eq, cnt_append, cnt_cons, cnt_nil, blk]; omega) | (simp only [List.append_eq, cnt_append, cnt_cons, cnt_nil, blk]; done))⟩
end Go.Proofs.Ytfhpoagnfmgfkaa
