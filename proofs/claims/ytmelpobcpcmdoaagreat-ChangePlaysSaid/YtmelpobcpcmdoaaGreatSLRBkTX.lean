/- Contracts of functions of the given program over its translation, each proved by walking its text; used by the laws' rows. It proves no given statement by itself. -/
import Derived.Test.YtmelpobcpcmdoaaGreatSLRLvlX
import Derived.Test.YtmelpobcpcmdoaaGreatSLOrdBX
set_option autoImplicit false
set_option linter.unusedSectionVars false
set_option linter.unusedSimpArgs false
set_option linter.unusedVariables false
set_option maxRecDepth 4000
namespace Go.Proofs.YtmelpobcpcmdoaaGreat
open Go Go.SL Go.Proofs
variable [Base]
/-! The document's book: as the book's own, with its levels. -/
def RvsH : List Nat → List Lv → Heap → Prop
  | [], [], H => H = []
  | b :: bs, lv :: l, H => ∃ H1 H2, RvH b lv.p lv.es H1 ∧ RvsH bs l H2 ∧ H = H1 ++ H2
  | [], _ :: _, _ => False
  | _ :: _, [], _ => False
def RvsIn (F : Heap) (bs : List Nat) (l : List Lv) : Prop := bs.length = l.length ∧ ∀ (i : Nat) (b : Nat) (lv : Lv), bs[i]? = some b → l[i]? = some lv → RvIn F b lv.p lv.es
theorem RvsH.len : ∀ {bs : List Nat} {l : List Lv} {H : Heap}, RvsH bs l H → bs.length = l.length
  | [], [], _, _ => rfl
  | _ :: bs, _ :: l, _, ⟨_, _, _, h, _⟩ => by simp only [List.length_cons, h.len]
theorem RvsH.in : ∀ {bs : List Nat} {l : List Lv} {H F : Heap}, RvsH bs l H → (∀ x ∈ H, x ∈ F) → RvsIn F bs l
  | [], [], _, _, _, _ => ⟨rfl, fun i b lv h => by simp at h⟩
  | b :: bs, lv :: l, _, F, ⟨H1, H2, h1, h2, rfl⟩, hF => by
    have ih := h2.in (F := F) fun x m => hF x (List.mem_append_right _ m)
    refine ⟨by simp only [List.length_cons, ih.1], fun i b' lv' hb hl => ?_⟩
    cases i with
    | zero =>
      simp only [List.getElem?_cons_zero, Option.some.injEq] at hb hl
      subst hb; subst hl
      exact h1.in fun x m => hF x (List.mem_append_left _ m)
    | succ i =>
      simp only [List.getElem?_cons_succ] at hb hl
      exact ih.2 i b' lv' hb hl
theorem RvsIn.mono {F F' : Heap} {bs : List Nat} {l : List Lv} (h : RvsIn F bs l) (hF : ∀ x ∈ F, x ∈ F') : RvsIn F' bs l := ⟨h.1, fun i b lv hb hl => (h.2 i b lv hb hl).mono hF⟩
/-- One level out of all. -/
theorem RvsH.out : ∀ {bs : List Nat} {l : List Lv} {H : Heap} {k b : Nat} {lv : Lv}, RvsH bs l H → bs[k]? = some b → l[k]? = some lv → ∃ H1 H2, RvH b lv.p lv.es H1 ∧ (∀ x, cnt x H = cnt x (H1 ++ H2)) ∧
    (∀ p es' H1', RvH b p es' H1' → ∃ H', RvsH bs (l.set k ⟨p, es'⟩) H' ∧ ∀ x, cnt x H' = cnt x (H1' ++ H2)) ∧ ∃ H', RvsH (bs.eraseIdx k) (l.eraseIdx k) H' ∧ ∀ x, cnt x H' = cnt x H2
  | _ :: bs, _ :: l, _, 0, b, lv, ⟨H1, H2, h1, h2, rfl⟩, hb, hl => by
    simp only [List.getElem?_cons_zero, Option.some.injEq] at hb hl
    subst hb; subst hl
    exact ⟨H1, H2, h1, fun _ => rfl, fun p es' H1' h => ⟨H1' ++ H2, ⟨H1', H2, h, h2, rfl⟩, fun _ => rfl⟩, H2, h2, fun _ => rfl⟩
  | b0 :: bs, lv0 :: l, _, k + 1, b, lv, ⟨H1, H2, h1, h2, rfl⟩, hb, hl => by
    simp only [List.getElem?_cons_succ] at hb hl
    obtain ⟨G1, G2, g1, gp, gs, G3, ge, gq⟩ := h2.out hb hl
    refine ⟨G1, H1 ++ G2, g1, fun x => ?_, fun p es' H1' h => ?_, H1 ++ G3, ⟨H1, G3, h1, ge, rfl⟩, fun x => ?_⟩
    · rw [cnt_append, gp x, cnt_append, cnt_append, cnt_append]; omega
    · obtain ⟨H', h', hp⟩ := gs p es' H1' h
      refine ⟨H1 ++ H', ⟨H1, H', h1, h', rfl⟩, fun x => ?_⟩
      rw [cnt_append, hp x, cnt_append, cnt_append, cnt_append]; omega
    · rw [cnt_append, cnt_append, gq x]
/-- One level more. -/
theorem RvsH.ins : ∀ {bs : List Nat} {l : List Lv} {H : Heap} (k : Nat) {b : Nat} {lv : Lv} {H1 : Heap}, RvsH bs l H → k ≤ l.length → RvH b lv.p lv.es H1 → ∃ H', RvsH (bs.take k ++ b :: bs.drop k) (l.take k ++ lv :: l.drop k) H' ∧ ∀ x, cnt x H' = cnt x (H1 ++ H)
  | bs, l, H, 0, b, lv, H1, h, _, h1 => ⟨H1 ++ H, ⟨H1, H, h1, h, rfl⟩, fun _ => rfl⟩
  | b0 :: bs, lv0 :: l, _, k + 1, b, lv, H1, ⟨G1, G2, g1, g2, rfl⟩, hk, h1 => by
    obtain ⟨H', h', hp⟩ := g2.ins k (by simpa using hk) h1
    refine ⟨G1 ++ H', ⟨G1, H', g1, h', rfl⟩, fun x => ?_⟩
    rw [cnt_append, hp x, cnt_append, cnt_append, cnt_append]; omega
  | [], [], _, k + 1, _, _, _, _, hk, _ => by simp at hk
def RsH (v : Value) (l : List Lv) (H : Heap) : Prop := ∃ a cap bs A L, v = .slice a l.length cap ∧ OwnS 97 1 (.slice a l.length cap) l.length (rows pc bs) A ∧ RvsH bs l L ∧ H = A ++ L
def RsIn (F : Heap) (v : Value) (l : List Lv) : Prop := ∃ a cap bs, l.length ≤ cap ∧ v = .slice a l.length cap ∧ SrcIs F a l.length 1 (rows pc bs) ∧ RvsIn F bs l
def RbH (b : Nat) (B : Bk) (H : Heap) : Prop := ∃ v0 v1 H0 H1, RsH v0 B.buys H0 ∧ RsH v1 B.sells H1 ∧ H = blk b [.slice none 0 0, v0, v1, .int .i64 B.last, .int .i64 B.no] 60 :: (H0 ++ H1)
def RbIn (F : Heap) (b : Nat) (B : Bk) : Prop := ∃ v0 v1, RsIn F v0 B.buys ∧ RsIn F v1 B.sells ∧ blk b [.slice none 0 0, v0, v1, .int .i64 B.last, .int .i64 B.no] 60 ∈ F
theorem RsH.in {v : Value} {l : List Lv} {H F : Heap} (h : RsH v l H) (hF : ∀ x ∈ H, x ∈ F) : RsIn F v l := by
  obtain ⟨a, cap, bs, A, L, rfl, own, hL, rfl⟩ := h
  have hc : l.length ≤ cap := by
    obtain ⟨_, _, hv, h2⟩ := own.form
    cases hv; exact h2
  exact ⟨a, cap, bs, hc, rfl, own.src fun x m => hF x (List.mem_append_left _ m), hL.in fun x m => hF x (List.mem_append_right _ m)⟩
theorem RbH.in {b : Nat} {B : Bk} {H F : Heap} (h : RbH b B H) (hF : ∀ x ∈ H, x ∈ F) : RbIn F b B := by
  obtain ⟨v0, v1, H0, H1, h0, h1, rfl⟩ := h
  exact ⟨v0, v1, h0.in fun x m => hF x (.tail _ (List.mem_append_left _ m)), h1.in fun x m => hF x (.tail _ (List.mem_append_right _ m)), hF _ (.head _)⟩
theorem RsIn.mono {F F' : Heap} {v : Value} {l : List Lv} (h : RsIn F v l) (hF : ∀ x ∈ F, x ∈ F') : RsIn F' v l := by
  obtain ⟨a, cap, bs, hc, h1, h2, h3⟩ := h
  exact ⟨a, cap, bs, hc, h1, h2.mono hF, h3.mono hF⟩
theorem RbIn.mono {F F' : Heap} {b : Nat} {B : Bk} (h : RbIn F b B) (hF : ∀ x ∈ F, x ∈ F') : RbIn F' b B := by
  obtain ⟨v0, v1, h0, h1, h2⟩ := h
  exact ⟨v0, v1, h0.mono hF, h1.mono hF, hF _ h2⟩
theorem RbIn.up {F A : Heap} {b : Nat} {B : Bk} (h : RbIn F b B) : RbIn (A ++ F) b B := h.mono fun x m => List.mem_append_right _ m
/-- A side's level, by its place. -/
theorem RsIn.level {F : Heap} {a : Option Addr} {n cap : Nat} {l : List Lv} {bs : List Nat} (hs : SrcIs F a l.length 1 (rows pc bs)) (hl : RvsIn F bs l) {i : Nat} (hi : i < l.length) : ∃ b off bi lv, a = some ⟨b, off, none⟩ ∧ l[i]? = some lv ∧ LoadsF F b (off + i * 1) (.pointer (some ⟨bi, 0, none⟩)) ∧ RvIn F bi lv.p lv.es := by
  obtain ⟨b, off, _, _, _, rfl, _⟩ := hs.pos (by omega)
  have hb : i < bs.length := by rw [hl.1]; exact hi
  have h1 : bs[i]? = some bs[i] := List.getElem?_eq_getElem hb
  have h2 : l[i]? = some l[i] := List.getElem?_eq_getElem hi
  have l0 := SrcIs.row pc_len hs hl.1 h1
  exact ⟨b, off, bs[i], l[i], rfl, h2, l0.at 0 _ rfl, hl.2 i _ _ h1 h2⟩
end Go.Proofs.YtmelpobcpcmdoaaGreat

set_option autoImplicit false
set_option linter.unusedSectionVars false
set_option linter.unusedSimpArgs false
set_option linter.unusedVariables false
set_option maxRecDepth 4000
set_option maxHeartbeats 8000000
namespace Go.Proofs.YtmelpobcpcmdoaaGreat
open Go Go.SL Go.Proofs
variable [Base]
theorem sp_bnew (F : Heap) : Sp Tryz.prog F 20 [] [] (fun v h' => ∃ b, v = .pointer (some ⟨b, 0, none⟩) ∧ BkH b empty h') := by
  refine sp_of_code Tryz.func20 rfl rfl ?_
  (refine run_seq ?_; refine run_region ?_; refine xep rfl rfl ?_; refine runL_nil ?_; refine then_normal ?_; refine run_seq ?_; refine run_region ?_; refine xel rfl (ev_build rfl pl90 rfl) ?_; refine runL_box rfl rfl rfl rfl rfl rfl (fun _ => ?_); refine xep rfl rfl ?_; refine runL_nil ?_; refine then_normal ?_; refine run_ret ?_)
  exact ⟨_, rfl, _, rfl, .slice none 0 0, .slice none 0 0, [], [], ⟨none, 0, [], [], [], rfl, .nil _ _, rfl, rfl⟩, ⟨none, 0, [], [], [], rfl, .nil _ _, rfl, rfl⟩, rfl⟩
/-- A side's place within a book; no place: there is none. -/
def sideV (b : Nat) (s : Int) : Value := if s = 1 then .pointer (some ⟨b, 0, none⟩) else if s = 2 then .pointer (some ⟨b, 1, none⟩) else .pointer none
theorem sp_bside (F : Heap) (b : Nat) (s : Int) : Sp Tryz.prog F 71 [.pointer (some ⟨b, 0, none⟩), .int .i64 s] [] (Ret (sideV b s)) := by
  refine sp_of_code Tryz.func71 rfl rfl ?_
  (refine run_seq ?_; refine run_region ?_; refine xep rfl rfl ?_; refine runL_nil ?_; refine then_normal ?_; (iterate 2 refine run_seq ?_); refine run_region ?_; (iterate 3 refine xep rfl rfl ?_); (iterate 2 refine xgp rfl rfl rfl ?_); refine xep rfl rfl ?_; refine runL_nil ?_; refine then_normal ?_)
  (refine run_cond rfl (fun hc => ?_) (fun hc => ?_) <;> (try simp only [z0, z1, z2, z3, z4, z5, z6, z7, z8, z9, Bool.not_true, Bool.not_false, Bool.false_or, Bool.true_and, true_and, and_true, false_or, or_false, reduceCtorEq, Bool.false_eq_true] at hc))
  · (refine run_seq ?_; refine run_region ?_; refine xep rfl rfl ?_; refine runL_nil ?_; refine then_normal ?_; refine run_ret ?_; refine then_ret ?_)
    refine ⟨_, rfl, ?_⟩
    unfold sideV; rw [if_neg (by omega), if_neg (by omega)]; rfl
  · rcases (by omega : s = 1 ∨ s = 2) with rfl | rfl
    · (refine run_skip ?_; refine then_normal ?_; refine run_seq ?_; refine run_region ?_; (iterate 2 refine xep rfl rfl ?_); refine xel rfl (ev_sub rfl rfl rfl (by omega)) ?_; refine xep rfl rfl ?_; refine xel rfl (ev_fieldAddr rfl rfl (fo rfl)) ?_; refine xel rfl (ev_indexAddrA rfl rfl rfl (ar rfl) (by omega) (by omega)) ?_; refine xep rfl rfl ?_; refine runL_nil ?_; refine then_normal ?_; refine run_ret ?_)
      exact ⟨_, rfl, rfl⟩
    · (refine run_skip ?_; refine then_normal ?_; refine run_seq ?_; refine run_region ?_; (iterate 2 refine xep rfl rfl ?_); refine xel rfl (ev_sub rfl rfl rfl (by omega)) ?_; refine xep rfl rfl ?_; refine xel rfl (ev_fieldAddr rfl rfl (fo rfl)) ?_; refine xel rfl (ev_indexAddrA rfl rfl rfl (ar rfl) (by omega) (by omega)) ?_; refine xep rfl rfl ?_; refine runL_nil ?_; refine then_normal ?_; refine run_ret ?_)
      exact ⟨_, rfl, rfl⟩
theorem sp_bagainst (F : Heap) (b : Nat) (o : Ord) (h : o.side = 1 ∨ o.side = 2) : Sp Tryz.prog F 89 [.pointer (some ⟨b, 0, none⟩), ov o] [] (Ret (sideV b (3 - o.side))) := by
  have q1 := fun F => sp_bside F b (3 - o.side)
  refine sp_of_code Tryz.func89 rfl rfl ?_
  (refine run_seq ?_; refine run_region ?_; refine runL_box rfl rfl rfl rfl rfl rfl (fun _ => ?_); refine xep rfl rfl ?_; refine runL_nil ?_; refine then_normal ?_; refine run_seq ?_; refine run_region ?_; refine xep rfl rfl ?_; refine xel rfl (ev_fieldAddr rfl rfl (fo rfl)) ?_; refine xel rfl (ev_loadK rfl rfl (sc rfl) (memF (.head _)) rfl) ?_; refine xel rfl (ev_sub rfl rfl rfl (by omega)) ?_; refine xel rfl (ev_callQ rfl rfl rfl (pf rfl) (q1 ..)) ?_; refine xep rfl rfl ?_; refine runL_nil ?_; refine then_normal ?_; refine run_ret ?_)
  exact ⟨_, rfl, rfl⟩
def rests (o : Ord) : Bool := decide (o.kind = 1) || decide (o.kind = 5)
theorem sp_brests (F : Heap) (o : Ord) : Sp Tryz.prog F 78 [ov o] [] (Ret (.bool (rests o))) := by
  refine sp_of_code Tryz.func78 rfl rfl ?_
  (refine run_seq ?_; refine run_region ?_; refine runL_box rfl rfl rfl rfl rfl rfl (fun _ => ?_); refine xep rfl rfl ?_; refine runL_nil ?_; refine then_normal ?_; refine run_seq ?_; refine run_region ?_; refine xel rfl (ev_fieldAddr rfl rfl (fo rfl)) ?_; refine xel rfl (ev_loadK rfl rfl (sc rfl) (memF (.head _)) rfl) ?_; (iterate 2 refine xep rfl rfl ?_); refine xgl rfl rfl (fun hq => ev_fieldAddr rfl rfl (fo rfl)) ?_; refine xgl rfl rfl (fun hq => ev_loadK rfl rfl (sc rfl) (memF (.head _)) rfl) ?_; refine xgp rfl rfl rfl ?_; (iterate 2 refine xep rfl rfl ?_); refine runL_nil ?_; refine then_normal ?_; refine run_ret ?_)
  exact ⟨_, rfl, rfl⟩
theorem sp_blast (F : Heap) (b : Nat) (B : Bk) (h : BkIn F b B) : Sp Tryz.prog F 24 [.pointer (some ⟨b, 0, none⟩)] [] (Ret (.int .i64 B.last)) := by
  obtain ⟨v0, v1, _, _, hm⟩ := h
  have l1 : LoadsF F b (0 + 2) (.int .i64 B.last) := ⟨_, _, _, hm, rfl⟩
  refine sp_of_code Tryz.func24 rfl rfl ?_
  (refine run_seq ?_; refine run_region ?_; refine xep rfl rfl ?_; refine runL_nil ?_; refine then_normal ?_; refine run_seq ?_; refine run_region ?_; (iterate 2 refine xep rfl rfl ?_); refine xel rfl (ev_fieldAddr rfl rfl (fo rfl)) ?_; refine xel rfl (ev_loadF rfl rfl (sc rfl) l1) ?_; refine xep rfl rfl ?_; refine runL_nil ?_; refine then_normal ?_; refine run_ret ?_)
  exact ⟨_, rfl, rfl⟩
theorem lenL_take {l : List Lv} {i : Nat} {lv : Lv} (h : l[i]? = some lv) : lenL (l.take (i + 1)) = lenL (l.take i) + lv.es.length := by
  have hi := (List.getElem?_eq_some_iff.1 h).1
  rw [List.take_succ_eq_append_getElem hi, lenL_append, (List.getElem?_eq_some_iff.1 h).2]; simp [lenL]
theorem lenL_le (l : List Lv) (i : Nat) : lenL (l.take i) ≤ lenL l := by
  conv => rhs; rw [← List.take_append_drop i l, lenL_append]
  omega
theorem sp_blen (F : Heap) (b : Nat) (B : Bk) (h : BkIn F b B) (hw : BW B) : Sp Tryz.prog F 75 [.pointer (some ⟨b, 0, none⟩)] [] (Ret (.int .i64 (lenL B.buys + lenL B.sells : Nat))) := by
  obtain ⟨v0, v1, ⟨a0, c0, bs0, hc0, rfl, s0, i0⟩, ⟨a1, c1, bs1, hc1, rfl, s1, i1⟩, hm⟩ := h
  have hlen := hw.len
  have g0 := lenL_ge hw.buys
  have g1 := lenL_ge hw.sells
  have hag : AggF F b 0 [.slice a0 B.buys.length c0, .slice a1 B.sells.length c1] := ⟨_, _, _, hm, by simp, rfl⟩
  have l1 := hag
  have hsd : ∀ j : Nat, j < 2 → ∃ (a : Option Addr) (l : List Lv) (c : Nat) (bs : List Nat), [Value.slice a0 B.buys.length c0, Value.slice a1 B.sells.length c1][j]? = some (.slice a l.length c) ∧ SrcIs F a l.length 1 (rows pc bs) ∧ LvsIn F bs l ∧ (∀ lv ∈ l, lv.Ok) ∧ lenL l ≤ 64 ∧ [0, lenL B.buys, lenL B.buys + lenL B.sells].getD (j + 1) 0 = [0, lenL B.buys, lenL B.buys + lenL B.sells].getD j 0 + lenL l := by
    intro j hj
    match j, hj with
    | 0, _ => exact ⟨a0, B.buys, c0, bs0, rfl, s0, i0, hw.buys, by omega, by simp⟩
    | 1, _ => exact ⟨a1, B.sells, c1, bs1, rfl, s1, i1, hw.sells, by omega, by simp⟩
  have hget : ∀ j : Nat, [0, lenL B.buys, lenL B.buys + lenL B.sells].getD j 0 ≤ 64 := by
    intro j
    match j with
    | 0 => simp
    | 1 => simp; omega
    | 2 => simpa using hlen
    | j + 3 => simp
  refine sp_of_code Tryz.func75 rfl rfl ?_
  (refine run_seq ?_; refine run_region ?_; refine xep rfl rfl ?_; refine runL_nil ?_; refine then_normal ?_; refine run_seq ?_; refine run_region ?_; refine xep rfl rfl ?_; refine runL_nil ?_; refine then_normal ?_; (iterate 2 refine run_seq ?_); refine run_region ?_; (iterate 2 refine xep rfl rfl ?_); refine xel rfl (ev_fieldAddr rfl rfl (fo rfl)) ?_; refine xel rfl (ev_loadAF rfl rfl (ag rfl) (sz rfl) l1 rfl) ?_; refine xep rfl rfl ?_; refine runL_nil ?_; refine then_normal ?_; refine run_block ?_)
  refine run_loopK (σ := Nat) [11, 12, 3] (fun j => [(11, .agg ⟨[.slice a0 B.buys.length c0, .slice a1 B.sells.length c1]⟩), (12, .int .i64 j), (3, .int .i64 (([0, lenL B.buys, lenL B.buys + lenL B.sells].getD j 0 : Nat) : Int))]) (fun _ => []) (fun j => j ≤ 2) (fun j => 2 - j) 0 (Nat.zero_le _) rfl (fun _ => rfl) ?_
  intro j hj
  have hac := hget j
  (refine run_seq ?_; refine run_region ?_; refine xep rfl rfl ?_; refine runL_nil ?_; refine then_normal ?_; refine run_seq ?_)
  (refine run_cond rfl (fun hc => ?_) (fun hc => ?_) <;> (try simp only [z0, z1, z2, z3, z4, z5, z6, z7, z8, z9, Bool.not_true, Bool.not_false, Bool.false_or, Bool.true_and, true_and, and_true, false_or, or_false, reduceCtorEq, Bool.false_eq_true] at hc))
  · obtain ⟨a, l, c, bs, hn, hs, hi, hok, h64, hnext⟩ := hsd j (by omega)
    have gl := lenL_ge hok
    (refine run_skip ?_; refine then_normal ?_; refine run_seq ?_; refine run_block ?_; refine run_seq ?_; refine run_region ?_)
    refine runL_ev rfl rfl rfl rfl (ev_indexV rfl rfl rfl (ar rfl) (sc rfl) (by omega) (by omega) (v := .slice a l.length c) (by rw [Int.toNat_natCast, Nat.mul_one]; exact hn)) ?_
    (refine xep rfl rfl ?_; refine runL_nil ?_; refine then_normal ?_; refine run_seq ?_; refine run_region ?_; refine xep rfl rfl ?_; refine xel rfl (ev_len rfl rfl (se rfl)) ?_; refine xep rfl rfl ?_; refine runL_nil ?_; refine then_normal ?_; refine run_block ?_)
    generalize [0, lenL B.buys, lenL B.buys + lenL B.sells].getD j 0 = acc at *
    refine run_loopK (σ := Nat) [11, 12, 15, 16, 17, 3] (fun i => [(11, .agg ⟨[.slice a0 B.buys.length c0, .slice a1 B.sells.length c1]⟩), (12, .int .i64 j), (15, .slice a l.length c), (16, .int .i64 l.length), (17, .int .i64 i), (3, .int .i64 ((acc + lenL (l.take i) : Nat) : Int))]) (fun _ => []) (fun i => i ≤ l.length) (fun i => l.length - i) 0 (Nat.zero_le _) rfl (fun _ => rfl) ?_
    intro i gi
    have hle := lenL_le l i
    (refine run_seq ?_; refine run_region ?_; refine xep rfl rfl ?_; refine runL_nil ?_; refine then_normal ?_; refine run_seq ?_)
    (refine run_cond rfl (fun hc => ?_) (fun hc => ?_) <;> (try simp only [z0, z1, z2, z3, z4, z5, z6, z7, z8, z9, Bool.not_true, Bool.not_false, Bool.false_or, Bool.true_and, true_and, and_true, false_or, or_false, reduceCtorEq, Bool.false_eq_true] at hc))
    · obtain ⟨b2, off, bi, lv, rfl, hlv, l1, hin⟩ := SdIn.level (n := 0) (cap := 0) hs hi (i := i) (by omega)
      have q1 := fun G : Heap => sp_llen (G ++ F) bi lv.p lv.es (hin.mono fun x m => List.mem_append_right _ m)
      have ht := lenL_take hlv
      have hle2 := lenL_le l (i + 1)
      (refine run_skip ?_; refine then_normal ?_; refine run_seq ?_; refine run_block ?_; refine run_seq ?_; refine run_region ?_; refine xel rfl (ev_indexAddr rfl rfl rfl (se rfl) (by omega) (by omega)) ?_; refine xel rfl (ev_loadF rfl rfl (sc rfl) l1) ?_; refine xep rfl rfl ?_; refine runL_nil ?_; refine then_normal ?_; refine run_region ?_; (iterate 2 refine xep rfl rfl ?_); refine xel rfl (ev_callQ rfl rfl rfl (pf rfl) (q1 ..)) ?_; refine xel rfl (ev_add rfl rfl rfl (by omega)) ?_; refine xep rfl rfl ?_; refine runL_nil ?_; refine in_normal ?_; refine then_normal ?_; refine run_region ?_; refine xel rfl (ev_add rfl rfl rfl (by omega)) ?_; refine xep rfl rfl ?_; refine runL_nil ?_; refine then_normal ?_)
      refine ⟨i + 1, by omega, by omega, ?_, [], fun _ => rfl⟩
      rw [ht, ← Nat.add_assoc]; rfl
    · have : i = l.length := by omega
      subst this
      (refine run_exit ?_; (iterate 2 refine then_exit ?_); refine in_exit ?_; refine in_normal ?_; refine then_normal ?_)
      (refine run_region ?_; refine xel rfl (ev_add rfl rfl rfl (by omega)) ?_; refine xep rfl rfl ?_; refine runL_nil ?_; refine then_normal ?_)
      refine ⟨j + 1, by omega, by omega, ?_, [], fun _ => rfl⟩
      rw [hnext, List.take_length]; rfl
  · have : j = 2 := by omega
    subst this
    (refine run_exit ?_; (iterate 2 refine then_exit ?_); refine in_exit ?_; refine then_normal ?_)
    (refine run_seq ?_; refine run_region ?_; (iterate 2 refine xep rfl rfl ?_); refine runL_nil ?_; refine then_normal ?_; refine run_ret ?_)
    exact ⟨_, rfl, rfl⟩
end Go.Proofs.YtmelpobcpcmdoaaGreat

set_option autoImplicit false
set_option linter.unusedSectionVars false
set_option linter.unusedSimpArgs false
set_option linter.unusedVariables false
set_option maxRecDepth 4000
set_option maxHeartbeats 8000000
namespace Go.Proofs.YtmelpobcpcmdoaaGreat
open Go Go.SL Go.Proofs
theorem ordersL_take {l : List Lv} {i : Nat} {lv : Lv} (h : l[i]? = some lv) : ordersL (l.take (i + 1)) = ordersL (l.take i) ++ lv.es.map (·.o) := by
  have hi := (List.getElem?_eq_some_iff.1 h).1
  rw [List.take_succ_eq_append_getElem hi, ordersL_append, (List.getElem?_eq_some_iff.1 h).2]; simp [ordersL]
variable [Base]
/-- A book's side, in either place. -/
theorem BkIn.side {F : Heap} {b : Nat} {B : Bk} (h : BkIn F b B) {s : Int} (hs : s = 1 ∨ s = 2) : ∃ so a c bs, sideV b s = .pointer (some ⟨b, so, none⟩) ∧ LoadsF F b so (.slice a (B.side s).length c) ∧ (B.side s).length ≤ c ∧ SrcIs F a (B.side s).length 1 (rows pc bs) ∧ LvsIn F bs (B.side s) := by
  obtain ⟨v0, v1, ⟨a0, c0, bs0, hc0, rfl, s0, i0⟩, ⟨a1, c1, bs1, hc1, rfl, s1, i1⟩, hm⟩ := h
  rcases hs with rfl | rfl
  · exact ⟨0, a0, c0, bs0, rfl, ⟨_, _, _, hm, rfl⟩, hc0, s0, i0⟩
  · exact ⟨1, a1, c1, bs1, rfl, ⟨_, _, _, hm, rfl⟩, hc1, s1, i1⟩
theorem BW.side {B : Bk} (h : BW B) (s : Int) : (∀ lv ∈ B.side s, lv.Ok) ∧ lenL (B.side s) ≤ 64 := by
  have := h.len
  unfold Bk.side
  split
  · exact ⟨h.buys, by omega⟩
  · split
    · exact ⟨h.sells, by omega⟩
    · exact ⟨fun _ m => by simp at m, by simp [lenL]⟩
theorem sp_borders (F : Heap) (b : Nat) (B : Bk) (h : BkIn F b B) (hw : BW B) (s : Int) :
    Sp Tryz.prog F 46 [.pointer (some ⟨b, 0, none⟩), .int .i64 s] [] (fun v h' => OwnS 35 9 v (ordersL (B.side s)).length (rows Ord.cells (ordersL (B.side s))) h') := by
  have q1 := fun F => sp_bside F b s
  by_cases hs : s = 1 ∨ s = 2
  · obtain ⟨so, a, c, bs, hv, l1, hc, hsrc, hin⟩ := h.side hs
    obtain ⟨hok, h64⟩ := hw.side s
    have gl := lenL_ge hok
    have hol := ordersL_len (B.side s)
    rw [hv] at q1
    generalize B.side s = l at *
    refine Sp.up ?_
    refine sp_of_code Tryz.func46 rfl rfl ?_
    (refine run_seq ?_; refine run_region ?_; refine xep rfl rfl ?_; refine runL_nil ?_; refine then_normal ?_; refine run_seq ?_; refine run_region ?_; refine xep rfl rfl ?_; refine runL_nil ?_; refine then_normal ?_; (iterate 2 refine run_seq ?_); refine run_region ?_; (iterate 2 refine xep rfl rfl ?_); refine xel rfl (ev_callQ rfl rfl rfl (pf rfl) (q1 ..)) ?_; refine xep rfl rfl ?_; refine runL_nil ?_; refine then_normal ?_; refine run_seq ?_; refine run_region ?_; refine xep rfl rfl ?_; refine xel rfl (ev_neqNil rfl rfl rfl (pt rfl)) ?_; refine runL_nil ?_; refine then_normal ?_)
    refine run_condT rfl rfl ?_
    (refine run_seq ?_; refine run_region ?_; (iterate 2 refine xep rfl rfl ?_); refine xel rfl (ev_loadF rfl rfl (sc rfl) l1) ?_; refine xel rfl (ev_len rfl rfl (se rfl)) ?_; refine xep rfl rfl ?_; refine runL_nil ?_; refine then_normal ?_; refine run_block ?_)
    clear l1
    refine run_loopK (σ := Nat × Option Addr × Nat × Heap) [16, 17, 18, 5] (fun t => [(16, .slice a l.length c), (17, .int .i64 l.length), (18, .int .i64 t.1), (5, .slice t.2.1 (ordersL (l.take t.1)).length t.2.2.1)]) (fun t => t.2.2.2)
      (fun t => t.1 ≤ l.length ∧ OwnS 35 9 (.slice t.2.1 (ordersL (l.take t.1)).length t.2.2.1) (ordersL (l.take t.1)).length (rows Ord.cells (ordersL (l.take t.1))) t.2.2.2) (fun t => l.length - t.1) (0, none, 0, []) ⟨Nat.zero_le _, .nil _ _⟩ rfl (fun _ => rfl) ?_
    rintro ⟨i, ao, co, A⟩ ⟨gi, own⟩
    dsimp only at gi own ⊢
    (refine run_seq ?_; refine run_region ?_; refine xep rfl rfl ?_; refine runL_nil ?_; refine then_normal ?_; refine run_seq ?_)
    (refine run_cond rfl (fun hc => ?_) (fun hc => ?_) <;> (try simp only [z0, z1, z2, z3, z4, z5, z6, z7, z8, z9, Bool.not_true, Bool.not_false, Bool.false_or, Bool.true_and, true_and, and_true, false_or, or_false, reduceCtorEq, Bool.false_eq_true] at hc))
    · obtain ⟨b2, off, bi, lv, rfl, hlv, l1, hi⟩ := SdIn.level (n := 0) (cap := 0) hsrc hin (i := i) (by omega)
      have hlok := hok lv (List.mem_of_getElem? hlv)
      have e := ordersL_take hlv
      have hle := lenL_le l (i + 1)
      have ho2 := ordersL_len (l.take (i + 1))
      have ho3 := congrArg List.length e
      rw [List.length_append, List.length_map] at ho3
      (refine run_skip ?_; refine then_normal ?_; refine run_seq ?_; refine run_block ?_; refine run_seq ?_; refine run_region ?_; refine xel rfl (ev_indexAddr rfl rfl rfl (se rfl) (by omega) (by omega)) ?_; refine xel rfl (ev_loadF rfl rfl (sc rfl) l1) ?_; refine xep rfl rfl ?_; refine runL_nil ?_; refine then_normal ?_; refine run_region ?_; (iterate 2 refine xep rfl rfl ?_))
      refine runL_callZ A [] rfl rfl rfl rfl rfl rfl rfl (pf rfl) (fun y => by (first | rfl | (simp only [List.append_eq, cnt_append, cnt_cons, cnt_nil, blk]; omega) | (simp only [List.append_eq, cnt_append, cnt_cons, cnt_nil, blk]; done))) (sp_lorders _ bi lv.p lv.es (hi.mono fun x m => List.mem_append_right _ m) hlok.1.1) ?_
      rintro v A2 own2
      obtain ⟨a2, c2, rfl, own2⟩ := own2.at
      skip
      refine runL_append (sl := rows Ord.cells (lv.es.map (·.o))) A2 rfl rfl rfl rfl rfl rfl rfl (se rfl) (se rfl) ze35 rfl (byt rfl) own (fun y => by (first | rfl | (simp only [List.append_eq, cnt_append, cnt_cons, cnt_nil, blk]; omega) | (simp only [List.append_eq, cnt_append, cnt_cons, cnt_nil, blk]; done))) (own2.src fun x m => by simp [m]) (rows_cells oc_cells _) (by decide) (by decide) (by omega) ?_
      rintro v' A' own'
      rw [← rows_append, ← e, ← ho3] at own'
      obtain ⟨a5, c5, rfl, own3⟩ := own'.at
      (refine xep rfl rfl ?_; refine runL_nil ?_; refine in_normal ?_; refine then_normal ?_; refine run_region ?_; refine xel rfl (ev_add rfl rfl rfl (by omega)) ?_; refine xep rfl rfl ?_; refine runL_nil ?_; refine then_normal ?_)
      exact ⟨(i + 1, a5, c5, A'), ⟨by show i + 1 ≤ _; omega, own3⟩, by show l.length - (i + 1) < l.length - i; omega, rfl, A2, fun x => by (first | rfl | (simp only [List.append_eq, cnt_append, cnt_cons, cnt_nil, blk]; omega) | (simp only [List.append_eq, cnt_append, cnt_cons, cnt_nil, blk]; done))⟩
    · have : i = l.length := by omega
      subst this
      (refine run_exit ?_; (iterate 2 refine then_exit ?_); refine in_exit ?_; refine then_normal ?_)
      (refine run_seq ?_; refine run_region ?_; (iterate 2 refine xep rfl rfl ?_); refine runL_nil ?_; refine then_normal ?_; refine run_ret ?_)
      rw [List.take_length] at own
      refine ⟨_, rfl, A, [], ?_, fun x => by rw [List.append_nil]⟩
      rw [List.take_length]; exact own
  · have e0 : B.side s = [] := by unfold Bk.side; rw [if_neg (by omega), if_neg (by omega)]
    have hv : sideV b s = .pointer none := by unfold sideV; rw [if_neg (by omega), if_neg (by omega)]
    rw [hv] at q1
    rw [e0]
    refine sp_of_code Tryz.func46 rfl rfl ?_
    (refine run_seq ?_; refine run_region ?_; refine xep rfl rfl ?_; refine runL_nil ?_; refine then_normal ?_; refine run_seq ?_; refine run_region ?_; refine xep rfl rfl ?_; refine runL_nil ?_; refine then_normal ?_; (iterate 2 refine run_seq ?_); refine run_region ?_; (iterate 2 refine xep rfl rfl ?_); refine xel rfl (ev_callQ rfl rfl rfl (pf rfl) (q1 ..)) ?_; refine xep rfl rfl ?_; refine runL_nil ?_; refine then_normal ?_; refine run_seq ?_; refine run_region ?_; refine xep rfl rfl ?_; refine xel rfl (ev_neqNil rfl rfl rfl (pt rfl)) ?_; refine runL_nil ?_; refine then_normal ?_)
    refine run_condF rfl rfl ?_
    (refine run_skip ?_; refine then_normal ?_; refine run_seq ?_; refine run_region ?_; (iterate 2 refine xep rfl rfl ?_); refine runL_nil ?_; refine then_normal ?_; refine run_ret ?_)
    exact ⟨_, rfl, .nil _ _⟩
end Go.Proofs.YtmelpobcpcmdoaaGreat

set_option autoImplicit false
set_option linter.unusedSectionVars false
set_option linter.unusedSimpArgs false
set_option linter.unusedVariables false
set_option maxRecDepth 4000
set_option maxHeartbeats 16000000
namespace Go.Proofs.YtmelpobcpcmdoaaGreat
open Go Go.SL Go.Proofs
variable [Base]
/-- A side of the document's book, by its number. -/
theorem RbIn.side {F : Heap} {b : Nat} {B : Bk} (h : RbIn F b B) (j : Nat) (hj : j < 3) : ∃ a c bs, LoadsF F b (0 + (j : Int).toNat * 1) (.slice a (B.side j).length c) ∧ (B.side j).length ≤ c ∧ SrcIs F a (B.side j).length 1 (rows pc bs) ∧ RvsIn F bs (B.side j) := by
  obtain ⟨v0, v1, ⟨a0, c0, bs0, hc0, rfl, s0, i0⟩, ⟨a1, c1, bs1, hc1, rfl, s1, i1⟩, hm⟩ := h
  match j, hj with
  | 0, _ => exact ⟨none, 0, [], ⟨_, _, _, hm, rfl⟩, Nat.le_refl _, ⟨rfl, .inl rfl⟩, rfl, fun i b lv h => by simp at h⟩
  | 1, _ => exact ⟨a0, c0, bs0, ⟨_, _, _, hm, rfl⟩, hc0, s0, i0⟩
  | 2, _ => exact ⟨a1, c1, bs1, ⟨_, _, _, hm, rfl⟩, hc1, s1, i1⟩
def lenTo (B : Bk) (j : Nat) : Nat := if j ≤ 1 then 0 else if j = 2 then lenL B.buys else lenL B.buys + lenL B.sells
theorem lenTo_next (B : Bk) {j : Nat} (hj : j < 3) : lenTo B (j + 1) = lenTo B j + lenL (B.side j) := by
  match j, hj with
  | 0, _ => rfl
  | 1, _ => show lenL B.buys = 0 + lenL B.buys; omega
  | 2, _ => rfl
theorem sp_rblen (F : Heap) (b : Nat) (B : Bk) (h : RbIn F b B) (hw : BW B) : Sp Tryz.prog F 57 [.pointer (some ⟨b, 0, none⟩)] [] (Ret (.int .i64 (lenL B.buys + lenL B.sells : Nat))) := by
  have hlen := hw.len
  have hto : ∀ j, lenTo B j ≤ 64 := by
    intro j; unfold lenTo; split
    · omega
    · split <;> omega
  refine sp_of_code Tryz.func57 rfl rfl ?_
  (refine run_seq ?_; refine run_region ?_; refine xep rfl rfl ?_; refine runL_nil ?_; refine then_normal ?_; refine run_seq ?_; refine run_region ?_; refine xep rfl rfl ?_; refine runL_nil ?_; refine then_normal ?_; (iterate 2 refine run_seq ?_); refine run_region ?_; refine xep rfl rfl ?_; refine runL_nil ?_; refine then_normal ?_; refine run_block ?_)
  refine run_loopK (σ := Nat) [0, 3, 7] (fun j => [(0, .pointer (some ⟨b, 0, none⟩)), (3, .int .i64 (lenTo B j : Nat)), (7, .int .i64 j)]) (fun _ => []) (fun j => j ≤ 3) (fun j => 3 - j) 0 (Nat.zero_le _) rfl (fun _ => rfl) ?_
  intro j hj
  have hac := hto j
  (refine run_seq ?_; refine run_region ?_; refine xep rfl rfl ?_; refine runL_nil ?_; refine then_normal ?_; refine run_seq ?_)
  (refine run_cond rfl (fun hc => ?_) (fun hc => ?_) <;> (try simp only [z0, z1, z2, z3, z4, z5, z6, z7, z8, z9, Bool.not_true, Bool.not_false, Bool.false_or, Bool.true_and, true_and, and_true, false_or, or_false, reduceCtorEq, Bool.false_eq_true] at hc))
  · obtain ⟨a, c, bs, l1, hcl, hs, hi⟩ := h.side j (by omega)
    obtain ⟨hok, h64⟩ := hw.side j
    have gl := lenL_ge hok
    have hnext := lenTo_next B (j := j) (by omega)
    have hto2 := hto (j + 1)
    generalize B.side j = l at *
    (refine run_skip ?_; refine then_normal ?_; refine run_seq ?_; refine run_block ?_; refine run_seq ?_; refine run_region ?_; (iterate 2 refine xep rfl rfl ?_); refine runL_nil ?_; refine then_normal ?_; refine run_seq ?_; refine run_region ?_; (iterate 3 refine xep rfl rfl ?_); refine xel rfl (ev_fieldAddr rfl rfl (fo rfl)) ?_; refine xel rfl (ev_indexAddrA rfl rfl rfl (ar rfl) (by omega) (by omega)) ?_; refine xel rfl (ev_loadF rfl rfl (sc rfl) l1) ?_; refine xel rfl (ev_len rfl rfl (se rfl)) ?_; refine xep rfl rfl ?_; refine runL_nil ?_; refine then_normal ?_; refine run_block ?_)
    generalize lenTo B j = acc at *
    clear l1
    refine run_loopK (σ := Nat) [0, 7, 15, 16, 17, 3] (fun i => [(0, .pointer (some ⟨b, 0, none⟩)), (7, .int .i64 j), (15, .slice a l.length c), (16, .int .i64 l.length), (17, .int .i64 i), (3, .int .i64 ((acc + lenL (l.take i) : Nat) : Int))]) (fun _ => []) (fun i => i ≤ l.length) (fun i => l.length - i) 0 (Nat.zero_le _) rfl (fun _ => rfl) ?_
    intro i gi
    have hle := lenL_le l i
    (refine run_seq ?_; refine run_region ?_; refine xep rfl rfl ?_; refine runL_nil ?_; refine then_normal ?_; refine run_seq ?_)
    (refine run_cond rfl (fun hc => ?_) (fun hc => ?_) <;> (try simp only [z0, z1, z2, z3, z4, z5, z6, z7, z8, z9, Bool.not_true, Bool.not_false, Bool.false_or, Bool.true_and, true_and, and_true, false_or, or_false, reduceCtorEq, Bool.false_eq_true] at hc))
    · obtain ⟨b2, off, bi, lv, rfl, hlv, l1, hin⟩ := RsIn.level (n := 0) (cap := 0) hs hi (i := i) (by omega)
      obtain ⟨a3, c3, hc3, hm3, hs3⟩ := hin
      have l2 : LoadsF F bi (0 + 1) (.slice a3 lv.es.length c3) := ⟨_, _, _, hm3, rfl⟩
      have ht := lenL_take hlv
      have hle2 := lenL_le l (i + 1)
      (refine run_skip ?_; refine then_normal ?_; refine run_seq ?_; refine run_block ?_; refine run_seq ?_; refine run_region ?_; refine xel rfl (ev_indexAddr rfl rfl rfl (se rfl) (by omega) (by omega)) ?_; refine xel rfl (ev_loadF rfl rfl (sc rfl) l1) ?_; refine xep rfl rfl ?_; refine runL_nil ?_; refine then_normal ?_; refine run_region ?_; (iterate 3 refine xep rfl rfl ?_); refine xel rfl (ev_fieldAddr rfl rfl (fo rfl)) ?_; refine xel rfl (ev_loadF rfl rfl (sc rfl) l2) ?_; refine xel rfl (ev_len rfl rfl (se rfl)) ?_; refine xel rfl (ev_add rfl rfl rfl (by omega)) ?_; refine xep rfl rfl ?_; refine runL_nil ?_; refine in_normal ?_; refine then_normal ?_; refine run_region ?_; refine xel rfl (ev_add rfl rfl rfl (by omega)) ?_; refine xep rfl rfl ?_; refine runL_nil ?_; refine then_normal ?_)
      refine ⟨i + 1, by omega, by omega, ?_, [], fun _ => rfl⟩
      rw [ht, ← Nat.add_assoc]; rfl
    · have : i = l.length := by omega
      subst this
      (refine run_exit ?_; (iterate 2 refine then_exit ?_); refine in_exit ?_; refine in_normal ?_; refine then_normal ?_)
      (refine run_region ?_; refine xel rfl (ev_add rfl rfl rfl (by omega)) ?_; refine xep rfl rfl ?_; refine runL_nil ?_; refine then_normal ?_)
      refine ⟨j + 1, by omega, by omega, ?_, [], fun _ => rfl⟩
      rw [hnext, List.take_length]; rfl
  · have : j = 3 := by omega
    subst this
    (refine run_exit ?_; (iterate 2 refine then_exit ?_); refine in_exit ?_; refine then_normal ?_)
    (refine run_seq ?_; refine run_region ?_; (iterate 2 refine xep rfl rfl ?_); refine runL_nil ?_; refine then_normal ?_; refine run_ret ?_)
    exact ⟨_, rfl, rfl⟩
theorem sp_rborders (F : Heap) (b : Nat) (B : Bk) (h : RbIn F b B) (hw : BW B) (s : Nat) (hs : s = 1 ∨ s = 2) :
    Sp Tryz.prog F 47 [.pointer (some ⟨b, 0, none⟩), .int .i64 (s : Nat)] [] (fun v h' => OwnS 35 9 v (ordersL (B.side s)).length (rows Ord.cells (ordersL (B.side s))) h') := by
  obtain ⟨a, c, bs, l1, hcl, hsrc, hin⟩ := h.side s (by omega)
  obtain ⟨hok, h64⟩ := hw.side s
  have gl := lenL_ge hok
  have hol := ordersL_len (B.side s)
  generalize B.side s = l at *
  refine Sp.up ?_
  refine sp_of_code Tryz.func47 rfl rfl ?_
  (refine run_seq ?_; refine run_region ?_; refine xep rfl rfl ?_; refine runL_nil ?_; refine then_normal ?_; (iterate 2 refine run_seq ?_); refine run_region ?_; (iterate 3 refine xep rfl rfl ?_); (iterate 2 refine xgp rfl rfl rfl ?_); refine xep rfl rfl ?_; refine runL_nil ?_; refine then_normal ?_)
  refine run_condF rfl (by rcases hs with rfl | rfl <;> rfl) ?_
  (refine run_skip ?_; refine then_normal ?_; refine run_seq ?_; refine run_region ?_; refine xep rfl rfl ?_; refine runL_nil ?_; refine then_normal ?_; (iterate 2 refine run_seq ?_); refine run_region ?_; (iterate 3 refine xep rfl rfl ?_); refine xel rfl (ev_fieldAddr rfl rfl (fo rfl)) ?_; refine xel rfl (ev_indexAddrA rfl rfl rfl (ar rfl) (by omega) (by omega)) ?_; refine xel rfl (ev_loadF rfl rfl (sc rfl) l1) ?_; refine xel rfl (ev_len rfl rfl (se rfl)) ?_; refine xep rfl rfl ?_; refine runL_nil ?_; refine then_normal ?_; refine run_block ?_)
  clear l1
  refine run_loopK (σ := Nat × Option Addr × Nat × Heap) [19, 20, 21, 5] (fun t => [(19, .slice a l.length c), (20, .int .i64 l.length), (21, .int .i64 t.1), (5, .slice t.2.1 (ordersL (l.take t.1)).length t.2.2.1)]) (fun t => t.2.2.2)
    (fun t => t.1 ≤ l.length ∧ OwnS 35 9 (.slice t.2.1 (ordersL (l.take t.1)).length t.2.2.1) (ordersL (l.take t.1)).length (rows Ord.cells (ordersL (l.take t.1))) t.2.2.2) (fun t => l.length - t.1) (0, none, 0, []) ⟨Nat.zero_le _, .nil _ _⟩ rfl (fun _ => rfl) ?_
  rintro ⟨i, ao, co, A⟩ ⟨gi, own⟩
  dsimp only at gi own ⊢
  (refine run_seq ?_; refine run_region ?_; refine xep rfl rfl ?_; refine runL_nil ?_; refine then_normal ?_; refine run_seq ?_)
  (refine run_cond rfl (fun hc => ?_) (fun hc => ?_) <;> (try simp only [z0, z1, z2, z3, z4, z5, z6, z7, z8, z9, Bool.not_true, Bool.not_false, Bool.false_or, Bool.true_and, true_and, and_true, false_or, or_false, reduceCtorEq, Bool.false_eq_true] at hc))
  · obtain ⟨b2, off, bi, lv, rfl, hlv, l1, hi⟩ := RsIn.level (n := 0) (cap := 0) hsrc hin (i := i) (by omega)
    have hlok := hok lv (List.mem_of_getElem? hlv)
    have e := ordersL_take hlv
    have hle := lenL_le l (i + 1)
    have ho2 := ordersL_len (l.take (i + 1))
    have ho3 := congrArg List.length e
    rw [List.length_append, List.length_map] at ho3
    (refine run_skip ?_; refine then_normal ?_; refine run_seq ?_; refine run_block ?_; refine run_seq ?_; refine run_region ?_; refine xel rfl (ev_indexAddr rfl rfl rfl (se rfl) (by omega) (by omega)) ?_; refine xel rfl (ev_loadF rfl rfl (sc rfl) l1) ?_; refine xep rfl rfl ?_; refine runL_nil ?_; refine then_normal ?_; refine run_region ?_; (iterate 2 refine xep rfl rfl ?_))
    refine runL_callZ A [] rfl rfl rfl rfl rfl rfl rfl (pf rfl) (fun y => by (first | rfl | (simp only [List.append_eq, cnt_append, cnt_cons, cnt_nil, blk]; omega) | (simp only [List.append_eq, cnt_append, cnt_cons, cnt_nil, blk]; done))) (sp_rorders _ bi lv.p lv.es (hi.mono fun x m => List.mem_append_right _ m) hlok.1.1) ?_
    rintro v A2 own2
    obtain ⟨a2, c2, rfl, own2⟩ := own2.at
    skip
    refine runL_append (sl := rows Ord.cells (lv.es.map (·.o))) A2 rfl rfl rfl rfl rfl rfl rfl (se rfl) (se rfl) ze35 rfl (byt rfl) own (fun y => by (first | rfl | (simp only [List.append_eq, cnt_append, cnt_cons, cnt_nil, blk]; omega) | (simp only [List.append_eq, cnt_append, cnt_cons, cnt_nil, blk]; done))) (own2.src fun x m => by simp [m]) (rows_cells oc_cells _) (by decide) (by decide) (by omega) ?_
    rintro v' A' own'
    rw [← rows_append, ← e, ← ho3] at own'
    obtain ⟨a5, c5, rfl, own3⟩ := own'.at
    (refine xep rfl rfl ?_; refine runL_nil ?_; refine in_normal ?_; refine then_normal ?_; refine run_region ?_; refine xel rfl (ev_add rfl rfl rfl (by omega)) ?_; refine xep rfl rfl ?_; refine runL_nil ?_; refine then_normal ?_)
    exact ⟨(i + 1, a5, c5, A'), ⟨by show i + 1 ≤ _; omega, own3⟩, by show l.length - (i + 1) < l.length - i; omega, rfl, A2, fun x => by (first | rfl | (simp only [List.append_eq, cnt_append, cnt_cons, cnt_nil, blk]; omega) | (simp only [List.append_eq, cnt_append, cnt_cons, cnt_nil, blk]; done))⟩
  · have : i = l.length := by omega
    subst this
    (refine run_exit ?_; (iterate 2 refine then_exit ?_); refine in_exit ?_; refine then_normal ?_)
    (refine run_seq ?_; refine run_region ?_; (iterate 2 refine xep rfl rfl ?_); refine runL_nil ?_; refine then_normal ?_; refine run_ret ?_)
    rw [List.take_length] at own
    refine ⟨_, rfl, A, [], ?_, fun x => by rw [List.append_nil]⟩
    rw [List.take_length]
    exact own
end Go.Proofs.YtmelpobcpcmdoaaGreat
