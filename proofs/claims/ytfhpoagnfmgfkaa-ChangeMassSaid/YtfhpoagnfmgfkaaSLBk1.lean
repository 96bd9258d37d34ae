/- Contracts of functions of the given program over its translation, each proved by walking its text; used by the laws' rows. It proves no given statement by itself. -/
import Derived.Test.YtfhpoagnfmgfkaaSLBkT
set_option autoImplicit false
set_option linter.unusedSectionVars false
set_option linter.unusedSimpArgs false
set_option linter.unusedVariables false
set_option maxRecDepth 4000
set_option maxHeartbeats 8000000
namespace Go.Proofs.Ytfhpoagnfmgfkaa
open Go Go.SL Go.Proofs
variable [Base]
theorem sp_bnew (F : Heap) : Sp Try.prog F 46 [] [] (fun v h' => ∃ b, v = .pointer (some ⟨b, 0, none⟩) ∧ BkH b empty h') := by
  refine sp_of_code Try.func46 rfl rfl ?_
  (refine run_seq ?_; refine run_region ?_; refine xep rfl rfl ?_; refine runL_nil ?_; refine then_normal ?_; refine run_seq ?_; refine run_region ?_; refine xel rfl (ev_build rfl pl84 rfl) ?_; refine runL_box rfl rfl rfl rfl rfl rfl (fun _ => ?_); refine xep rfl rfl ?_; refine runL_nil ?_; refine then_normal ?_; refine run_ret ?_)
  exact ⟨_, rfl, _, rfl, .slice none 0 0, .slice none 0 0, [], [], ⟨none, 0, [], [], [], rfl, .nil _ _, rfl, rfl⟩, ⟨none, 0, [], [], [], rfl, .nil _ _, rfl, rfl⟩, rfl⟩
/-- A side's place within a book; no place: there is none. -/
def sideV (b : Nat) (s : Int) : Value := if s = 1 then .pointer (some ⟨b, 0, none⟩) else if s = 2 then .pointer (some ⟨b, 1, none⟩) else .pointer none
theorem sp_bside (F : Heap) (b : Nat) (s : Int) : Sp Try.prog F 44 [.pointer (some ⟨b, 0, none⟩), .int .i64 s] [] (Ret (sideV b s)) := by
  refine sp_of_code Try.func44 rfl rfl ?_
  (refine run_seq ?_; refine run_region ?_; refine xep rfl rfl ?_; refine runL_nil ?_; refine then_normal ?_; (iterate 2 refine run_seq ?_); refine run_region ?_; (iterate 3 refine xep rfl rfl ?_); (iterate 2 refine xgp rfl rfl rfl ?_); refine xep rfl rfl ?_; refine runL_nil ?_; refine then_normal ?_)
  (refine run_cond rfl (fun hc => ?_) (fun hc => ?_) <;> (try simp only [z0, z1, z2, z3, z4, z5, z6, z7, z8, z9, Bool.not_true, Bool.not_false, Bool.false_or, Bool.true_and, true_and, and_true, false_or, or_false, reduceCtorEq, Bool.false_eq_true] at hc))
  · (refine run_seq ?_; refine run_region ?_; refine xep rfl rfl ?_; refine runL_nil ?_; refine then_normal ?_; refine run_ret ?_; refine then_ret ?_)
    refine ⟨_, rfl, ?_⟩
    unfold sideV; rw [if_neg (by omega), if_neg (by omega)]; rfl
  · rcases (by omega : s = 1 ∨ s = 2) with rfl | rfl
    · (refine run_skip ?_; refine then_normal ?_; refine run_seq ?_; refine run_region ?_; (iterate 2 refine xep rfl rfl ?_); refine xel rfl (ev_sub rfl rfl rfl (by omega)) ?_; refine xep rfl rfl ?_; refine xel rfl (ev_fieldAddr rfl rfl (fo rfl)) ?_; refine xel rfl (ev_indexAddrA rfl rfl rfl (ar rfl) (by omega) (by omega)) ?_; refine xep rfl rfl ?_; refine runL_nil ?_; refine then_normal ?_; refine run_ret ?_)
      exact ⟨_, rfl, rfl⟩
    · (refine run_skip ?_; refine then_normal ?_; refine run_seq ?_; refine run_region ?_; (iterate 2 refine xep rfl rfl ?_); refine xel rfl (ev_sub rfl rfl rfl (by omega)) ?_; refine xep rfl rfl ?_; refine xel rfl (ev_fieldAddr rfl rfl (fo rfl)) ?_; refine xel rfl (ev_indexAddrA rfl rfl rfl (ar rfl) (by omega) (by omega)) ?_; refine xep rfl rfl ?_; refine runL_nil ?_; refine then_normal ?_; refine run_ret ?_)
      exact ⟨_, rfl, rfl⟩
theorem sp_bagainst (F : Heap) (b : Nat) (o : Ord) (h : o.side = 1 ∨ o.side = 2) : Sp Try.prog F 71 [.pointer (some ⟨b, 0, none⟩), ov o] [] (Ret (sideV b (3 - o.side))) := by
  have q1 := fun F => sp_bside F b (3 - o.side)
  refine sp_of_code Try.func71 rfl rfl ?_
  (refine run_seq ?_; refine run_region ?_; refine runL_box rfl rfl rfl rfl rfl rfl (fun _ => ?_); refine xep rfl rfl ?_; refine runL_nil ?_; refine then_normal ?_; refine run_seq ?_; refine run_region ?_; refine xep rfl rfl ?_; refine xel rfl (ev_fieldAddr rfl rfl (fo rfl)) ?_; refine xel rfl (ev_loadK rfl rfl (sc rfl) (memF (.head _)) rfl) ?_; refine xel rfl (ev_sub rfl rfl rfl (by omega)) ?_; refine xel rfl (ev_callQ rfl rfl rfl (pf rfl) (q1 ..)) ?_; refine xep rfl rfl ?_; refine runL_nil ?_; refine then_normal ?_; refine run_ret ?_)
  exact ⟨_, rfl, rfl⟩
def rests (o : Ord) : Bool := decide (o.kind = 1) || decide (o.kind = 5)
theorem sp_brests (F : Heap) (o : Ord) : Sp Try.prog F 67 [ov o] [] (Ret (.bool (rests o))) := by
  refine sp_of_code Try.func67 rfl rfl ?_
  (refine run_seq ?_; refine run_region ?_; refine runL_box rfl rfl rfl rfl rfl rfl (fun _ => ?_); refine xep rfl rfl ?_; refine runL_nil ?_; refine then_normal ?_; refine run_seq ?_; refine run_region ?_; refine xel rfl (ev_fieldAddr rfl rfl (fo rfl)) ?_; refine xel rfl (ev_loadK rfl rfl (sc rfl) (memF (.head _)) rfl) ?_; (iterate 2 refine xep rfl rfl ?_); refine xgl rfl rfl (fun hq => ev_fieldAddr rfl rfl (fo rfl)) ?_; refine xgl rfl rfl (fun hq => ev_loadK rfl rfl (sc rfl) (memF (.head _)) rfl) ?_; refine xgp rfl rfl rfl ?_; (iterate 2 refine xep rfl rfl ?_); refine runL_nil ?_; refine then_normal ?_; refine run_ret ?_)
  exact ⟨_, rfl, rfl⟩
theorem sp_blast (F : Heap) (b : Nat) (B : Bk) (h : BkIn F b B) : Sp Try.prog F 39 [.pointer (some ⟨b, 0, none⟩)] [] (Ret (.int .i64 B.last)) := by
  obtain ⟨v0, v1, _, _, hm⟩ := h
  have l1 : LoadsF F b (0 + 2) (.int .i64 B.last) := ⟨_, _, _, hm, rfl⟩
  refine sp_of_code Try.func39 rfl rfl ?_
  (refine run_seq ?_; refine run_region ?_; refine xep rfl rfl ?_; refine runL_nil ?_; refine then_normal ?_; refine run_seq ?_; refine run_region ?_; (iterate 2 refine xep rfl rfl ?_); refine xel rfl (ev_fieldAddr rfl rfl (fo rfl)) ?_; refine xel rfl (ev_loadF rfl rfl (sc rfl) l1) ?_; refine xep rfl rfl ?_; refine runL_nil ?_; refine then_normal ?_; refine run_ret ?_)
  exact ⟨_, rfl, rfl⟩
theorem lenL_take {l : List Lv} {i : Nat} {lv : Lv} (h : l[i]? = some lv) : lenL (l.take (i + 1)) = lenL (l.take i) + lv.es.length := by
  have hi := (List.getElem?_eq_some_iff.1 h).1
  rw [List.take_succ_eq_append_getElem hi, lenL_append, (List.getElem?_eq_some_iff.1 h).2]; simp [lenL]
theorem lenL_le (l : List Lv) (i : Nat) : lenL (l.take i) ≤ lenL l := by
  conv => rhs; rw [← List.take_append_drop i l, lenL_append]
  omega
theorem sp_blen (F : Heap) (b : Nat) (B : Bk) (h : BkIn F b B) (hw : BW B) : Sp Try.prog F 64 [.pointer (some ⟨b, 0, none⟩)] [] (Ret (.int .i64 (lenL B.buys + lenL B.sells : Nat))) := by
  obtain ⟨v0, v1, ⟨a0, c0, bs0, hc0, rfl, s0, i0⟩, ⟨a1, c1, bs1, hc1, rfl, s1, i1⟩, hm⟩ := h
  have hlen := hw.len
  have g0 := lenL_ge hw.buys
  have g1 := lenL_ge hw.sells
  have hag : AggF F b 0 [.slice a0 B.buys.length c0, .slice a1 B.sells.length c1] := ⟨_, _, _, hm, by simp, rfl⟩
  have l1 := hag
  have hsd : ∀ j : Nat, j < 2 → ∃ (a : Option Addr) (l : List Lv) (c : Nat) (bs : List Nat), [Value.slice a0 B.buys.length c0, Value.slice a1 B.sells.length c1][j]? = some (.slice a l.length c) ∧ SrcIs F a l.length 1 (rows pc bs) ∧ LvsIn F bs l ∧ (∀ lv ∈ l, lv.Ok) ∧ lenL l ≤ 64 ∧ [0, lenL B.buys, lenL B.buys + lenL B.sells].getD (j + 1) 0 = [0, lenL B.buys, lenL B.buys + lenL B.sells].getD j 0 + lenL l := by
    intro j hj
    match j, hj with
    | 0, _ => exact ⟨a0, B.buys, c0, bs0, rfl, s0, i0, hw.buys, by omega, by simp⟩
    | 1, _ => exact ⟨a1, B.sells, c1, bs1, rfl, s1, i1, hw.sells, by omega, by simp⟩
  have hget : ∀ j : Nat, [0, lenL B.buys, lenL B.buys + lenL B.sells].getD j 0 ≤ 64 := by
    intro j
    match j with
    | 0 => simp
    | 1 => simp; omega
    | 2 => simpa using hlen
    | j + 3 => simp
  refine sp_of_code Try.func64 rfl rfl ?_
  (refine run_seq ?_; refine run_region ?_; refine xep rfl rfl ?_; refine runL_nil ?_; refine then_normal ?_; refine run_seq ?_; refine run_region ?_; refine xep rfl rfl ?_; refine runL_nil ?_; refine then_normal ?_; (iterate 2 refine run_seq ?_); refine run_region ?_; (iterate 2 refine xep rfl rfl ?_); refine xel rfl (ev_fieldAddr rfl rfl (fo rfl)) ?_; refine xel rfl (ev_loadAF rfl rfl (ag rfl) (sz rfl) l1 rfl) ?_; refine xep rfl rfl ?_; refine runL_nil ?_; refine then_normal ?_; refine run_block ?_)
  refine run_loopK (σ := Nat) [11, 12, 3] (fun j => [(11, .agg ⟨[.slice a0 B.buys.length c0, .slice a1 B.sells.length c1]⟩), (12, .int .i64 j), (3, .int .i64 (([0, lenL B.buys, lenL B.buys + lenL B.sells].getD j 0 : Nat) : Int))]) (fun _ => []) (fun j => j ≤ 2) (fun j => 2 - j) 0 (Nat.zero_le _) rfl (fun _ => rfl) ?_
  intro j hj
  have hac := hget j
  (refine run_seq ?_; refine run_region ?_; refine xep rfl rfl ?_; refine runL_nil ?_; refine then_normal ?_; refine run_seq ?_)
  (refine run_cond rfl (fun hc => ?_) (fun hc => ?_) <;> (try simp only [z0, z1, z2, z3, z4, z5, z6, z7, z8, z9, Bool.not_true, Bool.not_false, Bool.false_or, Bool.true_and, true_and, and_true, false_or, or_false, reduceCtorEq, Bool.false_eq_true] at hc))
  · obtain ⟨a, l, c, bs, hn, hs, hi, hok, h64, hnext⟩ := hsd j (by omega)
    have gl := lenL_ge hok
    (refine run_skip ?_; refine then_normal ?_; refine run_seq ?_; refine run_block ?_; refine run_seq ?_; refine run_region ?_)
    refine runL_ev rfl rfl rfl rfl (ev_indexV rfl rfl rfl (ar rfl) (sc rfl) (by omega) (by omega) (v := .slice a l.length c) (by rw [Int.toNat_natCast, Nat.mul_one]; exact hn)) ?_
    (refine xep rfl rfl ?_; refine runL_nil ?_; refine then_normal ?_; refine run_seq ?_; refine run_region ?_; refine xep rfl rfl ?_; refine xel rfl (ev_len rfl rfl (se rfl)) ?_; refine xep rfl rfl ?_; refine runL_nil ?_; refine then_normal ?_; refine run_block ?_)
    generalize [0, lenL B.buys, lenL B.buys + lenL B.sells].getD j 0 = acc at *
    refine run_loopK (σ := Nat) [11, 12, 15, 16, 17, 3] (fun i => [(11, .agg ⟨[.slice a0 B.buys.length c0, .slice a1 B.sells.length c1]⟩), (12, .int .i64 j), (15, .slice a l.length c), (16, .int .i64 l.length), (17, .int .i64 i), (3, .int .i64 ((acc + lenL (l.take i) : Nat) : Int))]) (fun _ => []) (fun i => i ≤ l.length) (fun i => l.length - i) 0 (Nat.zero_le _) rfl (fun _ => rfl) ?_
    intro i gi
    have hle := lenL_le l i
    (refine run_seq ?_; refine run_region ?_; refine xep rfl rfl ?_; refine runL_nil ?_; refine then_normal ?_; refine run_seq ?_)
    (refine run_cond rfl (fun hc => ?_) (fun hc => ?_) <;> (try simp only [z0, z1, z2, z3, z4, z5, z6, z7, z8, z9, Bool.not_true, Bool.not_false, Bool.false_or, Bool.true_and, true_and, and_true, false_or, or_false, reduceCtorEq, Bool.false_eq_true] at hc))
    · obtain ⟨b2, off, bi, lv, rfl, hlv, l1, hin⟩ := SdIn.level (n := 0) (cap := 0) hs hi (i := i) (by omega)
      have q1 := fun G : Heap => sp_llen (G ++ F) bi lv.p lv.es (hin.mono fun x m => List.mem_append_right _ m)
      have ht := lenL_take hlv
      have hle2 := lenL_le l (i + 1)
      (refine run_skip ?_; refine then_normal ?_; refine run_seq ?_; refine run_block ?_; refine run_seq ?_; refine run_region ?_; refine xel rfl (ev_indexAddr rfl rfl rfl (se rfl) (by omega) (by omega)) ?_; refine xel rfl (ev_loadF rfl rfl (sc rfl) l1) ?_; refine xep rfl rfl ?_; refine runL_nil ?_; refine then_normal ?_; refine run_region ?_; (iterate 2 refine xep rfl rfl ?_); refine xel rfl (ev_callQ rfl rfl rfl (pf rfl) (q1 ..)) ?_; refine xel rfl (ev_add rfl rfl rfl (by omega)) ?_; refine xep rfl rfl ?_; refine runL_nil ?_; refine in_normal ?_; refine then_normal ?_; refine run_region ?_; refine xel rfl (ev_add rfl rfl rfl (by omega)) ?_; refine xep rfl rfl ?_; refine runL_nil ?_; refine then_normal ?_)
      refine ⟨i + 1, by omega, by omega, ?_, [], fun _ => rfl⟩
      rw [ht, ← Nat.add_assoc]; rfl
    · have : i = l.length := by omega
      subst this
      (refine run_exit ?_; (iterate 2 refine then_exit ?_); refine in_exit ?_; refine in_normal ?_; refine then_normal ?_)
      (refine run_region ?_; refine xel rfl (ev_add rfl rfl rfl (by omega)) ?_; refine xep rfl rfl ?_; refine runL_nil ?_; refine then_normal ?_)
      refine ⟨j + 1, by omega, by omega, ?_, [], fun _ => rfl⟩
      rw [hnext, List.take_length]; rfl
  · have : j = 2 := by omega
    subst this
    (refine run_exit ?_; (iterate 2 refine then_exit ?_); refine in_exit ?_; refine then_normal ?_)
    (refine run_seq ?_; refine run_region ?_; (iterate 2 refine xep rfl rfl ?_); refine runL_nil ?_; refine then_normal ?_; refine run_ret ?_)
    exact ⟨_, rfl, rfl⟩
end Go.Proofs.Ytfhpoagnfmgfkaa
