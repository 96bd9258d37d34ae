/- Contracts of functions of the given program over its translation, each proved by walking its text; used by the laws' rows. It proves no given statement by itself. -/
import Derived.Test.YtfhpoagnfmgfkaaSLSlcL
set_option autoImplicit false
set_option linter.unusedSectionVars false
set_option linter.unusedSimpArgs false
set_option linter.unusedVariables false
set_option maxRecDepth 4000
set_option maxHeartbeats 8000000
namespace Go.Proofs.Ytfhpoagnfmgfkaa
open Go Go.SL Go.Proofs
variable [Base]
theorem sp_insLvl (F A : Heap) (a : Option Addr) (k cap : Nat) (bs : List Nat) (own : OwnS 81 1 (.slice a k cap) k (rows pc bs) A) (hbl : bs.length = k) (hkb : k ≤ 65536) (i : Nat) (hi : i ≤ k) (c bv : Nat) :
    Sp Try.prog F 79 [.slice a k cap, .int .i64 i, .slice (some ⟨bv, 0, none⟩) 1 1] (A ++ [blk bv (pc c) 81]) (fun v h' => OwnS 81 1 v (k + 1) (rows pc (bs.take i ++ c :: bs.drop i)) h') := by
  have hkc : k ≤ cap := by
    obtain ⟨_, _, h1, h2⟩ := own.form
    cases h1; exact h2
  have hT : (rows pc (bs.take i)).length = i := by rw [rows_len pc_len, List.length_take]; omega
  have hD : (rows pc (bs.drop i)).length = k - i := by rw [rows_len pc_len, List.length_drop]; omega
  have hTD : rows pc bs = rows pc (bs.take i) ++ rows pc (bs.drop i) := by rw [← rows_append, List.take_append_drop]
  have hfin : rows pc (bs.take i ++ c :: bs.drop i) = rows pc (bs.take i) ++ pc c ++ rows pc (bs.drop i) := by rw [rows_append, List.append_assoc]; rfl
  rw [hfin]
  have hDc : allCells (rows pc (bs.drop i)) = true := rows_cells pc_cells _
  have hTs := fun G : Heap => (own.src (H := G ++ (A ++ [blk bv (pc c) 81] ++ F)) fun x m => by simp [m])
  refine Sp.up ?_
  refine sp_of_code Try.func79 rfl rfl ?_
  (refine run_seq ?_; refine run_region ?_; refine xep rfl rfl ?_; refine runL_nil ?_; refine then_normal ?_; refine run_seq ?_; refine run_region ?_; (iterate 2 refine xep rfl rfl ?_); refine xel rfl (ev_sliceLo rfl rfl rfl (se rfl) (by omega) (by omega)) ?_; refine runL_nil ?_; refine then_normal ?_; refine run_seq ?_; refine run_region ?_; refine xep rfl rfl ?_; refine xel rfl (ev_len rfl rfl (se rfl)) ?_; refine xep rfl rfl ?_; refine runL_nil ?_; refine then_normal ?_; (iterate 2 refine run_seq ?_); refine run_region ?_; (iterate 2 refine xep rfl rfl ?_); refine runL_nil ?_; refine then_normal ?_)
  refine run_condF rfl rfl ?_
  (refine run_skip ?_; refine then_normal ?_; refine run_seq ?_; refine run_region ?_; refine xep rfl rfl ?_; refine xel rfl (ev_len rfl rfl (se rfl)) ?_; refine xep rfl rfl ?_; refine runL_nil ?_; refine then_normal ?_; (iterate 2 refine run_seq ?_); refine run_region ?_; (iterate 3 refine xep rfl rfl ?_); refine runL_nil ?_; refine then_normal ?_)
  (refine run_cond rfl (fun hc => ?_) (fun hc => ?_) <;> (try simp only [z0, z1, z2, z3, z4, z5, z6, z7, z8, z9, Bool.not_true, Bool.not_false, Bool.false_or, Bool.true_and, true_and, and_true, false_or, or_false, reduceCtorEq, Bool.false_eq_true] at hc))
  · have hik : i = k := by omega
    (refine run_seq ?_; refine run_region ?_; (iterate 2 refine xep rfl rfl ?_))
    refine runL_append (sl := pc c) [blk bv (pc c) 81] rfl rfl rfl rfl rfl rfl rfl (se rfl) (se rfl) ze81 rfl (byt rfl) own (fun y => rfl) ⟨rfl, .inr ⟨bv, 0, _, _, _, rfl, List.mem_append_left _ (List.mem_append_right _ (.head _)), by simp [pc], rfl⟩⟩ rfl (by decide) (by decide) (by omega) ?_
    rintro v' A' own'
    have hd0 : bs.drop i = [] := List.drop_eq_nil_of_le (by omega)
    have ht0 : bs.take i = bs := List.take_of_length_le (by omega)
    (refine xep rfl rfl ?_; refine runL_nil ?_; refine then_normal ?_; refine run_ret ?_; refine then_ret ?_)
    rw [hd0, ht0]
    exact ⟨_, rfl, A', [blk bv (pc c) 81], by rw [show rows pc [] = [] from rfl, List.append_nil]; exact own', fun y => by (first | rfl | (simp only [List.append_eq, cnt_append, cnt_cons, cnt_nil, blk]; omega) | (simp only [List.append_eq, cnt_append, cnt_cons, cnt_nil, blk]; done))⟩
  · (refine run_skip ?_; refine then_normal ?_; (iterate 2 refine run_seq ?_); refine run_region ?_; (iterate 2 refine xep rfl rfl ?_); refine xel rfl (ev_add rfl rfl rfl (by omega)) ?_; refine xep rfl rfl ?_; refine xel rfl (ev_cap rfl rfl (se rfl)) ?_; refine xep rfl rfl ?_; refine runL_nil ?_; refine then_normal ?_)
    (refine run_cond rfl (fun hc => ?_) (fun hc => ?_) <;> (try simp only [z0, z1, z2, z3, z4, z5, z6, z7, z8, z9, Bool.not_true, Bool.not_false, Bool.false_or, Bool.true_and, true_and, and_true, false_or, or_false, reduceCtorEq, Bool.false_eq_true] at hc))
    · have hck : cap = k := by omega
      subst hck
      (refine run_seq ?_; refine run_region ?_; (iterate 2 refine xep rfl rfl ?_); refine xel rfl (ev_sliceHi rfl rfl rfl (se rfl) (by omega) (by omega)) ?_; (iterate 2 refine xep rfl rfl ?_); refine xel rfl (ev_add rfl rfl rfl (by omega)) ?_; refine xep rfl rfl ?_; refine xel rfl (ev_sub rfl rfl rfl (by omega)) ?_)
      have s1 := (hTs []).take (k := i) hi
      rw [List.nil_append, show (rows pc bs).take (i * 1) = rows pc (bs.take i) by rw [rows_take pc_len _ (by omega)]] at s1
      refine runL_appendZ (m := cap + 1 - i) rfl rfl rfl rfl rfl rfl rfl (by omega) (se rfl) (kn := .i64) (by kernel_rfl) ze81 rfl rfl (byt rfl) s1 (by omega) (by omega) (by decide) (by decide) (by omega) ?_
      intro b' zs rst cap' hz hc1 hc2
      (refine xep rfl rfl ?_; refine runL_nil ?_; refine then_normal ?_; refine run_seq ?_; refine run_region ?_; (iterate 2 refine xep rfl rfl ?_); refine xel rfl (ev_sliceLo rfl rfl rfl (se rfl) (by omega) (by omega)) ?_; refine xep rfl rfl ?_)
      have ei : (i : Int).toNat = i := Int.toNat_natCast i
      have ei1 : ((i : Int) + ((1 : Nat) : Int)).toNat = i + 1 := by omega
      simp only [ei]
      rw [cutA_ne (b := b') (off := 0) (l := i) (by omega)]
      have hXl : (rows pc (bs.take i) ++ zs ++ rst).length = cap' := by simp only [List.length_append, hT, hz]; omega
      refine runL_copy (m := 1) (sl := pc c) rfl rfl rfl rfl rfl rfl rfl (se rfl) (by show min 1 _ = 1; omega) (by omega) ⟨rfl, .inr ⟨bv, 0, _, _, _, rfl, memF (.tail _ (List.mem_append_right _ (.head _))), by simp [pc], rfl⟩⟩ rfl ?_
      have hY : (rows pc (bs.take i) ++ zs ++ rst).take (0 + i * 1) ++ pc c ++ (rows pc (bs.take i) ++ zs ++ rst).drop (0 + i * 1 + 1 * 1) = rows pc (bs.take i) ++ pc c ++ (zs.drop 1 ++ rst) := by
        rw [show 0 + i * 1 = (rows pc (bs.take i)).length by omega, List.append_assoc (rows pc (bs.take i)) zs rst, List.take_left, List.drop_append, show (rows pc (bs.take i)).length + 1 * 1 - (rows pc (bs.take i)).length = 1 by omega, List.drop_of_length_le (by omega), List.nil_append, List.drop_append_of_le_length (by omega)]
      rw [hY]
      have hYl : (rows pc (bs.take i) ++ pc c ++ (zs.drop 1 ++ rst)).length = cap' := by simp only [List.length_append, List.length_drop, hT, hz, pc_len]; omega
      (refine runL_nil ?_; refine then_normal ?_; refine run_seq ?_)
      refine run_region_D mo ?_
      (refine runD_q 0 rfl rfl (by kernel_rfl) ?_; refine ⟨_, fun _ => ev_pure rfl, ?_⟩; refine runD_q 1 rfl rfl (by kernel_rfl) ?_; refine ⟨_, fun _ => ev_pure rfl, ?_⟩; refine runD_q 2 rfl rfl (by kernel_rfl) ?_; refine ⟨_, fun _ => ev_pure rfl, ?_⟩; refine runD_q 3 rfl rfl (by kernel_rfl) ?_; refine ⟨_, fun _ => ev_add rfl rfl rfl (by omega), ?_⟩; refine runD_q 4 rfl rfl (by kernel_rfl) ?_; refine ⟨_, fun _ => ev_sliceLo rfl rfl rfl (se rfl) (by omega) (by omega), ?_⟩; refine runD_q 5 rfl rfl (by kernel_rfl) ?_; refine ⟨_, fun _ => ev_pure rfl, ?_⟩; refine runD_q 6 rfl rfl (by kernel_rfl) ?_; refine ⟨_, fun _ => ev_pure rfl, ?_⟩; refine runD_q 7 rfl rfl (by kernel_rfl) ?_; refine ⟨_, fun _ => ev_sliceLo rfl rfl rfl (se rfl) (by omega) (by omega), ?_⟩; refine runD_1 8 (by kernel_rfl) rfl rfl rfl ?_)
      simp only [ei, ei1]
      rw [cutA_ne (b := b') (off := 0) (l := i + 1) (by omega)]
      have s2 := (hTs [blk b' (rows pc (bs.take i) ++ pc c ++ (zs.drop 1 ++ rst)) 81]).drop (k := i) (cap := cap) hi hkc
      rw [show (rows pc bs).drop (i * 1) = rows pc (bs.drop i) by rw [rows_drop pc_len _ (by omega)]] at s2
      refine runL_copy (m := cap - i) (sl := rows pc (bs.drop i)) rfl rfl rfl rfl rfl rfl rfl (se rfl) (by show min _ _ = _; omega) (by omega) s2 hDc ?_
      have hZ : (rows pc (bs.take i) ++ pc c ++ (zs.drop 1 ++ rst)).take (0 + (i + 1) * 1) ++ rows pc (bs.drop i) ++ (rows pc (bs.take i) ++ pc c ++ (zs.drop 1 ++ rst)).drop (0 + (i + 1) * 1 + (cap - i) * 1) = rows pc (bs.take i) ++ pc c ++ rows pc (bs.drop i) ++ rst := by
        have e1 : 0 + (i + 1) * 1 = (rows pc (bs.take i) ++ pc c).length := by rw [List.length_append, hT, pc_len]; omega
        rw [e1, List.take_left, ← List.drop_drop, List.drop_left, show (cap - i) * 1 = (zs.drop 1).length by rw [List.length_drop]; omega, List.drop_left]
      rw [hZ]
      (refine runL_nil ?_; refine endS_d rfl ?_; refine runD_done (by kernel_rfl) ?_; refine then_normal ?_; refine run_seq ?_; refine run_region ?_; (iterate 2 refine xep rfl rfl ?_); refine runL_nil ?_; refine then_normal ?_; refine run_ret ?_; refine then_ret ?_)
      refine ⟨_, rfl, [blk b' (rows pc (bs.take i) ++ pc c ++ rows pc (bs.drop i) ++ rst) 81], A ++ [blk bv (pc c) 81], .inr ⟨b', rst, cap', ?_, rfl, ?_, ?_, ?_⟩, fun y => by (first | rfl | (simp only [List.append_eq, cnt_append, cnt_cons, cnt_nil, blk]; omega) | (simp only [List.append_eq, cnt_append, cnt_cons, cnt_nil, blk]; done))⟩
      · show Value.slice _ (i + (cap + 1 - i)) cap' = _
        congr 1; omega
      · simp only [List.length_append, hT, hD, pc_len]; omega
      · omega
      · omega
    · (refine run_skip ?_; refine then_normal ?_; refine run_seq ?_; refine run_region ?_; (iterate 3 refine xep rfl rfl ?_); refine xel rfl (ev_add rfl rfl rfl (by omega)) ?_; refine xel rfl (ev_sliceHi rfl rfl rfl (se rfl) (by omega) (by omega)) ?_; refine xep rfl rfl ?_; refine runL_nil ?_; refine then_normal ?_; (iterate 2 refine run_seq ?_); refine run_region ?_; (iterate 4 refine xep rfl rfl ?_); refine xel rfl (ev_add rfl rfl rfl (by omega)) ?_; refine xel rfl (ev_sliceLo rfl rfl rfl (se rfl) (by omega) (by omega)) ?_)
      obtain ⟨b, rest, capx, hv, rfl, hl, hr, hk⟩ := own.pos (by omega)
      cases hv
      have ei : (i : Int).toNat = i := Int.toNat_natCast i
      have ei1 : ((i : Int) + ((1 : Nat) : Int)).toNat = i + 1 := by omega
      have ek1 : ((k : Int) + ((1 : Nat) : Int)).toNat = k + 1 := by omega
      simp only [ei, ei1, ek1]
      rw [cutA_ne (b := b) (off := 0) (l := i + 1) (by omega)]
      refine RunL.perm (h' := blk bv (pc c) 81 :: blk b (rows pc bs ++ rest) 81 :: []) (fun y => by (first | rfl | (simp only [List.append_eq, cnt_append, cnt_cons, cnt_nil, blk]; omega) | (simp only [List.append_eq, cnt_append, cnt_cons, cnt_nil, blk]; done))) ?_
      refine RunL.ne fun hne => ?_
      refine runL_ev rfl rfl rfl rfl (ev_overlaps (tS := 80) (tR := 4) rfl rfl rfl Try.func84 rfl rfl rfl (by kernel_rfl) (se rfl) (memF (.head _)) (memF (.tail _ (.head _))) hne (by rw [List.length_append, hl]; omega)) ?_
      (refine xep rfl rfl ?_; refine runL_nil ?_; refine then_normal ?_)
      refine run_condT rfl rfl ?_
      (refine run_seq ?_)
      refine RunC.perm (h' := blk b (rows pc bs ++ rest) 81 :: blk bv (pc c) 81 :: []) (fun y => by (first | rfl | (simp only [List.append_eq, cnt_append, cnt_cons, cnt_nil, blk]; omega) | (simp only [List.append_eq, cnt_append, cnt_cons, cnt_nil, blk]; done))) ?_
      refine run_region_D mo ?_
      (refine runD_q 0 rfl rfl (by kernel_rfl) ?_; refine ⟨_, fun _ => ev_pure rfl, ?_⟩; refine runD_q 1 rfl rfl (by kernel_rfl) ?_; refine ⟨_, fun _ => ev_pure rfl, ?_⟩; refine runD_q 2 rfl rfl (by kernel_rfl) ?_; refine ⟨_, fun _ => ev_pure rfl, ?_⟩; refine runD_q 3 rfl rfl (by kernel_rfl) ?_; refine ⟨_, fun _ => ev_add rfl rfl rfl (by omega), ?_⟩; refine runD_q 4 rfl rfl (by kernel_rfl) ?_; refine ⟨_, fun _ => ev_sliceLo rfl rfl rfl (se rfl) (by omega) (by omega), ?_⟩; refine runD_q 5 rfl rfl (by kernel_rfl) ?_; refine ⟨_, fun _ => ev_pure rfl, ?_⟩; refine runD_q 6 rfl rfl (by kernel_rfl) ?_; refine ⟨_, fun _ => ev_pure rfl, ?_⟩; refine runD_q 7 rfl rfl (by kernel_rfl) ?_; refine ⟨_, fun _ => ev_sliceLo rfl rfl rfl (se rfl) (by omega) (by omega), ?_⟩; refine runD_1 8 (by kernel_rfl) rfl rfl rfl ?_)
      simp only [ei, ei1, ek1]
      rw [cutA_ne (b := b) (off := 0) (l := i + 1) (by omega)]
      have hcl : (rows pc bs ++ rest).length = cap := by rw [List.length_append, hl]; omega
      have s2 := (own.src (H := (blk b (rows pc bs ++ rest) 81 :: blk bv (pc c) 81 :: []) ++ F) fun x m => by simp at m; simp [m]).drop (k := i) (cap := cap) hi hkc
      rw [show (rows pc bs).drop (i * 1) = rows pc (bs.drop i) by rw [rows_drop pc_len _ (by omega)]] at s2
      refine runL_copy (m := k - i) (sl := rows pc (bs.drop i)) rfl rfl rfl rfl rfl rfl rfl (se rfl) (by show min _ _ = _; omega) (by omega) s2 hDc ?_
      have hY : (rows pc bs ++ rest).take (0 + (i + 1) * 1) ++ rows pc (bs.drop i) ++ (rows pc bs ++ rest).drop (0 + (i + 1) * 1 + (k - i) * 1) = (rows pc bs ++ rest).take (i + 1) ++ rows pc (bs.drop i) ++ rest.drop 1 := by
        rw [show 0 + (i + 1) * 1 = i + 1 by omega, show i + 1 + (k - i) * 1 = (rows pc bs).length + 1 by omega, ← List.drop_drop, List.drop_left]
      rw [hY]
      have hYl : ((rows pc bs ++ rest).take (i + 1) ++ rows pc (bs.drop i) ++ rest.drop 1).length = cap := by simp only [List.length_append, List.length_take, List.length_drop, hD]; omega
      (refine runL_nil ?_; refine endS_d rfl ?_; refine runD_done (by kernel_rfl) ?_; refine then_normal ?_; refine run_seq ?_; refine run_region ?_; (iterate 2 refine xep rfl rfl ?_); refine xel rfl (ev_sliceLo rfl rfl rfl (se rfl) (by omega) (by omega)) ?_; refine xep rfl rfl ?_)
      simp only [ei, ei1, ek1]
      rw [cutA_ne (b := b) (off := 0) (l := i) (by omega)]
      refine runL_copy (m := 1) (sl := pc c) rfl rfl rfl rfl rfl rfl rfl (se rfl) (by show min 1 _ = 1; omega) (by omega) ⟨rfl, .inr ⟨bv, 0, _, _, _, rfl, memF (.tail _ (.head _)), by simp [pc], rfl⟩⟩ rfl ?_
      have hZ : ((rows pc bs ++ rest).take (i + 1) ++ rows pc (bs.drop i) ++ rest.drop 1).take (0 + i * 1) ++ pc c ++ ((rows pc bs ++ rest).take (i + 1) ++ rows pc (bs.drop i) ++ rest.drop 1).drop (0 + i * 1 + 1 * 1) = rows pc (bs.take i) ++ pc c ++ rows pc (bs.drop i) ++ rest.drop 1 := by
        have e1 : ((rows pc bs ++ rest).take (i + 1)).length = i + 1 := by rw [List.length_take]; omega
        have e2 : ((rows pc bs ++ rest).take (i + 1)).take i = rows pc (bs.take i) := by
          rw [List.take_take, show min i (i + 1) = i by omega, List.take_append_of_le_length (by omega)]
          have := rows_take pc_len bs (i := i) (by omega)
          rw [Nat.mul_one] at this; exact this
        generalize (rows pc bs ++ rest).take (i + 1) = X at *
        rw [show 0 + i * 1 + 1 * 1 = X.length by omega, show 0 + i * 1 = i by omega, List.append_assoc X, List.drop_left, List.take_append_of_le_length (by omega), e2]
        simp only [List.append_assoc]
      rw [hZ]
      (refine runL_nil ?_; refine then_normal ?_; refine run_seq ?_; refine run_region ?_; (iterate 2 refine xep rfl rfl ?_); refine runL_nil ?_; refine then_normal ?_; refine run_ret ?_; refine then_ret ?_)
      refine ⟨_, rfl, [blk b (rows pc (bs.take i) ++ pc c ++ rows pc (bs.drop i) ++ rest.drop 1) 81], [blk bv (pc c) 81], .inr ⟨b, rest.drop 1, cap, ?_, rfl, ?_, ?_, ?_⟩, fun y => by (first | rfl | (simp only [List.append_eq, cnt_append, cnt_cons, cnt_nil, blk]; omega) | (simp only [List.append_eq, cnt_append, cnt_cons, cnt_nil, blk]; done))⟩
      · rfl
      · simp only [List.length_append, hT, hD, pc_len]; omega
      · rw [List.length_drop]; omega
      · omega
end Go.Proofs.Ytfhpoagnfmgfkaa
