/- Contracts of functions of the given program over its translation, each proved by walking its text; used by the laws' rows. It proves no given statement by itself. -/
import Derived.Test.YtmelpobcpcmdoaaGreatSLLvl3X
import Derived.Test.YtmelpobcpcmdoaaGreatSLDraw2
import Derived.Test.YtmelpobcpcmdoaaGreatSLSlcEX
import Derived.Test.YtmelpobcpcmdoaaGreatSLCopy
set_option autoImplicit false
set_option linter.unusedSectionVars false
set_option linter.unusedSimpArgs false
set_option linter.unusedVariables false
set_option maxRecDepth 4000
namespace Go.Proofs.YtmelpobcpcmdoaaGreat
open Go Go.SL Go.Proofs
variable [Base]
/-- The document's level at a block of its own. -/
def RvH (b : Nat) (p : Int) (es : List Ent) (H : Heap) : Prop :=
  ∃ a cap A, OwnS 102 10 (.slice a es.length cap) es.length (rows ec es) A ∧ H = blk b [.int .i64 p, .slice a es.length cap] 100 :: A
def RvIn (F : Heap) (b : Nat) (p : Int) (es : List Ent) : Prop :=
  ∃ a cap, es.length ≤ cap ∧ blk b [.int .i64 p, .slice a es.length cap] 100 ∈ F ∧ SrcIs F a es.length 10 (rows ec es)
theorem RvH.in {b : Nat} {p : Int} {es : List Ent} {H F : Heap} (h : RvH b p es H) (hF : ∀ x ∈ H, x ∈ F) : RvIn F b p es := by
  obtain ⟨a, cap, A, own, rfl⟩ := h
  have hc : es.length ≤ cap := by
    obtain ⟨_, _, hv, h2⟩ := own.form
    cases hv; exact h2
  exact ⟨a, cap, hc, hF _ (.head _), own.src fun x m => hF _ (.tail _ m)⟩
theorem RvIn.mono {F F' : Heap} {b : Nat} {p : Int} {es : List Ent} (h : RvIn F b p es) (hF : ∀ x ∈ F, x ∈ F') : RvIn F' b p es := by
  obtain ⟨a, cap, h0, h1, h2⟩ := h
  exact ⟨a, cap, h0, hF _ h1, h2.mono hF⟩
theorem RvIn.up {F A : Heap} {b : Nat} {p : Int} {es : List Ent} (h : RvIn F b p es) : RvIn (A ++ F) b p es := h.mono fun x m => List.mem_append_right _ m
theorem sp_rtip (F : Heap) (o : Ord) : Sp Tryz.prog F 100 [ov o] [] (Ret (.int .i64 (tip o))) := by
  refine sp_of_code Tryz.func100 rfl rfl ?_
  unfold tip
  (refine run_seq ?_; refine run_region ?_; refine runL_box rfl rfl rfl rfl rfl rfl (fun _ => ?_); refine xep rfl rfl ?_; refine runL_nil ?_; refine then_normal ?_; (iterate 2 refine run_seq ?_); refine run_region ?_; refine xel rfl (ev_fieldAddr rfl rfl (fo rfl)) ?_; refine xel rfl (ev_loadK rfl rfl (sc rfl) (memF (.head _)) rfl) ?_; refine xep rfl rfl ?_; refine runL_nil ?_; refine then_normal ?_)
  (refine run_cond rfl (fun hc => ?_) (fun hc => ?_) <;> (try simp only [z0, z1, z2, z3, z4, z5, z6, z7, z8, z9, Bool.not_true, Bool.not_false, Bool.false_or, Bool.true_and, true_and, and_true, false_or, or_false, reduceCtorEq, Bool.false_eq_true] at hc))
  · (refine run_seq ?_; refine run_region ?_; refine xel rfl (ev_fieldAddr rfl rfl (fo rfl)) ?_; refine xel rfl (ev_loadK rfl rfl (sc rfl) (memF (.head _)) rfl) ?_; refine xel rfl (ev_fieldAddr rfl rfl (fo rfl)) ?_; refine xel rfl (ev_loadK rfl rfl (sc rfl) (memF (.head _)) rfl) ?_; refine xel rfl (ev_min rfl rfl rfl) ?_; refine xep rfl rfl ?_; refine runL_nil ?_; refine then_normal ?_; refine run_ret ?_; refine then_ret ?_)
    rw [if_pos hc]; exact ⟨_, rfl, rfl⟩
  · (refine run_skip ?_; refine then_normal ?_; refine run_seq ?_; refine run_region ?_; refine xel rfl (ev_fieldAddr rfl rfl (fo rfl)) ?_; refine xel rfl (ev_loadK rfl rfl (sc rfl) (memF (.head _)) rfl) ?_; refine xep rfl rfl ?_; refine runL_nil ?_; refine then_normal ?_; refine run_ret ?_)
    rw [if_neg (by omega)]; exact ⟨_, rfl, rfl⟩
theorem sp_rorders (F : Heap) (b : Nat) (p : Int) (es : List Ent) (hl : RvIn F b p es) (hb : es.length ≤ 65536) :
    Sp Tryz.prog F 73 [.pointer (some ⟨b, 0, none⟩)] [] (fun v h' => OwnS 35 9 v es.length (rows Ord.cells (es.map (·.o))) h') := by
  obtain ⟨a, cap, -, hm, hs⟩ := hl
  have l1 : LoadsF F b (0 + 1) (.slice a es.length cap) := ⟨_, _, _, hm, rfl⟩
  refine Sp.up ?_
  refine sp_of_code Tryz.func73 rfl rfl ?_
  (refine run_seq ?_; refine run_region ?_; refine xep rfl rfl ?_; refine runL_nil ?_; refine then_normal ?_; refine run_seq ?_; refine run_region ?_; refine xep rfl rfl ?_; refine runL_nil ?_; refine then_normal ?_; (iterate 2 refine run_seq ?_); refine run_region ?_; (iterate 2 refine xep rfl rfl ?_); refine xel rfl (ev_fieldAddr rfl rfl (fo rfl)) ?_; refine xel rfl (ev_loadF rfl rfl (sc rfl) l1) ?_; refine xel rfl (ev_len rfl rfl (se rfl)) ?_; refine xep rfl rfl ?_; refine runL_nil ?_; refine then_normal ?_; refine run_block ?_)
  clear l1
  refine run_loopK (σ := Nat × Option Addr × Nat × Heap) [9, 10, 11, 3] (fun s => [(9, .slice a es.length cap), (10, .int .i64 es.length), (11, .int .i64 s.1), (3, .slice s.2.1 s.1 s.2.2.1)]) (fun s => s.2.2.2)
    (fun s => s.1 ≤ es.length ∧ OwnS 35 9 (.slice s.2.1 s.1 s.2.2.1) s.1 (rows Ord.cells ((es.take s.1).map (·.o))) s.2.2.2) (fun s => es.length - s.1) (0, none, 0, []) ⟨Nat.zero_le _, .nil _ _⟩ rfl (fun _ => rfl) ?_
  rintro ⟨i, ao, co, A⟩ ⟨gi, own⟩
  dsimp only at gi own ⊢
  (refine run_seq ?_; refine run_region ?_; refine xep rfl rfl ?_; refine runL_nil ?_; refine then_normal ?_; refine run_seq ?_)
  (refine run_cond rfl (fun hc => ?_) (fun hc => ?_) <;> (try simp only [z0, z1, z2, z3, z4, z5, z6, z7, z8, z9, Bool.not_true, Bool.not_false, Bool.false_or, Bool.true_and, true_and, and_true, false_or, or_false, reduceCtorEq, Bool.false_eq_true] at hc))
  · obtain ⟨b2, off, _, _, _, rfl, _⟩ := hs.pos (by omega)
    obtain ⟨x, hx⟩ : ∃ x, es[i]? = some x := ⟨es[i]'(by omega), List.getElem?_eq_getElem _⟩
    have l1 := SrcIs.row ec_len hs rfl hx
    (refine run_skip ?_; refine then_normal ?_; refine run_seq ?_; refine run_block ?_; refine run_seq ?_; refine run_region ?_; refine xel rfl (ev_indexAddr rfl rfl rfl (se rfl) (by omega) (by omega)) ?_; refine xel rfl (ev_loadAF rfl rfl (ag rfl) (sz rfl) l1 rfl) ?_; refine runL_alloc rfl rfl rfl rfl rfl ze84 (fun _ => ?_); refine runL_store0 rfl rfl rfl rfl rfl (sz rfl) rfl rfl rfl rfl rfl ?_; refine runL_nil ?_; refine then_normal ?_; refine run_region ?_; refine xep rfl rfl ?_; refine xel rfl (ev_fieldAddr rfl rfl (fo rfl)) ?_; refine xel rfl (ev_loadAK rfl rfl (ag rfl) (sz rfl) (memF (.head _)) rfl) ?_)
    rename_i b3
    refine runL_buildSlice (l := x.o.cells) rfl rfl rfl rfl rfl (se rfl) ze35 rfl rfl rfl rfl rfl (fun b4 => ?_)
    skip
    refine runL_append (sl := x.o.cells) [blk b4 x.o.cells 35, blk b3 (ec x) 102] rfl rfl rfl rfl rfl rfl rfl (se rfl) (se rfl) ze35 rfl (byt rfl) own (fun y => by show cnt y (blk b4 x.o.cells 35 :: blk b3 (ec x) 102 :: A) = _; (first | rfl | (simp only [List.append_eq, cnt_append, cnt_cons, cnt_nil, blk]; omega) | (simp only [List.append_eq, cnt_append, cnt_cons, cnt_nil, blk]; done))) ⟨rfl, .inr ⟨b4, 0, _, _, _, rfl, memF (.head _), by simp [Ord.cells], rfl⟩⟩ rfl (by decide) (by decide) (by omega) ?_
    rintro v' A' own'
    have own2 := own'.snoc (x := x.o) (by rw [List.length_map, List.length_take]; omega)
    have e : (es.take i).map (·.o) ++ [x.o] = (es.take (i + 1)).map (·.o) := by
      have hi := (List.getElem?_eq_some_iff.1 hx).1
      rw [List.take_succ_eq_append_getElem hi, List.map_append, (List.getElem?_eq_some_iff.1 hx).2]; rfl
    rw [e, List.length_map, List.length_take, Nat.min_eq_left (by omega)] at own2
    obtain ⟨a5, c5, rfl, own3⟩ := own2.at
    (refine xep rfl rfl ?_; refine runL_nil ?_; refine in_normal ?_; refine then_normal ?_; refine run_region ?_; refine xel rfl (ev_add rfl rfl rfl (by omega)) ?_; refine xep rfl rfl ?_; refine runL_nil ?_; refine then_normal ?_)
    exact ⟨(i + 1, a5, c5, A'), ⟨by show i + 1 ≤ _; omega, own3⟩, by show es.length - (i + 1) < es.length - i; omega, rfl, _, fun _ => rfl⟩
  · have : i = es.length := by omega
    subst this
    (refine run_exit ?_; (iterate 2 refine then_exit ?_); refine in_exit ?_; refine then_normal ?_)
    (refine run_seq ?_; refine run_region ?_; (iterate 2 refine xep rfl rfl ?_); refine runL_nil ?_; refine then_normal ?_; refine run_ret ?_)
    refine ⟨_, rfl, A, [], ?_, fun x => by rw [List.append_nil]⟩
    rw [List.take_length] at own
    exact own
end Go.Proofs.YtmelpobcpcmdoaaGreat

set_option autoImplicit false
set_option linter.unusedSectionVars false
set_option linter.unusedSimpArgs false
set_option linter.unusedVariables false
namespace Go.Proofs.YtmelpobcpcmdoaaGreat
open Go Go.SL Go.Proofs
variable [Base]
/-- A pointer's cell. -/
def pc (b : Nat) : List Value := [.pointer (some ⟨b, 0, none⟩)]
theorem pc_len (b : Nat) : (pc b).length = 1 := rfl
theorem pc_cells (b : Nat) : allCells (pc b) = true := rfl
set_option maxHeartbeats 1000000 in
theorem sp_delLvl (F A : Heap) (a : Option Addr) (k cap : Nat) (cl : List Value) (own : OwnS 110 1 (.slice a k cap) k cl A) (hcl : allCells cl = true) (i j : Nat) (hi : i ≤ j) (hj : j ≤ k) :
    Sp Tryz.prog F 104 [.slice a k cap, .int .i64 i, .int .i64 j] A (fun v h' => OwnS 110 1 v (k - (j - i)) (cl.take (i * 1) ++ cl.drop (j * 1)) h') := by
  have hkc : k ≤ cap := by
    obtain ⟨_, _, h1, h2⟩ := own.form
    cases h1; exact h2
  refine sp_of_code Tryz.func104 rfl rfl ?_
  (refine run_seq ?_; refine run_region ?_; refine xep rfl rfl ?_; refine runL_nil ?_; refine then_normal ?_; refine run_seq ?_; refine run_region ?_; (iterate 4 refine xep rfl rfl ?_); refine xel rfl (ev_len rfl rfl (se rfl)) ?_; refine xel rfl (ev_slice3 rfl rfl rfl rfl rfl (se rfl) (by omega) (by omega) (by omega) (by omega)) ?_; refine runL_nil ?_; refine then_normal ?_; (iterate 2 refine run_seq ?_); refine run_region ?_; (iterate 3 refine xep rfl rfl ?_); refine runL_nil ?_; refine then_normal ?_)
  (refine run_cond rfl (fun hc => ?_) (fun hc => ?_) <;> (try simp only [z0, z1, z2, z3, z4, z5, z6, z7, z8, z9, Bool.not_true, Bool.not_false, Bool.false_or, Bool.true_and, true_and, and_true, false_or, or_false, reduceCtorEq, Bool.false_eq_true] at hc))
  · have hij : i = j := by omega
    subst hij
    (refine run_seq ?_; refine run_region ?_; (iterate 2 refine xep rfl rfl ?_); refine runL_nil ?_; refine then_normal ?_; refine run_ret ?_; refine then_ret ?_)
    refine ⟨_, rfl, ?_⟩
    rw [List.take_append_drop, Nat.sub_self, Nat.sub_zero]
    exact own
  · obtain ⟨b, rest, cap', hv, rfl, hl, hr, hk⟩ := own.pos (by omega)
    cases hv
    have e1 : cl ++ rest = cl.take (i * 1) ++ (cl.drop (i * 1) ++ rest) := by rw [← List.append_assoc, List.take_append_drop]
    have l1 : (cl.take (i * 1)).length = i * 1 := by
      rw [List.length_take, hl]; omega
    have l2 : (cl.drop (j * 1)).length = (k - j) * 1 := by
      rw [List.length_drop, hl, Nat.sub_mul]
    (refine run_skip ?_; refine then_normal ?_; refine run_seq ?_; refine run_region ?_; refine xep rfl rfl ?_; refine xel rfl (ev_len rfl rfl (se rfl)) ?_; refine xep rfl rfl ?_; refine runL_nil ?_; refine then_normal ?_; refine run_seq ?_)
    refine run_region_D mo ?_
    (refine runD_q 0 rfl rfl (by kernel_rfl) ?_; refine ⟨_, fun _ => ev_pure rfl, ?_⟩; refine runD_q 1 rfl rfl (by kernel_rfl) ?_; refine ⟨_, fun _ => ev_pure rfl, ?_⟩; refine runD_q 2 rfl rfl (by kernel_rfl) ?_; refine ⟨_, fun _ => ev_sliceHi rfl rfl rfl (se rfl) (by omega) (by omega), ?_⟩; refine runD_q 3 rfl rfl (by kernel_rfl) ?_; refine ⟨_, fun _ => ev_pure rfl, ?_⟩; refine runD_q 4 rfl rfl (by kernel_rfl) ?_; refine ⟨_, fun _ => ev_pure rfl, ?_⟩; refine runD_q 5 rfl rfl (by kernel_rfl) ?_; refine ⟨_, fun _ => ev_sliceLo rfl rfl rfl (se rfl) (by omega) (by omega), ?_⟩; refine runD_1 6 (by kernel_rfl) rfl rfl rfl ?_)
    rw [e1]
    refine runL_appendIn (sl := cl.drop (j * 1)) rfl rfl rfl rfl rfl rfl rfl (se rfl) (se rfl) l1 ?_ ?_ ?_ (allCells_drop hcl _) ?_
    · rw [← e1, List.length_append, hl, l2]; omega
    · omega
    · refine ⟨l2, ?_⟩
      by_cases hjc : cap = j
      · exact .inl (by show k - j = 0; omega)
      · refine .inr ⟨b, 0 + j * 1, _, _, _, cutA_ne hjc, .head _, ?_, ?_⟩
        · rw [← e1, List.length_append, hl]; show 0 + j * 1 + (k - j) * 1 ≤ _; omega
        · rw [← e1, Nat.zero_add, List.drop_append_of_le_length (by rw [hl]; omega)]
          show List.take ((k - j) * 1) _ = _
          rw [← l2, List.take_left]
    generalize hc : cl.take (i * 1) ++ cl.drop (j * 1) ++ (cl.drop (i * 1) ++ rest).drop (cl.drop (j * 1)).length = c
    have lX : (cl.take (i * 1) ++ cl.drop (j * 1)).length = (i + (k - j)) * 1 := by rw [List.length_append, l1, l2, Nat.add_mul]
    have lc : c.length = cap * 1 := by
      rw [← hc, List.length_append, lX, List.length_drop, List.length_append, List.length_drop, hl, l2]; omega
    have tX : c.take ((i + (k - j)) * 1) = cl.take (i * 1) ++ cl.drop (j * 1) := by rw [← hc, ← lX, List.take_left]
    (refine runL_nil ?_; refine endS_d rfl ?_; refine runD_q 7 rfl rfl (by kernel_rfl) ?_; refine ⟨_, fun _ => ev_pure rfl, ?_⟩; refine runD_done (by kernel_rfl) ?_; refine then_normal ?_; refine run_seq ?_; refine run_region ?_; (iterate 2 refine xep rfl rfl ?_); refine xel rfl (ev_len rfl rfl (se rfl)) ?_; refine xep rfl rfl ?_; refine xel rfl (ev_sliceLH rfl rfl rfl rfl (se rfl) (by omega) (by omega) (by omega)) ?_)
    simp only [Int.toNat_natCast]
    rw [cutA_ne (by omega)]
    refine runL_clear rfl rfl rfl rfl (se rfl) ze110 rfl rfl (by rw [lc, Nat.zero_add]; have : (i + (k - j) + (k - (i + (k - j)))) * 1 ≤ cap * 1 := Nat.mul_le_mul_right _ (by omega); rw [Nat.add_mul] at this; exact this) (fun zs hzs => ?_)
    (refine runL_nil ?_; refine then_normal ?_; refine run_seq ?_; refine run_region ?_; (iterate 2 refine xep rfl rfl ?_); refine runL_nil ?_; refine then_normal ?_; refine run_ret ?_)
    refine ⟨_, rfl, .inr ⟨b, zs ++ c.drop (0 + (i + (k - j)) * 1 + (k - (i + (k - j))) * 1), cap, ?_, ?_, ?_, ?_, ?_⟩⟩
    · show Value.slice _ (i + (k - j)) cap = _
      congr 1; omega
    · rw [Nat.zero_add, tX, List.append_assoc]
    · rw [lX]; congr 1; omega
    · rw [List.length_append, hzs, List.length_drop, lc]
      have h1 : (k - (j - i)) = i + (k - j) := by omega
      have h2 : (i + (k - j) + (k - (i + (k - j)))) * 1 ≤ cap * 1 := Nat.mul_le_mul_right _ (by omega)
      rw [Nat.add_mul] at h2
      rw [h1]; omega
    · omega
end Go.Proofs.YtmelpobcpcmdoaaGreat

set_option autoImplicit false
set_option linter.unusedSectionVars false
set_option linter.unusedSimpArgs false
set_option linter.unusedVariables false
set_option maxRecDepth 4000
set_option maxHeartbeats 8000000
namespace Go.Proofs.YtmelpobcpcmdoaaGreat
open Go Go.SL Go.Proofs
variable [Base]
theorem sp_insLvl (F A : Heap) (a : Option Addr) (k cap : Nat) (bs : List Nat) (own : OwnS 110 1 (.slice a k cap) k (rows pc bs) A) (hbl : bs.length = k) (hkb : k ≤ 65536) (i : Nat) (hi : i ≤ k) (c bv : Nat) :
    Sp Tryz.prog F 97 [.slice a k cap, .int .i64 i, .slice (some ⟨bv, 0, none⟩) 1 1] (A ++ [blk bv (pc c) 110]) (fun v h' => OwnS 110 1 v (k + 1) (rows pc (bs.take i ++ c :: bs.drop i)) h') := by
  have hkc : k ≤ cap := by
    obtain ⟨_, _, h1, h2⟩ := own.form
    cases h1; exact h2
  have hT : (rows pc (bs.take i)).length = i := by rw [rows_len pc_len, List.length_take]; omega
  have hD : (rows pc (bs.drop i)).length = k - i := by rw [rows_len pc_len, List.length_drop]; omega
  have hTD : rows pc bs = rows pc (bs.take i) ++ rows pc (bs.drop i) := by rw [← rows_append, List.take_append_drop]
  have hfin : rows pc (bs.take i ++ c :: bs.drop i) = rows pc (bs.take i) ++ pc c ++ rows pc (bs.drop i) := by rw [rows_append, List.append_assoc]; rfl
  rw [hfin]
  have hDc : allCells (rows pc (bs.drop i)) = true := rows_cells pc_cells _
  have hTs := fun G : Heap => (own.src (H := G ++ (A ++ [blk bv (pc c) 110] ++ F)) fun x m => by simp [m])
  refine Sp.up ?_
  refine sp_of_code Tryz.func97 rfl rfl ?_
  (refine run_seq ?_; refine run_region ?_; refine xep rfl rfl ?_; refine runL_nil ?_; refine then_normal ?_; refine run_seq ?_; refine run_region ?_; (iterate 2 refine xep rfl rfl ?_); refine xel rfl (ev_sliceLo rfl rfl rfl (se rfl) (by omega) (by omega)) ?_; refine runL_nil ?_; refine then_normal ?_; refine run_seq ?_; refine run_region ?_; refine xep rfl rfl ?_; refine xel rfl (ev_len rfl rfl (se rfl)) ?_; refine xep rfl rfl ?_; refine runL_nil ?_; refine then_normal ?_; (iterate 2 refine run_seq ?_); refine run_region ?_; (iterate 2 refine xep rfl rfl ?_); refine runL_nil ?_; refine then_normal ?_)
  refine run_condF rfl rfl ?_
  (refine run_skip ?_; refine then_normal ?_; refine run_seq ?_; refine run_region ?_; refine xep rfl rfl ?_; refine xel rfl (ev_len rfl rfl (se rfl)) ?_; refine xep rfl rfl ?_; refine runL_nil ?_; refine then_normal ?_; (iterate 2 refine run_seq ?_); refine run_region ?_; (iterate 3 refine xep rfl rfl ?_); refine runL_nil ?_; refine then_normal ?_)
  (refine run_cond rfl (fun hc => ?_) (fun hc => ?_) <;> (try simp only [z0, z1, z2, z3, z4, z5, z6, z7, z8, z9, Bool.not_true, Bool.not_false, Bool.false_or, Bool.true_and, true_and, and_true, false_or, or_false, reduceCtorEq, Bool.false_eq_true] at hc))
  · have hik : i = k := by omega
    (refine run_seq ?_; refine run_region ?_; (iterate 2 refine xep rfl rfl ?_))
    refine runL_append (sl := pc c) [blk bv (pc c) 110] rfl rfl rfl rfl rfl rfl rfl (se rfl) (se rfl) ze110 rfl (byt rfl) own (fun y => rfl) ⟨rfl, .inr ⟨bv, 0, _, _, _, rfl, List.mem_append_left _ (List.mem_append_right _ (.head _)), by simp [pc], rfl⟩⟩ rfl (by decide) (by decide) (by omega) ?_
    rintro v' A' own'
    have hd0 : bs.drop i = [] := List.drop_eq_nil_of_le (by omega)
    have ht0 : bs.take i = bs := List.take_of_length_le (by omega)
    (refine xep rfl rfl ?_; refine runL_nil ?_; refine then_normal ?_; refine run_ret ?_; refine then_ret ?_)
    rw [hd0, ht0]
    exact ⟨_, rfl, A', [blk bv (pc c) 110], by rw [show rows pc [] = [] from rfl, List.append_nil]; exact own', fun y => by (first | rfl | (simp only [List.append_eq, cnt_append, cnt_cons, cnt_nil, blk]; omega) | (simp only [List.append_eq, cnt_append, cnt_cons, cnt_nil, blk]; done))⟩
  · (refine run_skip ?_; refine then_normal ?_; (iterate 2 refine run_seq ?_); refine run_region ?_; (iterate 2 refine xep rfl rfl ?_); refine xel rfl (ev_add rfl rfl rfl (by omega)) ?_; refine xep rfl rfl ?_; refine xel rfl (ev_cap rfl rfl (se rfl)) ?_; refine xep rfl rfl ?_; refine runL_nil ?_; refine then_normal ?_)
    (refine run_cond rfl (fun hc => ?_) (fun hc => ?_) <;> (try simp only [z0, z1, z2, z3, z4, z5, z6, z7, z8, z9, Bool.not_true, Bool.not_false, Bool.false_or, Bool.true_and, true_and, and_true, false_or, or_false, reduceCtorEq, Bool.false_eq_true] at hc))
    · have hck : cap = k := by omega
      subst hck
      (refine run_seq ?_; refine run_region ?_; (iterate 2 refine xep rfl rfl ?_); refine xel rfl (ev_sliceHi rfl rfl rfl (se rfl) (by omega) (by omega)) ?_; (iterate 2 refine xep rfl rfl ?_); refine xel rfl (ev_add rfl rfl rfl (by omega)) ?_; refine xep rfl rfl ?_; refine xel rfl (ev_sub rfl rfl rfl (by omega)) ?_)
      have s1 := (hTs []).take (k := i) hi
      rw [List.nil_append, show (rows pc bs).take (i * 1) = rows pc (bs.take i) by rw [rows_take pc_len _ (by omega)]] at s1
      refine runL_appendZ (m := cap + 1 - i) rfl rfl rfl rfl rfl rfl rfl (by omega) (se rfl) (kn := .i64) (by kernel_rfl) ze110 rfl rfl (byt rfl) s1 (by omega) (by omega) (by decide) (by decide) (by omega) ?_
      intro b' zs rst cap' hz hc1 hc2
      (refine xep rfl rfl ?_; refine runL_nil ?_; refine then_normal ?_; refine run_seq ?_; refine run_region ?_; (iterate 2 refine xep rfl rfl ?_); refine xel rfl (ev_sliceLo rfl rfl rfl (se rfl) (by omega) (by omega)) ?_; refine xep rfl rfl ?_)
      have ei : (i : Int).toNat = i := Int.toNat_natCast i
      have ei1 : ((i : Int) + ((1 : Nat) : Int)).toNat = i + 1 := by omega
      simp only [ei]
      rw [cutA_ne (b := b') (off := 0) (l := i) (by omega)]
      have hXl : (rows pc (bs.take i) ++ zs ++ rst).length = cap' := by simp only [List.length_append, hT, hz]; omega
      refine runL_copy (m := 1) (sl := pc c) rfl rfl rfl rfl rfl rfl rfl (se rfl) (by show min 1 _ = 1; omega) (by omega) ⟨rfl, .inr ⟨bv, 0, _, _, _, rfl, memF (.tail _ (List.mem_append_right _ (.head _))), by simp [pc], rfl⟩⟩ rfl ?_
      have hY : (rows pc (bs.take i) ++ zs ++ rst).take (0 + i * 1) ++ pc c ++ (rows pc (bs.take i) ++ zs ++ rst).drop (0 + i * 1 + 1 * 1) = rows pc (bs.take i) ++ pc c ++ (zs.drop 1 ++ rst) := by
        rw [show 0 + i * 1 = (rows pc (bs.take i)).length by omega, List.append_assoc (rows pc (bs.take i)) zs rst, List.take_left, List.drop_append, show (rows pc (bs.take i)).length + 1 * 1 - (rows pc (bs.take i)).length = 1 by omega, List.drop_of_length_le (by omega), List.nil_append, List.drop_append_of_le_length (by omega)]
      rw [hY]
      have hYl : (rows pc (bs.take i) ++ pc c ++ (zs.drop 1 ++ rst)).length = cap' := by simp only [List.length_append, List.length_drop, hT, hz, pc_len]; omega
      (refine runL_nil ?_; refine then_normal ?_; refine run_seq ?_)
      refine run_region_D mo ?_
      (refine runD_q 0 rfl rfl (by kernel_rfl) ?_; refine ⟨_, fun _ => ev_pure rfl, ?_⟩; refine runD_q 1 rfl rfl (by kernel_rfl) ?_; refine ⟨_, fun _ => ev_pure rfl, ?_⟩; refine runD_q 2 rfl rfl (by kernel_rfl) ?_; refine ⟨_, fun _ => ev_pure rfl, ?_⟩; refine runD_q 3 rfl rfl (by kernel_rfl) ?_; refine ⟨_, fun _ => ev_add rfl rfl rfl (by omega), ?_⟩; refine runD_q 4 rfl rfl (by kernel_rfl) ?_; refine ⟨_, fun _ => ev_sliceLo rfl rfl rfl (se rfl) (by omega) (by omega), ?_⟩; refine runD_q 5 rfl rfl (by kernel_rfl) ?_; refine ⟨_, fun _ => ev_pure rfl, ?_⟩; refine runD_q 6 rfl rfl (by kernel_rfl) ?_; refine ⟨_, fun _ => ev_pure rfl, ?_⟩; refine runD_q 7 rfl rfl (by kernel_rfl) ?_; refine ⟨_, fun _ => ev_sliceLo rfl rfl rfl (se rfl) (by omega) (by omega), ?_⟩; refine runD_1 8 (by kernel_rfl) rfl rfl rfl ?_)
      simp only [ei, ei1]
      rw [cutA_ne (b := b') (off := 0) (l := i + 1) (by omega)]
      have s2 := (hTs [blk b' (rows pc (bs.take i) ++ pc c ++ (zs.drop 1 ++ rst)) 110]).drop (k := i) (cap := cap) hi hkc
      rw [show (rows pc bs).drop (i * 1) = rows pc (bs.drop i) by rw [rows_drop pc_len _ (by omega)]] at s2
      refine runL_copy (m := cap - i) (sl := rows pc (bs.drop i)) rfl rfl rfl rfl rfl rfl rfl (se rfl) (by show min _ _ = _; omega) (by omega) s2 hDc ?_
      have hZ : (rows pc (bs.take i) ++ pc c ++ (zs.drop 1 ++ rst)).take (0 + (i + 1) * 1) ++ rows pc (bs.drop i) ++ (rows pc (bs.take i) ++ pc c ++ (zs.drop 1 ++ rst)).drop (0 + (i + 1) * 1 + (cap - i) * 1) = rows pc (bs.take i) ++ pc c ++ rows pc (bs.drop i) ++ rst := by
        have e1 : 0 + (i + 1) * 1 = (rows pc (bs.take i) ++ pc c).length := by rw [List.length_append, hT, pc_len]; omega
        rw [e1, List.take_left, ← List.drop_drop, List.drop_left, show (cap - i) * 1 = (zs.drop 1).length by rw [List.length_drop]; omega, List.drop_left]
      rw [hZ]
      (refine runL_nil ?_; refine endS_d rfl ?_; refine runD_done (by kernel_rfl) ?_; refine then_normal ?_; refine run_seq ?_; refine run_region ?_; (iterate 2 refine xep rfl rfl ?_); refine runL_nil ?_; refine then_normal ?_; refine run_ret ?_; refine then_ret ?_)
      refine ⟨_, rfl, [blk b' (rows pc (bs.take i) ++ pc c ++ rows pc (bs.drop i) ++ rst) 110], A ++ [blk bv (pc c) 110], .inr ⟨b', rst, cap', ?_, rfl, ?_, ?_, ?_⟩, fun y => by (first | rfl | (simp only [List.append_eq, cnt_append, cnt_cons, cnt_nil, blk]; omega) | (simp only [List.append_eq, cnt_append, cnt_cons, cnt_nil, blk]; done))⟩
      · show Value.slice _ (i + (cap + 1 - i)) cap' = _
        congr 1; omega
      · simp only [List.length_append, hT, hD, pc_len]; omega
      · omega
      · omega
    · (refine run_skip ?_; refine then_normal ?_; refine run_seq ?_; refine run_region ?_; (iterate 3 refine xep rfl rfl ?_); refine xel rfl (ev_add rfl rfl rfl (by omega)) ?_; refine xel rfl (ev_sliceHi rfl rfl rfl (se rfl) (by omega) (by omega)) ?_; refine xep rfl rfl ?_; refine runL_nil ?_; refine then_normal ?_; (iterate 2 refine run_seq ?_); refine run_region ?_; (iterate 4 refine xep rfl rfl ?_); refine xel rfl (ev_add rfl rfl rfl (by omega)) ?_; refine xel rfl (ev_sliceLo rfl rfl rfl (se rfl) (by omega) (by omega)) ?_)
      obtain ⟨b, rest, capx, hv, rfl, hl, hr, hk⟩ := own.pos (by omega)
      cases hv
      have ei : (i : Int).toNat = i := Int.toNat_natCast i
      have ei1 : ((i : Int) + ((1 : Nat) : Int)).toNat = i + 1 := by omega
      have ek1 : ((k : Int) + ((1 : Nat) : Int)).toNat = k + 1 := by omega
      simp only [ei, ei1, ek1]
      rw [cutA_ne (b := b) (off := 0) (l := i + 1) (by omega)]
      refine RunL.perm (h' := blk bv (pc c) 110 :: blk b (rows pc bs ++ rest) 110 :: []) (fun y => by (first | rfl | (simp only [List.append_eq, cnt_append, cnt_cons, cnt_nil, blk]; omega) | (simp only [List.append_eq, cnt_append, cnt_cons, cnt_nil, blk]; done))) ?_
      refine RunL.ne fun hne => ?_
      refine runL_ev rfl rfl rfl rfl (ev_overlaps (tS := 87) (tR := 4) rfl rfl rfl Tryz.func107 rfl rfl rfl (by kernel_rfl) (se rfl) (memF (.head _)) (memF (.tail _ (.head _))) hne (by rw [List.length_append, hl]; omega)) ?_
      (refine xep rfl rfl ?_; refine runL_nil ?_; refine then_normal ?_)
      refine run_condT rfl rfl ?_
      (refine run_seq ?_)
      refine RunC.perm (h' := blk b (rows pc bs ++ rest) 110 :: blk bv (pc c) 110 :: []) (fun y => by (first | rfl | (simp only [List.append_eq, cnt_append, cnt_cons, cnt_nil, blk]; omega) | (simp only [List.append_eq, cnt_append, cnt_cons, cnt_nil, blk]; done))) ?_
      refine run_region_D mo ?_
      (refine runD_q 0 rfl rfl (by kernel_rfl) ?_; refine ⟨_, fun _ => ev_pure rfl, ?_⟩; refine runD_q 1 rfl rfl (by kernel_rfl) ?_; refine ⟨_, fun _ => ev_pure rfl, ?_⟩; refine runD_q 2 rfl rfl (by kernel_rfl) ?_; refine ⟨_, fun _ => ev_pure rfl, ?_⟩; refine runD_q 3 rfl rfl (by kernel_rfl) ?_; refine ⟨_, fun _ => ev_add rfl rfl rfl (by omega), ?_⟩; refine runD_q 4 rfl rfl (by kernel_rfl) ?_; refine ⟨_, fun _ => ev_sliceLo rfl rfl rfl (se rfl) (by omega) (by omega), ?_⟩; refine runD_q 5 rfl rfl (by kernel_rfl) ?_; refine ⟨_, fun _ => ev_pure rfl, ?_⟩; refine runD_q 6 rfl rfl (by kernel_rfl) ?_; refine ⟨_, fun _ => ev_pure rfl, ?_⟩; refine runD_q 7 rfl rfl (by kernel_rfl) ?_; refine ⟨_, fun _ => ev_sliceLo rfl rfl rfl (se rfl) (by omega) (by omega), ?_⟩; refine runD_1 8 (by kernel_rfl) rfl rfl rfl ?_)
      simp only [ei, ei1, ek1]
      rw [cutA_ne (b := b) (off := 0) (l := i + 1) (by omega)]
      have hcl : (rows pc bs ++ rest).length = cap := by rw [List.length_append, hl]; omega
      have s2 := (own.src (H := (blk b (rows pc bs ++ rest) 110 :: blk bv (pc c) 110 :: []) ++ F) fun x m => by simp at m; simp [m]).drop (k := i) (cap := cap) hi hkc
      rw [show (rows pc bs).drop (i * 1) = rows pc (bs.drop i) by rw [rows_drop pc_len _ (by omega)]] at s2
      refine runL_copy (m := k - i) (sl := rows pc (bs.drop i)) rfl rfl rfl rfl rfl rfl rfl (se rfl) (by show min _ _ = _; omega) (by omega) s2 hDc ?_
      have hY : (rows pc bs ++ rest).take (0 + (i + 1) * 1) ++ rows pc (bs.drop i) ++ (rows pc bs ++ rest).drop (0 + (i + 1) * 1 + (k - i) * 1) = (rows pc bs ++ rest).take (i + 1) ++ rows pc (bs.drop i) ++ rest.drop 1 := by
        rw [show 0 + (i + 1) * 1 = i + 1 by omega, show i + 1 + (k - i) * 1 = (rows pc bs).length + 1 by omega, ← List.drop_drop, List.drop_left]
      rw [hY]
      have hYl : ((rows pc bs ++ rest).take (i + 1) ++ rows pc (bs.drop i) ++ rest.drop 1).length = cap := by simp only [List.length_append, List.length_take, List.length_drop, hD]; omega
      (refine runL_nil ?_; refine endS_d rfl ?_; refine runD_done (by kernel_rfl) ?_; refine then_normal ?_; refine run_seq ?_; refine run_region ?_; (iterate 2 refine xep rfl rfl ?_); refine xel rfl (ev_sliceLo rfl rfl rfl (se rfl) (by omega) (by omega)) ?_; refine xep rfl rfl ?_)
      simp only [ei, ei1, ek1]
      rw [cutA_ne (b := b) (off := 0) (l := i) (by omega)]
      refine runL_copy (m := 1) (sl := pc c) rfl rfl rfl rfl rfl rfl rfl (se rfl) (by show min 1 _ = 1; omega) (by omega) ⟨rfl, .inr ⟨bv, 0, _, _, _, rfl, memF (.tail _ (.head _)), by simp [pc], rfl⟩⟩ rfl ?_
      have hZ : ((rows pc bs ++ rest).take (i + 1) ++ rows pc (bs.drop i) ++ rest.drop 1).take (0 + i * 1) ++ pc c ++ ((rows pc bs ++ rest).take (i + 1) ++ rows pc (bs.drop i) ++ rest.drop 1).drop (0 + i * 1 + 1 * 1) = rows pc (bs.take i) ++ pc c ++ rows pc (bs.drop i) ++ rest.drop 1 := by
        have e1 : ((rows pc bs ++ rest).take (i + 1)).length = i + 1 := by rw [List.length_take]; omega
        have e2 : ((rows pc bs ++ rest).take (i + 1)).take i = rows pc (bs.take i) := by
          rw [List.take_take, show min i (i + 1) = i by omega, List.take_append_of_le_length (by omega)]
          have := rows_take pc_len bs (i := i) (by omega)
          rw [Nat.mul_one] at this; exact this
        generalize (rows pc bs ++ rest).take (i + 1) = X at *
        rw [show 0 + i * 1 + 1 * 1 = X.length by omega, show 0 + i * 1 = i by omega, List.append_assoc X, List.drop_left, List.take_append_of_le_length (by omega), e2]
        simp only [List.append_assoc]
      rw [hZ]
      (refine runL_nil ?_; refine then_normal ?_; refine run_seq ?_; refine run_region ?_; (iterate 2 refine xep rfl rfl ?_); refine runL_nil ?_; refine then_normal ?_; refine run_ret ?_; refine then_ret ?_)
      refine ⟨_, rfl, [blk b (rows pc (bs.take i) ++ pc c ++ rows pc (bs.drop i) ++ rest.drop 1) 110], [blk bv (pc c) 110], .inr ⟨b, rest.drop 1, cap, ?_, rfl, ?_, ?_, ?_⟩, fun y => by (first | rfl | (simp only [List.append_eq, cnt_append, cnt_cons, cnt_nil, blk]; omega) | (simp only [List.append_eq, cnt_append, cnt_cons, cnt_nil, blk]; done))⟩
      · rfl
      · simp only [List.length_append, hT, hD, pc_len]; omega
      · rw [List.length_drop]; omega
      · omega
end Go.Proofs.YtmelpobcpcmdoaaGreat
