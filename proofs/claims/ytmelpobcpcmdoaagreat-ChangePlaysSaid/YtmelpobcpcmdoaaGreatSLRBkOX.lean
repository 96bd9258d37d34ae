/- Contracts of functions of the given program over its translation, each proved by walking its text; used by the laws' rows. It proves no given statement by itself. -/
import Derived.Test.YtmelpobcpcmdoaaGreatSLBk3X
import Derived.Test.YtmelpobcpcmdoaaGreatSLDraw3
set_option autoImplicit false
set_option linter.unusedSectionVars false
set_option linter.unusedSimpArgs false
set_option linter.unusedVariables false
set_option maxRecDepth 4000
namespace Go.Proofs.YtmelpobcpcmdoaaGreat
open Go Go.SL Go.Proofs
variable [Base]
/-- A side of the document's book, its level at hand. -/
theorem RsH.open {v : Value} {l : List Lv} {H : Heap} {k : Nat} {lv : Lv} (h : RsH v l H) (hk : l[k]? = some lv) : ∃ ba c cap bi H1 H2, v = .slice (some ⟨ba, 0, none⟩) l.length cap ∧ l.length ≤ cap ∧ c[0 + (k : Int).toNat * 1]? = some (.pointer (some ⟨bi, 0, none⟩)) ∧ RvH bi lv.p lv.es H1 ∧
    (∀ x, cnt x H = cnt x (blk ba c 97 :: (H1 ++ H2))) ∧ ∀ p es' H1', RvH bi p es' H1' → ∃ H', RsH v (l.set k ⟨p, es'⟩) H' ∧ ∀ x, cnt x H' = cnt x (blk ba c 97 :: (H1' ++ H2)) := by
  obtain ⟨a, cap, bs, A, L, rfl, own, hL, rfl⟩ := h
  have hlt := (List.getElem?_eq_some_iff.1 hk).1
  have hlen := hL.len
  have hb : bs[k]? = some (bs[k]'(by omega)) := List.getElem?_eq_getElem (by omega)
  obtain ⟨H1, H2, h1, hp, hs, -⟩ := hL.out hb hk
  have own0 := own
  obtain ⟨ba, rest, cap', hv, rfl, hl2, hr2, hk2⟩ := own.pos (by omega)
  cases hv
  refine ⟨ba, rows pc bs ++ rest, cap, bs[k], H1, H2, rfl, hk2, ?_, h1, fun x => ?_, fun p es' H1' h' => ?_⟩
  · have := (rows_at pc_len hb rest).get (k := 0) (v := .pointer (some ⟨bs[k], 0, none⟩)) rfl
    rw [Int.toNat_natCast, Nat.zero_add]; exact this
  · rw [List.cons_append, cnt_cons, cnt_cons, List.nil_append, hp x]
  · obtain ⟨H', h1', hp'⟩ := hs p es' H1' h'
    refine ⟨[blk ba (rows pc bs ++ rest) 97] ++ H', ⟨some ⟨ba, 0, none⟩, cap, bs, _, H', by rw [List.length_set], by rw [List.length_set]; exact own0, h1', rfl⟩, fun x => ?_⟩
    rw [List.cons_append, cnt_cons, cnt_cons, List.nil_append, hp' x]
theorem RsH.lt {v : Value} {l : List Lv} {H : Heap} (h : RsH v l H) : ∃ a cap, v = .slice a l.length cap ∧ l.length ≤ cap := by
  obtain ⟨a, cap, bs, A, L, rfl, own, hL, rfl⟩ := h
  obtain ⟨_, _, hv, h2⟩ := own.form
  cases hv; exact ⟨a, cap, rfl, h2⟩
theorem RvsH.snoc {bs : List Nat} {l : List Lv} {H : Heap} {b : Nat} {lv : Lv} {H1 : Heap} (h : RvsH bs l H) (h1 : RvH b lv.p lv.es H1) : ∃ H', RvsH (bs ++ [b]) (l ++ [lv]) H' ∧ ∀ x, cnt x H' = cnt x (H1 ++ H) := by
  have hl := h.len
  obtain ⟨H', h', hp⟩ := h.ins l.length (Nat.le_refl _) h1
  rw [List.take_length, List.drop_length, ← hl, List.take_length, List.drop_length] at h'
  exact ⟨H', h', hp⟩
theorem RvsH.cut {bs : List Nat} {l : List Lv} {H : Heap} {k : Nat} {lv : Lv} (h : RvsH bs l H) (hk : l[k]? = some lv) : ∃ G H', RvsH (bs.take k ++ bs.drop (k + 1)) (l.take k ++ l.drop (k + 1)) H' ∧ ∀ x, cnt x H = cnt x (H' ++ G) := by
  have hl := h.len
  have hlt := (List.getElem?_eq_some_iff.1 hk).1
  have hb : bs[k]? = some (bs[k]'(by omega)) := List.getElem?_eq_getElem (by omega)
  obtain ⟨H1, H2, h1, hp, -, H3, h3, hp3⟩ := h.out hb hk
  rw [List.eraseIdx_eq_take_drop_succ, List.eraseIdx_eq_take_drop_succ] at h3
  exact ⟨H1, H3, h3, fun x => by rw [hp x, cnt_append, cnt_append, hp3 x]; omega⟩
/-- A side of the document's book, and what is told at its place. -/
theorem RbH.side {b : Nat} {B : Bk} {H : Heap} (h : RbH b B H) {s : Nat} (hs : s = 1 ∨ s = 2) : ∃ c v H0 H1, c.length = 5 ∧ c[s]? = some v ∧ RsH v (B.side s) H0 ∧ (∀ x, cnt x H = cnt x (blk b c 60 :: (H0 ++ H1))) ∧
    (∀ v' l' H0', RsH v' l' H0' → ∃ H', RbH b (B.put s l') H' ∧ ∀ x, cnt x H' = cnt x (blk b (c.take s ++ [v'] ++ c.drop (s + 1)) 60 :: (H0' ++ H1))) := by
  obtain ⟨v0, v1, H0, H1, h0, h1, rfl⟩ := h
  rcases hs with rfl | rfl
  · exact ⟨_, v0, H0, H1, rfl, rfl, h0, fun x => rfl, fun v' l' H0' h' => ⟨_, ⟨v', v1, H0', H1, h', h1, rfl⟩, fun x => rfl⟩⟩
  · exact ⟨[.slice none 0 0, v0, v1, .int .i64 B.last, .int .i64 B.no], v1, H1, H0, rfl, rfl, h1, fun x => by simp only [cnt_cons, cnt_append]; omega, fun v' l' H0' h' => ⟨_, ⟨v0, v', H0, H0', h0, h', rfl⟩, fun x => by
      show cnt x (blk b [.slice none 0 0, v0, v', .int .i64 B.last, .int .i64 B.no] 60 :: (H0 ++ H0')) = cnt x (blk b [.slice none 0 0, v0, v', .int .i64 B.last, .int .i64 B.no] 60 :: (H0' ++ H0))
      simp only [cnt_cons, cnt_append]; omega⟩⟩
end Go.Proofs.YtmelpobcpcmdoaaGreat

set_option autoImplicit false
set_option linter.unusedSectionVars false
set_option linter.unusedSimpArgs false
set_option linter.unusedVariables false
set_option maxRecDepth 4000
set_option maxHeartbeats 16000000
namespace Go.Proofs.YtmelpobcpcmdoaaGreat
open Go Go.SL Go.Proofs
/-- A copy, half done. -/
def cpB (B : Bk) (j k : Nat) : Bk := ⟨if j = 0 then [] else if j = 1 then B.buys.take k else B.buys, if j ≤ 1 then [] else if j = 2 then B.sells.take k else B.sells, B.last, B.no⟩
theorem cpB_end (B : Bk) {j : Nat} (hj : j < 3) : cpB B j (B.side j).length = cpB B (j + 1) 0 := by
  match j, hj with
  | 0, _ => rfl
  | 1, _ => show Bk.mk (B.buys.take B.buys.length) [] B.last B.no = Bk.mk B.buys [] B.last B.no; rw [List.take_length]
  | 2, _ => show Bk.mk B.buys (B.sells.take B.sells.length) B.last B.no = Bk.mk B.buys B.sells B.last B.no; rw [List.take_length]
theorem cpB_side (B : Bk) {j : Nat} (hj : j = 1 ∨ j = 2) (k : Nat) : (cpB B j k).side j = (B.side j).take k := by
  rcases hj with rfl | rfl <;> rfl
theorem cpB_put (B : Bk) {j : Nat} (hj : j = 1 ∨ j = 2) (k k' : Nat) : (cpB B j k).put j ((B.side j).take k') = cpB B j k' := by
  rcases hj with rfl | rfl <;> rfl
variable [Base]
theorem sp_rcopied (F : Heap) (b : Nat) (B : Bk) (h : RbIn F b B) (hw : BW B) :
    Sp Tryz.prog F 59 [.pointer (some ⟨b, 0, none⟩)] [] (fun v h' => ∃ c, v = .pointer (some ⟨c, 0, none⟩) ∧ RbH c B h') := by
  refine Sp.up ?_
  refine sp_of_code Tryz.func59 rfl rfl ?_
  (refine run_seq ?_; refine run_region ?_; refine xep rfl rfl ?_; refine runL_nil ?_; refine then_normal ?_; refine run_seq ?_)
  refine RunC.freeze ?_
  have l1 : LoadsF F b (0 + 3) (.int .i64 B.last) := by obtain ⟨v0, v1, -, -, hm⟩ := h; exact ⟨_, _, _, hm, rfl⟩
  have l2 : LoadsF F b (0 + 4) (.int .i64 B.no) := by obtain ⟨v0, v1, -, -, hm⟩ := h; exact ⟨_, _, _, hm, rfl⟩
  refine run_region_D mo ?_
  (refine runD_q 0 rfl rfl (by kernel_rfl) ?_; refine ⟨_, fun _ => ev_pure rfl, ?_⟩; refine runD_q 1 rfl rfl (by kernel_rfl) ?_; refine ⟨_, fun _ => ev_pure rfl, ?_⟩; refine runD_q 2 rfl rfl (by kernel_rfl) ?_; refine ⟨_, fun _ => ev_fieldAddr rfl rfl (fo rfl), ?_⟩; refine runD_q 3 rfl rfl (by kernel_rfl) ?_; refine ⟨_, fun _ => ev_loadF rfl rfl (sc rfl) l1, ?_⟩; refine runD_q 4 rfl rfl (by kernel_rfl) ?_; refine ⟨_, fun _ => ev_pure rfl, ?_⟩; refine runD_q 5 rfl rfl (by kernel_rfl) ?_; refine ⟨_, fun _ => ev_pure rfl, ?_⟩; refine runD_q 6 rfl rfl (by kernel_rfl) ?_; refine ⟨_, fun _ => ev_fieldAddr rfl rfl (fo rfl), ?_⟩; refine runD_q 7 rfl rfl (by kernel_rfl) ?_; refine ⟨_, fun _ => ev_loadF rfl rfl (sc rfl) l2, ?_⟩; refine runD_q 8 rfl rfl (by kernel_rfl) ?_; refine ⟨_, fun _ => ev_build rfl pl60 rfl, ?_⟩; refine runD_1 9 (by kernel_rfl) rfl rfl rfl ?_; refine runL_box rfl rfl rfl rfl rfl rfl (fun _ => ?_); refine runL_nil ?_; refine endS_d rfl ?_; refine runD_q 10 rfl rfl (by kernel_rfl) ?_; refine ⟨_, fun _ => ev_pure rfl, ?_⟩; refine runD_done (by kernel_rfl) ?_; refine then_normal ?_; (iterate 2 refine run_seq ?_); refine run_region ?_; refine xep rfl rfl ?_; refine runL_nil ?_; refine then_normal ?_; refine run_block ?_; refine RunC.whole rfl ?_)
  rename_i bc
  clear l1 l2
  refine run_loopK (σ := Nat × Heap) [0, 3, 17] (fun s => [(0, .pointer (some ⟨b, 0, none⟩)), (3, .pointer (some ⟨bc, 0, none⟩)), (17, .int .i64 s.1)]) (fun s => s.2) (fun s => s.1 ≤ 3 ∧ RbH bc (cpB B s.1 0) s.2) (fun s => 3 - s.1) (0, [blk bc [.slice none 0 0, .slice none 0 0, .slice none 0 0, .int .i64 B.last, .int .i64 B.no] 60])
    ⟨Nat.zero_le _, .slice none 0 0, .slice none 0 0, [], [], ⟨none, 0, [], [], [], rfl, .nil _ _, rfl, rfl⟩, ⟨none, 0, [], [], [], rfl, .nil _ _, rfl, rfl⟩, rfl⟩ rfl (fun _ => rfl) ?_
  rintro ⟨j, H⟩ ⟨hj, hH⟩
  dsimp only at hj hH ⊢
  (refine run_seq ?_; refine run_region ?_; refine xep rfl rfl ?_; refine runL_nil ?_; refine then_normal ?_; refine run_seq ?_)
  (refine run_cond rfl (fun hc => ?_) (fun hc => ?_) <;> (try simp only [z0, z1, z2, z3, z4, z5, z6, z7, z8, z9, Bool.not_true, Bool.not_false, Bool.false_or, Bool.true_and, true_and, and_true, false_or, or_false, reduceCtorEq, Bool.false_eq_true] at hc))
  · obtain ⟨a, c, bs, l1, hcl, hsrc, hin⟩ := h.side j (by omega)
    obtain ⟨hok, h64⟩ := hw.side j
    have gl := lenL_ge hok
    have hend := cpB_end B (j := j) (by omega)
    have hj12 : 0 < (B.side j).length → j = 1 ∨ j = 2 := by
      intro h9
      rcases (by omega : j = 0 ∨ j = 1 ∨ j = 2) with rfl | h8
      · exact absurd h9 (by show ¬ 0 < ([] : List Lv).length; decide)
      · exact h8
    have hsd := cpB_side B (j := j)
    have hpt := cpB_put B (j := j)
    generalize hl : B.side (j : Int) = l at *
    (refine run_skip ?_; refine then_normal ?_; refine run_seq ?_; refine run_block ?_; refine run_seq ?_; refine run_region ?_; (iterate 2 refine xep rfl rfl ?_); refine runL_nil ?_; refine then_normal ?_; refine run_seq ?_; refine run_region ?_; (iterate 3 refine xep rfl rfl ?_); refine xel rfl (ev_fieldAddr rfl rfl (fo rfl)) ?_; refine xel rfl (ev_indexAddrA rfl rfl rfl (ar rfl) (by omega) (by omega)) ?_; refine xel rfl (ev_loadF rfl rfl (sc rfl) l1) ?_; refine xel rfl (ev_len rfl rfl (se rfl)) ?_; refine xep rfl rfl ?_; refine runL_nil ?_; refine then_normal ?_; refine run_block ?_)
    clear l1
    refine run_loopK (σ := Nat × Heap) [0, 3, 17, 4, 25, 26, 27] (fun s => [(0, .pointer (some ⟨b, 0, none⟩)), (3, .pointer (some ⟨bc, 0, none⟩)), (17, .int .i64 j), (4, .int .i64 j), (25, .slice a l.length c), (26, .int .i64 l.length), (27, .int .i64 s.1)]) (fun s => s.2) (fun s => s.1 ≤ l.length ∧ RbH bc (cpB B j s.1) s.2) (fun s => l.length - s.1) (0, H)
      ⟨Nat.zero_le _, by
        have e : cpB B j 0 = cpB B j 0 := rfl
        exact hH⟩ rfl (fun _ => rfl) ?_
    rintro ⟨k, H⟩ ⟨hk, hH⟩
    dsimp only at hk hH ⊢
    (refine run_seq ?_; refine run_region ?_; refine xep rfl rfl ?_; refine runL_nil ?_; refine then_normal ?_; refine run_seq ?_)
    (refine run_cond rfl (fun hc => ?_) (fun hc => ?_) <;> (try simp only [z0, z1, z2, z3, z4, z5, z6, z7, z8, z9, Bool.not_true, Bool.not_false, Bool.false_or, Bool.true_and, true_and, and_true, false_or, or_false, reduceCtorEq, Bool.false_eq_true] at hc))
    · have hj2 := hj12 (by omega)
      obtain ⟨b2, off, bi, lv, rfl, hlv, l1, hi⟩ := RsIn.level (n := 0) (cap := 0) hsrc hin (i := k) (by omega)
      have hlok := hok lv (List.mem_of_getElem? hlv)
      have hlb := hlok.1.1
      obtain ⟨a3, c3, hc3, hm3, hs3⟩ := hi
      obtain ⟨cc, v, H0, H1, hc5, hcs, hS, hp, hput0⟩ := hH.side hj2
      have hput := fun (_ : j = 1 ∨ j = 2) => hput0
      rw [hsd hj2 k] at hS
      obtain ⟨a4, c4, bs4, A4, L4, rfl, own4, hL4, rfl⟩ := hS
      have hlt4 : (l.take k).length ≤ 64 := by rw [List.length_take]; omega
      (refine run_skip ?_; refine then_normal ?_; refine run_seq ?_; refine run_block ?_; refine run_seq ?_; refine run_region ?_; refine xel rfl (ev_indexAddr rfl rfl rfl (se rfl) (by omega) (by omega)) ?_; refine xel rfl (ev_loadF rfl rfl (sc rfl) l1) ?_; refine xep rfl rfl ?_; refine runL_nil ?_; refine then_normal ?_)
      clear l1
      obtain ⟨BB, hBB⟩ : ∃ BB, BB = blk bc cc 60 :: (L4 ++ H1) := ⟨_, rfl⟩
      refine RunC.perm (h' := A4 ++ BB) (fun x => by
        have h1 := hp x
        rw [hBB]
        simp only [List.append_eq, cnt_append, cnt_cons, cnt_nil, blk] at h1 ⊢
        omega) ?_
      have l1 : LoadsF (BB ++ F) bi (0 + 0) (.int .i64 lv.p) := ⟨_, _, _, List.mem_append_right _ hm3, rfl⟩
      have l2 : LoadsF (BB ++ F) bi (0 + 1) (.slice a3 lv.es.length c3) := ⟨_, _, _, List.mem_append_right _ hm3, rfl⟩
      have l3 : LoadsF (BB ++ F) bc (0 + (j : Int).toNat * 1) (.slice a4 (l.take k).length c4) := ⟨_, _, _, by rw [hBB]; exact memF (.head _), by rw [Int.toNat_natCast, Nat.zero_add, Nat.mul_one]; exact hcs⟩
      refine run_region_D6 (σ := Option Addr × Nat × Heap × Nat × Heap × Heap) 24 2 [0, 3, 17, 4, 25, 26, 27] (fun s => [(52, .slice s.1 (l.take (k + 1)).length s.2.1), (54, .pointer (some ⟨bc, 0 + 0, none⟩)), (32, .int .i64 j)]) (fun s => s.2.2.1 ++ (s.2.2.2.2.1 ++ s.2.2.2.2.2))
        (fun s => OwnS 97 1 (.slice s.1 (l.take (k + 1)).length s.2.1) (l.take (k + 1)).length (rows pc (bs4 ++ [s.2.2.2.1])) s.2.2.1 ∧ RvH s.2.2.2.1 lv.p lv.es s.2.2.2.2.1) mo rfl (by kernel_rfl) rfl ?_ ?_
      · (refine runD_q 0 rfl rfl (by kernel_rfl) ?_; refine ⟨_, fun _ => ev_pure rfl, ?_⟩; refine runD_q 1 rfl rfl (by kernel_rfl) ?_; refine ⟨_, fun _ => ev_pure rfl, ?_⟩; refine runD_q 2 rfl rfl (by kernel_rfl) ?_; refine ⟨_, fun _ => ev_pure rfl, ?_⟩; refine runD_q 3 rfl rfl (by kernel_rfl) ?_; refine ⟨_, fun _ => ev_pure rfl, ?_⟩; refine runD_q 4 rfl rfl (by kernel_rfl) ?_; refine ⟨_, fun _ => ev_pure rfl, ?_⟩; refine runD_q 5 rfl rfl (by kernel_rfl) ?_; refine ⟨_, fun _ => ev_fieldAddr rfl rfl (fo rfl), ?_⟩; refine runD_q 6 rfl rfl (by kernel_rfl) ?_; refine ⟨_, fun _ => ev_indexAddrA rfl rfl rfl (ar rfl) (by omega) (by omega), ?_⟩; refine runD_q 7 rfl rfl (by kernel_rfl) ?_; refine ⟨_, fun _ => ev_loadF rfl rfl (sc rfl) l3, ?_⟩; refine runD_q 8 rfl rfl (by kernel_rfl) ?_; refine ⟨_, fun _ => ev_pure rfl, ?_⟩; refine runD_q 9 rfl rfl (by kernel_rfl) ?_; refine ⟨_, fun _ => ev_pure rfl, ?_⟩; refine runD_q 10 rfl rfl (by kernel_rfl) ?_; refine ⟨_, fun _ => ev_fieldAddr rfl rfl (fo rfl), ?_⟩; refine runD_q 11 rfl rfl (by kernel_rfl) ?_; refine ⟨_, fun _ => ev_loadF rfl rfl (sc rfl) l1, ?_⟩; refine runD_q 13 rfl rfl (by kernel_rfl) ?_; refine ⟨_, fun _ => ev_pure rfl, ?_⟩; refine runD_q 14 rfl rfl (by kernel_rfl) ?_; refine ⟨_, fun _ => ev_pure rfl, ?_⟩; refine runD_q 15 rfl rfl (by kernel_rfl) ?_; refine ⟨_, fun _ => ev_fieldAddr rfl rfl (fo rfl), ?_⟩; refine runD_q 16 rfl rfl (by kernel_rfl) ?_; refine ⟨_, fun _ => ev_loadF rfl rfl (sc rfl) l2, ?_⟩; refine runD_q 22 rfl rfl (by kernel_rfl) ?_; refine ⟨_, fun _ => ev_pure rfl, ?_⟩; refine runD_q 23 rfl rfl (by kernel_rfl) ?_; refine ⟨_, fun _ => ev_fieldAddr rfl rfl (fo rfl), ?_⟩; refine runD_1 12 (by kernel_rfl) rfl rfl rfl ?_)
        refine runL_buildSlice (n := 10) (l := []) rfl rfl rfl rfl rfl (se rfl) ze102 rfl rfl rfl rfl rfl (fun b5 => ?_)
        (refine runL_nil ?_; refine endS_d rfl ?_; refine runD_1 17 (by kernel_rfl) rfl rfl rfl ?_)
        refine runL_append (sl := rows ec lv.es) A4 rfl rfl rfl rfl rfl rfl rfl (se rfl) (se rfl) ze102 rfl (byt rfl) (OwnS.lit (l := []) rfl) (fun y => by (first | rfl | (simp only [List.append_eq, cnt_append, cnt_cons, cnt_nil, blk]; omega) | (simp only [List.append_eq, cnt_append, cnt_cons, cnt_nil, blk]; done))) (hs3.mono fun x m => by simp [m]) (rows_cells ec_cells _) (by decide) (by decide) (by omega) ?_
        rintro v' A' own'
        rw [List.nil_append, Nat.zero_add] at own'
        obtain ⟨a6, c6, rfl, own6⟩ := own'.at
        (refine runL_nil ?_; refine endS_d rfl ?_; refine runD_q 18 rfl rfl (by kernel_rfl) ?_; refine ⟨_, fun _ => ev_build rfl pl100 rfl, ?_⟩; refine runD_1 19 (by kernel_rfl) rfl rfl rfl ?_; refine runL_box rfl rfl rfl rfl rfl rfl (fun _ => ?_); refine runL_nil ?_; refine endS_d rfl ?_; refine runD_1 20 (by kernel_rfl) rfl rfl rfl ?_)
        rename_i bn
        refine runL_buildSlice (l := pc bn) rfl rfl rfl rfl rfl (se rfl) ze97 rfl rfl rfl rfl rfl (fun b7 => ?_)
        (refine runL_nil ?_; refine endS_d rfl ?_; refine runD_1 21 (by kernel_rfl) rfl rfl rfl ?_)
        refine runL_append (sl := pc bn) (blk b7 (pc bn) 97 :: blk bn [.int .i64 lv.p, .slice a6 lv.es.length c6] 100 :: A') rfl rfl rfl rfl rfl rfl rfl (se rfl) (se rfl) ze97 rfl (byt rfl) own4 (fun y => by
          show cnt y (blk b7 (pc bn) 97 :: blk bn [.int .i64 lv.p, .slice a6 lv.es.length c6] 100 :: (A' ++ A4)) = _
          (first | rfl | (simp only [List.append_eq, cnt_append, cnt_cons, cnt_nil, blk]; omega) | (simp only [List.append_eq, cnt_append, cnt_cons, cnt_nil, blk]; done))) ⟨rfl, .inr ⟨b7, 0, _, _, _, rfl, memF (.head _), by simp [pc], rfl⟩⟩ rfl (by decide) (by decide) (by omega) ?_
        rintro v' A'' own''
        have hbl := hL4.len
        have own7 := own''.snoc (f := pc) (x := bn) hbl
        have hl7 : (bs4 ++ [bn]).length = (l.take (k + 1)).length := by
          rw [List.length_append, hbl, List.length_take, List.length_take]; simp only [List.length_singleton]; omega
        rw [hl7] at own7
        obtain ⟨a7, c7, rfl, own7⟩ := own7.at
        (refine runL_nil ?_; refine endS_d rfl ?_; refine runD_done (by kernel_rfl) ?_)
        exact midX (a7, c7, A'', bn, blk bn [.int .i64 lv.p, .slice a6 lv.es.length c6] 100 :: A', [blk b7 (pc bn) 97]) ⟨own7, a6, c6, A', own6, rfl⟩ rfl (fun y => by (first | rfl | (simp only [List.append_eq, cnt_append, cnt_cons, cnt_nil, blk]; omega) | (simp only [List.append_eq, cnt_append, cnt_cons, cnt_nil, blk]; done)))
      · rintro ⟨a7, c7, A7, bn, HN, G⟩ ⟨own7, hN⟩
        dsimp only at own7 hN ⊢
        subst hBB
        have htk : l.take (k + 1) = l.take k ++ [lv] := by
          have hi := (List.getElem?_eq_some_iff.1 hlv).1
          rw [List.take_succ_eq_append_getElem hi, (List.getElem?_eq_some_iff.1 hlv).2]
        obtain ⟨L7, hL7, hpL⟩ := hL4.snoc hN
        rw [← htk] at hL7
        obtain ⟨H', hH', hp'⟩ := hput hj2 (.slice a7 (l.take (k + 1)).length c7) (l.take (k + 1)) (A7 ++ L7) ⟨a7, c7, _, A7, L7, rfl, own7, hL7, rfl⟩
        rw [hpt hj2 k (k + 1)] at hH'
        refine RunD.same (M' := [] ++ blk bc cc 60 :: (A7 ++ HN ++ G ++ (L4 ++ H1))) (fun _ _ h => h) (fun x => by (first | rfl | (simp only [List.append_eq, cnt_append, cnt_cons, cnt_nil, blk]; omega) | (simp only [List.append_eq, cnt_append, cnt_cons, cnt_nil, blk]; done))) ?_
        (refine runD_q 24 rfl rfl (by kernel_rfl) ?_; refine ⟨_, fun _ => ev_indexAddrA rfl rfl rfl (ar rfl) (by omega) (by omega), ?_⟩; refine runD_1 25 (by kernel_rfl) rfl rfl rfl ?_)
        refine runL_store (c := cc) (l := [.slice a7 (l.take (k + 1)).length c7]) [] (A7 ++ HN ++ G ++ (L4 ++ H1)) rfl rfl rfl rfl rfl (sz rfl) rfl rfl rfl (by rw [hc5]; show 0 + 0 + (j : Int).toNat * 1 + 1 ≤ 5; omega) rfl ?_
        rw [show 0 + 0 + (j : Int).toNat * 1 = j by rw [Int.toNat_natCast]; omega]
        (refine runL_nil ?_; refine endS_n rfl ?_; refine runD_done (by kernel_rfl) ?_; refine in_normal ?_; refine then_normal ?_; refine run_region ?_; refine xel rfl (ev_add rfl rfl rfl (by omega)) ?_; refine xep rfl rfl ?_; refine runL_nil ?_; refine then_normal ?_)
        refine ⟨(k + 1, H'), ⟨by show k + 1 ≤ _; omega, hH'⟩, by show l.length - (k + 1) < l.length - k; omega, rfl, G, fun x => ?_⟩
        have h1 := hp' x
        have h2 := hpL x
        simp only [List.append_eq, cnt_append, cnt_cons, cnt_nil, blk, List.length_singleton, List.nil_append] at h1 h2 ⊢
        omega
    · have : k = l.length := by omega
      subst this
      (refine run_exit ?_; (iterate 2 refine then_exit ?_); refine in_exit ?_; refine in_normal ?_; refine then_normal ?_)
      (refine run_region ?_; refine xel rfl (ev_add rfl rfl rfl (by omega)) ?_; refine xep rfl rfl ?_; refine runL_nil ?_; refine then_normal ?_)
      rw [hend] at hH
      exact ⟨(j + 1, H), ⟨by show j + 1 ≤ 3; omega, hH⟩, by show 3 - (j + 1) < 3 - j; omega, rfl, [], fun x => by (first | rfl | (simp only [List.append_eq, cnt_append, cnt_cons, cnt_nil, blk]; omega) | (simp only [List.append_eq, cnt_append, cnt_cons, cnt_nil, blk]; done))⟩
  · have : j = 3 := by omega
    subst this
    (refine run_exit ?_; (iterate 2 refine then_exit ?_); refine in_exit ?_; refine then_normal ?_)
    (refine run_seq ?_; refine run_region ?_; (iterate 2 refine xep rfl rfl ?_); refine runL_nil ?_; refine then_normal ?_; refine run_ret ?_)
    exact ⟨_, rfl, H, [], ⟨bc, rfl, hH⟩, fun x => by (first | rfl | (simp only [List.append_eq, cnt_append, cnt_cons, cnt_nil, blk]; omega) | (simp only [List.append_eq, cnt_append, cnt_cons, cnt_nil, blk]; done))⟩
end Go.Proofs.YtmelpobcpcmdoaaGreat

set_option autoImplicit false
set_option linter.unusedSectionVars false
set_option linter.unusedSimpArgs false
set_option linter.unusedVariables false
set_option maxRecDepth 4000
set_option maxHeartbeats 16000000
namespace Go.Proofs.YtmelpobcpcmdoaaGreat
open Go Go.SL Go.Proofs
variable [Base]
theorem sp_brem1 (F H : Heap) (b : Nat) (B : Bk) (hH : BkH b B H) (hw : BW B) (t i : Int) (k : Nat) (o : Ord) (hf : findB t i B = some (1, k, o)) :
    Sp Tryz.prog F 67 [.pointer (some ⟨b, 0, none⟩), .int .i64 t, .int .i64 i] H (fun v h' => v = .tuple #[ov (bremove t i B).1, .bool (bremove t i B).2.1] ∧ BkH b (bremove t i B).2.2 h') := by
  obtain ⟨lv, hlv, -⟩ := findB_get hf
  have hbr : bremove t i B = ((lrem t i lv.es).1, (lrem t i lv.es).2.1, B.put 1 (if (lrem t i lv.es).2.2 = [] then (B.side 1).eraseIdx k else (B.side 1).set k ⟨lv.p, (lrem t i lv.es).2.2⟩)) := by
    unfold bremove; rw [hf]; simp only [hlv]
  rw [hbr]
  have hlok := (hw.side 1).1 lv (List.mem_of_getElem? hlv)
  have hlb := hlok.1.1
  have hls := lenL_ge (hw.side 1).1
  have h64 := (hw.side 1).2
  have cf : ∀ G, BkIn G b B → Sp Tryz.prog G 65 [.pointer (some ⟨b, 0, none⟩), .int .i64 t, .int .i64 i] [] (Ret (.tuple #[.pointer (some ⟨b, 0, none⟩), .int .i64 k, ov o])) := by
    intro G hG
    have := sp_bfind G b B hG hw t i
    rw [hf] at this; exact this
  refine Sp.up ?_
  refine sp_of_codeR Tryz.func67 rfl rfl ?_
  (refine run_seq ?_; refine run_region ?_; refine runL_alloc rfl rfl rfl rfl rfl ze35 (fun _ => ?_); refine xep rfl rfl ?_; refine runL_nil ?_; refine then_normal ?_; refine run_seq ?_; refine run_region ?_; (iterate 3 refine xep rfl rfl ?_))
  rename_i b6
  refine runL_ev rfl rfl rfl rfl (ev_callQ rfl rfl rfl (pf rfl) (cf _ (hH.in fun x m => List.mem_append_left _ (List.mem_cons_of_mem _ m)))) ?_
  ((iterate 4 refine xep rfl rfl ?_); refine runL_alloc rfl rfl rfl rfl rfl ze35 (fun _ => ?_); (iterate 2 refine xep rfl rfl ?_); refine runL_store0 rfl rfl rfl rfl rfl (sz rfl) rfl rfl rfl rfl rfl ?_; refine runL_nil ?_; refine then_normal ?_; (iterate 2 refine run_seq ?_); refine run_region ?_; refine xep rfl rfl ?_; refine xel rfl (ev_eqNil rfl rfl rfl (pt rfl)) ?_; refine runL_nil ?_; refine then_normal ?_)
  rename_i b10
  refine run_condF rfl rfl ?_
  obtain ⟨v, w, H0, H1, h0, h1, rfl⟩ := hH
  have h0 : SdH v (B.side 1) H0 := h0
  obtain ⟨ba, c, cap, bi, G1, G2, rfl, hcap, g1, hG1, hp, hset⟩ := h0.open (k := k) (lv := lv) hlv
  have hlt := (List.getElem?_eq_some_iff.1 hlv).1
  refine RunC.perm (h' := blk b [.slice (some ⟨ba, 0, none⟩) (B.side 1).length cap,w, .int .i64 B.last, .int .i64 B.no] 90 :: blk ba c 110 :: (G1 ++ (G2 ++ H1 ++ (blk b6 o0.cells 35 :: [blk b10 o.cells 35])))) (fun x => by
    have h1 := hp x
    simp only [List.append_eq, cnt_append, cnt_cons, cnt_nil, blk, Ord.cells, o0] at h1 ⊢
    omega) ?_
  (refine run_skip ?_; refine then_normal ?_; refine run_seq ?_; refine run_region ?_; (iterate 2 refine xep rfl rfl ?_); refine xel rfl (ev_loadK rfl rfl (sc rfl) (memF (.head _)) rfl) ?_; refine xep rfl rfl ?_; refine xel rfl (ev_indexAddr rfl rfl rfl (se rfl) (by omega) (by omega)) ?_; refine xel rfl (ev_load rfl rfl (sc rfl) (memF (.tail _ (.head _))) g1) ?_; (iterate 2 refine xep rfl rfl ?_))
  refine runL_callZ (blk b [.slice (some ⟨ba, 0, none⟩) (B.side 1).length cap,w, .int .i64 B.last, .int .i64 B.no] 90 :: blk ba c 110 :: (G2 ++ H1 ++ (blk b6 o0.cells 35 :: [blk b10 o.cells 35]))) G1 rfl rfl rfl rfl rfl rfl rfl (pf rfl) (fun x => by (first | rfl | (simp only [List.append_eq, cnt_append, cnt_cons, cnt_nil, blk]; omega) | (simp only [List.append_eq, cnt_append, cnt_cons, cnt_nil, blk]; done))) (sp_lremove _ G1 bi lv.p lv.es hG1 hlb t i) ?_
  rintro v G1' ⟨rfl, hG1'⟩
  obtain ⟨H0', hS', hp'⟩ := hset lv.p (lrem t i lv.es).2.2 G1' hG1'
  generalize lrem t i lv.es = T at *
  obtain ⟨o2, is, es2⟩ := T
  dsimp only at *
  ((iterate 3 refine xep rfl rfl ?_); refine runL_alloc rfl rfl rfl rfl rfl ze35 (fun _ => ?_); refine runL_store0 rfl rfl rfl rfl rfl (sz rfl) rfl rfl rfl rfl rfl ?_; refine xep rfl rfl ?_; refine runL_nil ?_; refine then_normal ?_; refine run_seq ?_; refine run_region ?_; (iterate 2 refine xep rfl rfl ?_))
  rename_i b11
  have hk2 : ((B.side 1).set k ⟨lv.p, es2⟩)[k]? = some ⟨lv.p, es2⟩ := List.getElem?_set_self hlt
  refine runL_callZ (blk b11 o2.cells 35 :: (blk b6 o0.cells 35 :: [blk b10 o.cells 35])) (blk b [.slice (some ⟨ba, 0, none⟩) (B.side 1).length cap,w, .int .i64 B.last, .int .i64 B.no] 90 :: (H0' ++ H1)) rfl rfl rfl rfl rfl rfl rfl (pf rfl) (fun x => by
    have h1 := hp' x
    simp only [List.append_eq, cnt_append, cnt_cons, cnt_nil, blk, Ord.cells] at h1 ⊢
    omega) (sp_swept1 _ H0' H1 b w _ B.last B.no _ hS' (by rw [List.length_set]; omega) k ⟨lv.p, es2⟩ hk2) ?_
  rintro v3 h3 ⟨v', H0'', hS2, rfl⟩
  have e1 : ((B.side 1).set k ⟨lv.p, es2⟩).eraseIdx k = (B.side 1).eraseIdx k := by
    rw [List.eraseIdx_eq_take_drop_succ, List.eraseIdx_eq_take_drop_succ, List.take_set, List.drop_set]
    rw [if_pos (by omega), List.set_eq_of_length_le (by rw [List.length_take]; omega)]
  dsimp only at hS2
  rw [e1] at hS2
  refine RunL.perm (h' := blk b6 o0.cells 35 :: blk b11 o2.cells 35 :: [blk b10 o.cells 35] ++ (blk b [v',w, .int .i64 B.last, .int .i64 B.no] 90 :: (H0'' ++ H1))) (fun x => by (first | rfl | (simp only [List.append_eq, cnt_append, cnt_cons, cnt_nil, blk]; omega) | (simp only [List.append_eq, cnt_append, cnt_cons, cnt_nil, blk]; done))) ?_
  (refine runL_nil ?_; refine then_normal ?_; refine run_seq ?_; refine run_region ?_; refine xel rfl (ev_loadAK rfl rfl (ag rfl) (sz rfl) (memF (.tail _ (.head _))) rfl) ?_; refine xep rfl rfl ?_; refine runL_store0 rfl rfl rfl rfl rfl (sz rfl) rfl rfl rfl rfl rfl ?_; refine xep rfl rfl ?_; refine runL_nil ?_; refine then_normal ?_; refine run_ret ?_)
  refine ⟨_, .agg rfl (memF (.head _)) (ag rfl) (sz rfl) rfl (.tmp rfl .nil), blk b [v',w, .int .i64 B.last, .int .i64 B.no] 90 :: (H0'' ++ H1), blk b6 o2.cells 35 :: blk b11 o2.cells 35 :: [blk b10 o.cells 35], ⟨rfl, ?_⟩, fun x => by simp only [List.append_eq, cnt_append, cnt_cons, cnt_nil, blk, Ord.cells]; omega⟩
  exact ⟨v', w, H0'', H1, hS2, h1, rfl⟩
theorem sp_brem2 (F H : Heap) (b : Nat) (B : Bk) (hH : BkH b B H) (hw : BW B) (t i : Int) (k : Nat) (o : Ord) (hf : findB t i B = some (2, k, o)) :
    Sp Tryz.prog F 67 [.pointer (some ⟨b, 0, none⟩), .int .i64 t, .int .i64 i] H (fun v h' => v = .tuple #[ov (bremove t i B).1, .bool (bremove t i B).2.1] ∧ BkH b (bremove t i B).2.2 h') := by
  obtain ⟨lv, hlv, -⟩ := findB_get hf
  have hbr : bremove t i B = ((lrem t i lv.es).1, (lrem t i lv.es).2.1, B.put 2 (if (lrem t i lv.es).2.2 = [] then (B.side 2).eraseIdx k else (B.side 2).set k ⟨lv.p, (lrem t i lv.es).2.2⟩)) := by
    unfold bremove; rw [hf]; simp only [hlv]
  rw [hbr]
  have hlok := (hw.side 2).1 lv (List.mem_of_getElem? hlv)
  have hlb := hlok.1.1
  have hls := lenL_ge (hw.side 2).1
  have h64 := (hw.side 2).2
  have cf : ∀ G, BkIn G b B → Sp Tryz.prog G 65 [.pointer (some ⟨b, 0, none⟩), .int .i64 t, .int .i64 i] [] (Ret (.tuple #[.pointer (some ⟨b, 1, none⟩), .int .i64 k, ov o])) := by
    intro G hG
    have := sp_bfind G b B hG hw t i
    rw [hf] at this; exact this
  refine Sp.up ?_
  refine sp_of_codeR Tryz.func67 rfl rfl ?_
  (refine run_seq ?_; refine run_region ?_; refine runL_alloc rfl rfl rfl rfl rfl ze35 (fun _ => ?_); refine xep rfl rfl ?_; refine runL_nil ?_; refine then_normal ?_; refine run_seq ?_; refine run_region ?_; (iterate 3 refine xep rfl rfl ?_))
  rename_i b6
  refine runL_ev rfl rfl rfl rfl (ev_callQ rfl rfl rfl (pf rfl) (cf _ (hH.in fun x m => List.mem_append_left _ (List.mem_cons_of_mem _ m)))) ?_
  ((iterate 4 refine xep rfl rfl ?_); refine runL_alloc rfl rfl rfl rfl rfl ze35 (fun _ => ?_); (iterate 2 refine xep rfl rfl ?_); refine runL_store0 rfl rfl rfl rfl rfl (sz rfl) rfl rfl rfl rfl rfl ?_; refine runL_nil ?_; refine then_normal ?_; (iterate 2 refine run_seq ?_); refine run_region ?_; refine xep rfl rfl ?_; refine xel rfl (ev_eqNil rfl rfl rfl (pt rfl)) ?_; refine runL_nil ?_; refine then_normal ?_)
  rename_i b10
  refine run_condF rfl rfl ?_
  obtain ⟨w, v, H1, H0, h1, h0, rfl⟩ := hH
  have h0 : SdH v (B.side 2) H0 := h0
  obtain ⟨ba, c, cap, bi, G1, G2, rfl, hcap, g1, hG1, hp, hset⟩ := h0.open (k := k) (lv := lv) hlv
  have hlt := (List.getElem?_eq_some_iff.1 hlv).1
  refine RunC.perm (h' := blk b [w,.slice (some ⟨ba, 0, none⟩) (B.side 2).length cap, .int .i64 B.last, .int .i64 B.no] 90 :: blk ba c 110 :: (G1 ++ (G2 ++ H1 ++ (blk b6 o0.cells 35 :: [blk b10 o.cells 35])))) (fun x => by
    have h1 := hp x
    simp only [List.append_eq, cnt_append, cnt_cons, cnt_nil, blk, Ord.cells, o0] at h1 ⊢
    omega) ?_
  (refine run_skip ?_; refine then_normal ?_; refine run_seq ?_; refine run_region ?_; (iterate 2 refine xep rfl rfl ?_); refine xel rfl (ev_loadK rfl rfl (sc rfl) (memF (.head _)) rfl) ?_; refine xep rfl rfl ?_; refine xel rfl (ev_indexAddr rfl rfl rfl (se rfl) (by omega) (by omega)) ?_; refine xel rfl (ev_load rfl rfl (sc rfl) (memF (.tail _ (.head _))) g1) ?_; (iterate 2 refine xep rfl rfl ?_))
  refine runL_callZ (blk b [w,.slice (some ⟨ba, 0, none⟩) (B.side 2).length cap, .int .i64 B.last, .int .i64 B.no] 90 :: blk ba c 110 :: (G2 ++ H1 ++ (blk b6 o0.cells 35 :: [blk b10 o.cells 35]))) G1 rfl rfl rfl rfl rfl rfl rfl (pf rfl) (fun x => by (first | rfl | (simp only [List.append_eq, cnt_append, cnt_cons, cnt_nil, blk]; omega) | (simp only [List.append_eq, cnt_append, cnt_cons, cnt_nil, blk]; done))) (sp_lremove _ G1 bi lv.p lv.es hG1 hlb t i) ?_
  rintro v G1' ⟨rfl, hG1'⟩
  obtain ⟨H0', hS', hp'⟩ := hset lv.p (lrem t i lv.es).2.2 G1' hG1'
  generalize lrem t i lv.es = T at *
  obtain ⟨o2, is, es2⟩ := T
  dsimp only at *
  ((iterate 3 refine xep rfl rfl ?_); refine runL_alloc rfl rfl rfl rfl rfl ze35 (fun _ => ?_); refine runL_store0 rfl rfl rfl rfl rfl (sz rfl) rfl rfl rfl rfl rfl ?_; refine xep rfl rfl ?_; refine runL_nil ?_; refine then_normal ?_; refine run_seq ?_; refine run_region ?_; (iterate 2 refine xep rfl rfl ?_))
  rename_i b11
  have hk2 : ((B.side 2).set k ⟨lv.p, es2⟩)[k]? = some ⟨lv.p, es2⟩ := List.getElem?_set_self hlt
  refine runL_callZ (blk b11 o2.cells 35 :: (blk b6 o0.cells 35 :: [blk b10 o.cells 35])) (blk b [w,.slice (some ⟨ba, 0, none⟩) (B.side 2).length cap, .int .i64 B.last, .int .i64 B.no] 90 :: (H0' ++ H1)) rfl rfl rfl rfl rfl rfl rfl (pf rfl) (fun x => by
    have h1 := hp' x
    simp only [List.append_eq, cnt_append, cnt_cons, cnt_nil, blk, Ord.cells] at h1 ⊢
    omega) (sp_swept2 _ H0' H1 b w _ B.last B.no _ hS' (by rw [List.length_set]; omega) k ⟨lv.p, es2⟩ hk2) ?_
  rintro v3 h3 ⟨v', H0'', hS2, rfl⟩
  have e1 : ((B.side 2).set k ⟨lv.p, es2⟩).eraseIdx k = (B.side 2).eraseIdx k := by
    rw [List.eraseIdx_eq_take_drop_succ, List.eraseIdx_eq_take_drop_succ, List.take_set, List.drop_set]
    rw [if_pos (by omega), List.set_eq_of_length_le (by rw [List.length_take]; omega)]
  dsimp only at hS2
  rw [e1] at hS2
  refine RunL.perm (h' := blk b6 o0.cells 35 :: blk b11 o2.cells 35 :: [blk b10 o.cells 35] ++ (blk b [w,v', .int .i64 B.last, .int .i64 B.no] 90 :: (H0'' ++ H1))) (fun x => by (first | rfl | (simp only [List.append_eq, cnt_append, cnt_cons, cnt_nil, blk]; omega) | (simp only [List.append_eq, cnt_append, cnt_cons, cnt_nil, blk]; done))) ?_
  (refine runL_nil ?_; refine then_normal ?_; refine run_seq ?_; refine run_region ?_; refine xel rfl (ev_loadAK rfl rfl (ag rfl) (sz rfl) (memF (.tail _ (.head _))) rfl) ?_; refine xep rfl rfl ?_; refine runL_store0 rfl rfl rfl rfl rfl (sz rfl) rfl rfl rfl rfl rfl ?_; refine xep rfl rfl ?_; refine runL_nil ?_; refine then_normal ?_; refine run_ret ?_)
  refine ⟨_, .agg rfl (memF (.head _)) (ag rfl) (sz rfl) rfl (.tmp rfl .nil), blk b [w,v', .int .i64 B.last, .int .i64 B.no] 90 :: (H1 ++ H0''), blk b6 o2.cells 35 :: blk b11 o2.cells 35 :: [blk b10 o.cells 35], ⟨rfl, ?_⟩, fun x => by simp only [List.append_eq, cnt_append, cnt_cons, cnt_nil, blk, Ord.cells]; omega⟩
  exact ⟨w, v', H1, H0'', h1, hS2, rfl⟩
theorem sp_bremove (F H : Heap) (b : Nat) (B : Bk) (hH : BkH b B H) (hw : BW B) (t i : Int) :
    Sp Tryz.prog F 67 [.pointer (some ⟨b, 0, none⟩), .int .i64 t, .int .i64 i] H (fun v h' => v = .tuple #[ov (bremove t i B).1, .bool (bremove t i B).2.1] ∧ BkH b (bremove t i B).2.2 h') := by
  cases hf : findB t i B with
  | some r =>
    obtain ⟨s, k, o⟩ := r
    rcases findB_side hf with rfl | rfl
    · exact sp_brem1 F H b B hH hw t i k o hf
    · exact sp_brem2 F H b B hH hw t i k o hf
  | none =>
    have hbr : bremove t i B = (o0, false, B) := by unfold bremove; rw [hf]
    rw [hbr]
    have cf : ∀ G, BkIn G b B → Sp Tryz.prog G 65 [.pointer (some ⟨b, 0, none⟩), .int .i64 t, .int .i64 i] [] (Ret (.tuple #[.pointer none, .int .i64 0, ov o0])) := by
      intro G hG
      have := sp_bfind G b B hG hw t i
      rw [hf] at this; exact this
    refine Sp.up ?_
    refine sp_of_codeR Tryz.func67 rfl rfl ?_
    (refine run_seq ?_; refine run_region ?_; refine runL_alloc rfl rfl rfl rfl rfl ze35 (fun _ => ?_); refine xep rfl rfl ?_; refine runL_nil ?_; refine then_normal ?_; refine run_seq ?_; refine run_region ?_; (iterate 3 refine xep rfl rfl ?_))
    rename_i b6
    refine runL_ev rfl rfl rfl rfl (ev_callQ rfl rfl rfl (pf rfl) (cf _ (hH.in fun x m => List.mem_append_left _ (List.mem_cons_of_mem _ m)))) ?_
    ((iterate 4 refine xep rfl rfl ?_); refine runL_alloc rfl rfl rfl rfl rfl ze35 (fun _ => ?_); (iterate 2 refine xep rfl rfl ?_); refine runL_store0 rfl rfl rfl rfl rfl (sz rfl) rfl rfl rfl rfl rfl ?_; refine runL_nil ?_; refine then_normal ?_; (iterate 2 refine run_seq ?_); refine run_region ?_; refine xep rfl rfl ?_; refine xel rfl (ev_eqNil rfl rfl rfl (pt rfl)) ?_; refine runL_nil ?_; refine then_normal ?_)
    rename_i b10
    refine run_condT rfl rfl ?_
    refine RunC.perm (h' := blk b6 o0.cells 35 :: blk b10 o0.cells 35 :: H) (fun x => by simp only [List.append_eq, cnt_append, cnt_cons, cnt_nil, blk, Ord.cells, o0]; omega) ?_
    (refine run_seq ?_; refine run_region ?_; refine xel rfl (ev_build rfl pl35 rfl) ?_; refine runL_store0 rfl rfl rfl rfl rfl (sz rfl) rfl rfl rfl rfl rfl ?_; refine xep rfl rfl ?_; refine runL_nil ?_; refine then_normal ?_; refine run_ret ?_; refine then_ret ?_)
    exact ⟨_, .agg rfl (memF (.head _)) (ag rfl) (sz rfl) rfl (.tmp rfl .nil), H, [blk b6 o0.cells 35, blk b10 o0.cells 35], ⟨rfl, hH⟩, fun x => by simp only [List.append_eq, cnt_append, cnt_cons, cnt_nil, blk, Ord.cells, o0]; omega⟩
end Go.Proofs.YtmelpobcpcmdoaaGreat
