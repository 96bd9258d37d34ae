/- Contracts of functions of the given program over its translation, each proved by walking its text; used by the laws' rows. It proves no given statement by itself. -/
import Derived.Test.YtfhpoagnfmgfkaaSLSameH
set_option autoImplicit false
set_option linter.unusedSectionVars false
set_option linter.unusedSimpArgs false
set_option linter.unusedVariables false
set_option maxRecDepth 4000
set_option maxHeartbeats 100000000
namespace Go.Proofs.Ytfhpoagnfmgfkaa
open Go Go.SL Go.Proofs
/-! Chapter 12's run, reckoned. -/
def mamendF (f : Nat) (t i p q : Int) (M : Mk) : List Out × Int × Mk :=
  if (mfind t i M).2 = false then ([], 6, M)
  else if right (amO (mfind t i M).1 p q) ≠ 0 then ([], 1, M)
  else if p = (mfind t i M).1.price ∧ q ≤ (mfind t i M).1.qty ∧ (bfind t i M.B).2 = true then ([], 0, ⟨(bless t i q M.B).2, M.W⟩)
  else ((maddF f (amO (mfind t i M).1 p q) (mremove t i M).2.2).1, 0, (maddF f (amO (mfind t i M).1 p q) (mremove t i M).2.2).2)
theorem mamend_eqF (f : Nat) (t i p q : Int) (M : Mk) (h : q.toNat ≤ f) (hW : ∀ x ∈ (mremove t i M).2.2.W, x.qty.toNat ≤ f) : mamend t i p q M = mamendF f t i p q M := by
  unfold mamend mamendF
  rw [madd_eqF f (amO (mfind t i M).1 p q) _ h hW]
def gA : Ord := ⟨1, 1, 1, 1, 1, 10, 5, 0, 0⟩
def gB : Ord := ⟨2, 1, 2, 1, 1, 10, 5, 0, 0⟩
def gC : Ord := ⟨3, 1, 3, 2, 1, 10, 4, 0, 0⟩
def gM1 : Mk := ⟨⟨[⟨10, [⟨gA, 5⟩]⟩], [], 0, 0⟩, []⟩
def gM2 : Mk := ⟨⟨[⟨10, [⟨gA, 5⟩, ⟨gB, 5⟩]⟩], [], 0, 0⟩, []⟩
def gM3 : Mk := ⟨⟨[⟨10, [⟨wq gA 3, 3⟩, ⟨gB, 5⟩]⟩], [], 0, 0⟩, []⟩
def gM4 : Mk := ⟨⟨[⟨10, [⟨gB, 5⟩, ⟨wq gA 6, 6⟩]⟩], [], 0, 0⟩, []⟩
theorem g1e : madd gA emptyM = ([⟨gA, [], 5, true, false, false, 0⟩], gM1) := (madd_eqF 16 _ _ (by decide) (by decide)).trans (by kernel_rfl)
theorem g2e : madd gB gM1 = ([⟨gB, [], 5, true, false, false, 0⟩], gM2) := (madd_eqF 16 _ _ (by decide) (by decide)).trans (by kernel_rfl)
theorem g3e : mamend 1 1 10 3 gM2 = ([], 0, gM3) := (mamend_eqF 16 _ _ _ _ _ (by decide) (by intro x h; have : x ∈ ([] : List Ord) := h; cases this)).trans (by kernel_rfl)
theorem g4e : mamend 1 1 10 6 gM2 = ([⟨wq gA 6, [], 6, true, false, false, 0⟩], 0, gM4) := (mamend_eqF 16 _ _ _ _ _ (by decide) (by intro x h; have : x ∈ ([] : List Ord) := h; cases this)).trans (by kernel_rfl)
theorem g5e : (madd gC gM3).1 = [⟨gC, [⟨wq gA 3, gC, 10, 3, 1⟩, ⟨gB, wq gC 1, 10, 1, 2⟩], 0, false, false, false, 0⟩] := (congrArg (·.1) (madd_eqF 16 _ _ (by decide) (by decide))).trans (by kernel_rfl)
theorem g6e : (madd gC gM4).1 = [⟨gC, [⟨gB, gC, 10, 4, 1⟩], 0, false, false, false, 0⟩] := (congrArg (·.1) (madd_eqF 16 _ _ (by decide) (by decide))).trans (by kernel_rfl)
def depT (t : Int) : Ord := ⟨t, 0, 0, 0, 0, 0, 0, 0, 0⟩
def hF (f : Fl) : Ord × Int := (depT f.maker.trader, f.qty)
def hits : List Out → List (Ord × Int)
  | [] => []
  | x :: r => x.fs.map hF ++ hits r
theorem hits_take {l : List Out} {k : Nat} {x : Out} (h : l[k]? = some x) : hits (l.take (k + 1)) = hits (l.take k) ++ x.fs.map hF := by
  induction l generalizing k with
  | nil => simp at h
  | cons y l ih =>
    cases k with
    | zero =>
      simp only [List.getElem?_cons_zero, Option.some.injEq] at h
      subst h
      simp [hits]
    | succ k =>
      simp only [List.getElem?_cons_succ] at h
      simp only [List.take_succ_cons, hits, ih h, List.append_assoc]
theorem hits_le (l : List Out) (k : Nat) : (hits (l.take k)).length ≤ (hits l).length := by
  induction l generalizing k with
  | nil => simp
  | cons y l ih =>
    cases k with
    | zero => simp [hits]
    | succ k =>
      have := ih k
      simp only [List.take_succ_cons, hits, List.length_append]; omega
theorem map_take_succ {l : List Fl} {j : Nat} {f : Fl} (h : l[j]? = some f) : (l.take (j + 1)).map hF = (l.take j).map hF ++ [hF f] := by
  have hi := (List.getElem?_eq_some_iff.1 h).1
  rw [List.take_succ_eq_append_getElem hi, List.map_append, (List.getElem?_eq_some_iff.1 h).2]; rfl
variable [Base]
theorem FsH.src : ∀ {ts : List ((Option Addr × Nat) × Out)} {HF X : Heap}, FsH ts HF → (∀ x ∈ HF, x ∈ X) → ∀ t ∈ ts, SrcIs X t.1.1 t.2.fs.length 21 (rows fcell t.2.fs)
  | [], _, _, _, _, _, m => nomatch m
  | s :: r, _, X, ⟨A1, H2, h1, h2, e⟩, hX, t, m => by
    subst e
    rcases List.mem_cons.1 m with rfl | m
    · exact h1.src fun x mx => hX x (List.mem_append_left _ mx)
    · exact FsH.src h2 (fun x mx => hX x (List.mem_append_right _ mx)) t m
theorem sp_lo12 (F : Heap) (f i s p q : Int) : Sp Try.prog F 27 [.int .i64 f, .int .i64 i, .int .i64 s, .int .i64 p, .int .i64 q] [] (Ret (ov ⟨f, i, f, s, 1, p, q, 0, 0⟩)) := by
  refine sp_of_codeR Try.func27 rfl rfl ?_
  (refine run_seq ?_; refine run_region ?_; refine runL_alloc rfl rfl rfl rfl rfl ze24 (fun _ => ?_); refine runL_nil ?_; refine then_normal ?_; refine run_seq ?_; refine run_region ?_; (iterate 6 refine xep rfl rfl ?_); refine xel rfl (ev_build rfl pl24 rfl) ?_; refine runL_store0 rfl rfl rfl rfl rfl (sz rfl) rfl rfl rfl rfl rfl ?_; refine runL_nil ?_; refine then_normal ?_; refine run_ret ?_)
  exact ⟨_, .agg rfl (memF (.head _)) (ag rfl) (sz rfl) rfl .nil, rfl⟩
theorem sp_gives (F : Heap) (q : Int) (hq : InI q) (M3 : Mk) (ou1 : List Out) (h3 : mamend 1 1 10 q gM2 = (ou1, 0, M3)) (hw3 : MW M3) (hn3 : M3.B.no ≤ 1099442421760) (outs : List Out) (h5 : (madd gC M3).1 = outs) (hh : (hits outs).length ≤ 65536) (hfs : ∀ x ∈ outs, x.fs.length ≤ 65536) :
    Sp Try.prog F 10 [.int .i64 q] [] (fun v h' => OwnS 26 10 v (hits outs).length (rows hcell (hits outs)) h') := by
  have q1 := fun F f i s p q => sp_lo12 F f i s p q
  have w0 := emptyM_ok
  have w1 : MW gM1 := by have := (madd_ok (o := gA) w0).1; rw [g1e] at this; exact this
  have w2 : MW gM2 := by have := (madd_ok (o := gB) w1).1; rw [g2e] at this; exact this
  refine Sp.up ?_
  refine sp_of_code Try.func10 rfl rfl ?_
  (refine run_seq ?_; refine run_region ?_; refine xep rfl rfl ?_; refine runL_nil ?_; refine then_normal ?_; refine run_seq ?_; refine run_region ?_)
  refine runL_call0 rfl rfl rfl rfl rfl rfl rfl (pf rfl) (sp_snew _) ?_
  rintro v H ⟨m, rfl, hH⟩
  (refine xep rfl rfl ?_; refine runL_nil ?_; refine then_normal ?_; (iterate 2 refine run_seq ?_); refine run_region ?_; refine xep rfl rfl ?_; refine xel rfl (ev_eqNil rfl rfl rfl (pt rfl)) ?_; refine runL_nil ?_; refine then_normal ?_)
  refine run_condF rfl rfl ?_
  (refine run_skip ?_; refine then_normal ?_; refine run_seq ?_; refine run_region ?_; refine xep rfl rfl ?_; refine xel rfl (ev_callQ rfl rfl rfl (pf rfl) (q1 ..)) ?_)
  refine runL_callZ [] H rfl rfl rfl rfl rfl rfl rfl (pf rfl) (fun x => by (first | rfl | (simp only [List.append_eq, cnt_append, cnt_cons, cnt_nil, blk]; omega) | (simp only [List.append_eq, cnt_append, cnt_cons, cnt_nil, blk]; done))) (sp_sadd _ H m emptyM hH w0 (by decide) gA (inI rfl)) ?_
  rw [g1e]
  rintro v _ ⟨a1, c1, ts1, A1, G1, H1, rfl, -, -, -, -, hH1, rfl⟩
  dsimp only at hH1 ⊢
  (refine runL_nil ?_; refine then_normal ?_; refine run_seq ?_; refine run_region ?_; refine xep rfl rfl ?_; refine xel rfl (ev_callQ rfl rfl rfl (pf rfl) (q1 ..)) ?_)
  refine runL_callZ (A1 ++ G1) H1 rfl rfl rfl rfl rfl rfl rfl (pf rfl) (fun x => by (first | rfl | (simp only [List.append_eq, cnt_append, cnt_cons, cnt_nil, blk]; omega) | (simp only [List.append_eq, cnt_append, cnt_cons, cnt_nil, blk]; done))) (sp_sadd _ H1 m gM1 hH1 w1 (by decide) gB (inI rfl)) ?_
  rw [g2e]
  rintro v _ ⟨a2, c2, ts2, A2, G2, H2, rfl, -, -, -, -, hH2, rfl⟩
  dsimp only at hH2 ⊢
  (refine runL_nil ?_; refine then_normal ?_; (iterate 2 refine run_seq ?_); refine run_region ?_; (iterate 2 refine xep rfl rfl ?_))
  refine runL_callZ (A1 ++ G1 ++ (A2 ++ G2)) H2 rfl rfl rfl rfl rfl rfl rfl (pf rfl) (fun x => by (first | rfl | (simp only [List.append_eq, cnt_append, cnt_cons, cnt_nil, blk]; omega) | (simp only [List.append_eq, cnt_append, cnt_cons, cnt_nil, blk]; done))) (sp_amend _ H2 m gM2 hH2 w2 (by decide) 1 1 10 q (inI rfl) hq (by show InI 1; exact inI rfl)) ?_
  rw [h3]
  rintro v _ ⟨a3, c3, ts3, A3, G3, H3, rfl, -, -, -, -, hH3, rfl⟩
  dsimp only at hH3 ⊢
  ((iterate 5 refine xep rfl rfl ?_); refine runL_nil ?_; refine then_normal ?_; refine run_seq ?_; refine run_region ?_; (iterate 2 refine xep rfl rfl ?_); refine runL_nil ?_; refine then_normal ?_)
  refine run_condF rfl rfl ?_
  (refine run_skip ?_; refine then_normal ?_; refine run_seq ?_; refine run_region ?_; refine xep rfl rfl ?_; refine runL_nil ?_; refine then_normal ?_; (iterate 2 refine run_seq ?_); refine run_region ?_; refine xep rfl rfl ?_; refine xel rfl (ev_callQ rfl rfl rfl (pf rfl) (q1 ..)) ?_)
  refine runL_callZ (A1 ++ G1 ++ (A2 ++ G2) ++ (A3 ++ G3)) H3 rfl rfl rfl rfl rfl rfl rfl (pf rfl) (fun x => by (first | rfl | (simp only [List.append_eq, cnt_append, cnt_cons, cnt_nil, blk]; omega) | (simp only [List.append_eq, cnt_append, cnt_cons, cnt_nil, blk]; done))) (sp_sadd _ H3 m M3 hH3 hw3 hn3 gC (inI rfl)) ?_
  rw [h5]
  rintro v _ ⟨ao, co, ts, A4, HF, H4, rfl, hts, htl, own, hF, hH4, rfl⟩
  have htl2 : ts.length = outs.length := by rw [← hts, List.length_map]
  (refine xel rfl (ev_len rfl rfl (se rfl)) ?_)
  (refine xep rfl rfl ?_)
  refine runL_nil ?_
  (refine then_normal ?_)
  refine run_midO (σ := Option Addr × Nat × Heap) [2] (fun s => [(6, .slice s.1 (hits outs).length s.2.1)]) (fun s => s.2.2) (fun s => OwnS 26 10 (.slice s.1 (hits outs).length s.2.1) (hits outs).length (rows hcell (hits outs)) s.2.2) rfl ?_ ?_
  · refine RunC.freeze ?_
    have src := own.src (H := A1 ++ G1 ++ (A2 ++ G2) ++ (A3 ++ G3) ++ (H4 ++ A4 ++ HF) ++ F) fun x mx => by simp only [List.mem_append, mx, true_or, or_true]
    have srcF := hF.src (X := A1 ++ G1 ++ (A2 ++ G2) ++ (A3 ++ G3) ++ (H4 ++ A4 ++ HF) ++ F) fun x mx => by simp only [List.mem_append, mx, true_or, or_true]
    clear own hF hH4 hH3 hH2 hH1 hH
    generalize A1 ++ G1 ++ (A2 ++ G2) ++ (A3 ++ G3) ++ (H4 ++ A4 ++ HF) ++ F = Y at *
    generalize A1 ++ G1 ++ (A2 ++ G2) ++ (A3 ++ G3) ++ (H4 ++ A4 ++ HF) = Y1 at *
    refine run_block ?_
    refine run_loopK (σ := Nat × (Option Addr × Nat × Heap)) [2, 6, 30, 31, 32] (fun s => [(2, .slice none 0 0), (6, .slice s.2.1 (hits (outs.take s.1)).length s.2.2.1), (30, .slice ao ts.length co), (31, .int .i64 ts.length), (32, .int .i64 s.1)])
      (fun s => s.2.2.2) (fun s => s.1 ≤ ts.length ∧ OwnS 26 10 (.slice s.2.1 (hits (outs.take s.1)).length s.2.2.1) (hits (outs.take s.1)).length (rows hcell (hits (outs.take s.1))) s.2.2.2) (fun s => ts.length - s.1) (0, (none, 0, [])) ⟨Nat.zero_le _, .nil _ _⟩ rfl (fun x => by (first | rfl | (simp only [List.append_eq, cnt_append, cnt_cons, cnt_nil, blk]; omega) | (simp only [List.append_eq, cnt_append, cnt_cons, cnt_nil, blk]; done))) ?_
    rintro ⟨k, a6, c6, A6⟩ ⟨gk, own6⟩
    dsimp only at gk own6 ⊢
    have hle := hits_le outs k
    (refine run_seq ?_; refine run_region ?_; refine xep rfl rfl ?_; refine runL_nil ?_; refine then_normal ?_; refine run_seq ?_)
    (refine run_cond rfl (fun hc => ?_) (fun hc => ?_) <;> (try simp only [z0, z1, z2, z3, z4, z5, z6, z7, z8, z9, Bool.not_true, Bool.not_false, Bool.false_or, Bool.true_and, true_and, and_true, false_or, or_false, reduceCtorEq, Bool.false_eq_true] at hc))
    · obtain ⟨b1, off1, _, _, _, rfl, _⟩ := src.pos (by omega)
      obtain ⟨⟨⟨a5, c5⟩, x⟩, ht⟩ : ∃ t, ts[k]? = some t := ⟨ts[k]'(by omega), List.getElem?_eq_getElem _⟩
      have l1 := SrcIs.row orow_len src rfl ht
      have hx : outs[k]? = some x := by rw [← hts, List.getElem?_map, ht]; rfl
      have sF := srcF _ (List.mem_of_getElem? ht)
      have hxl := hfs x (List.mem_of_getElem? hx)
      have hst := hits_take hx
      have hle2 := hits_le outs (k + 1)
      rw [hst, List.length_append, List.length_map] at hle2
      dsimp only [orow] at l1 sF
      (refine run_skip ?_; refine then_normal ?_; refine run_seq ?_; refine run_block ?_; refine run_seq ?_; refine run_region ?_; refine xel rfl (ev_indexAddr rfl rfl rfl (se rfl) (by omega) (by omega)) ?_; refine xel rfl (ev_loadAF rfl rfl (ag rfl) (sz rfl) l1 rfl) ?_; refine runL_alloc rfl rfl rfl rfl rfl ze51 (fun _ => ?_); refine runL_store0 rfl rfl rfl rfl rfl (sz rfl) rfl rfl rfl rfl rfl ?_; refine runL_nil ?_; refine then_normal ?_; refine run_seq ?_; refine run_region ?_; refine xel rfl (ev_fieldAddr rfl rfl (fo rfl)) ?_; refine xel rfl (ev_loadK rfl rfl (sc rfl) (memF (.head _)) rfl) ?_; refine xel rfl (ev_len rfl rfl (se rfl)) ?_; refine xep rfl rfl ?_; refine runL_nil ?_; refine then_normal ?_; refine run_block ?_)
      rename_i x8
      refine RunC.perm (h' := blk x8 (outV a5 c5 x) 51 :: A6) (fun y => rfl) ?_
      refine run_loopK (σ := Nat × (Option Addr × Nat × Heap)) [2, 6, 8, 30, 31, 32, 37, 38, 39] (fun s => [(2, .slice none 0 0), (6, .slice s.2.1 (hits (outs.take k) ++ (x.fs.take s.1).map hF).length s.2.2.1), (8, .pointer (some ⟨x8, 0, none⟩)), (30, .slice (some ⟨b1, off1, none⟩) ts.length co), (31, .int .i64 ts.length), (32, .int .i64 k), (37, .slice a5 x.fs.length c5), (38, .int .i64 x.fs.length), (39, .int .i64 s.1)])
        (fun s => blk x8 (outV a5 c5 x) 51 :: s.2.2.2) (fun s => s.1 ≤ x.fs.length ∧ OwnS 26 10 (.slice s.2.1 (hits (outs.take k) ++ (x.fs.take s.1).map hF).length s.2.2.1) (hits (outs.take k) ++ (x.fs.take s.1).map hF).length (rows hcell (hits (outs.take k) ++ (x.fs.take s.1).map hF)) s.2.2.2) (fun s => x.fs.length - s.1) (0, (a6, c6, A6)) ⟨Nat.zero_le _, by simpa using own6⟩ (by simp; rfl) (fun y => by (first | rfl | (simp only [List.append_eq, cnt_append, cnt_cons, cnt_nil, blk]; omega) | (simp only [List.append_eq, cnt_append, cnt_cons, cnt_nil, blk]; done))) ?_
      rintro ⟨j, a7, c7, A7⟩ ⟨gj, own7⟩
      dsimp only at gj own7 ⊢
      have hlj : (hits (outs.take k) ++ (x.fs.take j).map hF).length ≤ 65536 := by
        rw [List.length_append, List.length_map, List.length_take]; omega
      (refine run_seq ?_; refine run_region ?_; refine xep rfl rfl ?_; refine runL_nil ?_; refine then_normal ?_; refine run_seq ?_)
      (refine run_cond rfl (fun hc => ?_) (fun hc => ?_) <;> (try simp only [z0, z1, z2, z3, z4, z5, z6, z7, z8, z9, Bool.not_true, Bool.not_false, Bool.false_or, Bool.true_and, true_and, and_true, false_or, or_false, reduceCtorEq, Bool.false_eq_true] at hc))
      · obtain ⟨b2, off2, _, _, _, rfl, _⟩ := sF.pos (by omega)
        obtain ⟨f, hf⟩ : ∃ f, x.fs[j]? = some f := ⟨x.fs[j]'(by omega), List.getElem?_eq_getElem _⟩
        have l2 := SrcIs.row fcell_len sF rfl hf
        have hmt := map_take_succ hf
        (refine run_skip ?_; refine then_normal ?_; refine run_seq ?_; refine run_block ?_; refine run_seq ?_; refine run_region ?_; refine xel rfl (ev_indexAddr rfl rfl rfl (se rfl) (by omega) (by omega)) ?_; refine xel rfl (ev_loadAF rfl rfl (ag rfl) (sz rfl) l2 rfl) ?_; refine runL_alloc rfl rfl rfl rfl rfl ze61 (fun _ => ?_); refine runL_store0 rfl rfl rfl rfl rfl (sz rfl) rfl rfl rfl rfl rfl ?_; refine runL_nil ?_; refine then_normal ?_; refine run_region ?_; refine xep rfl rfl ?_; (iterate 2 refine xel rfl (ev_fieldAddr rfl rfl (fo rfl)) ?_); refine xel rfl (ev_loadK rfl rfl (sc rfl) (memF (.head _)) rfl) ?_; refine xel rfl (ev_build rfl pl24 rfl) ?_; refine xel rfl (ev_fieldAddr rfl rfl (fo rfl)) ?_; refine xel rfl (ev_loadK rfl rfl (sc rfl) (memF (.head _)) rfl) ?_; refine xel rfl (ev_build rfl pl26 rfl) ?_)
        rename_i x10
        refine runL_buildSlice (l := hcell (hF f)) rfl rfl rfl rfl rfl (se rfl) ze26 rfl rfl rfl rfl rfl (fun b51 => ?_)
        skip
        refine runL_append (sl := hcell (hF f)) (blk b51 (hcell (hF f)) 26 :: blk x10 (fcell f) 61 :: [blk x8 (outV (some ⟨b2, off2, none⟩) c5 x) 51]) rfl rfl rfl rfl rfl rfl rfl (se rfl) (se rfl) ze26 rfl (byt rfl) own7 (fun y => by
          show cnt y (blk b51 (hcell (hF f)) 26 :: blk x10 (fcell f) 61 :: blk x8 (outV (some ⟨b2, off2, none⟩) c5 x) 51 :: A7) = _
          (first | rfl | (simp only [List.append_eq, cnt_append, cnt_cons, cnt_nil, blk]; omega) | (simp only [List.append_eq, cnt_append, cnt_cons, cnt_nil, blk]; done))) ⟨rfl, .inr ⟨b51, 0, _, _, _, rfl, memF (.head _), by simp [hcell], rfl⟩⟩ rfl (by decide) (by decide) (by omega) ?_
        rintro v' A8 own'
        obtain ⟨a8, c8, rfl, own8⟩ := (own'.snoc (f := hcell) (x := hF f) rfl).at
        rw [List.append_assoc, ← hmt] at own8
        (refine xep rfl rfl ?_; refine runL_nil ?_; refine in_normal ?_; refine then_normal ?_; refine run_region ?_; refine xel rfl (ev_add rfl rfl rfl (by omega)) ?_; refine xep rfl rfl ?_; refine runL_nil ?_; refine then_normal ?_)
        refine ⟨(j + 1, a8, c8, A8), ⟨by show j + 1 ≤ _; omega, own8⟩, by show x.fs.length - (j + 1) < x.fs.length - j; omega, ?_, blk b51 (hcell (hF f)) 26 :: [blk x10 (fcell f) 61], fun y => by (first | rfl | (simp only [List.append_eq, cnt_append, cnt_cons, cnt_nil, blk]; omega) | (simp only [List.append_eq, cnt_append, cnt_cons, cnt_nil, blk]; done))⟩
        dsimp only
        rw [hmt, ← List.append_assoc]; rfl
      · (refine run_exit ?_; (iterate 2 refine then_exit ?_); refine in_exit ?_; refine in_normal ?_; refine then_normal ?_)
        have ej : x.fs.take j = x.fs := List.take_of_length_le (by omega)
        rw [ej, ← hst] at own7
        rw [ej, ← hst]
        (refine run_region ?_; refine xel rfl (ev_add rfl rfl rfl (by omega)) ?_; refine xep rfl rfl ?_; refine runL_nil ?_; refine then_normal ?_)
        exact ⟨(k + 1, a7, c7, A7), ⟨by show k + 1 ≤ _; omega, own7⟩, by show ts.length - (k + 1) < ts.length - k; omega, rfl, [blk x8 (outV a5 c5 x) 51], fun y => by (first | rfl | (simp only [List.append_eq, cnt_append, cnt_cons, cnt_nil, blk]; omega) | (simp only [List.append_eq, cnt_append, cnt_cons, cnt_nil, blk]; done))⟩
    · (refine run_exit ?_; (iterate 2 refine then_exit ?_); refine in_exit ?_)
      have ek : outs.take k = outs := List.take_of_length_le (by omega)
      rw [ek] at own6 ⊢
      exact midN (a6, c6, A6) Y1 own6 rfl (fun x => by (first | rfl | (simp only [List.append_eq, cnt_append, cnt_cons, cnt_nil, blk]; omega) | (simp only [List.append_eq, cnt_append, cnt_cons, cnt_nil, blk]; done)))
  · intro fr' h' hm
    (refine then_normal ?_)
    refine midN_out hm ?_
    clear hm
    rintro ⟨a6, c6, A6⟩ own6
    dsimp only at own6 ⊢
    (refine run_seq ?_; refine run_region ?_; (iterate 2 refine xep rfl rfl ?_); refine runL_nil ?_; refine then_normal ?_; refine run_ret ?_)
    exact ⟨_, rfl, A6, [], own6, fun y => by (first | rfl | (simp only [List.append_eq, cnt_append, cnt_cons, cnt_nil, blk]; omega) | (simp only [List.append_eq, cnt_append, cnt_cons, cnt_nil, blk]; done))⟩
end Go.Proofs.Ytfhpoagnfmgfkaa
