/- Contracts of functions of the given program over its translation, each proved by walking its text; used by the laws' rows. It proves no given statement by itself. -/
import Derived.Test.YtmelpobcpcmdoaaGreatSLRMk5X
import Derived.Test.YtmelpobcpcmdoaaGreatSLPlRPX
import Derived.Test.YtmelpobcpcmdoaaGreatSLSlcCX
set_option autoImplicit false
set_option linter.unusedSectionVars false
set_option linter.unusedSimpArgs false
set_option linter.unusedVariables false
set_option maxRecDepth 4000
set_option maxHeartbeats 100000000
namespace Go.Proofs.YtmelpobcpcmdoaaGreat
open Go Go.SL Go.Proofs
/-! Chapter 12's run, reckoned. -/
def mamendF (f : Nat) (t i p q : Int) (M : Mk) : List Out × Int × Mk :=
  if (mfind t i M).2 = false then ([], 6, M)
  else if right (amO (mfind t i M).1 p q) ≠ 0 then ([], 1, M)
  else if p = (mfind t i M).1.price ∧ q ≤ (mfind t i M).1.qty ∧ (bfind t i M.B).2 = true then ([], 0, ⟨(bless t i q M.B).2, M.W⟩)
  else ((maddF f (amO (mfind t i M).1 p q) (mremove t i M).2.2).1, 0, (maddF f (amO (mfind t i M).1 p q) (mremove t i M).2.2).2)
theorem mamend_eqF (f : Nat) (t i p q : Int) (M : Mk) (h : q.toNat ≤ f) (hW : ∀ x ∈ (mremove t i M).2.2.W, x.qty.toNat ≤ f) : mamend t i p q M = mamendF f t i p q M := by
  unfold mamend mamendF
  rw [madd_eqF f (amO (mfind t i M).1 p q) _ h hW]
def gA : Ord := ⟨1, 1, 1, 1, 1, 10, 5, 0, 0⟩
def gB : Ord := ⟨2, 1, 2, 1, 1, 10, 5, 0, 0⟩
def gC : Ord := ⟨3, 1, 3, 2, 1, 10, 4, 0, 0⟩
def gM1 : Mk := ⟨⟨[⟨10, [⟨gA, 5⟩]⟩], [], 0, 0⟩, []⟩
def gM2 : Mk := ⟨⟨[⟨10, [⟨gA, 5⟩, ⟨gB, 5⟩]⟩], [], 0, 0⟩, []⟩
def gM3 : Mk := ⟨⟨[⟨10, [⟨wq gA 3, 3⟩, ⟨gB, 5⟩]⟩], [], 0, 0⟩, []⟩
def gM4 : Mk := ⟨⟨[⟨10, [⟨gB, 5⟩, ⟨wq gA 6, 6⟩]⟩], [], 0, 0⟩, []⟩
theorem g1e : madd gA emptyM = ([⟨gA, [], 5, true, false, false, 0⟩], gM1) := (madd_eqF 16 _ _ (by decide) (by decide)).trans (by kernel_rfl)
theorem g2e : madd gB gM1 = ([⟨gB, [], 5, true, false, false, 0⟩], gM2) := (madd_eqF 16 _ _ (by decide) (by decide)).trans (by kernel_rfl)
theorem g3e : mamend 1 1 10 3 gM2 = ([], 0, gM3) := (mamend_eqF 16 _ _ _ _ _ (by decide) (by intro x h; have : x ∈ ([] : List Ord) := h; cases this)).trans (by kernel_rfl)
theorem g4e : mamend 1 1 10 6 gM2 = ([⟨wq gA 6, [], 6, true, false, false, 0⟩], 0, gM4) := (mamend_eqF 16 _ _ _ _ _ (by decide) (by intro x h; have : x ∈ ([] : List Ord) := h; cases this)).trans (by kernel_rfl)
theorem g5e : (madd gC gM3).1 = [⟨gC, [⟨wq gA 3, gC, 10, 3, 1⟩, ⟨gB, wq gC 1, 10, 1, 2⟩], 0, false, false, false, 0⟩] := (congrArg (·.1) (madd_eqF 16 _ _ (by decide) (by decide))).trans (by kernel_rfl)
theorem g6e : (madd gC gM4).1 = [⟨gC, [⟨gB, gC, 10, 4, 1⟩], 0, false, false, false, 0⟩] := (congrArg (·.1) (madd_eqF 16 _ _ (by decide) (by decide))).trans (by kernel_rfl)
def depT (t : Int) : Ord := ⟨t, 0, 0, 0, 0, 0, 0, 0, 0⟩
def hF (f : Fl) : Ord × Int := (depT f.maker.trader, f.qty)
def hits : List Out → List (Ord × Int)
  | [] => []
  | x :: r => x.fs.map hF ++ hits r
theorem hits_take {l : List Out} {k : Nat} {x : Out} (h : l[k]? = some x) : hits (l.take (k + 1)) = hits (l.take k) ++ x.fs.map hF := by
  induction l generalizing k with
  | nil => simp at h
  | cons y l ih =>
    cases k with
    | zero =>
      simp only [List.getElem?_cons_zero, Option.some.injEq] at h
      subst h
      simp [hits]
    | succ k =>
      simp only [List.getElem?_cons_succ] at h
      simp only [List.take_succ_cons, hits, ih h, List.append_assoc]
theorem hits_le (l : List Out) (k : Nat) : (hits (l.take k)).length ≤ (hits l).length := by
  induction l generalizing k with
  | nil => simp
  | cons y l ih =>
    cases k with
    | zero => simp [hits]
    | succ k =>
      have := ih k
      simp only [List.take_succ_cons, hits, List.length_append]; omega
theorem map_take_succ {l : List Fl} {j : Nat} {f : Fl} (h : l[j]? = some f) : (l.take (j + 1)).map hF = (l.take j).map hF ++ [hF f] := by
  have hi := (List.getElem?_eq_some_iff.1 h).1
  rw [List.take_succ_eq_append_getElem hi, List.map_append, (List.getElem?_eq_some_iff.1 h).2]; rfl
variable [Base]
theorem FsH.src : ∀ {ts : List ((Option Addr × Nat) × Out)} {HF X : Heap}, FsH ts HF → (∀ x ∈ HF, x ∈ X) → ∀ t ∈ ts, SrcIs X t.1.1 t.2.fs.length 21 (rows fcell t.2.fs)
  | [], _, _, _, _, _, m => nomatch m
  | s :: r, _, X, ⟨A1, H2, h1, h2, e⟩, hX, t, m => by
    subst e
    rcases List.mem_cons.1 m with rfl | m
    · exact h1.src fun x mx => hX x (List.mem_append_left _ mx)
    · exact FsH.src h2 (fun x mx => hX x (List.mem_append_right _ mx)) t m
theorem sp_lo12 (F : Heap) (f i s p q : Int) : Sp Tryz.prog F 74 [.int .i64 f, .int .i64 i, .int .i64 s, .int .i64 p, .int .i64 q] [] (Ret (ov ⟨f, i, f, s, 1, p, q, 0, 0⟩)) := by
  refine sp_of_codeR Tryz.func74 rfl rfl ?_
  (refine run_seq ?_; refine run_region ?_; refine runL_alloc rfl rfl rfl rfl rfl ze35 (fun _ => ?_); refine runL_nil ?_; refine then_normal ?_; refine run_seq ?_; refine run_region ?_; (iterate 6 refine xep rfl rfl ?_); refine xel rfl (ev_build rfl pl35 rfl) ?_; refine runL_store0 rfl rfl rfl rfl rfl (sz rfl) rfl rfl rfl rfl rfl ?_; refine runL_nil ?_; refine then_normal ?_; refine run_ret ?_)
  exact ⟨_, .agg rfl (memF (.head _)) (ag rfl) (sz rfl) rfl .nil, rfl⟩
theorem sp_gives (F : Heap) (q : Int) (hq : InI q) (M3 : Mk) (ou1 : List Out) (h3 : mamend 1 1 10 q gM2 = (ou1, 0, M3)) (hw3 : MW M3) (hn3 : M3.B.no ≤ 1099442421760) (outs : List Out) (h5 : (madd gC M3).1 = outs) (hh : (hits outs).length ≤ 65536) (hfs : ∀ x ∈ outs, x.fs.length ≤ 65536) :
    Sp Tryz.prog F 49 [.int .i64 q] [] (fun v h' => OwnS 84 10 v (hits outs).length (rows hcell (hits outs)) h') := by
  have q1 := fun F f i s p q => sp_lo12 F f i s p q
  have w0 := emptyM_ok
  have w1 : MW gM1 := by have := (madd_ok (o := gA) w0).1; rw [g1e] at this; exact this
  have w2 : MW gM2 := by have := (madd_ok (o := gB) w1).1; rw [g2e] at this; exact this
  refine Sp.up ?_
  refine sp_of_code Tryz.func49 rfl rfl ?_
  (refine run_seq ?_; refine run_region ?_; refine xep rfl rfl ?_; refine runL_nil ?_; refine then_normal ?_; refine run_seq ?_; refine run_region ?_)
  refine runL_call0 rfl rfl rfl rfl rfl rfl rfl (pf rfl) (sp_snew _) ?_
  rintro v H ⟨m, rfl, hH⟩
  (refine xep rfl rfl ?_; refine runL_nil ?_; refine then_normal ?_; (iterate 2 refine run_seq ?_); refine run_region ?_; refine xep rfl rfl ?_; refine xel rfl (ev_eqNil rfl rfl rfl (pt rfl)) ?_; refine runL_nil ?_; refine then_normal ?_)
  refine run_condF rfl rfl ?_
  (refine run_skip ?_; refine then_normal ?_; refine run_seq ?_; refine run_region ?_; refine xep rfl rfl ?_; refine xel rfl (ev_callQ rfl rfl rfl (pf rfl) (q1 ..)) ?_)
  refine runL_callZ [] H rfl rfl rfl rfl rfl rfl rfl (pf rfl) (fun x => by (first | rfl | (simp only [List.append_eq, cnt_append, cnt_cons, cnt_nil, blk]; omega) | (simp only [List.append_eq, cnt_append, cnt_cons, cnt_nil, blk]; done))) (sp_sadd _ H m emptyM hH w0 (by decide) gA (inI rfl)) ?_
  rw [g1e]
  rintro v _ ⟨a1, c1, ts1, A1, G1, H1, rfl, -, -, -, -, hH1, rfl⟩
  dsimp only at hH1 ⊢
  (refine runL_nil ?_; refine then_normal ?_; refine run_seq ?_; refine run_region ?_; refine xep rfl rfl ?_; refine xel rfl (ev_callQ rfl rfl rfl (pf rfl) (q1 ..)) ?_)
  refine runL_callZ (A1 ++ G1) H1 rfl rfl rfl rfl rfl rfl rfl (pf rfl) (fun x => by (first | rfl | (simp only [List.append_eq, cnt_append, cnt_cons, cnt_nil, blk]; omega) | (simp only [List.append_eq, cnt_append, cnt_cons, cnt_nil, blk]; done))) (sp_sadd _ H1 m gM1 hH1 w1 (by decide) gB (inI rfl)) ?_
  rw [g2e]
  rintro v _ ⟨a2, c2, ts2, A2, G2, H2, rfl, -, -, -, -, hH2, rfl⟩
  dsimp only at hH2 ⊢
  (refine runL_nil ?_; refine then_normal ?_; (iterate 2 refine run_seq ?_); refine run_region ?_; (iterate 2 refine xep rfl rfl ?_))
  refine runL_callZ (A1 ++ G1 ++ (A2 ++ G2)) H2 rfl rfl rfl rfl rfl rfl rfl (pf rfl) (fun x => by (first | rfl | (simp only [List.append_eq, cnt_append, cnt_cons, cnt_nil, blk]; omega) | (simp only [List.append_eq, cnt_append, cnt_cons, cnt_nil, blk]; done))) (sp_amend _ H2 m gM2 hH2 w2 (by decide) 1 1 10 q (inI rfl) hq (by show InI 1; exact inI rfl)) ?_
  rw [h3]
  rintro v _ ⟨a3, c3, ts3, A3, G3, H3, rfl, -, -, -, -, hH3, rfl⟩
  dsimp only at hH3 ⊢
  ((iterate 5 refine xep rfl rfl ?_); refine runL_nil ?_; refine then_normal ?_; refine run_seq ?_; refine run_region ?_; (iterate 2 refine xep rfl rfl ?_); refine runL_nil ?_; refine then_normal ?_)
  refine run_condF rfl rfl ?_
  (refine run_skip ?_; refine then_normal ?_; refine run_seq ?_; refine run_region ?_; refine xep rfl rfl ?_; refine runL_nil ?_; refine then_normal ?_; (iterate 2 refine run_seq ?_); refine run_region ?_; refine xep rfl rfl ?_; refine xel rfl (ev_callQ rfl rfl rfl (pf rfl) (q1 ..)) ?_)
  refine runL_callZ (A1 ++ G1 ++ (A2 ++ G2) ++ (A3 ++ G3)) H3 rfl rfl rfl rfl rfl rfl rfl (pf rfl) (fun x => by (first | rfl | (simp only [List.append_eq, cnt_append, cnt_cons, cnt_nil, blk]; omega) | (simp only [List.append_eq, cnt_append, cnt_cons, cnt_nil, blk]; done))) (sp_sadd _ H3 m M3 hH3 hw3 hn3 gC (inI rfl)) ?_
  rw [h5]
  rintro v _ ⟨ao, co, ts, A4, HF, H4, rfl, hts, htl, own, hF, hH4, rfl⟩
  have htl2 : ts.length = outs.length := by rw [← hts, List.length_map]
  (refine xel rfl (ev_len rfl rfl (se rfl)) ?_)
  (refine xep rfl rfl ?_)
  refine runL_nil ?_
  (refine then_normal ?_)
  refine run_midO (σ := Option Addr × Nat × Heap) [2] (fun s => [(6, .slice s.1 (hits outs).length s.2.1)]) (fun s => s.2.2) (fun s => OwnS 84 10 (.slice s.1 (hits outs).length s.2.1) (hits outs).length (rows hcell (hits outs)) s.2.2) rfl ?_ ?_
  · refine RunC.freeze ?_
    have src := own.src (H := A1 ++ G1 ++ (A2 ++ G2) ++ (A3 ++ G3) ++ (H4 ++ A4 ++ HF) ++ F) fun x mx => by simp only [List.mem_append, mx, true_or, or_true]
    have srcF := hF.src (X := A1 ++ G1 ++ (A2 ++ G2) ++ (A3 ++ G3) ++ (H4 ++ A4 ++ HF) ++ F) fun x mx => by simp only [List.mem_append, mx, true_or, or_true]
    clear own hF hH4 hH3 hH2 hH1 hH
    generalize A1 ++ G1 ++ (A2 ++ G2) ++ (A3 ++ G3) ++ (H4 ++ A4 ++ HF) ++ F = Y at *
    generalize A1 ++ G1 ++ (A2 ++ G2) ++ (A3 ++ G3) ++ (H4 ++ A4 ++ HF) = Y1 at *
    refine run_block ?_
    refine run_loopK (σ := Nat × (Option Addr × Nat × Heap)) [2, 6, 30, 31, 32] (fun s => [(2, .slice none 0 0), (6, .slice s.2.1 (hits (outs.take s.1)).length s.2.2.1), (30, .slice ao ts.length co), (31, .int .i64 ts.length), (32, .int .i64 s.1)])
      (fun s => s.2.2.2) (fun s => s.1 ≤ ts.length ∧ OwnS 84 10 (.slice s.2.1 (hits (outs.take s.1)).length s.2.2.1) (hits (outs.take s.1)).length (rows hcell (hits (outs.take s.1))) s.2.2.2) (fun s => ts.length - s.1) (0, (none, 0, [])) ⟨Nat.zero_le _, .nil _ _⟩ rfl (fun x => by (first | rfl | (simp only [List.append_eq, cnt_append, cnt_cons, cnt_nil, blk]; omega) | (simp only [List.append_eq, cnt_append, cnt_cons, cnt_nil, blk]; done))) ?_
    rintro ⟨k, a6, c6, A6⟩ ⟨gk, own6⟩
    dsimp only at gk own6 ⊢
    have hle := hits_le outs k
    (refine run_seq ?_; refine run_region ?_; refine xep rfl rfl ?_; refine runL_nil ?_; refine then_normal ?_; refine run_seq ?_)
    (refine run_cond rfl (fun hc => ?_) (fun hc => ?_) <;> (try simp only [z0, z1, z2, z3, z4, z5, z6, z7, z8, z9, Bool.not_true, Bool.not_false, Bool.false_or, Bool.true_and, true_and, and_true, false_or, or_false, reduceCtorEq, Bool.false_eq_true] at hc))
    · obtain ⟨b1, off1, _, _, _, rfl, _⟩ := src.pos (by omega)
      obtain ⟨⟨⟨a5, c5⟩, x⟩, ht⟩ : ∃ t, ts[k]? = some t := ⟨ts[k]'(by omega), List.getElem?_eq_getElem _⟩
      have l1 := SrcIs.row orow_len src rfl ht
      have hx : outs[k]? = some x := by rw [← hts, List.getElem?_map, ht]; rfl
      have sF := srcF _ (List.mem_of_getElem? ht)
      have hxl := hfs x (List.mem_of_getElem? hx)
      have hst := hits_take hx
      have hle2 := hits_le outs (k + 1)
      rw [hst, List.length_append, List.length_map] at hle2
      dsimp only [orow] at l1 sF
      (refine run_skip ?_; refine then_normal ?_; refine run_seq ?_; refine run_block ?_; refine run_seq ?_; refine run_region ?_; refine xel rfl (ev_indexAddr rfl rfl rfl (se rfl) (by omega) (by omega)) ?_; refine xel rfl (ev_loadAF rfl rfl (ag rfl) (sz rfl) l1 rfl) ?_; refine runL_alloc rfl rfl rfl rfl rfl ze66 (fun _ => ?_); refine runL_store0 rfl rfl rfl rfl rfl (sz rfl) rfl rfl rfl rfl rfl ?_; refine runL_nil ?_; refine then_normal ?_; refine run_seq ?_; refine run_region ?_; refine xel rfl (ev_fieldAddr rfl rfl (fo rfl)) ?_; refine xel rfl (ev_loadK rfl rfl (sc rfl) (memF (.head _)) rfl) ?_; refine xel rfl (ev_len rfl rfl (se rfl)) ?_; refine xep rfl rfl ?_; refine runL_nil ?_; refine then_normal ?_; refine run_block ?_)
      rename_i x8
      refine RunC.perm (h' := blk x8 (outV a5 c5 x) 66 :: A6) (fun y => rfl) ?_
      refine run_loopK (σ := Nat × (Option Addr × Nat × Heap)) [2, 6, 8, 30, 31, 32, 37, 38, 39] (fun s => [(2, .slice none 0 0), (6, .slice s.2.1 (hits (outs.take k) ++ (x.fs.take s.1).map hF).length s.2.2.1), (8, .pointer (some ⟨x8, 0, none⟩)), (30, .slice (some ⟨b1, off1, none⟩) ts.length co), (31, .int .i64 ts.length), (32, .int .i64 k), (37, .slice a5 x.fs.length c5), (38, .int .i64 x.fs.length), (39, .int .i64 s.1)])
        (fun s => blk x8 (outV a5 c5 x) 66 :: s.2.2.2) (fun s => s.1 ≤ x.fs.length ∧ OwnS 84 10 (.slice s.2.1 (hits (outs.take k) ++ (x.fs.take s.1).map hF).length s.2.2.1) (hits (outs.take k) ++ (x.fs.take s.1).map hF).length (rows hcell (hits (outs.take k) ++ (x.fs.take s.1).map hF)) s.2.2.2) (fun s => x.fs.length - s.1) (0, (a6, c6, A6)) ⟨Nat.zero_le _, by simpa using own6⟩ (by simp; rfl) (fun y => by (first | rfl | (simp only [List.append_eq, cnt_append, cnt_cons, cnt_nil, blk]; omega) | (simp only [List.append_eq, cnt_append, cnt_cons, cnt_nil, blk]; done))) ?_
      rintro ⟨j, a7, c7, A7⟩ ⟨gj, own7⟩
      dsimp only at gj own7 ⊢
      have hlj : (hits (outs.take k) ++ (x.fs.take j).map hF).length ≤ 65536 := by
        rw [List.length_append, List.length_map, List.length_take]; omega
      (refine run_seq ?_; refine run_region ?_; refine xep rfl rfl ?_; refine runL_nil ?_; refine then_normal ?_; refine run_seq ?_)
      (refine run_cond rfl (fun hc => ?_) (fun hc => ?_) <;> (try simp only [z0, z1, z2, z3, z4, z5, z6, z7, z8, z9, Bool.not_true, Bool.not_false, Bool.false_or, Bool.true_and, true_and, and_true, false_or, or_false, reduceCtorEq, Bool.false_eq_true] at hc))
      · obtain ⟨b2, off2, _, _, _, rfl, _⟩ := sF.pos (by omega)
        obtain ⟨f, hf⟩ : ∃ f, x.fs[j]? = some f := ⟨x.fs[j]'(by omega), List.getElem?_eq_getElem _⟩
        have l2 := SrcIs.row fcell_len sF rfl hf
        have hmt := map_take_succ hf
        (refine run_skip ?_; refine then_normal ?_; refine run_seq ?_; refine run_block ?_; refine run_seq ?_; refine run_region ?_; refine xel rfl (ev_indexAddr rfl rfl rfl (se rfl) (by omega) (by omega)) ?_; refine xel rfl (ev_loadAF rfl rfl (ag rfl) (sz rfl) l2 rfl) ?_; refine runL_alloc rfl rfl rfl rfl rfl ze93 (fun _ => ?_); refine runL_store0 rfl rfl rfl rfl rfl (sz rfl) rfl rfl rfl rfl rfl ?_; refine runL_nil ?_; refine then_normal ?_; refine run_region ?_; refine xep rfl rfl ?_; (iterate 2 refine xel rfl (ev_fieldAddr rfl rfl (fo rfl)) ?_); refine xel rfl (ev_loadK rfl rfl (sc rfl) (memF (.head _)) rfl) ?_; refine xel rfl (ev_build rfl pl35 rfl) ?_; refine xel rfl (ev_fieldAddr rfl rfl (fo rfl)) ?_; refine xel rfl (ev_loadK rfl rfl (sc rfl) (memF (.head _)) rfl) ?_; refine xel rfl (ev_build rfl pl84 rfl) ?_)
        rename_i x10
        refine runL_buildSlice (l := hcell (hF f)) rfl rfl rfl rfl rfl (se rfl) ze84 rfl rfl rfl rfl rfl (fun b51 => ?_)
        skip
        refine runL_append (sl := hcell (hF f)) (blk b51 (hcell (hF f)) 84 :: blk x10 (fcell f) 93 :: [blk x8 (outV (some ⟨b2, off2, none⟩) c5 x) 66]) rfl rfl rfl rfl rfl rfl rfl (se rfl) (se rfl) ze84 rfl (byt rfl) own7 (fun y => by
          show cnt y (blk b51 (hcell (hF f)) 84 :: blk x10 (fcell f) 93 :: blk x8 (outV (some ⟨b2, off2, none⟩) c5 x) 66 :: A7) = _
          (first | rfl | (simp only [List.append_eq, cnt_append, cnt_cons, cnt_nil, blk]; omega) | (simp only [List.append_eq, cnt_append, cnt_cons, cnt_nil, blk]; done))) ⟨rfl, .inr ⟨b51, 0, _, _, _, rfl, memF (.head _), by simp [hcell], rfl⟩⟩ rfl (by decide) (by decide) (by omega) ?_
        rintro v' A8 own'
        obtain ⟨a8, c8, rfl, own8⟩ := (own'.snoc (f := hcell) (x := hF f) rfl).at
        rw [List.append_assoc, ← hmt] at own8
        (refine xep rfl rfl ?_; refine runL_nil ?_; refine in_normal ?_; refine then_normal ?_; refine run_region ?_; refine xel rfl (ev_add rfl rfl rfl (by omega)) ?_; refine xep rfl rfl ?_; refine runL_nil ?_; refine then_normal ?_)
        refine ⟨(j + 1, a8, c8, A8), ⟨by show j + 1 ≤ _; omega, own8⟩, by show x.fs.length - (j + 1) < x.fs.length - j; omega, ?_, blk b51 (hcell (hF f)) 84 :: [blk x10 (fcell f) 93], fun y => by (first | rfl | (simp only [List.append_eq, cnt_append, cnt_cons, cnt_nil, blk]; omega) | (simp only [List.append_eq, cnt_append, cnt_cons, cnt_nil, blk]; done))⟩
        dsimp only
        rw [hmt, ← List.append_assoc]; rfl
      · (refine run_exit ?_; (iterate 2 refine then_exit ?_); refine in_exit ?_; refine in_normal ?_; refine then_normal ?_)
        have ej : x.fs.take j = x.fs := List.take_of_length_le (by omega)
        rw [ej, ← hst] at own7
        rw [ej, ← hst]
        (refine run_region ?_; refine xel rfl (ev_add rfl rfl rfl (by omega)) ?_; refine xep rfl rfl ?_; refine runL_nil ?_; refine then_normal ?_)
        exact ⟨(k + 1, a7, c7, A7), ⟨by show k + 1 ≤ _; omega, own7⟩, by show ts.length - (k + 1) < ts.length - k; omega, rfl, [blk x8 (outV a5 c5 x) 66], fun y => by (first | rfl | (simp only [List.append_eq, cnt_append, cnt_cons, cnt_nil, blk]; omega) | (simp only [List.append_eq, cnt_append, cnt_cons, cnt_nil, blk]; done))⟩
    · (refine run_exit ?_; (iterate 2 refine then_exit ?_); refine in_exit ?_)
      have ek : outs.take k = outs := List.take_of_length_le (by omega)
      rw [ek] at own6 ⊢
      exact midN (a6, c6, A6) Y1 own6 rfl (fun x => by (first | rfl | (simp only [List.append_eq, cnt_append, cnt_cons, cnt_nil, blk]; omega) | (simp only [List.append_eq, cnt_append, cnt_cons, cnt_nil, blk]; done)))
  · intro fr' h' hm
    (refine then_normal ?_)
    refine midN_out hm ?_
    clear hm
    rintro ⟨a6, c6, A6⟩ own6
    dsimp only at own6 ⊢
    (refine run_seq ?_; refine run_region ?_; (iterate 2 refine xep rfl rfl ?_); refine runL_nil ?_; refine then_normal ?_; refine run_ret ?_)
    exact ⟨_, rfl, A6, [], own6, fun y => by (first | rfl | (simp only [List.append_eq, cnt_append, cnt_cons, cnt_nil, blk]; omega) | (simp only [List.append_eq, cnt_append, cnt_cons, cnt_nil, blk]; done))⟩
end Go.Proofs.YtmelpobcpcmdoaaGreat

set_option autoImplicit false
set_option linter.unusedSectionVars false
set_option linter.unusedSimpArgs false
set_option linter.unusedVariables false
set_option maxRecDepth 4000
set_option maxHeartbeats 100000000
namespace Go.Proofs.YtmelpobcpcmdoaaGreat
open Go Go.SL Go.Proofs
variable [Base]
theorem badd_fs {o : Ord} {B : Bk} (hw : BW B) : (badd o B).1.fs.length ≤ 2097152 := by
  by_cases h0 : brefused o B = 0
  · have hr2 : right o = 0 := by
      unfold brefused at h0
      split at h0
      · cases h0
      · rename_i h; omega
    have hr := right_zero hr2
    have hs : o.side = 1 ∨ o.side = 2 := by unfold rightP at hr; omega
    have hq : 0 ≤ o.qty ∧ o.qty ≤ 1048576 := by unfold rightP at hr; omega
    have M := match_is (B.side (3 - o.side)) o B.last B.no (hw.side _).1 hq.1
    rw [(add_is hs h0).out]
    have h1 := M.num
    have h2 := M.qty
    dsimp only
    omega
  · rw [refused_is h0]; exact Nat.zero_le _
theorem trig_fs : ∀ (n : Nat) (M : Mk), MW M → ∀ x ∈ (mtrig n M).1, x.fs.length ≤ 2097152
  | 0, M, _ => fun _ m => nomatch m
  | n + 1, M, hw => by
    unfold mtrig
    cases hf : M.W.findIdx? (fun o => hit o M.B.last) with
    | none => exact fun _ m => nomatch m
    | some k =>
      dsimp only
      cases ho : M.W[k]? with
      | none => exact fun _ m => nomatch m
      | some o =>
        dsimp only
        have e := menter_ok (o := o) hw.b hw.no
        have hc := cut_len ho
        have hl := hw.len
        have hn := hw.no
        unfold mlen at hl
        intro x m
        rcases List.mem_cons.1 m with rfl | m
        · exact badd_fs (o := bare o) hw.b
        · exact trig_fs n _ ⟨e.1, by show 0 ≤ (menter o M.B).2.no; omega, by
            unfold mlen
            have := e.2.2.2
            dsimp only
            split at this <;> omega, fun x m => hw.w x (cut_mem m)⟩ x m
theorem madd_fs {o : Ord} {M : Mk} (hw : MW M) : ∀ x ∈ (madd o M).1, x.fs.length ≤ 2097152 := by
  intro x m
  unfold madd at m
  rcases List.mem_cons.1 m with rfl | m
  · unfold mfirst
    split
    · exact Nat.zero_le _
    · split
      · exact Nat.zero_le _
      · exact badd_fs (o := bare o) hw.b
  · exact trig_fs _ _ (mfirst_ok (o := o) hw).1 x m
theorem sp_kOutcomes (F : Heap) (a1 a2 : Option Addr) (n c1 c2 : Nat) (ts1 ts2 : List ((Option Addr × Nat) × Out)) (h1 : ts1.length = n) (h2 : ts2.map (·.2) = ts1.map (·.2)) (hn : n ≤ 1000) (s1 : SrcIs F a1 n 15 (rows orow ts1)) (s2 : SrcIs F a2 n 15 (rows orow ts2))
    (f1 : ∀ t ∈ ts1, SrcIs F t.1.1 t.2.fs.length 21 (rows fcell t.2.fs)) (f2 : ∀ t ∈ ts2, SrcIs F t.1.1 t.2.fs.length 21 (rows fcell t.2.fs)) (hl : ∀ t ∈ ts1, t.2.fs.length ≤ 2097152) :
    Sp Tryz.prog F 6 [.slice a1 n c1, .slice a2 n c2] [] (Ret (.bool true)) := by
  have h3 : ts2.length = n := by have := congrArg List.length h2; simpa [h1] using this
  refine sp_of_code Tryz.func6 rfl rfl ?_
  (refine run_seq ?_; refine run_region ?_; refine xep rfl rfl ?_; refine runL_nil ?_; refine then_normal ?_; (iterate 2 refine run_seq ?_); refine run_region ?_; refine xep rfl rfl ?_; refine xel rfl (ev_len rfl rfl (se rfl)) ?_; refine xep rfl rfl ?_; refine xel rfl (ev_len rfl rfl (se rfl)) ?_; refine xep rfl rfl ?_; refine runL_nil ?_; refine then_normal ?_)
  refine run_condF rfl (by simp) ?_
  (refine run_skip ?_; refine then_normal ?_; (iterate 2 refine run_seq ?_); refine run_region ?_; refine xep rfl rfl ?_; refine xel rfl (ev_len rfl rfl (se rfl)) ?_; refine xep rfl rfl ?_; refine runL_nil ?_; refine then_normal ?_; refine run_block ?_)
  refine run_loopK (σ := Nat) [0, 1, 11, 12, 13] (fun i => [(0, .slice a1 n c1), (1, .slice a2 n c2), (11, .slice a1 n c1), (12, .int .i64 n), (13, .int .i64 i)]) (fun _ => []) (fun i => i ≤ n) (fun i => n - i) 0 (Nat.zero_le _) rfl (fun _ => rfl) ?_
  intro i gi
  (refine run_seq ?_; refine run_region ?_; refine xep rfl rfl ?_; refine runL_nil ?_; refine then_normal ?_; refine run_seq ?_)
  (refine run_cond rfl (fun hc => ?_) (fun hc => ?_) <;> (try simp only [z0, z1, z2, z3, z4, z5, z6, z7, z8, z9, Bool.not_true, Bool.not_false, Bool.false_or, Bool.true_and, true_and, and_true, false_or, or_false, reduceCtorEq, Bool.false_eq_true] at hc))
  · obtain ⟨b1, o1, _, _, _, rfl, _⟩ := s1.pos (by omega)
    obtain ⟨b2, o2, _, _, _, rfl, _⟩ := s2.pos (by omega)
    obtain ⟨⟨⟨p1, k1'⟩, x⟩, hx⟩ : ∃ t, ts1[i]? = some t := ⟨ts1[i]'(by omega), List.getElem?_eq_getElem _⟩
    obtain ⟨⟨⟨p2, k2'⟩, y⟩, hy⟩ : ∃ t, ts2[i]? = some t := ⟨ts2[i]'(by omega), List.getElem?_eq_getElem _⟩
    have hxy : y = x := by
      have e := congrArg (fun l => l[i]?) h2
      simp only [List.getElem?_map, hx, hy, Option.map_some, Option.some.injEq] at e
      exact e
    subst hxy
    have l1 := SrcIs.row orow_len s1 h1 hx
    have l2 := SrcIs.row orow_len s2 h3 hy
    have g1 := f1 _ (List.mem_of_getElem? hx)
    have g2 := f2 _ (List.mem_of_getElem? hy)
    have g3 := hl _ (List.mem_of_getElem? hx)
    dsimp only [orow] at l1 l2 g1 g2 g3
    have q1 := fun G : Heap => sp_kOutcome (G ++ F) p1 p2 k1' k2' y g3 g1.up g2.up
    (refine run_skip ?_; refine then_normal ?_; refine run_seq ?_; refine run_block ?_; refine run_seq ?_; refine run_region ?_; (iterate 2 refine xep rfl rfl ?_); refine runL_nil ?_; refine then_normal ?_; refine run_seq ?_; refine run_region_draw mo (by kernel_rfl) ?_; (iterate 2 refine xqp rfl rfl ?_); refine xql rfl (ev_indexAddr rfl rfl rfl (se rfl) (by omega) (by omega)) ?_; refine xql rfl (ev_loadAF rfl rfl (ag rfl) (sz rfl) l1 rfl) ?_; (iterate 2 refine xqp rfl rfl ?_); refine xql rfl (ev_indexAddr rfl rfl rfl (se rfl) (by omega) (by omega)) ?_; refine xql rfl (ev_loadAF rfl rfl (ag rfl) (sz rfl) l2 rfl) ?_; refine xql rfl (ev_callQ rfl rfl rfl (pf rfl) (q1 ..)) ?_; refine xqp rfl rfl ?_; refine runQ_nil ?_; refine then_normal ?_)
    refine run_condF rfl rfl ?_
    (refine run_skip ?_; refine in_normal ?_; refine then_normal ?_; refine run_region ?_; refine xel rfl (ev_add rfl rfl rfl (by omega)) ?_; refine xep rfl rfl ?_; refine runL_nil ?_; refine then_normal ?_)
    exact ⟨i + 1, by omega, by omega, rfl, [], fun _ => rfl⟩
  · (refine run_exit ?_; (iterate 2 refine then_exit ?_); refine in_exit ?_; refine then_normal ?_)
    (refine run_seq ?_; refine run_region ?_; refine xep rfl rfl ?_; refine runL_nil ?_; refine then_normal ?_; refine run_ret ?_)
    exact ⟨_, rfl, rfl⟩
end Go.Proofs.YtmelpobcpcmdoaaGreat

set_option autoImplicit false
set_option linter.unusedSectionVars false
set_option linter.unusedSimpArgs false
set_option linter.unusedVariables false
set_option maxRecDepth 4000
set_option maxHeartbeats 16000000
namespace Go.Proofs.YtmelpobcpcmdoaaGreat
open Go Go.SL Go.Proofs
variable [Base]
/-! What stays so over a market's calls. -/
theorem RB_of_all {M : Mk} (h : ∀ x ∈ mall M, okP x) : RB M.B := by
  refine ⟨fun lv ml e me => h e.o ?_, fun lv ml e me => h e.o ?_⟩
  · unfold mall
    exact List.mem_append_left _ (orders_mem.2 ⟨lv, ml, e, me, rfl⟩)
  · unfold mall
    exact List.mem_append_right _ (List.mem_append_left _ (orders_mem.2 ⟨lv, ml, e, me, rfl⟩))
theorem mremove_sub {t i : Int} {M : Mk} (hw : MW M) {x : Ord} (hx : x ∈ mall (mremove t i M).2.2) : x ∈ mall M := by
  rcases Nat.eq_zero_or_pos (cM t i M) with h0 | h0
  · rw [(gone_no h0).2.2] at hx; exact hx
  · obtain ⟨P, Q, e1, e2⟩ := (mrem_is hw h0).1.split
    rw [e2] at hx
    rw [e1]
    rcases List.mem_append.1 hx with h | h
    · exact List.mem_append_left _ h
    · exact List.mem_append_right _ (List.mem_cons_of_mem _ h)
theorem mremove_RB {t i : Int} {M : Mk} (hw : MW M) (h : RB M.B) : RB (mremove t i M).2.2.B := RB_of_all fun x hx => all_ok hw h (mremove_sub hw hx)
theorem found_is {t i : Int} {M : Mk} (hw : MW M) (hu : Uq M) (hf : (mfind t i M).2 = true) : ∃ (k : Nat) (x : Ord), (mall M)[k]? = some x ∧ x.trader = t ∧ x.id = i ∧ mfind t i M = (x, true) := by
  have hc := mfind_cM hf
  rw [← cM_all] at hc
  obtain ⟨x, mx, hp⟩ := List.countP_pos_iff.1 hc
  obtain ⟨rfl, rfl⟩ := isO_is hp
  obtain ⟨k, hk, ek⟩ := List.getElem_of_mem mx
  have hx : (mall M)[k]? = some x := by rw [List.getElem?_eq_getElem hk, ek]
  exact ⟨k, x, hx, rfl, rfl, mfind_at hu hx⟩
theorem okP_kind {o : Ord} (h : okP o) : InI o.kind := by
  obtain ⟨-, -, -, -, -, -, -, -, h9, h10, -⟩ := h
  unfold InI; omega
theorem mfind_kind {t i : Int} {M : Mk} (hw : MW M) (hu : Uq M) (hr : RB M.B) : InI (mfind t i M).1.kind := by
  cases hf : (mfind t i M).2 with
  | false =>
    have e : (mfind t i M).1 = o0 := by
      unfold mfind at hf ⊢
      split at hf
      · cases hf
      · rename_i hb
        rw [if_neg hb]
        split
        · rfl
        · rename_i k hk
          have hlt := (List.findIdx?_eq_some_iff_getElem.1 hk).1
          rw [hk] at hf
          dsimp only at hf
          rw [List.getElem?_eq_getElem hlt] at hf
          cases hf
    rw [e]; exact inI rfl
  | true =>
    obtain ⟨k, x, hx, -, -, e⟩ := found_is hw hu hf
    rw [e]
    exact okP_kind (all_ok hw hr (List.mem_of_getElem? hx))
/-- What is so of a market after k calls. -/
structure PlOk (k : Nat) (M : Mk) : Prop where
  w : MW M
  u : Uq M
  r : RB M.B
  no : M.B.no ≤ k * 68157440
theorem PlOk.empty : PlOk 0 emptyM := ⟨emptyM_ok, Uq.empty, ⟨fun _ m => (nomatch m), fun _ m => (nomatch m)⟩, by show (0 : Int) ≤ ((0 : Nat) : Int) * 68157440; decide⟩
theorem PlOk.same {k : Nat} {M : Mk} (h : PlOk k M) : PlOk (k + 1) M := ⟨h.w, h.u, h.r, by have := h.no; push_cast; omega⟩
theorem PlOk.add {k : Nat} {M : Mk} (h : PlOk k M) (o : Ord) : PlOk (k + 1) (madd o M).2 := by
  have K := madd_ok (o := o) h.w
  exact ⟨K.1, madd_Uq h.u, madd_RB h.w h.r, by have := h.no; have := K.2.2.1; push_cast; omega⟩
theorem PlOk.rem {k : Nat} {M : Mk} (h : PlOk k M) (t i : Int) : PlOk k (mremove t i M).2.2 :=
  ⟨mremove_MW h.w, mremove_Uq h.w h.u, mremove_RB h.w h.r, by rw [mremove_no]; exact h.no⟩
theorem less_ok {k : Nat} {M : Mk} (h : PlOk k M) {j : Nat} {x : Ord} {n : Int} (hk : (mall M)[j]? = some x) (hb : (bfind x.trader x.id M.B).2 = true) (h1 : 1 ≤ n) (h2 : n ≤ x.qty) : PlOk k ⟨(bless x.trader x.id n M.B).2, M.W⟩ := by
  obtain ⟨e, hw, hno⟩ := bless_is h.w h.u hk hb h1 h2
  refine ⟨hw, fun a b => ?_, RB_of_all fun y my => ?_, by show (bless x.trader x.id n M.B).2.no ≤ _; rw [hno]; exact h.no⟩
  · have h3 := h.u a b
    rw [← cM_all] at h3 ⊢
    rw [e, set_split hk]
    rw [es_split hk, List.countP_append, List.countP_cons] at h3
    rw [List.countP_append, List.countP_cons]
    exact h3
  · rw [e, set_split hk] at my
    have hok := fun z mz => all_ok h.w h.r (x := z) mz
    rcases List.mem_append.1 my with m | m
    · exact hok y (List.mem_of_mem_take m)
    · rcases List.mem_cons.1 m with rfl | m
      · exact okP_wq (hok x (List.mem_of_getElem? hk))
      · exact hok y (List.mem_of_mem_drop m)
theorem PlOk.amend {k : Nat} {M : Mk} (h : PlOk k M) (t i p q : Int) : PlOk (k + 1) (mamend t i p q M).2.2 := by
  unfold mamend
  split
  · exact h.same
  · rename_i hf
    split
    · exact h.same
    · rename_i hr
      split
      · rename_i hc
        obtain ⟨j, x, hx, rfl, rfl, e⟩ := found_is h.w h.u (by simpa using hf)
        rw [e] at hr hc
        have hr := right_zero (by simpa using hr)
        unfold rightP amO at hr
        dsimp only at hr hc ⊢
        exact (less_ok h hx hc.2.2 (by omega) hc.2.1).same
      · exact (h.rem t i).add _
theorem stayL_sub {f : Int → Bool} {l : List Ord} {x : Ord} (h : x ∈ stayL f l) : x ∈ l := (List.mem_filter.1 h).1
theorem PlOk.mass {k : Nat} {M : Mk} (h : PlOk k M) (f : Int → Bool) : PlOk (k + 1) (massM f M (mall M)) := by
  obtain ⟨e, hw, hu, hno⟩ := mass_is (f := f) h.w h.u (mall M).length (Nat.le_refl _)
  rw [List.take_length] at e hw hu hno
  rw [List.drop_length, List.append_nil] at e
  refine ⟨hw, hu, RB_of_all fun x hx => all_ok h.w h.r ?_, by rw [hno]; exact h.same.no⟩
  rw [e] at hx
  exact stayL_sub hx
theorem amend_fs {t i p q : Int} {k : Nat} {M : Mk} (h : PlOk k M) : ∀ x ∈ (mamend t i p q M).1, x.fs.length ≤ 2097152 := by
  unfold mamend
  split
  · exact fun x m => nomatch m
  · split
    · exact fun x m => nomatch m
    · split
      · exact fun x m => nomatch m
      · exact madd_fs (h.rem t i).w
end Go.Proofs.YtmelpobcpcmdoaaGreat

set_option autoImplicit false
set_option linter.unusedSectionVars false
set_option linter.unusedSimpArgs false
set_option linter.unusedVariables false
set_option maxRecDepth 4000
set_option maxHeartbeats 100000000
namespace Go.Proofs.YtmelpobcpcmdoaaGreat
open Go Go.SL Go.Proofs
variable [Base]
theorem changeRuns_sp (F : Heap) : Sp Tryz.prog F 19 [] [] (Ret (.bool true)) := by
  have w0 := emptyM_ok
  have w1 : MW gM1 := by have := (madd_ok (o := gA) w0).1; rw [g1e] at this; exact this
  have w2 : MW gM2 := by have := (madd_ok (o := gB) w1).1; rw [g2e] at this; exact this
  have w3b : BW gM3.B := by
    refine ⟨?_, (fun _ m => nomatch m), by decide⟩
    intro lv m
    have m : lv ∈ [(⟨10, [⟨wq gA 3, 3⟩, ⟨gB, 5⟩]⟩ : Lv)] := m
    rw [List.mem_singleton] at m
    subst m
    refine ⟨⟨by decide, fun x mx => ?_⟩, by simp⟩
    rcases List.mem_cons.1 mx with rfl | mx
    · decide
    · rw [List.mem_singleton] at mx
      subst mx; decide
  have w3 : MW gM3 := ⟨w3b, by decide, by decide, (fun _ m => nomatch m)⟩
  have w4 : MW gM4 := by
    have h := (madd_ok (o := wq gA 6) (M := (mremove 1 1 gM2).2.2) (mremove_MW w2)).1
    have e : madd (wq gA 6) (mremove 1 1 gM2).2.2 = ([⟨wq gA 6, [], 6, true, false, false, 0⟩], gM4) := (madd_eqF 16 _ _ (by decide) (by intro x h; have : x ∈ ([] : List Ord) := h; cases this)).trans (by kernel_rfl)
    rw [e] at h; exact h
  have e3 : hits [⟨gC, [⟨wq gA 3, gC, 10, 3, 1⟩, ⟨gB, wq gC 1, 10, 1, 2⟩], 0, false, false, false, 0⟩] = [(depT 1, 3), (depT 2, 1)] := rfl
  have e6 : hits [⟨gC, [⟨gB, gC, 10, 4, 1⟩], 0, false, false, false, 0⟩] = [(depT 2, 4)] := rfl
  have s3 := fun F => sp_gives F 3 (inI rfl) gM3 _ g3e w3 (by decide) _ g5e (by decide) (by decide)
  have s6 := fun F => sp_gives F 6 (inI rfl) gM4 _ g4e w4 (by decide) _ g6e (by decide) (by decide)
  rw [e3] at s3
  rw [e6] at s6
  have hgd : true = true := rfl
  refine sp_of_code Tryz.func19 rfl rfl ?_
  (refine run_seq ?_; refine run_region ?_; refine xep rfl rfl ?_; refine runL_nil ?_; refine then_normal ?_; refine run_seq ?_; refine run_region ?_)
  refine runL_call0 rfl rfl rfl rfl rfl rfl rfl (pf rfl) (s3 _) ?_
  rintro v A1 own1
  obtain ⟨a1, c1, rfl, own1⟩ := own1.at
  (refine xel rfl (ev_build rfl pl35 rfl) ?_; refine xel rfl (ev_build rfl pl84 rfl) ?_; refine xel rfl (ev_build rfl pl35 rfl) ?_; refine xel rfl (ev_build rfl pl84 rfl) ?_)
  refine runL_buildSlice (l := rows hcell [(depT 1, 3), (depT 2, 1)]) rfl rfl rfl rfl rfl (se rfl) ze84 rfl rfl rfl rfl rfl (fun b6 => ?_)
  skip
  refine runL_ev rfl rfl rfl rfl (ev_callQ rfl rfl rfl (pf rfl) (sp_sameHit _ a1 (some ⟨b6, 0, none⟩) 2 c1 2 [(depT 1, 3), (depT 2, 1)] rfl (by decide) (own1.src fun x mx => by simp [mx]) ⟨rfl, .inr ⟨b6, 0, _, _, _, rfl, memF (.head _), by simp [rows, hcell], rfl⟩⟩)) ?_
  (refine xep rfl rfl ?_; refine runL_yes rfl rfl hgd ?_)
  refine runL_callZ (blk b6 (rows hcell [(depT 1, 3), (depT 2, 1)]) 84 :: A1) [] rfl rfl rfl rfl rfl rfl rfl (pf rfl) (fun x => by (first | rfl | (simp only [List.append_eq, cnt_append, cnt_cons, cnt_nil, blk]; omega) | (simp only [List.append_eq, cnt_append, cnt_cons, cnt_nil, blk]; done))) (s6 _) ?_
  rintro v A2 own2
  obtain ⟨a2, c2, rfl, own2⟩ := own2.at
  (refine runL_yes rfl rfl hgd ?_; refine xel rfl (ev_build rfl pl35 rfl) ?_; refine runL_yes rfl rfl hgd ?_; refine xel rfl (ev_build rfl pl84 rfl) ?_; refine runL_yes rfl rfl hgd ?_)
  refine runL_buildSlice (l := rows hcell [(depT 2, 4)]) rfl rfl rfl rfl rfl (se rfl) ze84 rfl rfl rfl rfl rfl (fun b7 => ?_)
  (refine runL_yes rfl rfl hgd ?_)
  refine runL_ev rfl rfl rfl rfl (ev_callQ rfl rfl rfl (pf rfl) (sp_sameHit _ a2 (some ⟨b7, 0, none⟩) 1 c2 1 [(depT 2, 4)] rfl (by decide) (own2.src fun x mx => by simp [mx]) ⟨rfl, .inr ⟨b7, 0, _, _, _, rfl, memF (.head _), by simp [rows, hcell], rfl⟩⟩)) ?_
  ((iterate 2 refine xep rfl rfl ?_); refine runL_nil ?_; refine then_normal ?_; refine run_ret ?_)
  exact ⟨_, rfl, rfl⟩
end Go.Proofs.YtmelpobcpcmdoaaGreat
