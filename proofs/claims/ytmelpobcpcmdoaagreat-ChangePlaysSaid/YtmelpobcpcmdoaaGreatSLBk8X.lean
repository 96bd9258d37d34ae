/- Contracts of functions of the given program over its translation, each proved by walking its text; used by the laws' rows. It proves no given statement by itself. -/
import Derived.Test.YtmelpobcpcmdoaaGreatSLBk3X
import Derived.Test.YtmelpobcpcmdoaaGreatSLLvl3X
import Derived.Test.YtmelpobcpcmdoaaGreatSLOrdBX
import Derived.Test.YtmelpobcpcmdoaaGreatSLRLvlX
set_option autoImplicit false
set_option linter.unusedSectionVars false
set_option linter.unusedSimpArgs false
set_option linter.unusedVariables false
set_option maxRecDepth 4000
set_option maxHeartbeats 16000000
namespace Go.Proofs.YtmelpobcpcmdoaaGreat
open Go Go.SL Go.Proofs
def bless (t i q : Int) (B : Bk) : Bool × Bk := match findB t i B with
  | none => (false, B)
  | some (s, k, _) => match (B.side s)[k]? with
    | none => (false, B)
    | some lv => ((lless t i q lv.es).1, B.put s ((B.side s).set k ⟨lv.p, (lless t i q lv.es).2⟩))
variable [Base]
theorem sp_bles1 (F H : Heap) (b : Nat) (B : Bk) (hH : BkH b B H) (hw : BW B) (t i q : Int) (k : Nat) (o : Ord) (hf : findB t i B = some (1, k, o)) :
    Sp Tryz.prog F 40 [.pointer (some ⟨b, 0, none⟩), .int .i64 t, .int .i64 i, .int .i64 q] H (fun v h' => v = .bool (bless t i q B).1 ∧ BkH b (bless t i q B).2 h') := by
  obtain ⟨lv, hlv, -⟩ := findB_get hf
  have hbr : bless t i q B = ((lless t i q lv.es).1, B.put 1 ((B.side 1).set k ⟨lv.p, (lless t i q lv.es).2⟩)) := by
    unfold bless; rw [hf]; simp only [hlv]
  rw [hbr]
  have hlok := (hw.side 1).1 lv (List.mem_of_getElem? hlv)
  have hlb := hlok.1.1
  have hls := lenL_ge (hw.side 1).1
  have h64 := (hw.side 1).2
  have cf : ∀ G, BkIn G b B → Sp Tryz.prog G 65 [.pointer (some ⟨b, 0, none⟩), .int .i64 t, .int .i64 i] [] (Ret (.tuple #[.pointer (some ⟨b, 0, none⟩), .int .i64 k, ov o])) := by
    intro G hG
    have := sp_bfind G b B hG hw t i
    rw [hf] at this; exact this
  refine Sp.up ?_
  refine sp_of_code Tryz.func40 rfl rfl ?_
  (refine run_seq ?_; refine run_region ?_; refine xep rfl rfl ?_; refine runL_nil ?_; refine then_normal ?_; refine run_seq ?_; refine run_region ?_; (iterate 3 refine xep rfl rfl ?_))
  refine runL_ev rfl rfl rfl rfl (ev_callQ rfl rfl rfl (pf rfl) (cf _ (hH.in fun x m => List.mem_append_left _ m))) ?_
  have y1 : (!Option.isNone (some (⟨b, 0, none⟩ : Addr))) = true := rfl
  obtain ⟨v, w, H0, H1, h0, h1, rfl⟩ := hH
  have h0 : SdH v (B.side 1) H0 := h0
  obtain ⟨ba, c, cap, bi, G1, G2, rfl, hcap, g1, hG1, hp, hset⟩ := h0.open (k := k) (lv := lv) hlv
  have hlt := (List.getElem?_eq_some_iff.1 hlv).1
  refine RunL.perm (h' := blk b [.slice (some ⟨ba, 0, none⟩) (B.side 1).length cap,w, .int .i64 B.last, .int .i64 B.no] 90 :: blk ba c 110 :: (G1 ++ (G2 ++ H1))) (fun x => by
    have h1 := hp x
    simp only [List.append_eq, cnt_append, cnt_cons, cnt_nil, blk] at h1 ⊢
    omega) ?_
  ((iterate 4 refine xep rfl rfl ?_); refine runL_alloc rfl rfl rfl rfl rfl ze35 (fun _ => ?_); (iterate 2 refine xep rfl rfl ?_); refine runL_store0 rfl rfl rfl rfl rfl (sz rfl) rfl rfl rfl rfl rfl ?_; refine runL_nil ?_; refine then_normal ?_; refine run_seq ?_; refine run_region ?_; refine xep rfl rfl ?_; refine xel rfl (ev_neqNil rfl rfl rfl (pt rfl)) ?_; refine xep rfl rfl ?_; refine runL_yes rfl rfl y1 ?_; refine xep rfl rfl ?_; refine runL_yes rfl rfl y1 ?_; refine xep rfl rfl ?_; refine runL_yes rfl rfl y1 ?_; refine xel rfl (ev_loadK rfl rfl (sc rfl) (memF (.tail _ (.head _))) rfl) ?_; refine runL_yes rfl rfl y1 ?_; refine xep rfl rfl ?_; refine runL_yes rfl rfl y1 ?_; refine xel rfl (ev_indexAddr rfl rfl rfl (se rfl) (by omega) (by omega)) ?_; refine runL_yes rfl rfl y1 ?_; refine xel rfl (ev_load rfl rfl (sc rfl) (memF (.tail _ (.tail _ (.head _)))) g1) ?_; refine runL_yes rfl rfl y1 ?_; refine xep rfl rfl ?_; refine runL_yes rfl rfl y1 ?_; refine xep rfl rfl ?_; refine runL_yes rfl rfl y1 ?_; refine xep rfl rfl ?_; refine runL_yes rfl rfl y1 ?_)
  rename_i b11
  refine runL_callZ (blk b11 o.cells 35 :: blk b [.slice (some ⟨ba, 0, none⟩) (B.side 1).length cap,w, .int .i64 B.last, .int .i64 B.no] 90 :: blk ba c 110 :: (G2 ++ H1)) G1 rfl rfl rfl rfl rfl rfl rfl (pf rfl) (fun x => by
    show cnt x (blk b11 o.cells 35 :: blk b [.slice (some ⟨ba, 0, none⟩) (B.side 1).length cap,w, .int .i64 B.last, .int .i64 B.no] 90 :: blk ba c 110 :: (G1 ++ (G2 ++ H1))) = _
    (first | rfl | (simp only [List.append_eq, cnt_append, cnt_cons, cnt_nil, blk]; omega) | (simp only [List.append_eq, cnt_append, cnt_cons, cnt_nil, blk]; done))) (sp_lless _ G1 bi lv.p lv.es hG1 hlb t i q) ?_
  rintro v G1' ⟨rfl, hG1'⟩
  obtain ⟨H0', hS', hp'⟩ := hset lv.p (lless t i q lv.es).2 G1' hG1'
  generalize lless t i q lv.es = T at *
  obtain ⟨is, es2⟩ := T
  dsimp only at *
  ((iterate 2 refine xep rfl rfl ?_); refine runL_nil ?_; refine then_normal ?_; refine run_ret ?_)
  refine ⟨_, rfl, blk b [.slice (some ⟨ba, 0, none⟩) (B.side 1).length cap,w, .int .i64 B.last, .int .i64 B.no] 90 :: (H0' ++ H1), [blk b11 o.cells 35], ⟨rfl, ?_⟩, fun x => by
    have h1 := hp' x
    simp only [List.append_eq, cnt_append, cnt_cons, cnt_nil, blk, Ord.cells] at h1 ⊢
    omega⟩
  exact ⟨_, w, H0', H1, hS', h1, rfl⟩
theorem sp_bles2 (F H : Heap) (b : Nat) (B : Bk) (hH : BkH b B H) (hw : BW B) (t i q : Int) (k : Nat) (o : Ord) (hf : findB t i B = some (2, k, o)) :
    Sp Tryz.prog F 40 [.pointer (some ⟨b, 0, none⟩), .int .i64 t, .int .i64 i, .int .i64 q] H (fun v h' => v = .bool (bless t i q B).1 ∧ BkH b (bless t i q B).2 h') := by
  obtain ⟨lv, hlv, -⟩ := findB_get hf
  have hbr : bless t i q B = ((lless t i q lv.es).1, B.put 2 ((B.side 2).set k ⟨lv.p, (lless t i q lv.es).2⟩)) := by
    unfold bless; rw [hf]; simp only [hlv]
  rw [hbr]
  have hlok := (hw.side 2).1 lv (List.mem_of_getElem? hlv)
  have hlb := hlok.1.1
  have hls := lenL_ge (hw.side 2).1
  have h64 := (hw.side 2).2
  have cf : ∀ G, BkIn G b B → Sp Tryz.prog G 65 [.pointer (some ⟨b, 0, none⟩), .int .i64 t, .int .i64 i] [] (Ret (.tuple #[.pointer (some ⟨b, 1, none⟩), .int .i64 k, ov o])) := by
    intro G hG
    have := sp_bfind G b B hG hw t i
    rw [hf] at this; exact this
  refine Sp.up ?_
  refine sp_of_code Tryz.func40 rfl rfl ?_
  (refine run_seq ?_; refine run_region ?_; refine xep rfl rfl ?_; refine runL_nil ?_; refine then_normal ?_; refine run_seq ?_; refine run_region ?_; (iterate 3 refine xep rfl rfl ?_))
  refine runL_ev rfl rfl rfl rfl (ev_callQ rfl rfl rfl (pf rfl) (cf _ (hH.in fun x m => List.mem_append_left _ m))) ?_
  have y1 : (!Option.isNone (some (⟨b, 1, none⟩ : Addr))) = true := rfl
  obtain ⟨w, v, H1, H0, h1, h0, rfl⟩ := hH
  have h0 : SdH v (B.side 2) H0 := h0
  obtain ⟨ba, c, cap, bi, G1, G2, rfl, hcap, g1, hG1, hp, hset⟩ := h0.open (k := k) (lv := lv) hlv
  have hlt := (List.getElem?_eq_some_iff.1 hlv).1
  refine RunL.perm (h' := blk b [w,.slice (some ⟨ba, 0, none⟩) (B.side 2).length cap, .int .i64 B.last, .int .i64 B.no] 90 :: blk ba c 110 :: (G1 ++ (G2 ++ H1))) (fun x => by
    have h1 := hp x
    simp only [List.append_eq, cnt_append, cnt_cons, cnt_nil, blk] at h1 ⊢
    omega) ?_
  ((iterate 4 refine xep rfl rfl ?_); refine runL_alloc rfl rfl rfl rfl rfl ze35 (fun _ => ?_); (iterate 2 refine xep rfl rfl ?_); refine runL_store0 rfl rfl rfl rfl rfl (sz rfl) rfl rfl rfl rfl rfl ?_; refine runL_nil ?_; refine then_normal ?_; refine run_seq ?_; refine run_region ?_; refine xep rfl rfl ?_; refine xel rfl (ev_neqNil rfl rfl rfl (pt rfl)) ?_; refine xep rfl rfl ?_; refine runL_yes rfl rfl y1 ?_; refine xep rfl rfl ?_; refine runL_yes rfl rfl y1 ?_; refine xep rfl rfl ?_; refine runL_yes rfl rfl y1 ?_; refine xel rfl (ev_loadK rfl rfl (sc rfl) (memF (.tail _ (.head _))) rfl) ?_; refine runL_yes rfl rfl y1 ?_; refine xep rfl rfl ?_; refine runL_yes rfl rfl y1 ?_; refine xel rfl (ev_indexAddr rfl rfl rfl (se rfl) (by omega) (by omega)) ?_; refine runL_yes rfl rfl y1 ?_; refine xel rfl (ev_load rfl rfl (sc rfl) (memF (.tail _ (.tail _ (.head _)))) g1) ?_; refine runL_yes rfl rfl y1 ?_; refine xep rfl rfl ?_; refine runL_yes rfl rfl y1 ?_; refine xep rfl rfl ?_; refine runL_yes rfl rfl y1 ?_; refine xep rfl rfl ?_; refine runL_yes rfl rfl y1 ?_)
  rename_i b11
  refine runL_callZ (blk b11 o.cells 35 :: blk b [w,.slice (some ⟨ba, 0, none⟩) (B.side 2).length cap, .int .i64 B.last, .int .i64 B.no] 90 :: blk ba c 110 :: (G2 ++ H1)) G1 rfl rfl rfl rfl rfl rfl rfl (pf rfl) (fun x => by
    show cnt x (blk b11 o.cells 35 :: blk b [w,.slice (some ⟨ba, 0, none⟩) (B.side 2).length cap, .int .i64 B.last, .int .i64 B.no] 90 :: blk ba c 110 :: (G1 ++ (G2 ++ H1))) = _
    (first | rfl | (simp only [List.append_eq, cnt_append, cnt_cons, cnt_nil, blk]; omega) | (simp only [List.append_eq, cnt_append, cnt_cons, cnt_nil, blk]; done))) (sp_lless _ G1 bi lv.p lv.es hG1 hlb t i q) ?_
  rintro v G1' ⟨rfl, hG1'⟩
  obtain ⟨H0', hS', hp'⟩ := hset lv.p (lless t i q lv.es).2 G1' hG1'
  generalize lless t i q lv.es = T at *
  obtain ⟨is, es2⟩ := T
  dsimp only at *
  ((iterate 2 refine xep rfl rfl ?_); refine runL_nil ?_; refine then_normal ?_; refine run_ret ?_)
  refine ⟨_, rfl, blk b [w,.slice (some ⟨ba, 0, none⟩) (B.side 2).length cap, .int .i64 B.last, .int .i64 B.no] 90 :: (H1 ++ H0'), [blk b11 o.cells 35], ⟨rfl, ?_⟩, fun x => by
    have h1 := hp' x
    simp only [List.append_eq, cnt_append, cnt_cons, cnt_nil, blk, Ord.cells] at h1 ⊢
    omega⟩
  exact ⟨w, _, H1, H0', h1, hS', rfl⟩
theorem sp_bless (F H : Heap) (b : Nat) (B : Bk) (hH : BkH b B H) (hw : BW B) (t i q : Int) :
    Sp Tryz.prog F 40 [.pointer (some ⟨b, 0, none⟩), .int .i64 t, .int .i64 i, .int .i64 q] H (fun v h' => v = .bool (bless t i q B).1 ∧ BkH b (bless t i q B).2 h') := by
  cases hf : findB t i B with
  | some r =>
    obtain ⟨s, k, o⟩ := r
    rcases findB_side hf with rfl | rfl
    · exact sp_bles1 F H b B hH hw t i q k o hf
    · exact sp_bles2 F H b B hH hw t i q k o hf
  | none =>
    have hbr : bless t i q B = (false, B) := by unfold bless; rw [hf]
    rw [hbr]
    have cf : ∀ G, BkIn G b B → Sp Tryz.prog G 65 [.pointer (some ⟨b, 0, none⟩), .int .i64 t, .int .i64 i] [] (Ret (.tuple #[.pointer none, .int .i64 0, ov o0])) := by
      intro G hG
      have := sp_bfind G b B hG hw t i
      rw [hf] at this; exact this
    have hge : (!Option.isNone (none : Option Addr)) = false := rfl
    refine Sp.up ?_
    refine sp_of_code Tryz.func40 rfl rfl ?_
    (refine run_seq ?_; refine run_region ?_; refine xep rfl rfl ?_; refine runL_nil ?_; refine then_normal ?_; refine run_seq ?_; refine run_region ?_; (iterate 3 refine xep rfl rfl ?_))
    refine runL_ev rfl rfl rfl rfl (ev_callQ rfl rfl rfl (pf rfl) (cf _ (hH.in fun x m => List.mem_append_left _ m))) ?_
    ((iterate 4 refine xep rfl rfl ?_); refine runL_alloc rfl rfl rfl rfl rfl ze35 (fun _ => ?_); (iterate 2 refine xep rfl rfl ?_); refine runL_store0 rfl rfl rfl rfl rfl (sz rfl) rfl rfl rfl rfl rfl ?_; refine runL_nil ?_; refine then_normal ?_; refine run_seq ?_; refine run_region ?_; refine xep rfl rfl ?_; refine xel rfl (ev_neqNil rfl rfl rfl (pt rfl)) ?_; refine xep rfl rfl ?_; (iterate 10 refine runL_no rfl rfl rfl rfl hge rfl rfl ?_); refine xel rfl (ev_pickF rfl rfl hge rfl) ?_; refine xep rfl rfl ?_; refine runL_nil ?_; refine then_normal ?_; refine run_ret ?_)
    rename_i b11
    exact ⟨_, rfl, H, [blk b11 o0.cells 35], ⟨rfl, hH⟩, fun x => by simp only [List.append_eq, cnt_append, cnt_cons, cnt_nil, blk, Ord.cells, o0]; omega⟩
end Go.Proofs.YtmelpobcpcmdoaaGreat

set_option autoImplicit false
set_option linter.unusedSectionVars false
set_option linter.unusedSimpArgs false
set_option linter.unusedVariables false
namespace Go.Proofs.YtmelpobcpcmdoaaGreat
open Go Go.SL Go.Proofs
variable [Base]
theorem sp_hit (F : Heap) (o : Ord) (p : Int) : Sp Tryz.prog F 23 [ov o, .int .i64 p] [] (Ret (.bool (hit o p))) := by
  refine sp_of_code Tryz.func23 rfl rfl ?_
  (refine run_seq ?_; refine run_region ?_; refine runL_box rfl rfl rfl rfl rfl rfl (fun _ => ?_); refine xep rfl rfl ?_; refine runL_nil ?_; refine then_normal ?_; (iterate 2 refine run_seq ?_); refine run_region ?_; refine xel rfl (ev_fieldAddr rfl rfl (fo rfl)) ?_; refine xel rfl (ev_loadK rfl rfl (sc rfl) (memF (.head _)) rfl) ?_; (iterate 2 refine xep rfl rfl ?_); (iterate 2 refine xgp rfl rfl rfl ?_); refine xep rfl rfl ?_; refine runL_nil ?_; refine then_normal ?_)
  (refine run_cond rfl (fun hc => ?_) (fun hc => ?_) <;> (try simp only [z0, z1, z2, z3, z4, z5, z6, z7, z8, z9, Bool.not_true, Bool.not_false, Bool.false_or, Bool.true_and, true_and, and_true, false_or, or_false, reduceCtorEq, Bool.false_eq_true] at hc))
  · (refine run_seq ?_; refine run_region ?_; refine xep rfl rfl ?_; refine runL_nil ?_; refine then_normal ?_; refine run_ret ?_; refine then_ret ?_)
    exact ⟨_, rfl, by unfold hit; rw [if_pos hc]; rfl⟩
  · have hc1 : ¬ (o.stop ≤ 0 ∨ p ≤ 0) := by omega
    (refine run_skip ?_; refine then_normal ?_; (iterate 2 refine run_seq ?_); refine run_region ?_; refine xel rfl (ev_fieldAddr rfl rfl (fo rfl)) ?_; refine xel rfl (ev_loadK rfl rfl (sc rfl) (memF (.head _)) rfl) ?_; refine xep rfl rfl ?_; refine runL_nil ?_; refine then_normal ?_)
    (refine run_cond rfl (fun hc => ?_) (fun hc => ?_) <;> (try simp only [z0, z1, z2, z3, z4, z5, z6, z7, z8, z9, Bool.not_true, Bool.not_false, Bool.false_or, Bool.true_and, true_and, and_true, false_or, or_false, reduceCtorEq, Bool.false_eq_true] at hc))
    · (refine run_seq ?_; refine run_region ?_; refine xep rfl rfl ?_; refine xel rfl (ev_fieldAddr rfl rfl (fo rfl)) ?_; refine xel rfl (ev_loadK rfl rfl (sc rfl) (memF (.head _)) rfl) ?_; (iterate 2 refine xep rfl rfl ?_); refine runL_nil ?_; refine then_normal ?_; refine run_ret ?_; refine then_ret ?_)
      exact ⟨_, rfl, by unfold hit; rw [if_neg hc1, if_pos hc]; rfl⟩
    · (refine run_skip ?_; refine then_normal ?_; refine run_seq ?_; refine run_region ?_; refine xep rfl rfl ?_; refine xel rfl (ev_fieldAddr rfl rfl (fo rfl)) ?_; refine xel rfl (ev_loadK rfl rfl (sc rfl) (memF (.head _)) rfl) ?_; (iterate 2 refine xep rfl rfl ?_); refine runL_nil ?_; refine then_normal ?_; refine run_ret ?_)
      exact ⟨_, rfl, by unfold hit; rw [if_neg hc1, if_neg hc]; rfl⟩
end Go.Proofs.YtmelpobcpcmdoaaGreat

set_option autoImplicit false
set_option linter.unusedSectionVars false
set_option linter.unusedSimpArgs false
set_option linter.unusedVariables false
set_option maxRecDepth 4000
set_option maxHeartbeats 8000000
namespace Go.Proofs.YtmelpobcpcmdoaaGreat
open Go Go.SL Go.Proofs
variable [Base]
theorem sp_radd (F : Heap) (H : Heap) (b : Nat) (p : Int) (es : List Ent) (hH : RvH b p es H) (hb : es.length ≤ 65535) (o : Ord) :
    Sp Tryz.prog F 82 [.pointer (some ⟨b, 0, none⟩), ov o] H (fun v h' => RvH b p (es ++ [Ent.mk o (tip o)]) h') := by
  obtain ⟨a, cap, A, own, rfl⟩ := hH
  have q1 := fun F => sp_rtip F o
  refine Sp.up ?_
  refine sp_of_code Tryz.func82 rfl rfl ?_
  (refine run_seq ?_; refine run_region ?_; refine runL_box rfl rfl rfl rfl rfl rfl (fun _ => ?_); refine runL_nil ?_; refine then_normal ?_)
  rename_i b3
  have src := own.src (H := (blk b3 o.cells 35 :: blk b [.int .i64 p, .slice a es.length cap] 100 :: A) ++ F) fun x m => by simp [m]
  refine RunC.perm (h' := [] ++ (blk b3 o.cells 35 :: blk b [.int .i64 p, .slice a es.length cap] 100 :: A)) (fun x => rfl) ?_
  refine run_region_D3 (σ := Option Addr × Nat × Heap × Heap) 13 3 [0] (fun s => [(16, .slice s.1 (es ++ [Ent.mk o (tip o)]).length s.2.1), (4, .pointer (some ⟨b, 0, none⟩))]) (fun s => s.2.2.1 ++ s.2.2.2) (fun s => OwnS 102 10 (.slice s.1 (es ++ [Ent.mk o (tip o)]).length s.2.1) (es ++ [Ent.mk o (tip o)]).length (rows ec (es ++ [Ent.mk o (tip o)])) s.2.2.1) mo rfl (by kernel_rfl) rfl ?_ ?_
  · (refine runD_q 0 rfl rfl (by kernel_rfl) ?_; refine ⟨_, fun _ => ev_pure rfl, ?_⟩; refine runD_q 2 rfl rfl (by kernel_rfl) ?_; refine ⟨_, fun _ => ev_pure rfl, ?_⟩; refine runD_q 3 rfl rfl (by kernel_rfl) ?_; refine ⟨_, fun _ => ev_pure rfl, ?_⟩; refine runD_q 4 rfl rfl (by kernel_rfl) ?_; refine ⟨_, fun _ => ev_fieldAddr rfl rfl (fo rfl), ?_⟩; refine runD_q 5 rfl rfl (by kernel_rfl) ?_; refine ⟨_, fun _ => ev_loadK rfl rfl (sc rfl) (memR (memF (.tail _ (.head _)))) rfl, ?_⟩; refine runD_q 7 rfl rfl (by kernel_rfl) ?_; refine ⟨_, fun _ => ev_loadAK rfl rfl (ag rfl) (sz rfl) (memR (memF (.head _))) rfl, ?_⟩; refine runD_q 8 rfl rfl (by kernel_rfl) ?_; refine ⟨_, fun _ => ev_loadAK rfl rfl (ag rfl) (sz rfl) (memR (memF (.head _))) rfl, ?_⟩; refine runD_1 1 (by kernel_rfl) rfl rfl rfl ?_)
    refine runL_buildSlice (n := 10) (l := []) rfl rfl rfl rfl rfl (se rfl) ze102 rfl rfl rfl rfl rfl (fun b5 => ?_)
    (refine runL_nil ?_; refine endS_d rfl ?_; refine runD_1 6 (by kernel_rfl) rfl rfl rfl ?_)
    refine runL_append (sl := rows ec es) [] rfl rfl rfl rfl rfl rfl rfl (se rfl) (se rfl) ze102 rfl (byt rfl) (OwnS.lit (l := []) rfl) (fun y => by (first | rfl | (simp only [List.append_eq, cnt_append, cnt_cons, cnt_nil, blk]; omega) | (simp only [List.append_eq, cnt_append, cnt_cons, cnt_nil, blk]; done))) (src.mono fun x m => List.mem_append_right _ m) (rows_cells ec_cells _) (by decide) (by decide) (by omega) ?_
    rintro v' A' own'
    rw [List.nil_append, Nat.zero_add] at own'
    obtain ⟨a6, c6, rfl, own6⟩ := own'.at
    (refine runL_nil ?_; refine endS_d rfl ?_; refine runD_q 9 rfl rfl (by kernel_rfl) ?_; refine ⟨_, fun _ => ev_callQ rfl rfl rfl (pf rfl) (q1 ..), ?_⟩; refine runD_q 10 rfl rfl (by kernel_rfl) ?_; refine ⟨_, fun _ => ev_build rfl pl102 rfl, ?_⟩; refine runD_1 11 (by kernel_rfl) rfl rfl rfl ?_)
    refine runL_buildSlice (l := ec ⟨o, tip o⟩) rfl rfl rfl rfl rfl (se rfl) ze102 rfl rfl rfl rfl rfl (fun b15 => ?_)
    (refine runL_nil ?_; refine endS_d rfl ?_; refine runD_1 12 (by kernel_rfl) rfl rfl rfl ?_)
    refine runL_append (sl := ec ⟨o, tip o⟩) [blk b15 (ec ⟨o, tip o⟩) 102] rfl rfl rfl rfl rfl rfl rfl (se rfl) (se rfl) ze102 rfl (byt rfl) own6 (fun y => by (first | rfl | (simp only [List.append_eq, cnt_append, cnt_cons, cnt_nil, blk]; omega) | (simp only [List.append_eq, cnt_append, cnt_cons, cnt_nil, blk]; done))) ⟨rfl, .inr ⟨b15, 0, _, _, _, rfl, memF (.head _), by simp [ec], rfl⟩⟩ rfl (by decide) (by decide) (by omega) ?_
    rintro v' A'' own''
    obtain ⟨a7, c7, rfl, own7⟩ := (own''.snoc (f := ec) (x := Ent.mk o (tip o)) rfl).at
    (refine runL_nil ?_; refine endS_d rfl ?_; refine runD_done (by kernel_rfl) ?_)
    exact midX (a7, c7, A'', [blk b15 (ec ⟨o, tip o⟩) 102]) own7 rfl (fun y => by (first | rfl | (simp only [List.append_eq, cnt_append, cnt_cons, cnt_nil, blk]; omega) | (simp only [List.append_eq, cnt_append, cnt_cons, cnt_nil, blk]; done)))
  · rintro ⟨a7, c7, A7, G⟩ own7
    dsimp only at own7 ⊢
    generalize es ++ [Ent.mk o (tip o)] = es2 at *
    refine RunD.same (M' := blk b [.int .i64 p, .slice a es.length cap] 100 :: (blk b3 o.cells 35 :: (A ++ (A7 ++ G)))) (fun _ _ h => h) (fun x => by (first | rfl | (simp only [List.append_eq, cnt_append, cnt_cons, cnt_nil, blk]; omega) | (simp only [List.append_eq, cnt_append, cnt_cons, cnt_nil, blk]; done))) ?_
    (refine runD_q 13 rfl rfl (by kernel_rfl) ?_; refine ⟨_, fun _ => ev_pure rfl, ?_⟩; refine runD_q 14 rfl rfl (by kernel_rfl) ?_; refine ⟨_, fun _ => ev_fieldAddr rfl rfl (fo rfl), ?_⟩; refine runD_1 15 (by kernel_rfl) rfl rfl rfl ?_; refine runL_store0 rfl rfl rfl rfl rfl (sz rfl) rfl rfl rfl rfl rfl ?_; refine runL_nil ?_; refine endS_n rfl ?_; refine runD_done (by kernel_rfl) ?_)
    exact ⟨_, rfl, _, blk b3 o.cells 35 :: (A ++ G), ⟨a7, c7, A7, own7, rfl⟩, fun y => by (first | rfl | (simp only [List.append_eq, cnt_append, cnt_cons, cnt_nil, blk]; omega) | (simp only [List.append_eq, cnt_append, cnt_cons, cnt_nil, blk]; done))⟩
end Go.Proofs.YtmelpobcpcmdoaaGreat

set_option autoImplicit false
set_option linter.unusedSectionVars false
set_option linter.unusedSimpArgs false
set_option linter.unusedVariables false
set_option maxRecDepth 4000
set_option maxHeartbeats 8000000
namespace Go.Proofs.YtmelpobcpcmdoaaGreat
open Go Go.SL Go.Proofs
variable [Base]
theorem rows_put {α : Type} {f : α → List Value} {n : Nat} (hf : ∀ x, (f x).length = n) {l : List α} {i : Nat} {x y : α} (h : l[i]? = some x) (rest : List Value) :
    (rows f l ++ rest).take (i * n) ++ f y ++ (rows f l ++ rest).drop (i * n + n) = rows f (l.set i y) ++ rest := by
  have hi := (List.getElem?_eq_some_iff.1 h).1
  have e : l.set i y = l.take i ++ y :: l.drop (i + 1) := by rw [List.set_eq_take_append_cons_drop, if_pos hi]
  have hl : (rows f l).length = l.length * n := rows_len hf l
  have h1 : i * n + n ≤ l.length * n := by
    have := Nat.mul_le_mul_right n (show i + 1 ≤ l.length by omega)
    rw [Nat.add_mul, Nat.one_mul] at this; exact this
  rw [List.take_append_of_le_length (by omega), List.drop_append_of_le_length (by omega), rows_take hf l (by omega), show i * n + n = (i + 1) * n by rw [Nat.add_mul, Nat.one_mul], rows_drop hf l (by omega), e, rows_append, List.append_assoc, List.append_assoc, show rows f (y :: l.drop (i + 1)) = f y ++ rows f (l.drop (i + 1)) from rfl, List.append_assoc]
theorem sp_rremove (F : Heap) (H : Heap) (b : Nat) (p : Int) (es : List Ent) (hH : RvH b p es H) (hb : es.length ≤ 65536) (t i : Int) :
    Sp Tryz.prog F 87 [.pointer (some ⟨b, 0, none⟩), .int .i64 t, .int .i64 i] H (fun v h' => v = .tuple #[ov (lrem t i es).1, .bool (lrem t i es).2.1] ∧ RvH b p (lrem t i es).2.2 h') := by
  obtain ⟨a, cap, A, own, rfl⟩ := hH
  have hck : es.length ≤ cap := by
    obtain ⟨_, _, hv, h2⟩ := own.form
    cases hv; exact h2
  refine Sp.up ?_
  refine sp_of_codeR Tryz.func87 rfl rfl ?_
  (refine run_seq ?_; refine run_region ?_; refine runL_alloc rfl rfl rfl rfl rfl ze35 (fun _ => ?_); refine xep rfl rfl ?_; refine runL_nil ?_; refine then_normal ?_; (iterate 2 refine run_seq ?_); refine run_region ?_; (iterate 2 refine xep rfl rfl ?_); refine xel rfl (ev_fieldAddr rfl rfl (fo rfl)) ?_; refine xel rfl (ev_loadK rfl rfl (sc rfl) (memF (.tail _ (.head _))) rfl) ?_; refine xel rfl (ev_len rfl rfl (se rfl)) ?_; refine xep rfl rfl ?_; refine runL_nil ?_; refine then_normal ?_; refine run_block ?_)
  rename_i b6
  refine run_loopK (σ := Nat) [0, 1, 2, 6, 13, 14, 15] (fun k => [(0, .pointer (some ⟨b, 0, none⟩)), (1, .int .i64 t), (2, .int .i64 i), (6, .pointer (some ⟨b6, 0, none⟩)), (13, .slice a es.length cap), (14, .int .i64 es.length), (15, .int .i64 k)])
    (fun _ => blk b6 o0.cells 35 :: blk b [.int .i64 p, .slice a es.length cap] 100 :: A) (fun k => k ≤ es.length ∧ ∀ j y, j < k → es[j]? = some y → isIt t i y = false) (fun k => es.length - k) 0 ⟨Nat.zero_le _, fun j y h => absurd h (Nat.not_lt_zero _)⟩ rfl (fun _ => rfl) ?_
  rintro k ⟨g1, g2⟩
  (refine run_seq ?_; refine run_region ?_; refine xep rfl rfl ?_; refine runL_nil ?_; refine then_normal ?_; refine run_seq ?_)
  (refine run_cond rfl (fun hc => ?_) (fun hc => ?_) <;> (try simp only [z0, z1, z2, z3, z4, z5, z6, z7, z8, z9, Bool.not_true, Bool.not_false, Bool.false_or, Bool.true_and, true_and, and_true, false_or, or_false, reduceCtorEq, Bool.false_eq_true] at hc))
  · obtain ⟨x, hx⟩ : ∃ x, es[k]? = some x := ⟨es[k]'(by omega), List.getElem?_eq_getElem _⟩
    obtain ⟨b2, rest, cap', hv, rfl, hl2, hr2, hk2⟩ := own.pos (by omega)
    cases hv
    have r1 : RowAt (rows ec es ++ rest) (0 + (k : Int).toNat * 10) (ec x) := by
      rw [Nat.zero_add]; exact rows_at ec_len hx rest
    (refine run_skip ?_; refine then_normal ?_; refine run_seq ?_; refine run_block ?_; refine run_seq ?_; refine run_region ?_; refine xep rfl rfl ?_; refine xel rfl (ev_indexAddr rfl rfl rfl (se rfl) (by omega) (by omega)) ?_; refine xel rfl (ev_loadAR rfl rfl (ag rfl) (sz rfl) (memF (.tail _ (.tail _ (.head _)))) r1 rfl) ?_; refine runL_alloc rfl rfl rfl rfl rfl ze84 (fun _ => ?_); refine xep rfl rfl ?_; refine runL_store0 rfl rfl rfl rfl rfl (sz rfl) rfl rfl rfl rfl rfl ?_; refine runL_nil ?_; refine then_normal ?_; refine run_seq ?_; refine run_region ?_; (iterate 2 refine xel rfl (ev_fieldAddr rfl rfl (fo rfl)) ?_); refine xel rfl (ev_loadK rfl rfl (sc rfl) (memF (.head _)) rfl) ?_; (iterate 3 refine xep rfl rfl ?_); (iterate 2 refine xgl rfl rfl (fun hq => ev_fieldAddr rfl rfl (fo rfl)) ?_); refine xgl rfl rfl (fun hq => ev_loadK rfl rfl (sc rfl) (memF (.head _)) rfl) ?_; (iterate 2 refine xgp rfl rfl rfl ?_); refine xep rfl rfl ?_; refine runL_nil ?_; refine then_normal ?_)
    rename_i b9
    by_cases hit : isIt t i x = true
    · refine run_condT rfl hit ?_
      obtain ⟨AA, hAA⟩ : ∃ AA, AA = blk b9 (ec x) 102 :: blk b6 o0.cells 35 :: blk b [.int .i64 p, .slice (some ⟨b2, 0, none⟩) es.length cap] 100 :: [blk b2 (rows ec es ++ rest) 102] := ⟨_, rfl⟩
      have src := own.src (H := AA ++ F) fun x m => by simp [hAA] at m ⊢; simp [m]
      have l1 : LoadsF (AA ++ F) b (0 + 1) (.slice (some ⟨b2, 0, none⟩) es.length cap) := ⟨_, _, _, by rw [hAA]; exact memF (.tail _ (.tail _ (.head _))), rfl⟩
      (refine run_seq ?_)
      refine RunC.perm (h' := [] ++ AA) (fun x => by rw [hAA]; rfl) ?_
      refine run_region_D3 (σ := Option Addr × Nat × Heap) 17 3 [6, 9] (fun s => [(48, .slice s.1 (cutE k es).length s.2.1), (32, .pointer (some ⟨b, 0, none⟩))]) (fun s => s.2.2) (fun s => OwnS 102 10 (.slice s.1 (cutE k es).length s.2.1) (cutE k es).length (rows ec (cutE k es)) s.2.2) mo rfl (by kernel_rfl) rfl ?_ ?_
      · have s1 := src.take (k := k) (by omega)
        rw [rows_take ec_len _ (by omega)] at s1
        have s2 := src.drop (k := k + 1) (cap := cap) (by omega) hck
        rw [rows_drop ec_len _ (by omega)] at s2
        (refine runD_q 0 rfl rfl (by kernel_rfl) ?_; refine ⟨_, fun _ => ev_pure rfl, ?_⟩; refine runD_q 2 rfl rfl (by kernel_rfl) ?_; refine ⟨_, fun _ => ev_pure rfl, ?_⟩; refine runD_q 3 rfl rfl (by kernel_rfl) ?_; refine ⟨_, fun _ => ev_pure rfl, ?_⟩; refine runD_q 4 rfl rfl (by kernel_rfl) ?_; refine ⟨_, fun _ => ev_fieldAddr rfl rfl (fo rfl), ?_⟩; refine runD_q 5 rfl rfl (by kernel_rfl) ?_; refine ⟨_, fun _ => ev_loadF rfl rfl (sc rfl) l1, ?_⟩; refine runD_q 6 rfl rfl (by kernel_rfl) ?_; refine ⟨_, fun _ => ev_pure rfl, ?_⟩; refine runD_q 7 rfl rfl (by kernel_rfl) ?_; refine ⟨_, fun _ => ev_sliceHi rfl rfl rfl (se rfl) (by omega) (by omega), ?_⟩; refine runD_q 9 rfl rfl (by kernel_rfl) ?_; refine ⟨_, fun _ => ev_pure rfl, ?_⟩; refine runD_q 10 rfl rfl (by kernel_rfl) ?_; refine ⟨_, fun _ => ev_pure rfl, ?_⟩; refine runD_q 11 rfl rfl (by kernel_rfl) ?_; refine ⟨_, fun _ => ev_fieldAddr rfl rfl (fo rfl), ?_⟩; refine runD_q 12 rfl rfl (by kernel_rfl) ?_; refine ⟨_, fun _ => ev_loadF rfl rfl (sc rfl) l1, ?_⟩; refine runD_q 13 rfl rfl (by kernel_rfl) ?_; refine ⟨_, fun _ => ev_pure rfl, ?_⟩; refine runD_q 14 rfl rfl (by kernel_rfl) ?_; refine ⟨_, fun _ => ev_add rfl rfl rfl (by omega), ?_⟩; refine runD_q 15 rfl rfl (by kernel_rfl) ?_; refine ⟨_, fun _ => ev_sliceLo rfl rfl rfl (se rfl) (by omega) (by omega), ?_⟩; refine runD_1 1 (by kernel_rfl) rfl rfl rfl ?_)
        refine runL_buildSlice (n := 10) (l := []) rfl rfl rfl rfl rfl (se rfl) ze102 rfl rfl rfl rfl rfl (fun b5 => ?_)
        (refine runL_nil ?_; refine endS_d rfl ?_; refine runD_1 8 (by kernel_rfl) rfl rfl rfl ?_)
        refine runL_append (sl := rows ec (es.take k)) [] rfl rfl rfl rfl rfl rfl rfl (se rfl) (se rfl) ze102 rfl (byt rfl) (OwnS.lit (l := []) rfl) (fun y => by (first | rfl | (simp only [List.append_eq, cnt_append, cnt_cons, cnt_nil, blk]; omega) | (simp only [List.append_eq, cnt_append, cnt_cons, cnt_nil, blk]; done))) (s1.mono fun x m => List.mem_append_right _ m) (rows_cells ec_cells _) (by decide) (by decide) (by simp only [Int.toNat_natCast]; omega) ?_
        rintro v' A' own'
        obtain ⟨a6, c6, rfl, own6⟩ := own'.at
        (refine runL_nil ?_; refine endS_d rfl ?_; refine runD_1 16 (by kernel_rfl) rfl rfl rfl ?_)
        refine runL_append (sl := rows ec (es.drop (k + 1))) [] rfl rfl rfl rfl rfl rfl rfl (se rfl) (se rfl) ze102 rfl (byt rfl) own6 (fun y => by (first | rfl | (simp only [List.append_eq, cnt_append, cnt_cons, cnt_nil, blk]; omega) | (simp only [List.append_eq, cnt_append, cnt_cons, cnt_nil, blk]; done))) (s2.mono fun x m => List.mem_append_right _ m) (rows_cells ec_cells _) (by decide) (by decide) (by simp only [Int.toNat_natCast]; omega) ?_
        rintro v' A'' own''
        rw [List.nil_append, ← rows_append, show 0 + (k : Int).toNat + (es.length - ((k : Int) + 1).toNat) = (cutE k es).length by rw [cutE_len (by omega)]; omega] at own''
        obtain ⟨a7, c7, rfl, own7⟩ := own''.at
        (refine runL_nil ?_; refine endS_d rfl ?_; refine runD_done (by kernel_rfl) ?_)
        exact midX (a7, c7, A'') own7 rfl (fun y => by (first | rfl | (simp only [List.append_eq, cnt_append, cnt_cons, cnt_nil, blk]; omega) | (simp only [List.append_eq, cnt_append, cnt_cons, cnt_nil, blk]; done)))
      · rintro ⟨a7, c7, A7⟩ own7
        dsimp only at own7 ⊢
        rw [lrem_some hx hit g2]
        show RunD _ _ _ _ _ _ _ _ _
        have hfold : es.take k ++ es.drop (k + 1) = cutE k es := rfl
        rw [hfold]
        generalize cutE k es = es2 at *
        subst hAA
        refine RunD.same (M' := blk b [.int .i64 p, .slice (some ⟨b2, 0, none⟩) es.length cap] 100 :: blk b6 o0.cells 35 :: blk b9 (ec x) 102 :: (blk b2 (rows ec es ++ rest) 102 :: A7)) (fun _ _ h => h) (fun x => by (first | rfl | (simp only [List.append_eq, cnt_append, cnt_cons, cnt_nil, blk]; omega) | (simp only [List.append_eq, cnt_append, cnt_cons, cnt_nil, blk]; done))) ?_
        (refine runD_q 17 rfl rfl (by kernel_rfl) ?_; refine ⟨_, fun _ => ev_pure rfl, ?_⟩; refine runD_q 18 rfl rfl (by kernel_rfl) ?_; refine ⟨_, fun _ => ev_fieldAddr rfl rfl (fo rfl), ?_⟩; refine runD_1 19 (by kernel_rfl) rfl rfl rfl ?_; refine runL_store0 rfl rfl rfl rfl rfl (sz rfl) rfl rfl rfl rfl rfl ?_; refine runL_nil ?_; refine endS_n rfl ?_; refine runD_done (by kernel_rfl) ?_; refine then_normal ?_; refine run_seq ?_; refine run_region ?_; refine xel rfl (ev_fieldAddr rfl rfl (fo rfl)) ?_; refine xel rfl (ev_loadAK rfl rfl (ag rfl) (sz rfl) (memF (.tail _ (.tail _ (.head _)))) rfl) ?_; refine runL_store1 rfl rfl rfl rfl rfl (sz rfl) rfl rfl rfl rfl rfl ?_; refine xep rfl rfl ?_; refine runL_nil ?_; refine then_normal ?_; refine run_ret ?_; refine in_ret ?_; (iterate 2 refine then_ret ?_); refine in_ret ?_; refine then_ret ?_)
        exact ⟨_, .agg rfl (memF (.tail _ (.head _))) (ag rfl) (sz rfl) rfl (.tmp rfl .nil), _, [blk b6 x.o.cells 35, blk b9 (ec x) 102, blk b2 (rows ec es ++ rest) 102], ⟨rfl, a7, c7, A7, own7, rfl⟩, fun y => by (simp only [List.append_eq, cnt_append, cnt_cons, cnt_nil, blk, Ord.cells, ec, hcell, o0]; omega)⟩
    · refine run_condF rfl (by simpa [isIt] using hit) ?_
      (refine run_skip ?_; refine in_normal ?_; refine then_normal ?_; refine run_region ?_; refine xel rfl (ev_add rfl rfl rfl (by omega)) ?_; refine xep rfl rfl ?_; refine runL_nil ?_; refine then_normal ?_)
      refine ⟨k + 1, ⟨by omega, fun j y hj hy => ?_⟩, by omega, rfl, [blk b9 (ec x) 102], fun y => by (simp only [List.append_eq, cnt_append, cnt_cons, cnt_nil, blk, Ord.cells, ec, hcell, o0]; omega)⟩
      by_cases e : j = k
      · subst e; rw [hx] at hy; cases hy; simpa using hit
      · exact g2 j y (by omega) hy
  · have : k = es.length := by omega
    subst this
    have hno : ∀ x ∈ es, isIt t i x = false := fun x m => by
      obtain ⟨j, hj⟩ := List.mem_iff_getElem?.1 m
      exact g2 j x ((List.getElem?_eq_some_iff.1 hj).1) hj
    rw [lrem_none hno]
    (refine run_exit ?_; (iterate 2 refine then_exit ?_); refine in_exit ?_; refine then_normal ?_)
    (refine run_seq ?_; refine run_region ?_; refine xel rfl (ev_build rfl pl35 rfl) ?_; refine runL_store0 rfl rfl rfl rfl rfl (sz rfl) rfl rfl rfl rfl rfl ?_; refine xep rfl rfl ?_; refine runL_nil ?_; refine then_normal ?_; refine run_ret ?_)
    exact ⟨_, .agg rfl (memF (.head _)) (ag rfl) (sz rfl) rfl (.tmp rfl .nil), blk b [.int .i64 p, .slice a es.length cap] 100 :: A, [blk b6 o0.cells 35], ⟨rfl, a, cap, A, own, rfl⟩, fun y => by (simp only [List.append_eq, cnt_append, cnt_cons, cnt_nil, blk, Ord.cells, ec, hcell, o0]; omega)⟩
end Go.Proofs.YtmelpobcpcmdoaaGreat

set_option autoImplicit false
set_option linter.unusedSectionVars false
set_option linter.unusedSimpArgs false
set_option linter.unusedVariables false
set_option maxRecDepth 4000
set_option maxHeartbeats 8000000
namespace Go.Proofs.YtmelpobcpcmdoaaGreat
open Go Go.SL Go.Proofs
variable [Base]
theorem sp_rless (F : Heap) (H : Heap) (b : Nat) (p : Int) (es : List Ent) (hH : RvH b p es H) (hb : es.length ≤ 65536) (t i q : Int) :
    Sp Tryz.prog F 68 [.pointer (some ⟨b, 0, none⟩), .int .i64 t, .int .i64 i, .int .i64 q] H (fun v h' => v = .bool (lless t i q es).1 ∧ RvH b p (lless t i q es).2 h') := by
  obtain ⟨a, cap, A, own, rfl⟩ := hH
  have hck : es.length ≤ cap := by
    obtain ⟨_, _, hv, h2⟩ := own.form
    cases hv; exact h2
  refine Sp.up ?_
  refine sp_of_code Tryz.func68 rfl rfl ?_
  (refine run_seq ?_; refine run_region ?_; refine xep rfl rfl ?_; refine runL_nil ?_; refine then_normal ?_; (iterate 2 refine run_seq ?_); refine run_region ?_; (iterate 2 refine xep rfl rfl ?_); refine xel rfl (ev_fieldAddr rfl rfl (fo rfl)) ?_; refine xel rfl (ev_loadK rfl rfl (sc rfl) (memF (.head _)) rfl) ?_; refine xel rfl (ev_len rfl rfl (se rfl)) ?_; refine xep rfl rfl ?_; refine runL_nil ?_; refine then_normal ?_; refine run_block ?_)
  refine run_loopK (σ := Nat) [0, 1, 2, 3, 15, 16, 17] (fun k => [(0, .pointer (some ⟨b, 0, none⟩)), (1, .int .i64 t), (2, .int .i64 i), (3, .int .i64 q), (15, .slice a es.length cap), (16, .int .i64 es.length), (17, .int .i64 k)])
    (fun _ => blk b [.int .i64 p, .slice a es.length cap] 100 :: A) (fun k => k ≤ es.length ∧ ∀ j y, j < k → es[j]? = some y → isIt t i y = false) (fun k => es.length - k) 0 ⟨Nat.zero_le _, fun j y h => absurd h (Nat.not_lt_zero _)⟩ rfl (fun _ => rfl) ?_
  rintro k ⟨g1, g2⟩
  (refine run_seq ?_; refine run_region ?_; refine xep rfl rfl ?_; refine runL_nil ?_; refine then_normal ?_; refine run_seq ?_)
  (refine run_cond rfl (fun hc => ?_) (fun hc => ?_) <;> (try simp only [z0, z1, z2, z3, z4, z5, z6, z7, z8, z9, Bool.not_true, Bool.not_false, Bool.false_or, Bool.true_and, true_and, and_true, false_or, or_false, reduceCtorEq, Bool.false_eq_true] at hc))
  · obtain ⟨x, hx⟩ : ∃ x, es[k]? = some x := ⟨es[k]'(by omega), List.getElem?_eq_getElem _⟩
    obtain ⟨b2, rest, cap', hv, rfl, hl2, hr2, hk2⟩ := own.pos (by omega)
    cases hv
    have r1 : RowAt (rows ec es ++ rest) (0 + (k : Int).toNat * 10) (ec x) := by
      rw [Nat.zero_add]; exact rows_at ec_len hx rest
    (refine run_skip ?_; refine then_normal ?_; refine run_seq ?_; refine run_block ?_; refine run_seq ?_; refine run_region ?_; refine xep rfl rfl ?_; refine xel rfl (ev_indexAddr rfl rfl rfl (se rfl) (by omega) (by omega)) ?_; refine xel rfl (ev_loadAR rfl rfl (ag rfl) (sz rfl) (memF (.tail _ (.head _))) r1 rfl) ?_; refine runL_alloc rfl rfl rfl rfl rfl ze84 (fun _ => ?_); refine xep rfl rfl ?_; refine runL_store0 rfl rfl rfl rfl rfl (sz rfl) rfl rfl rfl rfl rfl ?_; refine runL_nil ?_; refine then_normal ?_; refine run_seq ?_; refine run_region ?_; (iterate 2 refine xel rfl (ev_fieldAddr rfl rfl (fo rfl)) ?_); refine xel rfl (ev_loadK rfl rfl (sc rfl) (memF (.head _)) rfl) ?_; (iterate 3 refine xep rfl rfl ?_); (iterate 2 refine xgl rfl rfl (fun hq => ev_fieldAddr rfl rfl (fo rfl)) ?_); refine xgl rfl rfl (fun hq => ev_loadK rfl rfl (sc rfl) (memF (.head _)) rfl) ?_; (iterate 2 refine xgp rfl rfl rfl ?_); refine xep rfl rfl ?_; refine runL_nil ?_; refine then_normal ?_)
    rename_i b9
    by_cases hit : isIt t i x = true
    · refine run_condT rfl hit ?_
      rw [lless_some hx hit g2]
      ((iterate 2 refine run_seq ?_); refine run_region ?_; (iterate 3 refine xep rfl rfl ?_); refine xgp rfl rfl rfl ?_; (iterate 2 refine xgl rfl rfl (fun hq => ev_fieldAddr rfl rfl (fo rfl)) ?_); refine xgl rfl rfl (fun hq => ev_loadK rfl rfl (sc rfl) (memF (.head _)) rfl) ?_; refine xgp rfl rfl rfl ?_; refine xep rfl rfl ?_; refine runL_nil ?_; refine then_normal ?_)
      by_cases hc : q < 1 ∨ x.o.qty < q
      · rw [if_pos hc]
        refine run_condT rfl (by rcases hc with h | h <;> simp [h]) ?_
        (refine run_seq ?_; refine run_region ?_; refine xep rfl rfl ?_; refine runL_nil ?_; refine then_normal ?_; refine run_ret ?_; refine then_ret ?_; refine in_ret ?_; (iterate 2 refine then_ret ?_); refine in_ret ?_; refine then_ret ?_)
        exact ⟨_, rfl, _, [blk b9 (ec x) 102], ⟨rfl, _, cap, _, own, rfl⟩, fun y => by (simp only [List.append_eq, cnt_append, cnt_cons, cnt_nil, blk, Ord.cells, ec, hcell, o0]; omega)⟩
      · rw [if_neg hc]
        refine run_condF rfl (by rw [decide_eq_false (by omega : ¬ q < 1), decide_eq_false (by omega : ¬ x.o.qty < q)]; rfl) ?_
        (refine run_skip ?_; refine then_normal ?_; refine run_seq ?_; refine run_region ?_; refine xep rfl rfl ?_; refine xel rfl (ev_fieldAddr rfl rfl (fo rfl)) ?_; refine xel rfl (ev_loadK rfl rfl (sc rfl) (memF (.head _)) rfl) ?_; refine xep rfl rfl ?_; refine xel rfl (ev_min rfl rfl rfl) ?_; (iterate 2 refine xel rfl (ev_fieldAddr rfl rfl (fo rfl)) ?_); refine runL_store0 rfl rfl rfl rfl rfl (sz rfl) rfl rfl rfl rfl rfl ?_; refine xel rfl (ev_fieldAddr rfl rfl (fo rfl)) ?_; refine runL_store0 rfl rfl rfl rfl rfl (sz rfl) rfl rfl rfl rfl rfl ?_; refine runL_nil ?_; refine then_normal ?_; refine run_seq ?_; refine run_region ?_)
        refine runL_buildSlice (n := 10) (l := []) rfl rfl rfl rfl rfl (se rfl) ze102 rfl rfl rfl rfl rfl (fun b5 => ?_)
        refine RunL.perm (h' := blk b5 [] 102 :: blk b [.int .i64 p, .slice (some ⟨b2, 0, none⟩) es.length cap] 100 :: [blk b9 (ec ⟨wq x.o q, min x.seen q⟩) 102, blk b2 (rows ec es ++ rest) 102]) (fun y => by simp only [List.append_eq, cnt_append, cnt_cons, cnt_nil, blk, Ord.cells, ec, hcell, o0, wq]; omega) ?_
        ((iterate 2 refine xep rfl rfl ?_); refine xel rfl (ev_fieldAddr rfl rfl (fo rfl)) ?_; refine xel rfl (ev_loadK rfl rfl (sc rfl) (memF (.tail _ (.head _))) rfl) ?_)
        refine runL_append (sl := rows ec es) [blk b [.int .i64 p, .slice (some ⟨b2, 0, none⟩) es.length cap] 100, blk b9 (ec ⟨wq x.o q, min x.seen q⟩) 102, blk b2 (rows ec es ++ rest) 102] rfl rfl rfl rfl rfl rfl rfl (se rfl) (se rfl) ze102 rfl (byt rfl) (OwnS.lit (l := []) rfl) (fun y => by (first | rfl | (simp only [List.append_eq, cnt_append, cnt_cons, cnt_nil, blk]; omega) | (simp only [List.append_eq, cnt_append, cnt_cons, cnt_nil, blk]; done))) (own.src fun y m => by simp at m; simp [m]) (rows_cells ec_cells _) (by decide) (by decide) (by omega) ?_
        rintro v' A' own'
        rw [List.nil_append, Nat.zero_add] at own'
        obtain ⟨b6, rest6, c6, rfl, rfl, hl6, hr6, hk6⟩ := own'.pos (by omega)
        (refine xep rfl rfl ?_; refine runL_nil ?_; refine then_normal ?_; refine run_seq ?_; refine run_region ?_; (iterate 2 refine xep rfl rfl ?_); refine xel rfl (ev_loadAK rfl rfl (ag rfl) (sz rfl) (memF (.tail _ (.tail _ (.head _)))) rfl) ?_; refine xel rfl (ev_indexAddr rfl rfl rfl (se rfl) (by omega) (by omega)) ?_)
        have hlenb : (rows ec es ++ rest6).length = c6 * 10 := by rw [List.length_append, hl6]; exact hr6
        have hkk : k * 10 + 10 ≤ c6 * 10 := by omega
        refine RunL.perm (h' := blk b9 (ec ⟨wq x.o q, min x.seen q⟩) 102 :: blk b6 (rows ec es ++ rest6) 102 :: [blk b [.int .i64 p, .slice (some ⟨b2, 0, none⟩) es.length cap] 100, blk b2 (rows ec es ++ rest) 102]) (fun y => by (first | rfl | (simp only [List.append_eq, cnt_append, cnt_cons, cnt_nil, blk]; omega) | (simp only [List.append_eq, cnt_append, cnt_cons, cnt_nil, blk]; done))) ?_
        skip
        refine runL_store (c := rows ec es ++ rest6) (l := ec ⟨wq x.o q, min x.seen q⟩) [blk b9 (ec ⟨wq x.o q, min x.seen q⟩) 102] [blk b [.int .i64 p, .slice (some ⟨b2, 0, none⟩) es.length cap] 100, blk b2 (rows ec es ++ rest) 102] rfl rfl rfl rfl rfl (sz rfl) rfl rfl rfl (by rw [hlenb]; show 0 + (k : Int).toNat * 10 + 10 ≤ _; rw [Int.toNat_natCast]; omega) rfl ?_
        rw [show 0 + (k : Int).toNat * 10 = k * 10 by rw [Int.toNat_natCast]; omega, ec_len, rows_put ec_len hx]
        have hl9 : (es.set k ⟨wq x.o q, min x.seen q⟩).length = es.length := List.length_set
        refine RunL.perm (h' := blk b [.int .i64 p, .slice (some ⟨b2, 0, none⟩) es.length cap] 100 :: blk b6 (rows ec (es.set k ⟨wq x.o q, min x.seen q⟩) ++ rest6) 102 :: [blk b9 (ec ⟨wq x.o q, min x.seen q⟩) 102, blk b2 (rows ec es ++ rest) 102]) (fun y => by (first | rfl | (simp only [List.append_eq, cnt_append, cnt_cons, cnt_nil, blk]; omega) | (simp only [List.append_eq, cnt_append, cnt_cons, cnt_nil, blk]; done))) ?_
        (refine runL_nil ?_; refine then_normal ?_; refine run_seq ?_; refine run_region ?_; (iterate 3 refine xep rfl rfl ?_); refine xel rfl (ev_fieldAddr rfl rfl (fo rfl)) ?_; refine runL_store0 rfl rfl rfl rfl rfl (sz rfl) rfl rfl rfl rfl rfl ?_; refine runL_nil ?_; refine then_normal ?_; refine run_seq ?_; refine run_region ?_; refine xep rfl rfl ?_; refine runL_nil ?_; refine then_normal ?_; refine run_ret ?_; refine in_ret ?_; (iterate 2 refine then_ret ?_); refine in_ret ?_; refine then_ret ?_)
        refine ⟨_, rfl, blk b [.int .i64 p, .slice (some ⟨b6, 0, none⟩) es.length c6] 100 :: [blk b6 (rows ec (es.set k ⟨wq x.o q, min x.seen q⟩) ++ rest6) 102], [blk b9 (ec ⟨wq x.o q, min x.seen q⟩) 102, blk b2 (rows ec es ++ rest) 102], ⟨rfl, some ⟨b6, 0, none⟩, c6, [blk b6 (rows ec (es.set k ⟨wq x.o q, min x.seen q⟩) ++ rest6) 102], .inr ⟨b6, rest6, c6, rfl, rfl, ?_, ?_, ?_⟩, ?_⟩, fun y => by (first | rfl | (simp only [List.append_eq, cnt_append, cnt_cons, cnt_nil, blk]; omega) | (simp only [List.append_eq, cnt_append, cnt_cons, cnt_nil, blk]; done))⟩
        · rw [rows_len ec_len]
        · rw [hl9]; exact hr6
        · rw [hl9]; exact hk6
        · rw [hl9]
    · refine run_condF rfl (by simpa [isIt] using hit) ?_
      (refine run_skip ?_; refine in_normal ?_; refine then_normal ?_; refine run_region ?_; refine xel rfl (ev_add rfl rfl rfl (by omega)) ?_; refine xep rfl rfl ?_; refine runL_nil ?_; refine then_normal ?_)
      refine ⟨k + 1, ⟨by omega, fun j y hj hy => ?_⟩, by omega, rfl, [blk b9 (ec x) 102], fun y => by (simp only [List.append_eq, cnt_append, cnt_cons, cnt_nil, blk, Ord.cells, ec, hcell, o0]; omega)⟩
      by_cases e : j = k
      · subst e; rw [hx] at hy; cases hy; simpa using hit
      · exact g2 j y (by omega) hy
  · have : k = es.length := by omega
    subst this
    have hno : ∀ x ∈ es, isIt t i x = false := fun x m => by
      obtain ⟨j, hj⟩ := List.mem_iff_getElem?.1 m
      exact g2 j x ((List.getElem?_eq_some_iff.1 hj).1) hj
    rw [lless_none hno]
    (refine run_exit ?_; (iterate 2 refine then_exit ?_); refine in_exit ?_; refine then_normal ?_)
    (refine run_seq ?_; refine run_region ?_; refine xep rfl rfl ?_; refine runL_nil ?_; refine then_normal ?_; refine run_ret ?_)
    exact ⟨_, rfl, _, [], ⟨rfl, a, cap, A, own, rfl⟩, fun y => by (first | rfl | (simp only [List.append_eq, cnt_append, cnt_cons, cnt_nil, blk]; omega) | (simp only [List.append_eq, cnt_append, cnt_cons, cnt_nil, blk]; done))⟩
end Go.Proofs.YtmelpobcpcmdoaaGreat
