/- Contracts of functions of the given program over its translation, each proved by walking its text; used by the laws' rows. It proves no given statement by itself. -/
import Derived.Test.YtmelpobcpcmdoaaGreatSLRBk5X
import Derived.Test.YtmelpobcpcmdoaaGreatSLBk5X
set_option autoImplicit false
set_option linter.unusedSectionVars false
set_option linter.unusedSimpArgs false
set_option linter.unusedVariables false
set_option maxRecDepth 4000
set_option maxHeartbeats 32000000
namespace Go.Proofs.YtmelpobcpcmdoaaGreat
open Go Go.SL Go.Proofs
variable [Base]
theorem sp_bmatch1 (F H0 H1 : Heap) (b : Nat) (w v : Value) (last no : Int) (l : List Lv) (h0 : SdH v l H0) (hok : ∀ lv ∈ l, lv.Ok) (h64 : lenL l ≤ 64) (o : Ord) (hs : 3 - o.side = 1) (hq : 0 ≤ o.qty) (hq2 : o.qty ≤ 1048576) (hn : 0 ≤ no) (hn2 : no ≤ 1099511627776) :
    Sp Tryz.prog F 77 [.pointer (some ⟨b, 0, none⟩), ov o] (blk b [v,w, .int .i64 last, .int .i64 no] 90 :: (H0 ++ H1)) (fun r h' => ∃ a c A v' H0', r = .tuple #[.slice a (matchL o l last no).fs.length c, .int .i64 (matchL o l last no).qty, .bool (matchL o l last no).self] ∧
      OwnS 93 21 (.slice a (matchL o l last no).fs.length c) (matchL o l last no).fs.length (rows fcell (matchL o l last no).fs) A ∧ SdH v' (matchL o l last no).lvs H0' ∧
      h' = blk b [v',w, .int .i64 (matchL o l last no).last, .int .i64 (matchL o l last no).no] 90 :: (H0' ++ H1) ++ A) := by
  have q1 : ∀ F, Sp Tryz.prog F 89 [.pointer (some ⟨b, 0, none⟩), ov o] [] (Ret (.pointer (some ⟨b, 0, none⟩))) := by
    intro F
    have := sp_bagainst F b o (by omega)
    rw [hs] at this; exact this
  refine Sp.up ?_
  refine sp_of_code Tryz.func77 rfl rfl ?_
  (refine run_seq ?_; refine run_region ?_; refine runL_box rfl rfl rfl rfl rfl rfl (fun _ => ?_); (iterate 3 refine xep rfl rfl ?_); refine runL_nil ?_; refine then_normal ?_; refine run_seq ?_; refine run_region ?_; refine xep rfl rfl ?_; refine runL_nil ?_; refine then_normal ?_; refine run_seq ?_; refine run_region ?_; refine xep rfl rfl ?_; refine xel rfl (ev_loadAK rfl rfl (ag rfl) (sz rfl) (memF (.head _)) rfl) ?_; refine xel rfl (ev_callQ rfl rfl rfl (pf rfl) (q1 ..)) ?_; refine xep rfl rfl ?_; refine runL_nil ?_; refine then_normal ?_; refine run_seq ?_; refine run_block ?_)
  rename_i b3
  refine run_loopK (σ := (Int × List Lv × Int × Int × List Fl) × (Option Addr × Nat × Heap) × (Value × Heap)) [0, 3, 7, 8]
    (fun s => [(0, .pointer (some ⟨b, 0, none⟩)), (3, .pointer (some ⟨b3, 0, none⟩)), (7, .slice s.2.1.1 s.1.2.2.2.2.length s.2.1.2.1), (8, .pointer (some ⟨b, 0, none⟩))])
    (fun s => blk b3 (wq o s.1.1).cells 35 :: blk b [s.2.2.1,w, .int .i64 s.1.2.2.1, .int .i64 s.1.2.2.2.1] 90 :: (s.2.2.2 ++ (H1 ++ s.2.1.2.2)))
    (fun s => SdH s.2.2.1 s.1.2.1 s.2.2.2 ∧ (∀ lv ∈ s.1.2.1, lv.Ok) ∧ lenL s.1.2.1 ≤ 64 ∧ 0 ≤ s.1.1 ∧ s.1.1 + s.1.2.2.2.2.length ≤ 1048576 ∧ 0 ≤ s.1.2.2.2.1 ∧ s.1.2.2.2.1 + s.1.1 ≤ 1099512676352 ∧
      OwnS 93 21 (.slice s.2.1.1 s.1.2.2.2.2.length s.2.1.2.1) s.1.2.2.2.2.length (rows fcell s.1.2.2.2.2) s.2.1.2.2 ∧ matchL o l last no = (matchL (wq o s.1.1) s.1.2.1 s.1.2.2.1 s.1.2.2.2.1).pre s.1.2.2.2.2)
    (fun s => 2 * s.1.2.1.length + (if 0 < s.1.1 then 1 else 0)) ((o.qty, l, last, no, []), (none, 0, []), (v, H0)) ⟨h0, hok, h64, hq, by show o.qty + ((0 : Nat) : Int) ≤ _; omega, hn, by show no + o.qty ≤ _; omega, .nil _ _, rfl⟩ rfl (fun x => by
      show cnt x (blk b3 o.cells 35 :: _) = cnt x (blk b3 o.cells 35 :: blk b [v,w, .int .i64 last, .int .i64 no] 90 :: (H0 ++ (H1 ++ [])))
      (first | rfl | (simp only [List.append_eq, cnt_append, cnt_cons, cnt_nil, blk]; omega) | (simp only [List.append_eq, cnt_append, cnt_cons, cnt_nil, blk]; done))) ?_
  clear h0 hok h64
  rintro ⟨⟨q, lv0, la, n, out⟩, ⟨ao, co, O⟩, ⟨v, H0⟩⟩ ⟨h0, hok, h64, g1, g2, g3, g4, own, hm⟩
  dsimp only at h0 hok h64 g1 g2 g3 g4 own hm ⊢
  have hwq : (wq o q).qty = q := rfl
  ((iterate 2 refine run_seq ?_))
  refine run_midO (σ := Unit) [0, 3, 7, 8] (fun _ => [(36, .bool (decide (0 < q) && meets (wq o q) lv0))]) (fun _ => blk b3 (wq o q).cells 35 :: blk b [v,w, .int .i64 la, .int .i64 n] 90 :: (H0 ++ (H1 ++ O))) (fun _ => True) rfl ?_ ?_
  · obtain ⟨HH, hHH⟩ : ∃ HH, HH = blk b3 (wq o q).cells 35 :: blk b [v,w, .int .i64 la, .int .i64 n] 90 :: (H0 ++ (H1 ++ O)) := ⟨_, rfl⟩
    obtain ⟨av, cv, rfl, hcv⟩ := h0.lt
    have l1 : LoadsF (HH ++ F) b 0 (.slice av lv0.length cv) := ⟨_, _, _, by rw [hHH]; exact memF (.tail _ (.head _)), rfl⟩
    have l2 : AggF (HH ++ F) b3 0 (wq o q).cells := ⟨_, _, _, by rw [hHH]; exact memF (.head _), by simp, rfl⟩
    have l3 := l2.at 6 _ rfl
    rw [← hHH]
    refine RunC.freeze ?_
    by_cases k5 : 0 < q
    · have hgd : decide (0 < (wq o q).qty) = true := decide_eq_true k5
      match lv0, h0, hok, hcv, l1 with
      | [], h0, hok, hcv, l1 =>
        have hge : (decide (0 < (wq o q).qty) && decide ((0 : Int) < ((([] : List Lv).length : Nat) : Int))) = false := by rw [hgd]; rfl
        refine run_region_D mo ?_
        (refine runD_q 0 rfl rfl (by kernel_rfl) ?_; refine ⟨_, fun _ => ev_fieldAddr rfl rfl (fo rfl), ?_⟩; refine runD_q 1 rfl rfl (by kernel_rfl) ?_; refine ⟨_, fun _ => ev_loadF rfl rfl (sc rfl) l3, ?_⟩; refine runD_q 2 rfl rfl (by kernel_rfl) ?_; refine ⟨_, fun _ => ev_pure rfl, ?_⟩; refine runD_q 3 rfl rfl (by kernel_rfl) ?_; refine ⟨_, fun _ => ev_pure rfl, ?_⟩; refine runD_gq 4 rfl rfl rfl rfl rfl rfl hgd (by kernel_rfl) ?_; refine ⟨_, fun _ => ev_pure rfl, ?_⟩; refine runD_gq 5 rfl rfl rfl rfl rfl rfl hgd (by kernel_rfl) ?_; refine ⟨_, fun _ => ev_pure rfl, ?_⟩; refine runD_gq 6 rfl rfl rfl rfl rfl rfl hgd (by kernel_rfl) ?_; refine ⟨_, fun _ => ev_loadF rfl rfl (sc rfl) l1, ?_⟩; refine runD_gq 7 rfl rfl rfl rfl rfl rfl hgd (by kernel_rfl) ?_; refine ⟨_, fun _ => ev_len rfl rfl (se rfl), ?_⟩; refine runD_gq 8 rfl rfl rfl rfl rfl rfl hgd (by kernel_rfl) ?_; refine ⟨_, fun _ => ev_pure rfl, ?_⟩; refine runD_q 9 rfl rfl (by kernel_rfl) ?_; refine ⟨_, fun _ => ev_pure rfl, ?_⟩; refine runD_q 10 rfl rfl (by kernel_rfl) ?_; refine ⟨_, fun _ => ev_pure rfl, ?_⟩; refine runD_gn 11 rfl rfl rfl rfl rfl rfl hge (by kernel_rfl) ?_; refine runD_gn 12 rfl rfl rfl rfl rfl rfl hge (by kernel_rfl) ?_; refine runD_gn 13 rfl rfl rfl rfl rfl rfl hge (by kernel_rfl) ?_; refine runD_gn 14 rfl rfl rfl rfl rfl rfl hge (by kernel_rfl) ?_; refine runD_gn 15 rfl rfl rfl rfl rfl rfl hge (by kernel_rfl) ?_; refine runD_gn 16 rfl rfl rfl rfl rfl rfl hge (by kernel_rfl) ?_; refine runD_gn 17 rfl rfl rfl rfl rfl rfl hge (by kernel_rfl) ?_; refine runD_gn 18 rfl rfl rfl rfl rfl rfl hge (by kernel_rfl) ?_; refine runD_q 19 rfl rfl (by kernel_rfl) ?_; refine ⟨_, fun _ => ev_pickF rfl rfl hge rfl, ?_⟩; refine runD_done (by kernel_rfl) ?_)
        exact midN () [] trivial (by rw [show meets (wq o q) [] = false from rfl, decide_eq_true k5]; rfl) (fun x => by (first | rfl | (simp only [List.append_eq, cnt_append, cnt_cons, cnt_nil, blk]; omega) | (simp only [List.append_eq, cnt_append, cnt_cons, cnt_nil, blk]; done)))
      | lv :: r, h0, hok, hcv, l1 =>
        have hge : (decide (0 < (wq o q).qty) && decide ((0 : Int) < (((lv :: r).length : Nat) : Int))) = true := by rw [hgd, decide_eq_true (by simp)]; rfl
        have hin := h0.in (F := HH ++ F) fun x m => by rw [hHH]; simp [m]
        obtain ⟨_, _, bs, _, hv2, hsrc, hin⟩ := hin
        cases hv2
        obtain ⟨b2, off, bi, lv', rfl, hlv, l1', hi⟩ := SdIn.level (n := 0) (cap := 0) hsrc hin (i := 0) (by simp)
        simp only [List.getElem?_cons_zero, Option.some.injEq] at hlv
        subst hlv
        have l4 : LoadsF (HH ++ F) b2 (off + (0 : Int).toNat * 1) (.pointer (some ⟨bi, 0, none⟩)) := l1'
        have hlen0 : 0 < (lv :: r).length := by simp
        have q7 := fun G : Heap => sp_lprice (G ++ (HH ++ F)) bi lv.p lv.es (hi.mono fun x m => List.mem_append_right _ m)
        have q8 := fun F => sp_crosses F (wq o q) lv.p
        refine run_region_D mo ?_
        (refine runD_q 0 rfl rfl (by kernel_rfl) ?_; refine ⟨_, fun _ => ev_fieldAddr rfl rfl (fo rfl), ?_⟩; refine runD_q 1 rfl rfl (by kernel_rfl) ?_; refine ⟨_, fun _ => ev_loadF rfl rfl (sc rfl) l3, ?_⟩; refine runD_q 2 rfl rfl (by kernel_rfl) ?_; refine ⟨_, fun _ => ev_pure rfl, ?_⟩; refine runD_q 3 rfl rfl (by kernel_rfl) ?_; refine ⟨_, fun _ => ev_pure rfl, ?_⟩; refine runD_gq 4 rfl rfl rfl rfl rfl rfl hgd (by kernel_rfl) ?_; refine ⟨_, fun _ => ev_pure rfl, ?_⟩; refine runD_gq 5 rfl rfl rfl rfl rfl rfl hgd (by kernel_rfl) ?_; refine ⟨_, fun _ => ev_pure rfl, ?_⟩; refine runD_gq 6 rfl rfl rfl rfl rfl rfl hgd (by kernel_rfl) ?_; refine ⟨_, fun _ => ev_loadF rfl rfl (sc rfl) l1, ?_⟩; refine runD_gq 7 rfl rfl rfl rfl rfl rfl hgd (by kernel_rfl) ?_; refine ⟨_, fun _ => ev_len rfl rfl (se rfl), ?_⟩; refine runD_gq 8 rfl rfl rfl rfl rfl rfl hgd (by kernel_rfl) ?_; refine ⟨_, fun _ => ev_pure rfl, ?_⟩; refine runD_q 9 rfl rfl (by kernel_rfl) ?_; refine ⟨_, fun _ => ev_pure rfl, ?_⟩; refine runD_q 10 rfl rfl (by kernel_rfl) ?_; refine ⟨_, fun _ => ev_pure rfl, ?_⟩; refine runD_gq 11 rfl rfl rfl rfl rfl rfl hge (by kernel_rfl) ?_; refine ⟨_, fun _ => ev_loadAF rfl rfl (ag rfl) (sz rfl) l2 rfl, ?_⟩; refine runD_gq 12 rfl rfl rfl rfl rfl rfl hge (by kernel_rfl) ?_; refine ⟨_, fun _ => ev_pure rfl, ?_⟩; refine runD_gq 13 rfl rfl rfl rfl rfl rfl hge (by kernel_rfl) ?_; refine ⟨_, fun _ => ev_pure rfl, ?_⟩; refine runD_gq 14 rfl rfl rfl rfl rfl rfl hge (by kernel_rfl) ?_; refine ⟨_, fun _ => ev_loadF rfl rfl (sc rfl) l1, ?_⟩; refine runD_gq 15 rfl rfl rfl rfl rfl rfl hge (by kernel_rfl) ?_; refine ⟨_, fun _ => ev_indexAddr rfl rfl rfl (se rfl) (by omega) (by omega), ?_⟩; refine runD_gq 16 rfl rfl rfl rfl rfl rfl hge (by kernel_rfl) ?_; refine ⟨_, fun _ => ev_loadF rfl rfl (sc rfl) l4, ?_⟩; refine runD_gq 17 rfl rfl rfl rfl rfl rfl hge (by kernel_rfl) ?_; refine ⟨_, fun _ => ev_callQ rfl rfl rfl (pf rfl) (q7 ..), ?_⟩; refine runD_gq 18 rfl rfl rfl rfl rfl rfl hge (by kernel_rfl) ?_; refine ⟨_, fun _ => ev_callQ rfl rfl rfl (pf rfl) (q8 ..), ?_⟩; refine runD_q 19 rfl rfl (by kernel_rfl) ?_; refine ⟨_, fun _ => ev_pure rfl, ?_⟩; refine runD_done (by kernel_rfl) ?_)
        exact midN () [] trivial (by rw [show meets (wq o q) (lv :: r) = crosses (wq o q) lv.p from rfl, hge, decide_eq_true k5]; rfl) (fun x => by (first | rfl | (simp only [List.append_eq, cnt_append, cnt_cons, cnt_nil, blk]; omega) | (simp only [List.append_eq, cnt_append, cnt_cons, cnt_nil, blk]; done)))
    · have hgd : decide (0 < (wq o q).qty) = false := decide_eq_false k5
      have hge : false = false := rfl
      refine run_region_D mo ?_
      (refine runD_q 0 rfl rfl (by kernel_rfl) ?_; refine ⟨_, fun _ => ev_fieldAddr rfl rfl (fo rfl), ?_⟩; refine runD_q 1 rfl rfl (by kernel_rfl) ?_; refine ⟨_, fun _ => ev_loadF rfl rfl (sc rfl) l3, ?_⟩; refine runD_q 2 rfl rfl (by kernel_rfl) ?_; refine ⟨_, fun _ => ev_pure rfl, ?_⟩; refine runD_q 3 rfl rfl (by kernel_rfl) ?_; refine ⟨_, fun _ => ev_pure rfl, ?_⟩; refine runD_gn 4 rfl rfl rfl rfl rfl rfl hgd (by kernel_rfl) ?_; refine runD_gn 5 rfl rfl rfl rfl rfl rfl hgd (by kernel_rfl) ?_; refine runD_gn 6 rfl rfl rfl rfl rfl rfl hgd (by kernel_rfl) ?_; refine runD_gn 7 rfl rfl rfl rfl rfl rfl hgd (by kernel_rfl) ?_; refine runD_gn 8 rfl rfl rfl rfl rfl rfl hgd (by kernel_rfl) ?_; refine runD_q 9 rfl rfl (by kernel_rfl) ?_; refine ⟨_, fun _ => ev_pickF rfl rfl hgd rfl, ?_⟩; refine runD_q 10 rfl rfl (by kernel_rfl) ?_; refine ⟨_, fun _ => ev_pure rfl, ?_⟩; refine runD_gn 11 rfl rfl rfl rfl rfl rfl hge (by kernel_rfl) ?_; refine runD_gn 12 rfl rfl rfl rfl rfl rfl hge (by kernel_rfl) ?_; refine runD_gn 13 rfl rfl rfl rfl rfl rfl hge (by kernel_rfl) ?_; refine runD_gn 14 rfl rfl rfl rfl rfl rfl hge (by kernel_rfl) ?_; refine runD_gn 15 rfl rfl rfl rfl rfl rfl hge (by kernel_rfl) ?_; refine runD_gn 16 rfl rfl rfl rfl rfl rfl hge (by kernel_rfl) ?_; refine runD_gn 17 rfl rfl rfl rfl rfl rfl hge (by kernel_rfl) ?_; refine runD_gn 18 rfl rfl rfl rfl rfl rfl hge (by kernel_rfl) ?_; refine runD_q 19 rfl rfl (by kernel_rfl) ?_; refine ⟨_, fun _ => ev_pickF rfl rfl hge rfl, ?_⟩; refine runD_done (by kernel_rfl) ?_)
      exact midN () [] trivial (by rw [decide_eq_false k5]; rfl) (fun x => by (first | rfl | (simp only [List.append_eq, cnt_append, cnt_cons, cnt_nil, blk]; omega) | (simp only [List.append_eq, cnt_append, cnt_cons, cnt_nil, blk]; done)))
  · intro fr' h' hmid
    (refine then_normal ?_)
    refine midN_out hmid ?_
    rintro ⟨⟩ -
    by_cases hc : 0 < q ∧ meets (wq o q) lv0 = true
    · refine run_condT rfl (by rw [hc.2, decide_eq_true hc.1]; rfl) ?_
      match lv0, h0, hok, h64, hm, hc with
      | lv :: r, h0, hok, h64, hm, hc =>
      have hlok := hok lv (by simp)
      have hq9 := hc.1
      have hok' : ∀ lv ∈ r, lv.Ok := fun x m => hok x (List.mem_cons_of_mem _ m)
      obtain ⟨ba, c, cap, bi, G1, G2, rfl, hcap, gg1, hG1, hp, hset⟩ := h0.open (k := 0) (lv := lv) rfl
      have g1' : c[0 + (0 : Int).toNat * 1]? = some (.pointer (some ⟨bi, 0, none⟩)) := gg1
      have hl0 : 0 < (lv :: r).length := by simp
      refine RunC.perm (h' := blk b3 (wq o q).cells 35 :: blk b [.slice (some ⟨ba, 0, none⟩) (lv :: r).length cap,w, .int .i64 la, .int .i64 n] 90 :: blk ba c 110 :: (G1 ++ (G2 ++ (H1 ++ O)))) (fun x => by
        have h1 := hp x
        simp only [List.append_eq, cnt_append, cnt_cons, cnt_nil, blk] at h1 ⊢
        omega) ?_
      have g1 := g1'
      (refine run_skip ?_; refine then_normal ?_; refine run_block ?_; refine run_seq ?_; refine run_region ?_; (iterate 2 refine xep rfl rfl ?_); refine xel rfl (ev_loadK rfl rfl (sc rfl) (memF (.tail _ (.head _))) rfl) ?_; refine xel rfl (ev_indexAddr rfl rfl rfl (se rfl) (by omega) (by omega)) ?_; refine xel rfl (ev_load rfl rfl (sc rfl) (memF (.tail _ (.tail _ (.head _)))) g1) ?_)
      refine runL_ev rfl rfl rfl rfl (ev_callQ rfl rfl rfl (pf rfl) (sp_lprice _ bi lv.p lv.es (hG1.in fun x m => by simp [m]))) ?_
      (refine xep rfl rfl ?_; refine runL_nil ?_; refine then_normal ?_; refine run_seq ?_)
      clear g1
      refine RunC.perm (h' := G1 ++ (blk b3 (wq o q).cells 35 :: blk b [.slice (some ⟨ba, 0, none⟩) (lv :: r).length cap,w, .int .i64 la, .int .i64 n] 90 :: blk ba c 110 :: (G2 ++ (H1 ++ O)))) (fun x => by (first | rfl | (simp only [List.append_eq, cnt_append, cnt_cons, cnt_nil, blk]; omega) | (simp only [List.append_eq, cnt_append, cnt_cons, cnt_nil, blk]; done))) ?_
      refine RunC.freezeR ?_
      have l1 : LoadsF ((blk b3 (wq o q).cells 35 :: blk b [.slice (some ⟨ba, 0, none⟩) (lv :: r).length cap,w, .int .i64 la, .int .i64 n] 90 :: blk ba c 110 :: (G2 ++ (H1 ++ O))) ++ F) b 0 (.slice (some ⟨ba, 0, none⟩) (lv :: r).length cap) := ⟨_, _, _, memF (.tail _ (.head _)), rfl⟩
      have l2 : LoadsF ((blk b3 (wq o q).cells 35 :: blk b [.slice (some ⟨ba, 0, none⟩) (lv :: r).length cap,w, .int .i64 la, .int .i64 n] 90 :: blk ba c 110 :: (G2 ++ (H1 ++ O))) ++ F) ba (0 + (0 : Int).toNat * 1) (.pointer (some ⟨bi, 0, none⟩)) := ⟨_, _, _, memF (.tail _ (.tail _ (.head _))), g1'⟩
      refine run_region_D mo ?_
      (refine runD_q 0 rfl rfl (by kernel_rfl) ?_; refine ⟨_, fun _ => ev_pure rfl, ?_⟩; refine runD_q 1 rfl rfl (by kernel_rfl) ?_; refine ⟨_, fun _ => ev_pure rfl, ?_⟩; refine runD_q 2 rfl rfl (by kernel_rfl) ?_; refine ⟨_, fun _ => ev_loadK rfl rfl (sc rfl) (memR (memF (.tail _ (.head _)))) rfl, ?_⟩; refine runD_q 3 rfl rfl (by kernel_rfl) ?_; refine ⟨_, fun _ => ev_indexAddr rfl rfl rfl (se rfl) (by omega) (by omega), ?_⟩; refine runD_q 4 rfl rfl (by kernel_rfl) ?_; refine ⟨_, fun _ => ev_loadF rfl rfl (sc rfl) l2, ?_⟩; refine runD_q 5 rfl rfl (by kernel_rfl) ?_; refine ⟨_, fun _ => ev_fieldAddr rfl rfl (fo rfl), ?_⟩; refine runD_q 6 rfl rfl (by kernel_rfl) ?_; refine ⟨_, fun _ => ev_loadK rfl rfl (sc rfl) (memR (memF (.head _))) rfl, ?_⟩; refine runD_q 7 rfl rfl (by kernel_rfl) ?_; refine ⟨_, fun _ => ev_fieldAddr rfl rfl (fo rfl), ?_⟩; refine runD_q 8 rfl rfl (by kernel_rfl) ?_; refine ⟨_, fun _ => ev_loadK rfl rfl (sc rfl) (memR (memF (.head _))) rfl, ?_⟩; refine runD_1 9 (by kernel_rfl) rfl rfl rfl ?_)
      refine runL_callZ [] G1 rfl rfl rfl rfl rfl rfl rfl (pf rfl) (fun x => by (first | rfl | (simp only [List.append_eq, cnt_append, cnt_cons, cnt_nil, blk]; omega) | (simp only [List.append_eq, cnt_append, cnt_cons, cnt_nil, blk]; done))) (sp_ltake _ G1 bi lv.p lv.es hG1 hlok.1 o.firm q (by unfold InI; omega) (by omega)) ?_
      rintro v2 _ ⟨a3, c3, A3, G1', rfl, own3, hG1', rfl⟩
      have hti := take_is (firm := o.firm) q.toNat q lv.es (Nat.le_refl _) g1 hlok.1
      have hun : matchL (wq o q) (lv :: r) la n = if (take o.firm q lv.es).2.1 = true then
          ⟨flls (wq o q) lv.p n (take o.firm q lv.es).1, q - sumH (take o.firm q lv.es).1, true, (if (take o.firm q lv.es).2.2 = [] then r else ⟨lv.p, (take o.firm q lv.es).2.2⟩ :: r), (if (take o.firm q lv.es).1 = [] then la else lv.p), n + (take o.firm q lv.es).1.length⟩
        else if (take o.firm q lv.es).2.2 = [] then
          (matchL (wq o (q - sumH (take o.firm q lv.es).1)) r (if (take o.firm q lv.es).1 = [] then la else lv.p) (n + (take o.firm q lv.es).1.length)).pre (flls (wq o q) lv.p n (take o.firm q lv.es).1)
        else ⟨flls (wq o q) lv.p n (take o.firm q lv.es).1, q - sumH (take o.firm q lv.es).1, false, ⟨lv.p, (take o.firm q lv.es).2.2⟩ :: r, (if (take o.firm q lv.es).1 = [] then la else lv.p), n + (take o.firm q lv.es).1.length⟩ := by
        conv => lhs; unfold matchL
        rw [if_pos ⟨hc.1, hc.2⟩]; rfl
      rw [hun] at hm
      clear hun
      generalize take o.firm q lv.es = T at *
      obtain ⟨hs, self, es2⟩ := T
      dsimp only at *
      obtain ⟨t1, t2, t3, t4, t5, t6, t7, t8⟩ := hti
      dsimp only at t1 t2 t3 t4 t5 t6 t7 t8
      obtain ⟨H0', hS', hp'⟩ := hset lv.p es2 G1' hG1'
      have hsp := fun k => sumH_part (l := hs) (fun x m => (t1 x m).1) k
      (refine runL_nil ?_; refine endS_d rfl ?_; refine runD_q 10 rfl rfl (by kernel_rfl) ?_; refine ⟨_, fun _ => ev_pure rfl, ?_⟩; refine runD_q 11 rfl rfl (by kernel_rfl) ?_; refine ⟨_, fun _ => ev_pure rfl, ?_⟩; refine runD_q 12 rfl rfl (by kernel_rfl) ?_; refine ⟨_, fun _ => ev_pure rfl, ?_⟩; refine runD_q 13 rfl rfl (by kernel_rfl) ?_; refine ⟨_, fun _ => ev_pure rfl, ?_⟩; refine runD_q 14 rfl rfl (by kernel_rfl) ?_; refine ⟨_, fun _ => ev_pure rfl, ?_⟩; refine runD_done (by kernel_rfl) ?_; refine then_normal ?_; (iterate 2 refine run_seq ?_); refine run_region ?_; refine xep rfl rfl ?_; refine xel rfl (ev_len rfl rfl (se rfl)) ?_; refine xep rfl rfl ?_; refine runL_nil ?_; refine then_normal ?_; refine run_block ?_)
      refine run_loopK (σ := Nat × (Option Addr × Nat × Heap)) [0, 3, 7, 8, 9, 11, 56, 57, 58] (fun s => [(0, .pointer (some ⟨b, 0, none⟩)), (3, .pointer (some ⟨b3, 0, none⟩)), (7, .slice s.2.1 (out ++ flls (wq o q) lv.p n (hs.take s.1)).length s.2.2.1), (8, .pointer (some ⟨b, 0, none⟩)), (9, .int .i64 lv.p), (11, .bool self), (56, .slice a3 hs.length c3), (57, .int .i64 hs.length), (58, .int .i64 s.1)])
        (fun s => blk b3 (wq o (q - sumH (hs.take s.1))).cells 35 :: blk b [.slice (some ⟨ba, 0, none⟩) (lv :: r).length cap,w, .int .i64 (if s.1 = 0 then la else lv.p), .int .i64 (n + (s.1 : Nat))] 90 :: (A3 ++ (s.2.2.2 ++ (blk ba c 110 :: (G1' ++ (G2 ++ H1))))))
        (fun s => s.1 ≤ hs.length ∧ OwnS 93 21 (.slice s.2.1 (out ++ flls (wq o q) lv.p n (hs.take s.1)).length s.2.2.1) (out ++ flls (wq o q) lv.p n (hs.take s.1)).length (rows fcell (out ++ flls (wq o q) lv.p n (hs.take s.1))) s.2.2.2) (fun s => hs.length - s.1) (0, ao, co, O) ⟨Nat.zero_le _, by show OwnS _ _ (.slice ao (out ++ flls (wq o q) lv.p n []).length co) (out ++ flls (wq o q) lv.p n []).length (rows fcell (out ++ flls (wq o q) lv.p n [])) _; rw [show out ++ flls (wq o q) lv.p n [] = out from List.append_nil _]; exact own⟩ (by simp only [List.take_zero, flls, List.append_nil]; rfl) (fun x => by
          show _ = cnt x (blk b3 (wq o (q - 0)).cells 35 :: blk b [.slice (some ⟨ba, 0, none⟩) (lv :: r).length cap,w, .int .i64 la, .int .i64 (n + (0 : Nat))] 90 :: (A3 ++ (O ++ (blk ba c 110 :: (G1' ++ (G2 ++ H1))))))
          simp only [Int.sub_zero, Int.natCast_zero, Int.add_zero]
          (first | rfl | (simp only [List.append_eq, cnt_append, cnt_cons, cnt_nil, blk]; omega) | (simp only [List.append_eq, cnt_append, cnt_cons, cnt_nil, blk]; done))) ?_
      rintro ⟨k, ak, ck, Ok⟩ ⟨gk, ownk⟩
      dsimp only at gk ownk ⊢
      have hk1 := hsp k
      have hwk : (wq o (q - sumH (hs.take k))).qty = q - sumH (hs.take k) := rfl
      (refine run_seq ?_; refine run_region ?_; refine xep rfl rfl ?_; refine runL_nil ?_; refine then_normal ?_; refine run_seq ?_)
      (refine run_cond rfl (fun hc => ?_) (fun hc => ?_) <;> (try simp only [z0, z1, z2, z3, z4, z5, z6, z7, z8, z9, Bool.not_true, Bool.not_false, Bool.false_or, Bool.true_and, true_and, and_true, false_or, or_false, reduceCtorEq, Bool.false_eq_true] at hc))
      · obtain ⟨b4, rest4, c4, hv4, hA4, hl4, hr4, hk4⟩ := own3.pos (by omega)
        cases hv4
        obtain ⟨h, hh⟩ : ∃ h, hs[k]? = some h := ⟨hs[k]'(by omega), List.getElem?_eq_getElem _⟩
        have hh1 := t1 h (List.mem_of_getElem? hh)
        have hst := sumH_take hh
        have hk2 := hsp (k + 1)
        have r1 : RowAt (rows hcell hs ++ rest4) (0 + (k : Int).toNat * 10) (hcell h) := by
          rw [Nat.zero_add]; exact rows_at hcell_len hh rest4
        rw [hA4]
        (refine run_skip ?_; refine then_normal ?_; refine run_seq ?_; refine run_block ?_; refine run_seq ?_; refine run_region ?_; refine xel rfl (ev_indexAddr rfl rfl rfl (se rfl) (by omega) (by omega)) ?_; refine xel rfl (ev_loadAR rfl rfl (ag rfl) (sz rfl) (memF (.tail _ (.tail _ (.head _)))) r1 rfl) ?_; refine runL_alloc rfl rfl rfl rfl rfl ze84 (fun _ => ?_); refine runL_store0 rfl rfl rfl rfl rfl (sz rfl) rfl rfl rfl rfl rfl ?_; refine runL_nil ?_; refine then_normal ?_; refine run_seq ?_; refine run_region ?_; (iterate 2 refine xep rfl rfl ?_); refine xel rfl (ev_fieldAddr rfl rfl (fo rfl)) ?_; refine xel rfl (ev_loadK rfl rfl (sc rfl) (memF (.tail _ (.tail _ (.head _)))) rfl) ?_; refine xel rfl (ev_add rfl rfl rfl (by omega)) ?_; refine xep rfl rfl ?_; refine xel rfl (ev_fieldAddr rfl rfl (fo rfl)) ?_; refine runL_store2 rfl rfl rfl rfl rfl (sz rfl) rfl rfl rfl rfl rfl ?_; refine runL_nil ?_; refine then_normal ?_; refine run_seq ?_; refine run_region ?_; (iterate 3 refine xep rfl rfl ?_); refine xel rfl (ev_fieldAddr rfl rfl (fo rfl)) ?_; refine runL_store2 rfl rfl rfl rfl rfl (sz rfl) rfl rfl rfl rfl rfl ?_; refine runL_nil ?_; refine then_normal ?_; refine run_seq ?_)
        rename_i b13
        obtain ⟨AA, hAA⟩ : ∃ AA, AA = blk b13 (hcell h) 84 :: blk b3 (wq o (q - sumH (hs.take k))).cells 35 :: blk b [.slice (some ⟨ba, 0, none⟩) (lv :: r).length cap,w, .int .i64 lv.p, .int .i64 (n + k + 1)] 90 :: blk b4 (rows hcell hs ++ rest4) 84 :: (blk ba c 110 :: (G1' ++ (G2 ++ H1))) := ⟨_, rfl⟩
        refine RunC.perm (h' := Ok ++ AA) (fun x => by rw [hAA]; simp only [List.append_eq, cnt_append, cnt_cons, cnt_nil, blk, hcell, Ord.cells, wq]; omega) ?_
        refine RunC.freezeR ?_
        have l0 : AggF (AA ++ F) b13 0 (hcell h) := ⟨_, _, _, by rw [hAA]; exact memF (.head _), by simp, rfl⟩
        have l1 := l0.sub (j := 0) (n := 9) (l' := h.1.cells) rfl
        have l2 := l0.at 9 _ rfl
        have l3 : AggF (AA ++ F) b3 0 (wq o (q - sumH (hs.take k))).cells := ⟨_, _, _, by rw [hAA]; exact memF (.tail _ (.head _)), by simp, rfl⟩
        have l4 : LoadsF (AA ++ F) b (0 + 3) (.int .i64 (n + k + 1)) := ⟨_, _, _, by rw [hAA]; exact memF (.tail _ (.tail _ (.head _))), rfl⟩
        have hfl := flls_len (wq o q) lv.p n (hs.take k)
        rw [List.length_take] at hfl
        have hfl2 : (out ++ flls (wq o q) lv.p n (hs.take k)).length = out.length + k := by rw [List.length_append, hfl]; omega
        refine run_region_D mo ?_
        (refine runD_q 0 rfl rfl (by kernel_rfl) ?_; refine ⟨_, fun _ => ev_pure rfl, ?_⟩; refine runD_q 1 rfl rfl (by kernel_rfl) ?_; refine ⟨_, fun _ => ev_fieldAddr rfl rfl (fo rfl), ?_⟩; refine runD_q 2 rfl rfl (by kernel_rfl) ?_; refine ⟨_, fun _ => ev_loadAF rfl rfl (ag rfl) (sz rfl) l1 rfl, ?_⟩; refine runD_q 3 rfl rfl (by kernel_rfl) ?_; refine ⟨_, fun _ => ev_loadAF rfl rfl (ag rfl) (sz rfl) l3 rfl, ?_⟩; refine runD_q 4 rfl rfl (by kernel_rfl) ?_; refine ⟨_, fun _ => ev_pure rfl, ?_⟩; refine runD_q 5 rfl rfl (by kernel_rfl) ?_; refine ⟨_, fun _ => ev_fieldAddr rfl rfl (fo rfl), ?_⟩; refine runD_q 6 rfl rfl (by kernel_rfl) ?_; refine ⟨_, fun _ => ev_loadF rfl rfl (sc rfl) l2, ?_⟩; refine runD_q 7 rfl rfl (by kernel_rfl) ?_; refine ⟨_, fun _ => ev_pure rfl, ?_⟩; refine runD_q 8 rfl rfl (by kernel_rfl) ?_; refine ⟨_, fun _ => ev_pure rfl, ?_⟩; refine runD_q 9 rfl rfl (by kernel_rfl) ?_; refine ⟨_, fun _ => ev_fieldAddr rfl rfl (fo rfl), ?_⟩; refine runD_q 10 rfl rfl (by kernel_rfl) ?_; refine ⟨_, fun _ => ev_loadF rfl rfl (sc rfl) l4, ?_⟩; refine runD_q 11 rfl rfl (by kernel_rfl) ?_; refine ⟨_, fun _ => ev_build rfl pl93 rfl, ?_⟩; refine runD_1 12 (by kernel_rfl) rfl rfl rfl ?_)
        refine runL_buildSlice (l := fcell (Fl.mk h.1 (wq o (q - sumH (hs.take k))) lv.p h.2 (n + k + 1))) rfl rfl rfl rfl rfl (se rfl) ze93 rfl rfl rfl rfl rfl (fun b14 => ?_)
        (refine runL_nil ?_; refine endS_d rfl ?_; refine runD_1 13 (by kernel_rfl) rfl rfl rfl ?_)
        refine runL_append (sl := fcell (Fl.mk h.1 (wq o (q - sumH (hs.take k))) lv.p h.2 (n + k + 1))) [blk b14 (fcell (Fl.mk h.1 (wq o (q - sumH (hs.take k))) lv.p h.2 (n + k + 1))) 93] rfl rfl rfl rfl rfl rfl rfl (se rfl) (se rfl) ze93 rfl (byt rfl) ownk (fun y => by (first | rfl | (simp only [List.append_eq, cnt_append, cnt_cons, cnt_nil, blk]; omega) | (simp only [List.append_eq, cnt_append, cnt_cons, cnt_nil, blk]; done))) ⟨rfl, .inr ⟨b14, 0, _, _, _, rfl, memF (.head _), by simp [fcell], rfl⟩⟩ rfl (by decide) (by decide) (by omega) ?_
        rintro v' A' own'
        have own2 := own'.snoc (f := fcell) (x := (Fl.mk h.1 (wq o (q - sumH (hs.take k))) lv.p h.2 (n + k + 1))) rfl
        have htk : hs.take (k + 1) = hs.take k ++ [h] := by rw [List.take_succ_eq_append_getElem (List.getElem?_eq_some_iff.1 hh).1, (List.getElem?_eq_some_iff.1 hh).2]
        have efs : (out ++ flls (wq o q) lv.p n (hs.take k)) ++ [(Fl.mk h.1 (wq o (q - sumH (hs.take k))) lv.p h.2 (n + k + 1))] = out ++ flls (wq o q) lv.p n (hs.take (k + 1)) := by
          rw [htk, flls_snoc, List.append_assoc, List.length_take, Nat.min_eq_left (by omega)]; rfl
        rw [efs] at own2
        obtain ⟨a5, c5, rfl, own5⟩ := own2.at
        (refine runL_nil ?_; refine endS_d rfl ?_; refine runD_q 14 rfl rfl (by kernel_rfl) ?_; refine ⟨_, fun _ => ev_pure rfl, ?_⟩; refine runD_done (by kernel_rfl) ?_; refine then_normal ?_; refine run_region ?_; refine xel rfl (ev_fieldAddr rfl rfl (fo rfl)) ?_)
        refine RunL.perm (h' := blk b3 (wq o (q - sumH (hs.take k))).cells 35 :: blk b13 (hcell h) 84 :: (blk b [.slice (some ⟨ba, 0, none⟩) (lv :: r).length cap,w, .int .i64 lv.p, .int .i64 (n + k + 1)] 90 :: blk b4 (rows hcell hs ++ rest4) 84 :: (blk ba c 110 :: (G1' ++ (G2 ++ H1))) ++ (A' ++ [blk b14 (fcell (Fl.mk h.1 (wq o (q - sumH (hs.take k))) lv.p h.2 (n + k + 1))) 93]))) (fun x => by rw [hAA]; (first | rfl | (simp only [List.append_eq, cnt_append, cnt_cons, cnt_nil, blk]; omega) | (simp only [List.append_eq, cnt_append, cnt_cons, cnt_nil, blk]; done))) ?_
        (refine xel rfl (ev_loadK rfl rfl (sc rfl) (memF (.head _)) rfl) ?_; refine xel rfl (ev_fieldAddr rfl rfl (fo rfl)) ?_; refine xel rfl (ev_loadK rfl rfl (sc rfl) (memF (.tail _ (.head _))) rfl) ?_; refine xel rfl (ev_sub rfl rfl rfl (by omega)) ?_; refine xel rfl (ev_fieldAddr rfl rfl (fo rfl)) ?_; refine runL_store0 rfl rfl rfl rfl rfl (sz rfl) rfl rfl rfl rfl rfl ?_; refine runL_nil ?_; refine in_normal ?_; refine then_normal ?_; refine run_region ?_; refine xel rfl (ev_add rfl rfl rfl (by omega)) ?_; refine xep rfl rfl ?_; refine runL_nil ?_; refine then_normal ?_)
        have e1 : q - sumH (hs.take (k + 1)) = q - sumH (hs.take k) - h.2 := by omega
        refine ⟨(k + 1, a5, c5, A'), ⟨by show k + 1 ≤ _; omega, own5⟩, by show hs.length - (k + 1) < hs.length - k; omega, rfl, [blk b13 (hcell h) 84, blk b14 (fcell (Fl.mk h.1 (wq o (q - sumH (hs.take k))) lv.p h.2 (n + k + 1))) 93], fun x => ?_⟩
        dsimp only
        rw [e1, if_neg (Nat.succ_ne_zero k), show n + ((k + 1 : Nat) : Int) = n + k + 1 by push_cast; omega]
        simp only [List.append_eq, cnt_append, cnt_cons, cnt_nil, blk, hcell, Ord.cells, wq]
        omega
      · have : k = hs.length := by omega
        subst this
        (refine run_exit ?_; (iterate 2 refine then_exit ?_); refine in_exit ?_; refine then_normal ?_)
        simp only [List.take_length] at ownk ⊢
        rw [show (if hs.length = 0 then la else lv.p) = (if hs = [] then la else lv.p) by cases hs <;> simp]
        have hll := lenL_ge hok
        have hq3 : (out ++ flls (wq o q) lv.p n hs).length = out.length + hs.length := by rw [List.length_append, flls_len]
        (refine run_seq ?_; refine run_region ?_; refine xep rfl rfl ?_)
        refine runL_callZ (blk b3 (wq o (q - sumH hs)).cells 35 :: (A3 ++ Ok)) (blk b [.slice (some ⟨ba, 0, none⟩) (lv :: r).length cap,w, .int .i64 (if hs = [] then la else lv.p), .int .i64 (n + hs.length)] 90 :: (H0' ++ H1)) rfl rfl rfl rfl rfl rfl rfl (pf rfl) (fun x => by
          have h1 := hp' x
          simp only [List.append_eq, cnt_append, cnt_cons, cnt_nil, blk] at h1 ⊢
          omega) (sp_swept1 _ H0' H1 b w _ _ _ _ hS' (by rw [List.length_set]; omega) 0 ⟨lv.p, es2⟩ rfl) ?_
        rintro v3 _ ⟨v', H0'', hS2, rfl⟩
        have hS3 : SdH v' (if es2 = [] then r else ⟨lv.p, es2⟩ :: r) H0'' := hS2
        clear hS2
        have hlen2 : lenL (lv :: r) = lv.es.length + lenL r := rfl
        (refine runL_nil ?_; refine then_normal ?_; refine run_seq ?_; refine run_region ?_; refine xep rfl rfl ?_; refine runL_nil ?_; refine then_normal ?_)
        cases self with
        | true =>
          rw [if_pos rfl] at hm
          refine run_condT rfl rfl ?_
          (refine run_seq ?_; refine run_region_draw mo (by kernel_rfl) ?_; refine xqp rfl rfl ?_; refine xql rfl (ev_fieldAddr rfl rfl (fo rfl)) ?_; refine xql rfl (ev_loadK rfl rfl (sc rfl) (memF (.head _)) rfl) ?_; (iterate 3 refine xqp rfl rfl ?_); refine runQ_nil ?_; refine then_normal ?_; refine run_ret ?_; refine in_ret ?_; refine then_ret ?_; refine in_ret ?_; refine then_ret ?_)
          rw [hm]
          exact ⟨_, rfl, blk b [v',w, .int .i64 (if hs = [] then la else lv.p), .int .i64 (n + hs.length)] 90 :: (H0'' ++ H1) ++ Ok, blk b3 (wq o (q - sumH hs)).cells 35 :: A3, ⟨ak, ck, Ok, v', H0'', rfl, ownk, hS3, rfl⟩, fun x => by (first | rfl | (simp only [List.append_eq, cnt_append, cnt_cons, cnt_nil, blk]; omega) | (simp only [List.append_eq, cnt_append, cnt_cons, cnt_nil, blk]; done))⟩
        | false =>
          rw [if_neg (by simp)] at hm
          refine run_condF rfl rfl ?_
          (refine run_skip ?_; refine in_normal ?_; refine then_normal ?_)
          by_cases he : es2 = []
          · rw [if_pos he] at hm hS3
            refine ⟨((q - sumH hs, r, (if hs = [] then la else lv.p), n + hs.length, (out ++ flls (wq o q) lv.p n hs)), (ak, ck, Ok), (v', H0'')), ⟨hS3, hok', by show lenL r ≤ 64; omega, by show 0 ≤ q - sumH hs; omega, by show q - sumH hs + (((out ++ flls (wq o q) lv.p n hs).length : Nat) : Int) ≤ _; omega, by show 0 ≤ n + (hs.length : Int); omega, by show n + (hs.length : Int) + (q - sumH hs) ≤ _; omega, ownk, ?_⟩, ?_, rfl, A3, fun x => by (first | rfl | (simp only [List.append_eq, cnt_append, cnt_cons, cnt_nil, blk]; omega) | (simp only [List.append_eq, cnt_append, cnt_cons, cnt_nil, blk]; done))⟩
            · rw [hm]; show MR.pre _ (MR.pre _ _) = _; unfold MR.pre; simp only [List.append_assoc]
            · show 2 * r.length + (if 0 < q - sumH hs then 1 else 0) < 2 * (r.length + 1) + (if 0 < q then 1 else 0)
              split <;> omega
          · rw [if_neg he] at hm hS3
            have hq0 : sumH hs = q := (t6 rfl).resolve_right he
            refine ⟨((q - sumH hs, ⟨lv.p, es2⟩ :: r, (if hs = [] then la else lv.p), n + hs.length, (out ++ flls (wq o q) lv.p n hs)), (ak, ck, Ok), (v', H0'')), ⟨hS3, fun x m => ?_, by show es2.length + lenL r ≤ 64; omega, by show 0 ≤ q - sumH hs; omega, by show q - sumH hs + (((out ++ flls (wq o q) lv.p n hs).length : Nat) : Int) ≤ _; omega, by show 0 ≤ n + (hs.length : Int); omega, by show n + (hs.length : Int) + (q - sumH hs) ≤ _; omega, ownk, ?_⟩, ?_, rfl, A3, fun x => by (first | rfl | (simp only [List.append_eq, cnt_append, cnt_cons, cnt_nil, blk]; omega) | (simp only [List.append_eq, cnt_append, cnt_cons, cnt_nil, blk]; done))⟩
            · rcases List.mem_cons.1 m with rfl | m
              · exact ⟨t7, he⟩
              · exact hok' x m
            · rw [hm, matchL_zero _ _ _ _ (by show ¬ 0 < q - sumH hs; omega)]
              unfold MR.pre; simp only [List.append_nil]; rfl
            · show 2 * (r.length + 1) + (if 0 < q - sumH hs then 1 else 0) < 2 * (r.length + 1) + (if 0 < q then 1 else 0)
              rw [if_neg (by omega), if_pos hq9]; omega
    · have hend : matchL (wq o q) lv0 la n = ⟨[], q, false, lv0, la, n⟩ := by
        by_cases h9 : 0 < q
        · cases lv0 with
          | nil => rfl
          | cons lv r =>
            unfold matchL
            rw [if_neg (fun h8 => hc ⟨h9, h8.2⟩)]; rfl
        · exact matchL_zero _ _ _ _ h9
      refine run_condF rfl (by
        by_cases h9 : 0 < q
        · have : meets (wq o q) lv0 = false := by simpa using fun h8 => hc ⟨h9, h8⟩
          rw [this, decide_eq_true h9]; rfl
        · rw [decide_eq_false h9]; rfl) ?_
      (refine run_exit ?_; (iterate 2 refine then_exit ?_); refine in_exit ?_; refine then_normal ?_; refine run_seq ?_; refine run_region_draw mo (by kernel_rfl) ?_; refine xqp rfl rfl ?_; refine xql rfl (ev_fieldAddr rfl rfl (fo rfl)) ?_; refine xql rfl (ev_loadK rfl rfl (sc rfl) (memF (.head _)) rfl) ?_; (iterate 3 refine xqp rfl rfl ?_); refine runQ_nil ?_; refine then_normal ?_; refine run_ret ?_)
      rw [hend] at hm
      rw [hm]
      exact ⟨_, rfl, blk b [v,w, .int .i64 la, .int .i64 n] 90 :: (H0 ++ H1) ++ O, [blk b3 (wq o q).cells 35], ⟨ao, co, O, v, H0, by simp only [MR.pre, List.append_nil]; rfl, by simp only [MR.pre, List.append_nil]; exact own, h0, rfl⟩, fun x => by (first | rfl | (simp only [List.append_eq, cnt_append, cnt_cons, cnt_nil, blk]; omega) | (simp only [List.append_eq, cnt_append, cnt_cons, cnt_nil, blk]; done))⟩
theorem sp_bmatch2 (F H0 H1 : Heap) (b : Nat) (w v : Value) (last no : Int) (l : List Lv) (h0 : SdH v l H0) (hok : ∀ lv ∈ l, lv.Ok) (h64 : lenL l ≤ 64) (o : Ord) (hs : 3 - o.side = 2) (hq : 0 ≤ o.qty) (hq2 : o.qty ≤ 1048576) (hn : 0 ≤ no) (hn2 : no ≤ 1099511627776) :
    Sp Tryz.prog F 77 [.pointer (some ⟨b, 0, none⟩), ov o] (blk b [w,v, .int .i64 last, .int .i64 no] 90 :: (H0 ++ H1)) (fun r h' => ∃ a c A v' H0', r = .tuple #[.slice a (matchL o l last no).fs.length c, .int .i64 (matchL o l last no).qty, .bool (matchL o l last no).self] ∧
      OwnS 93 21 (.slice a (matchL o l last no).fs.length c) (matchL o l last no).fs.length (rows fcell (matchL o l last no).fs) A ∧ SdH v' (matchL o l last no).lvs H0' ∧
      h' = blk b [w,v', .int .i64 (matchL o l last no).last, .int .i64 (matchL o l last no).no] 90 :: (H0' ++ H1) ++ A) := by
  have q1 : ∀ F, Sp Tryz.prog F 89 [.pointer (some ⟨b, 0, none⟩), ov o] [] (Ret (.pointer (some ⟨b, 1, none⟩))) := by
    intro F
    have := sp_bagainst F b o (by omega)
    rw [hs] at this; exact this
  refine Sp.up ?_
  refine sp_of_code Tryz.func77 rfl rfl ?_
  (refine run_seq ?_; refine run_region ?_; refine runL_box rfl rfl rfl rfl rfl rfl (fun _ => ?_); (iterate 3 refine xep rfl rfl ?_); refine runL_nil ?_; refine then_normal ?_; refine run_seq ?_; refine run_region ?_; refine xep rfl rfl ?_; refine runL_nil ?_; refine then_normal ?_; refine run_seq ?_; refine run_region ?_; refine xep rfl rfl ?_; refine xel rfl (ev_loadAK rfl rfl (ag rfl) (sz rfl) (memF (.head _)) rfl) ?_; refine xel rfl (ev_callQ rfl rfl rfl (pf rfl) (q1 ..)) ?_; refine xep rfl rfl ?_; refine runL_nil ?_; refine then_normal ?_; refine run_seq ?_; refine run_block ?_)
  rename_i b3
  refine run_loopK (σ := (Int × List Lv × Int × Int × List Fl) × (Option Addr × Nat × Heap) × (Value × Heap)) [0, 3, 7, 8]
    (fun s => [(0, .pointer (some ⟨b, 0, none⟩)), (3, .pointer (some ⟨b3, 0, none⟩)), (7, .slice s.2.1.1 s.1.2.2.2.2.length s.2.1.2.1), (8, .pointer (some ⟨b, 1, none⟩))])
    (fun s => blk b3 (wq o s.1.1).cells 35 :: blk b [w,s.2.2.1, .int .i64 s.1.2.2.1, .int .i64 s.1.2.2.2.1] 90 :: (s.2.2.2 ++ (H1 ++ s.2.1.2.2)))
    (fun s => SdH s.2.2.1 s.1.2.1 s.2.2.2 ∧ (∀ lv ∈ s.1.2.1, lv.Ok) ∧ lenL s.1.2.1 ≤ 64 ∧ 0 ≤ s.1.1 ∧ s.1.1 + s.1.2.2.2.2.length ≤ 1048576 ∧ 0 ≤ s.1.2.2.2.1 ∧ s.1.2.2.2.1 + s.1.1 ≤ 1099512676352 ∧
      OwnS 93 21 (.slice s.2.1.1 s.1.2.2.2.2.length s.2.1.2.1) s.1.2.2.2.2.length (rows fcell s.1.2.2.2.2) s.2.1.2.2 ∧ matchL o l last no = (matchL (wq o s.1.1) s.1.2.1 s.1.2.2.1 s.1.2.2.2.1).pre s.1.2.2.2.2)
    (fun s => 2 * s.1.2.1.length + (if 0 < s.1.1 then 1 else 0)) ((o.qty, l, last, no, []), (none, 0, []), (v, H0)) ⟨h0, hok, h64, hq, by show o.qty + ((0 : Nat) : Int) ≤ _; omega, hn, by show no + o.qty ≤ _; omega, .nil _ _, rfl⟩ rfl (fun x => by
      show cnt x (blk b3 o.cells 35 :: _) = cnt x (blk b3 o.cells 35 :: blk b [w,v, .int .i64 last, .int .i64 no] 90 :: (H0 ++ (H1 ++ [])))
      (first | rfl | (simp only [List.append_eq, cnt_append, cnt_cons, cnt_nil, blk]; omega) | (simp only [List.append_eq, cnt_append, cnt_cons, cnt_nil, blk]; done))) ?_
  clear h0 hok h64
  rintro ⟨⟨q, lv0, la, n, out⟩, ⟨ao, co, O⟩, ⟨v, H0⟩⟩ ⟨h0, hok, h64, g1, g2, g3, g4, own, hm⟩
  dsimp only at h0 hok h64 g1 g2 g3 g4 own hm ⊢
  have hwq : (wq o q).qty = q := rfl
  ((iterate 2 refine run_seq ?_))
  refine run_midO (σ := Unit) [0, 3, 7, 8] (fun _ => [(36, .bool (decide (0 < q) && meets (wq o q) lv0))]) (fun _ => blk b3 (wq o q).cells 35 :: blk b [w,v, .int .i64 la, .int .i64 n] 90 :: (H0 ++ (H1 ++ O))) (fun _ => True) rfl ?_ ?_
  · obtain ⟨HH, hHH⟩ : ∃ HH, HH = blk b3 (wq o q).cells 35 :: blk b [w,v, .int .i64 la, .int .i64 n] 90 :: (H0 ++ (H1 ++ O)) := ⟨_, rfl⟩
    obtain ⟨av, cv, rfl, hcv⟩ := h0.lt
    have l1 : LoadsF (HH ++ F) b 1 (.slice av lv0.length cv) := ⟨_, _, _, by rw [hHH]; exact memF (.tail _ (.head _)), rfl⟩
    have l2 : AggF (HH ++ F) b3 0 (wq o q).cells := ⟨_, _, _, by rw [hHH]; exact memF (.head _), by simp, rfl⟩
    have l3 := l2.at 6 _ rfl
    rw [← hHH]
    refine RunC.freeze ?_
    by_cases k5 : 0 < q
    · have hgd : decide (0 < (wq o q).qty) = true := decide_eq_true k5
      match lv0, h0, hok, hcv, l1 with
      | [], h0, hok, hcv, l1 =>
        have hge : (decide (0 < (wq o q).qty) && decide ((0 : Int) < ((([] : List Lv).length : Nat) : Int))) = false := by rw [hgd]; rfl
        refine run_region_D mo ?_
        (refine runD_q 0 rfl rfl (by kernel_rfl) ?_; refine ⟨_, fun _ => ev_fieldAddr rfl rfl (fo rfl), ?_⟩; refine runD_q 1 rfl rfl (by kernel_rfl) ?_; refine ⟨_, fun _ => ev_loadF rfl rfl (sc rfl) l3, ?_⟩; refine runD_q 2 rfl rfl (by kernel_rfl) ?_; refine ⟨_, fun _ => ev_pure rfl, ?_⟩; refine runD_q 3 rfl rfl (by kernel_rfl) ?_; refine ⟨_, fun _ => ev_pure rfl, ?_⟩; refine runD_gq 4 rfl rfl rfl rfl rfl rfl hgd (by kernel_rfl) ?_; refine ⟨_, fun _ => ev_pure rfl, ?_⟩; refine runD_gq 5 rfl rfl rfl rfl rfl rfl hgd (by kernel_rfl) ?_; refine ⟨_, fun _ => ev_pure rfl, ?_⟩; refine runD_gq 6 rfl rfl rfl rfl rfl rfl hgd (by kernel_rfl) ?_; refine ⟨_, fun _ => ev_loadF rfl rfl (sc rfl) l1, ?_⟩; refine runD_gq 7 rfl rfl rfl rfl rfl rfl hgd (by kernel_rfl) ?_; refine ⟨_, fun _ => ev_len rfl rfl (se rfl), ?_⟩; refine runD_gq 8 rfl rfl rfl rfl rfl rfl hgd (by kernel_rfl) ?_; refine ⟨_, fun _ => ev_pure rfl, ?_⟩; refine runD_q 9 rfl rfl (by kernel_rfl) ?_; refine ⟨_, fun _ => ev_pure rfl, ?_⟩; refine runD_q 10 rfl rfl (by kernel_rfl) ?_; refine ⟨_, fun _ => ev_pure rfl, ?_⟩; refine runD_gn 11 rfl rfl rfl rfl rfl rfl hge (by kernel_rfl) ?_; refine runD_gn 12 rfl rfl rfl rfl rfl rfl hge (by kernel_rfl) ?_; refine runD_gn 13 rfl rfl rfl rfl rfl rfl hge (by kernel_rfl) ?_; refine runD_gn 14 rfl rfl rfl rfl rfl rfl hge (by kernel_rfl) ?_; refine runD_gn 15 rfl rfl rfl rfl rfl rfl hge (by kernel_rfl) ?_; refine runD_gn 16 rfl rfl rfl rfl rfl rfl hge (by kernel_rfl) ?_; refine runD_gn 17 rfl rfl rfl rfl rfl rfl hge (by kernel_rfl) ?_; refine runD_gn 18 rfl rfl rfl rfl rfl rfl hge (by kernel_rfl) ?_; refine runD_q 19 rfl rfl (by kernel_rfl) ?_; refine ⟨_, fun _ => ev_pickF rfl rfl hge rfl, ?_⟩; refine runD_done (by kernel_rfl) ?_)
        exact midN () [] trivial (by rw [show meets (wq o q) [] = false from rfl, decide_eq_true k5]; rfl) (fun x => by (first | rfl | (simp only [List.append_eq, cnt_append, cnt_cons, cnt_nil, blk]; omega) | (simp only [List.append_eq, cnt_append, cnt_cons, cnt_nil, blk]; done)))
      | lv :: r, h0, hok, hcv, l1 =>
        have hge : (decide (0 < (wq o q).qty) && decide ((0 : Int) < (((lv :: r).length : Nat) : Int))) = true := by rw [hgd, decide_eq_true (by simp)]; rfl
        have hin := h0.in (F := HH ++ F) fun x m => by rw [hHH]; simp [m]
        obtain ⟨_, _, bs, _, hv2, hsrc, hin⟩ := hin
        cases hv2
        obtain ⟨b2, off, bi, lv', rfl, hlv, l1', hi⟩ := SdIn.level (n := 0) (cap := 0) hsrc hin (i := 0) (by simp)
        simp only [List.getElem?_cons_zero, Option.some.injEq] at hlv
        subst hlv
        have l4 : LoadsF (HH ++ F) b2 (off + (0 : Int).toNat * 1) (.pointer (some ⟨bi, 0, none⟩)) := l1'
        have hlen0 : 0 < (lv :: r).length := by simp
        have q7 := fun G : Heap => sp_lprice (G ++ (HH ++ F)) bi lv.p lv.es (hi.mono fun x m => List.mem_append_right _ m)
        have q8 := fun F => sp_crosses F (wq o q) lv.p
        refine run_region_D mo ?_
        (refine runD_q 0 rfl rfl (by kernel_rfl) ?_; refine ⟨_, fun _ => ev_fieldAddr rfl rfl (fo rfl), ?_⟩; refine runD_q 1 rfl rfl (by kernel_rfl) ?_; refine ⟨_, fun _ => ev_loadF rfl rfl (sc rfl) l3, ?_⟩; refine runD_q 2 rfl rfl (by kernel_rfl) ?_; refine ⟨_, fun _ => ev_pure rfl, ?_⟩; refine runD_q 3 rfl rfl (by kernel_rfl) ?_; refine ⟨_, fun _ => ev_pure rfl, ?_⟩; refine runD_gq 4 rfl rfl rfl rfl rfl rfl hgd (by kernel_rfl) ?_; refine ⟨_, fun _ => ev_pure rfl, ?_⟩; refine runD_gq 5 rfl rfl rfl rfl rfl rfl hgd (by kernel_rfl) ?_; refine ⟨_, fun _ => ev_pure rfl, ?_⟩; refine runD_gq 6 rfl rfl rfl rfl rfl rfl hgd (by kernel_rfl) ?_; refine ⟨_, fun _ => ev_loadF rfl rfl (sc rfl) l1, ?_⟩; refine runD_gq 7 rfl rfl rfl rfl rfl rfl hgd (by kernel_rfl) ?_; refine ⟨_, fun _ => ev_len rfl rfl (se rfl), ?_⟩; refine runD_gq 8 rfl rfl rfl rfl rfl rfl hgd (by kernel_rfl) ?_; refine ⟨_, fun _ => ev_pure rfl, ?_⟩; refine runD_q 9 rfl rfl (by kernel_rfl) ?_; refine ⟨_, fun _ => ev_pure rfl, ?_⟩; refine runD_q 10 rfl rfl (by kernel_rfl) ?_; refine ⟨_, fun _ => ev_pure rfl, ?_⟩; refine runD_gq 11 rfl rfl rfl rfl rfl rfl hge (by kernel_rfl) ?_; refine ⟨_, fun _ => ev_loadAF rfl rfl (ag rfl) (sz rfl) l2 rfl, ?_⟩; refine runD_gq 12 rfl rfl rfl rfl rfl rfl hge (by kernel_rfl) ?_; refine ⟨_, fun _ => ev_pure rfl, ?_⟩; refine runD_gq 13 rfl rfl rfl rfl rfl rfl hge (by kernel_rfl) ?_; refine ⟨_, fun _ => ev_pure rfl, ?_⟩; refine runD_gq 14 rfl rfl rfl rfl rfl rfl hge (by kernel_rfl) ?_; refine ⟨_, fun _ => ev_loadF rfl rfl (sc rfl) l1, ?_⟩; refine runD_gq 15 rfl rfl rfl rfl rfl rfl hge (by kernel_rfl) ?_; refine ⟨_, fun _ => ev_indexAddr rfl rfl rfl (se rfl) (by omega) (by omega), ?_⟩; refine runD_gq 16 rfl rfl rfl rfl rfl rfl hge (by kernel_rfl) ?_; refine ⟨_, fun _ => ev_loadF rfl rfl (sc rfl) l4, ?_⟩; refine runD_gq 17 rfl rfl rfl rfl rfl rfl hge (by kernel_rfl) ?_; refine ⟨_, fun _ => ev_callQ rfl rfl rfl (pf rfl) (q7 ..), ?_⟩; refine runD_gq 18 rfl rfl rfl rfl rfl rfl hge (by kernel_rfl) ?_; refine ⟨_, fun _ => ev_callQ rfl rfl rfl (pf rfl) (q8 ..), ?_⟩; refine runD_q 19 rfl rfl (by kernel_rfl) ?_; refine ⟨_, fun _ => ev_pure rfl, ?_⟩; refine runD_done (by kernel_rfl) ?_)
        exact midN () [] trivial (by rw [show meets (wq o q) (lv :: r) = crosses (wq o q) lv.p from rfl, hge, decide_eq_true k5]; rfl) (fun x => by (first | rfl | (simp only [List.append_eq, cnt_append, cnt_cons, cnt_nil, blk]; omega) | (simp only [List.append_eq, cnt_append, cnt_cons, cnt_nil, blk]; done)))
    · have hgd : decide (0 < (wq o q).qty) = false := decide_eq_false k5
      have hge : false = false := rfl
      refine run_region_D mo ?_
      (refine runD_q 0 rfl rfl (by kernel_rfl) ?_; refine ⟨_, fun _ => ev_fieldAddr rfl rfl (fo rfl), ?_⟩; refine runD_q 1 rfl rfl (by kernel_rfl) ?_; refine ⟨_, fun _ => ev_loadF rfl rfl (sc rfl) l3, ?_⟩; refine runD_q 2 rfl rfl (by kernel_rfl) ?_; refine ⟨_, fun _ => ev_pure rfl, ?_⟩; refine runD_q 3 rfl rfl (by kernel_rfl) ?_; refine ⟨_, fun _ => ev_pure rfl, ?_⟩; refine runD_gn 4 rfl rfl rfl rfl rfl rfl hgd (by kernel_rfl) ?_; refine runD_gn 5 rfl rfl rfl rfl rfl rfl hgd (by kernel_rfl) ?_; refine runD_gn 6 rfl rfl rfl rfl rfl rfl hgd (by kernel_rfl) ?_; refine runD_gn 7 rfl rfl rfl rfl rfl rfl hgd (by kernel_rfl) ?_; refine runD_gn 8 rfl rfl rfl rfl rfl rfl hgd (by kernel_rfl) ?_; refine runD_q 9 rfl rfl (by kernel_rfl) ?_; refine ⟨_, fun _ => ev_pickF rfl rfl hgd rfl, ?_⟩; refine runD_q 10 rfl rfl (by kernel_rfl) ?_; refine ⟨_, fun _ => ev_pure rfl, ?_⟩; refine runD_gn 11 rfl rfl rfl rfl rfl rfl hge (by kernel_rfl) ?_; refine runD_gn 12 rfl rfl rfl rfl rfl rfl hge (by kernel_rfl) ?_; refine runD_gn 13 rfl rfl rfl rfl rfl rfl hge (by kernel_rfl) ?_; refine runD_gn 14 rfl rfl rfl rfl rfl rfl hge (by kernel_rfl) ?_; refine runD_gn 15 rfl rfl rfl rfl rfl rfl hge (by kernel_rfl) ?_; refine runD_gn 16 rfl rfl rfl rfl rfl rfl hge (by kernel_rfl) ?_; refine runD_gn 17 rfl rfl rfl rfl rfl rfl hge (by kernel_rfl) ?_; refine runD_gn 18 rfl rfl rfl rfl rfl rfl hge (by kernel_rfl) ?_; refine runD_q 19 rfl rfl (by kernel_rfl) ?_; refine ⟨_, fun _ => ev_pickF rfl rfl hge rfl, ?_⟩; refine runD_done (by kernel_rfl) ?_)
      exact midN () [] trivial (by rw [decide_eq_false k5]; rfl) (fun x => by (first | rfl | (simp only [List.append_eq, cnt_append, cnt_cons, cnt_nil, blk]; omega) | (simp only [List.append_eq, cnt_append, cnt_cons, cnt_nil, blk]; done)))
  · intro fr' h' hmid
    (refine then_normal ?_)
    refine midN_out hmid ?_
    rintro ⟨⟩ -
    by_cases hc : 0 < q ∧ meets (wq o q) lv0 = true
    · refine run_condT rfl (by rw [hc.2, decide_eq_true hc.1]; rfl) ?_
      match lv0, h0, hok, h64, hm, hc with
      | lv :: r, h0, hok, h64, hm, hc =>
      have hlok := hok lv (by simp)
      have hq9 := hc.1
      have hok' : ∀ lv ∈ r, lv.Ok := fun x m => hok x (List.mem_cons_of_mem _ m)
      obtain ⟨ba, c, cap, bi, G1, G2, rfl, hcap, gg1, hG1, hp, hset⟩ := h0.open (k := 0) (lv := lv) rfl
      have g1' : c[0 + (0 : Int).toNat * 1]? = some (.pointer (some ⟨bi, 0, none⟩)) := gg1
      have hl0 : 0 < (lv :: r).length := by simp
      refine RunC.perm (h' := blk b3 (wq o q).cells 35 :: blk b [w,.slice (some ⟨ba, 0, none⟩) (lv :: r).length cap, .int .i64 la, .int .i64 n] 90 :: blk ba c 110 :: (G1 ++ (G2 ++ (H1 ++ O)))) (fun x => by
        have h1 := hp x
        simp only [List.append_eq, cnt_append, cnt_cons, cnt_nil, blk] at h1 ⊢
        omega) ?_
      have g1 := g1'
      (refine run_skip ?_; refine then_normal ?_; refine run_block ?_; refine run_seq ?_; refine run_region ?_; (iterate 2 refine xep rfl rfl ?_); refine xel rfl (ev_loadK rfl rfl (sc rfl) (memF (.tail _ (.head _))) rfl) ?_; refine xel rfl (ev_indexAddr rfl rfl rfl (se rfl) (by omega) (by omega)) ?_; refine xel rfl (ev_load rfl rfl (sc rfl) (memF (.tail _ (.tail _ (.head _)))) g1) ?_)
      refine runL_ev rfl rfl rfl rfl (ev_callQ rfl rfl rfl (pf rfl) (sp_lprice _ bi lv.p lv.es (hG1.in fun x m => by simp [m]))) ?_
      (refine xep rfl rfl ?_; refine runL_nil ?_; refine then_normal ?_; refine run_seq ?_)
      clear g1
      refine RunC.perm (h' := G1 ++ (blk b3 (wq o q).cells 35 :: blk b [w,.slice (some ⟨ba, 0, none⟩) (lv :: r).length cap, .int .i64 la, .int .i64 n] 90 :: blk ba c 110 :: (G2 ++ (H1 ++ O)))) (fun x => by (first | rfl | (simp only [List.append_eq, cnt_append, cnt_cons, cnt_nil, blk]; omega) | (simp only [List.append_eq, cnt_append, cnt_cons, cnt_nil, blk]; done))) ?_
      refine RunC.freezeR ?_
      have l1 : LoadsF ((blk b3 (wq o q).cells 35 :: blk b [w,.slice (some ⟨ba, 0, none⟩) (lv :: r).length cap, .int .i64 la, .int .i64 n] 90 :: blk ba c 110 :: (G2 ++ (H1 ++ O))) ++ F) b 1 (.slice (some ⟨ba, 0, none⟩) (lv :: r).length cap) := ⟨_, _, _, memF (.tail _ (.head _)), rfl⟩
      have l2 : LoadsF ((blk b3 (wq o q).cells 35 :: blk b [w,.slice (some ⟨ba, 0, none⟩) (lv :: r).length cap, .int .i64 la, .int .i64 n] 90 :: blk ba c 110 :: (G2 ++ (H1 ++ O))) ++ F) ba (0 + (0 : Int).toNat * 1) (.pointer (some ⟨bi, 0, none⟩)) := ⟨_, _, _, memF (.tail _ (.tail _ (.head _))), g1'⟩
      refine run_region_D mo ?_
      (refine runD_q 0 rfl rfl (by kernel_rfl) ?_; refine ⟨_, fun _ => ev_pure rfl, ?_⟩; refine runD_q 1 rfl rfl (by kernel_rfl) ?_; refine ⟨_, fun _ => ev_pure rfl, ?_⟩; refine runD_q 2 rfl rfl (by kernel_rfl) ?_; refine ⟨_, fun _ => ev_loadK rfl rfl (sc rfl) (memR (memF (.tail _ (.head _)))) rfl, ?_⟩; refine runD_q 3 rfl rfl (by kernel_rfl) ?_; refine ⟨_, fun _ => ev_indexAddr rfl rfl rfl (se rfl) (by omega) (by omega), ?_⟩; refine runD_q 4 rfl rfl (by kernel_rfl) ?_; refine ⟨_, fun _ => ev_loadF rfl rfl (sc rfl) l2, ?_⟩; refine runD_q 5 rfl rfl (by kernel_rfl) ?_; refine ⟨_, fun _ => ev_fieldAddr rfl rfl (fo rfl), ?_⟩; refine runD_q 6 rfl rfl (by kernel_rfl) ?_; refine ⟨_, fun _ => ev_loadK rfl rfl (sc rfl) (memR (memF (.head _))) rfl, ?_⟩; refine runD_q 7 rfl rfl (by kernel_rfl) ?_; refine ⟨_, fun _ => ev_fieldAddr rfl rfl (fo rfl), ?_⟩; refine runD_q 8 rfl rfl (by kernel_rfl) ?_; refine ⟨_, fun _ => ev_loadK rfl rfl (sc rfl) (memR (memF (.head _))) rfl, ?_⟩; refine runD_1 9 (by kernel_rfl) rfl rfl rfl ?_)
      refine runL_callZ [] G1 rfl rfl rfl rfl rfl rfl rfl (pf rfl) (fun x => by (first | rfl | (simp only [List.append_eq, cnt_append, cnt_cons, cnt_nil, blk]; omega) | (simp only [List.append_eq, cnt_append, cnt_cons, cnt_nil, blk]; done))) (sp_ltake _ G1 bi lv.p lv.es hG1 hlok.1 o.firm q (by unfold InI; omega) (by omega)) ?_
      rintro v2 _ ⟨a3, c3, A3, G1', rfl, own3, hG1', rfl⟩
      have hti := take_is (firm := o.firm) q.toNat q lv.es (Nat.le_refl _) g1 hlok.1
      have hun : matchL (wq o q) (lv :: r) la n = if (take o.firm q lv.es).2.1 = true then
          ⟨flls (wq o q) lv.p n (take o.firm q lv.es).1, q - sumH (take o.firm q lv.es).1, true, (if (take o.firm q lv.es).2.2 = [] then r else ⟨lv.p, (take o.firm q lv.es).2.2⟩ :: r), (if (take o.firm q lv.es).1 = [] then la else lv.p), n + (take o.firm q lv.es).1.length⟩
        else if (take o.firm q lv.es).2.2 = [] then
          (matchL (wq o (q - sumH (take o.firm q lv.es).1)) r (if (take o.firm q lv.es).1 = [] then la else lv.p) (n + (take o.firm q lv.es).1.length)).pre (flls (wq o q) lv.p n (take o.firm q lv.es).1)
        else ⟨flls (wq o q) lv.p n (take o.firm q lv.es).1, q - sumH (take o.firm q lv.es).1, false, ⟨lv.p, (take o.firm q lv.es).2.2⟩ :: r, (if (take o.firm q lv.es).1 = [] then la else lv.p), n + (take o.firm q lv.es).1.length⟩ := by
        conv => lhs; unfold matchL
        rw [if_pos ⟨hc.1, hc.2⟩]; rfl
      rw [hun] at hm
      clear hun
      generalize take o.firm q lv.es = T at *
      obtain ⟨hs, self, es2⟩ := T
      dsimp only at *
      obtain ⟨t1, t2, t3, t4, t5, t6, t7, t8⟩ := hti
      dsimp only at t1 t2 t3 t4 t5 t6 t7 t8
      obtain ⟨H0', hS', hp'⟩ := hset lv.p es2 G1' hG1'
      have hsp := fun k => sumH_part (l := hs) (fun x m => (t1 x m).1) k
      (refine runL_nil ?_; refine endS_d rfl ?_; refine runD_q 10 rfl rfl (by kernel_rfl) ?_; refine ⟨_, fun _ => ev_pure rfl, ?_⟩; refine runD_q 11 rfl rfl (by kernel_rfl) ?_; refine ⟨_, fun _ => ev_pure rfl, ?_⟩; refine runD_q 12 rfl rfl (by kernel_rfl) ?_; refine ⟨_, fun _ => ev_pure rfl, ?_⟩; refine runD_q 13 rfl rfl (by kernel_rfl) ?_; refine ⟨_, fun _ => ev_pure rfl, ?_⟩; refine runD_q 14 rfl rfl (by kernel_rfl) ?_; refine ⟨_, fun _ => ev_pure rfl, ?_⟩; refine runD_done (by kernel_rfl) ?_; refine then_normal ?_; (iterate 2 refine run_seq ?_); refine run_region ?_; refine xep rfl rfl ?_; refine xel rfl (ev_len rfl rfl (se rfl)) ?_; refine xep rfl rfl ?_; refine runL_nil ?_; refine then_normal ?_; refine run_block ?_)
      refine run_loopK (σ := Nat × (Option Addr × Nat × Heap)) [0, 3, 7, 8, 9, 11, 56, 57, 58] (fun s => [(0, .pointer (some ⟨b, 0, none⟩)), (3, .pointer (some ⟨b3, 0, none⟩)), (7, .slice s.2.1 (out ++ flls (wq o q) lv.p n (hs.take s.1)).length s.2.2.1), (8, .pointer (some ⟨b, 1, none⟩)), (9, .int .i64 lv.p), (11, .bool self), (56, .slice a3 hs.length c3), (57, .int .i64 hs.length), (58, .int .i64 s.1)])
        (fun s => blk b3 (wq o (q - sumH (hs.take s.1))).cells 35 :: blk b [w,.slice (some ⟨ba, 0, none⟩) (lv :: r).length cap, .int .i64 (if s.1 = 0 then la else lv.p), .int .i64 (n + (s.1 : Nat))] 90 :: (A3 ++ (s.2.2.2 ++ (blk ba c 110 :: (G1' ++ (G2 ++ H1))))))
        (fun s => s.1 ≤ hs.length ∧ OwnS 93 21 (.slice s.2.1 (out ++ flls (wq o q) lv.p n (hs.take s.1)).length s.2.2.1) (out ++ flls (wq o q) lv.p n (hs.take s.1)).length (rows fcell (out ++ flls (wq o q) lv.p n (hs.take s.1))) s.2.2.2) (fun s => hs.length - s.1) (0, ao, co, O) ⟨Nat.zero_le _, by show OwnS _ _ (.slice ao (out ++ flls (wq o q) lv.p n []).length co) (out ++ flls (wq o q) lv.p n []).length (rows fcell (out ++ flls (wq o q) lv.p n [])) _; rw [show out ++ flls (wq o q) lv.p n [] = out from List.append_nil _]; exact own⟩ (by simp only [List.take_zero, flls, List.append_nil]; rfl) (fun x => by
          show _ = cnt x (blk b3 (wq o (q - 0)).cells 35 :: blk b [w,.slice (some ⟨ba, 0, none⟩) (lv :: r).length cap, .int .i64 la, .int .i64 (n + (0 : Nat))] 90 :: (A3 ++ (O ++ (blk ba c 110 :: (G1' ++ (G2 ++ H1))))))
          simp only [Int.sub_zero, Int.natCast_zero, Int.add_zero]
          (first | rfl | (simp only [List.append_eq, cnt_append, cnt_cons, cnt_nil, blk]; omega) | (simp only [List.append_eq, cnt_append, cnt_cons, cnt_nil, blk]; done))) ?_
      rintro ⟨k, ak, ck, Ok⟩ ⟨gk, ownk⟩
      dsimp only at gk ownk ⊢
      have hk1 := hsp k
      have hwk : (wq o (q - sumH (hs.take k))).qty = q - sumH (hs.take k) := rfl
      (refine run_seq ?_; refine run_region ?_; refine xep rfl rfl ?_; refine runL_nil ?_; refine then_normal ?_; refine run_seq ?_)
      (refine run_cond rfl (fun hc => ?_) (fun hc => ?_) <;> (try simp only [z0, z1, z2, z3, z4, z5, z6, z7, z8, z9, Bool.not_true, Bool.not_false, Bool.false_or, Bool.true_and, true_and, and_true, false_or, or_false, reduceCtorEq, Bool.false_eq_true] at hc))
      · obtain ⟨b4, rest4, c4, hv4, hA4, hl4, hr4, hk4⟩ := own3.pos (by omega)
        cases hv4
        obtain ⟨h, hh⟩ : ∃ h, hs[k]? = some h := ⟨hs[k]'(by omega), List.getElem?_eq_getElem _⟩
        have hh1 := t1 h (List.mem_of_getElem? hh)
        have hst := sumH_take hh
        have hk2 := hsp (k + 1)
        have r1 : RowAt (rows hcell hs ++ rest4) (0 + (k : Int).toNat * 10) (hcell h) := by
          rw [Nat.zero_add]; exact rows_at hcell_len hh rest4
        rw [hA4]
        (refine run_skip ?_; refine then_normal ?_; refine run_seq ?_; refine run_block ?_; refine run_seq ?_; refine run_region ?_; refine xel rfl (ev_indexAddr rfl rfl rfl (se rfl) (by omega) (by omega)) ?_; refine xel rfl (ev_loadAR rfl rfl (ag rfl) (sz rfl) (memF (.tail _ (.tail _ (.head _)))) r1 rfl) ?_; refine runL_alloc rfl rfl rfl rfl rfl ze84 (fun _ => ?_); refine runL_store0 rfl rfl rfl rfl rfl (sz rfl) rfl rfl rfl rfl rfl ?_; refine runL_nil ?_; refine then_normal ?_; refine run_seq ?_; refine run_region ?_; (iterate 2 refine xep rfl rfl ?_); refine xel rfl (ev_fieldAddr rfl rfl (fo rfl)) ?_; refine xel rfl (ev_loadK rfl rfl (sc rfl) (memF (.tail _ (.tail _ (.head _)))) rfl) ?_; refine xel rfl (ev_add rfl rfl rfl (by omega)) ?_; refine xep rfl rfl ?_; refine xel rfl (ev_fieldAddr rfl rfl (fo rfl)) ?_; refine runL_store2 rfl rfl rfl rfl rfl (sz rfl) rfl rfl rfl rfl rfl ?_; refine runL_nil ?_; refine then_normal ?_; refine run_seq ?_; refine run_region ?_; (iterate 3 refine xep rfl rfl ?_); refine xel rfl (ev_fieldAddr rfl rfl (fo rfl)) ?_; refine runL_store2 rfl rfl rfl rfl rfl (sz rfl) rfl rfl rfl rfl rfl ?_; refine runL_nil ?_; refine then_normal ?_; refine run_seq ?_)
        rename_i b13
        obtain ⟨AA, hAA⟩ : ∃ AA, AA = blk b13 (hcell h) 84 :: blk b3 (wq o (q - sumH (hs.take k))).cells 35 :: blk b [w,.slice (some ⟨ba, 0, none⟩) (lv :: r).length cap, .int .i64 lv.p, .int .i64 (n + k + 1)] 90 :: blk b4 (rows hcell hs ++ rest4) 84 :: (blk ba c 110 :: (G1' ++ (G2 ++ H1))) := ⟨_, rfl⟩
        refine RunC.perm (h' := Ok ++ AA) (fun x => by rw [hAA]; simp only [List.append_eq, cnt_append, cnt_cons, cnt_nil, blk, hcell, Ord.cells, wq]; omega) ?_
        refine RunC.freezeR ?_
        have l0 : AggF (AA ++ F) b13 0 (hcell h) := ⟨_, _, _, by rw [hAA]; exact memF (.head _), by simp, rfl⟩
        have l1 := l0.sub (j := 0) (n := 9) (l' := h.1.cells) rfl
        have l2 := l0.at 9 _ rfl
        have l3 : AggF (AA ++ F) b3 0 (wq o (q - sumH (hs.take k))).cells := ⟨_, _, _, by rw [hAA]; exact memF (.tail _ (.head _)), by simp, rfl⟩
        have l4 : LoadsF (AA ++ F) b (0 + 3) (.int .i64 (n + k + 1)) := ⟨_, _, _, by rw [hAA]; exact memF (.tail _ (.tail _ (.head _))), rfl⟩
        have hfl := flls_len (wq o q) lv.p n (hs.take k)
        rw [List.length_take] at hfl
        have hfl2 : (out ++ flls (wq o q) lv.p n (hs.take k)).length = out.length + k := by rw [List.length_append, hfl]; omega
        refine run_region_D mo ?_
        (refine runD_q 0 rfl rfl (by kernel_rfl) ?_; refine ⟨_, fun _ => ev_pure rfl, ?_⟩; refine runD_q 1 rfl rfl (by kernel_rfl) ?_; refine ⟨_, fun _ => ev_fieldAddr rfl rfl (fo rfl), ?_⟩; refine runD_q 2 rfl rfl (by kernel_rfl) ?_; refine ⟨_, fun _ => ev_loadAF rfl rfl (ag rfl) (sz rfl) l1 rfl, ?_⟩; refine runD_q 3 rfl rfl (by kernel_rfl) ?_; refine ⟨_, fun _ => ev_loadAF rfl rfl (ag rfl) (sz rfl) l3 rfl, ?_⟩; refine runD_q 4 rfl rfl (by kernel_rfl) ?_; refine ⟨_, fun _ => ev_pure rfl, ?_⟩; refine runD_q 5 rfl rfl (by kernel_rfl) ?_; refine ⟨_, fun _ => ev_fieldAddr rfl rfl (fo rfl), ?_⟩; refine runD_q 6 rfl rfl (by kernel_rfl) ?_; refine ⟨_, fun _ => ev_loadF rfl rfl (sc rfl) l2, ?_⟩; refine runD_q 7 rfl rfl (by kernel_rfl) ?_; refine ⟨_, fun _ => ev_pure rfl, ?_⟩; refine runD_q 8 rfl rfl (by kernel_rfl) ?_; refine ⟨_, fun _ => ev_pure rfl, ?_⟩; refine runD_q 9 rfl rfl (by kernel_rfl) ?_; refine ⟨_, fun _ => ev_fieldAddr rfl rfl (fo rfl), ?_⟩; refine runD_q 10 rfl rfl (by kernel_rfl) ?_; refine ⟨_, fun _ => ev_loadF rfl rfl (sc rfl) l4, ?_⟩; refine runD_q 11 rfl rfl (by kernel_rfl) ?_; refine ⟨_, fun _ => ev_build rfl pl93 rfl, ?_⟩; refine runD_1 12 (by kernel_rfl) rfl rfl rfl ?_)
        refine runL_buildSlice (l := fcell (Fl.mk h.1 (wq o (q - sumH (hs.take k))) lv.p h.2 (n + k + 1))) rfl rfl rfl rfl rfl (se rfl) ze93 rfl rfl rfl rfl rfl (fun b14 => ?_)
        (refine runL_nil ?_; refine endS_d rfl ?_; refine runD_1 13 (by kernel_rfl) rfl rfl rfl ?_)
        refine runL_append (sl := fcell (Fl.mk h.1 (wq o (q - sumH (hs.take k))) lv.p h.2 (n + k + 1))) [blk b14 (fcell (Fl.mk h.1 (wq o (q - sumH (hs.take k))) lv.p h.2 (n + k + 1))) 93] rfl rfl rfl rfl rfl rfl rfl (se rfl) (se rfl) ze93 rfl (byt rfl) ownk (fun y => by (first | rfl | (simp only [List.append_eq, cnt_append, cnt_cons, cnt_nil, blk]; omega) | (simp only [List.append_eq, cnt_append, cnt_cons, cnt_nil, blk]; done))) ⟨rfl, .inr ⟨b14, 0, _, _, _, rfl, memF (.head _), by simp [fcell], rfl⟩⟩ rfl (by decide) (by decide) (by omega) ?_
        rintro v' A' own'
        have own2 := own'.snoc (f := fcell) (x := (Fl.mk h.1 (wq o (q - sumH (hs.take k))) lv.p h.2 (n + k + 1))) rfl
        have htk : hs.take (k + 1) = hs.take k ++ [h] := by rw [List.take_succ_eq_append_getElem (List.getElem?_eq_some_iff.1 hh).1, (List.getElem?_eq_some_iff.1 hh).2]
        have efs : (out ++ flls (wq o q) lv.p n (hs.take k)) ++ [(Fl.mk h.1 (wq o (q - sumH (hs.take k))) lv.p h.2 (n + k + 1))] = out ++ flls (wq o q) lv.p n (hs.take (k + 1)) := by
          rw [htk, flls_snoc, List.append_assoc, List.length_take, Nat.min_eq_left (by omega)]; rfl
        rw [efs] at own2
        obtain ⟨a5, c5, rfl, own5⟩ := own2.at
        (refine runL_nil ?_; refine endS_d rfl ?_; refine runD_q 14 rfl rfl (by kernel_rfl) ?_; refine ⟨_, fun _ => ev_pure rfl, ?_⟩; refine runD_done (by kernel_rfl) ?_; refine then_normal ?_; refine run_region ?_; refine xel rfl (ev_fieldAddr rfl rfl (fo rfl)) ?_)
        refine RunL.perm (h' := blk b3 (wq o (q - sumH (hs.take k))).cells 35 :: blk b13 (hcell h) 84 :: (blk b [w,.slice (some ⟨ba, 0, none⟩) (lv :: r).length cap, .int .i64 lv.p, .int .i64 (n + k + 1)] 90 :: blk b4 (rows hcell hs ++ rest4) 84 :: (blk ba c 110 :: (G1' ++ (G2 ++ H1))) ++ (A' ++ [blk b14 (fcell (Fl.mk h.1 (wq o (q - sumH (hs.take k))) lv.p h.2 (n + k + 1))) 93]))) (fun x => by rw [hAA]; (first | rfl | (simp only [List.append_eq, cnt_append, cnt_cons, cnt_nil, blk]; omega) | (simp only [List.append_eq, cnt_append, cnt_cons, cnt_nil, blk]; done))) ?_
        (refine xel rfl (ev_loadK rfl rfl (sc rfl) (memF (.head _)) rfl) ?_; refine xel rfl (ev_fieldAddr rfl rfl (fo rfl)) ?_; refine xel rfl (ev_loadK rfl rfl (sc rfl) (memF (.tail _ (.head _))) rfl) ?_; refine xel rfl (ev_sub rfl rfl rfl (by omega)) ?_; refine xel rfl (ev_fieldAddr rfl rfl (fo rfl)) ?_; refine runL_store0 rfl rfl rfl rfl rfl (sz rfl) rfl rfl rfl rfl rfl ?_; refine runL_nil ?_; refine in_normal ?_; refine then_normal ?_; refine run_region ?_; refine xel rfl (ev_add rfl rfl rfl (by omega)) ?_; refine xep rfl rfl ?_; refine runL_nil ?_; refine then_normal ?_)
        have e1 : q - sumH (hs.take (k + 1)) = q - sumH (hs.take k) - h.2 := by omega
        refine ⟨(k + 1, a5, c5, A'), ⟨by show k + 1 ≤ _; omega, own5⟩, by show hs.length - (k + 1) < hs.length - k; omega, rfl, [blk b13 (hcell h) 84, blk b14 (fcell (Fl.mk h.1 (wq o (q - sumH (hs.take k))) lv.p h.2 (n + k + 1))) 93], fun x => ?_⟩
        dsimp only
        rw [e1, if_neg (Nat.succ_ne_zero k), show n + ((k + 1 : Nat) : Int) = n + k + 1 by push_cast; omega]
        simp only [List.append_eq, cnt_append, cnt_cons, cnt_nil, blk, hcell, Ord.cells, wq]
        omega
      · have : k = hs.length := by omega
        subst this
        (refine run_exit ?_; (iterate 2 refine then_exit ?_); refine in_exit ?_; refine then_normal ?_)
        simp only [List.take_length] at ownk ⊢
        rw [show (if hs.length = 0 then la else lv.p) = (if hs = [] then la else lv.p) by cases hs <;> simp]
        have hll := lenL_ge hok
        have hq3 : (out ++ flls (wq o q) lv.p n hs).length = out.length + hs.length := by rw [List.length_append, flls_len]
        (refine run_seq ?_; refine run_region ?_; refine xep rfl rfl ?_)
        refine runL_callZ (blk b3 (wq o (q - sumH hs)).cells 35 :: (A3 ++ Ok)) (blk b [w,.slice (some ⟨ba, 0, none⟩) (lv :: r).length cap, .int .i64 (if hs = [] then la else lv.p), .int .i64 (n + hs.length)] 90 :: (H0' ++ H1)) rfl rfl rfl rfl rfl rfl rfl (pf rfl) (fun x => by
          have h1 := hp' x
          simp only [List.append_eq, cnt_append, cnt_cons, cnt_nil, blk] at h1 ⊢
          omega) (sp_swept2 _ H0' H1 b w _ _ _ _ hS' (by rw [List.length_set]; omega) 0 ⟨lv.p, es2⟩ rfl) ?_
        rintro v3 _ ⟨v', H0'', hS2, rfl⟩
        have hS3 : SdH v' (if es2 = [] then r else ⟨lv.p, es2⟩ :: r) H0'' := hS2
        clear hS2
        have hlen2 : lenL (lv :: r) = lv.es.length + lenL r := rfl
        (refine runL_nil ?_; refine then_normal ?_; refine run_seq ?_; refine run_region ?_; refine xep rfl rfl ?_; refine runL_nil ?_; refine then_normal ?_)
        cases self with
        | true =>
          rw [if_pos rfl] at hm
          refine run_condT rfl rfl ?_
          (refine run_seq ?_; refine run_region_draw mo (by kernel_rfl) ?_; refine xqp rfl rfl ?_; refine xql rfl (ev_fieldAddr rfl rfl (fo rfl)) ?_; refine xql rfl (ev_loadK rfl rfl (sc rfl) (memF (.head _)) rfl) ?_; (iterate 3 refine xqp rfl rfl ?_); refine runQ_nil ?_; refine then_normal ?_; refine run_ret ?_; refine in_ret ?_; refine then_ret ?_; refine in_ret ?_; refine then_ret ?_)
          rw [hm]
          exact ⟨_, rfl, blk b [w,v', .int .i64 (if hs = [] then la else lv.p), .int .i64 (n + hs.length)] 90 :: (H0'' ++ H1) ++ Ok, blk b3 (wq o (q - sumH hs)).cells 35 :: A3, ⟨ak, ck, Ok, v', H0'', rfl, ownk, hS3, rfl⟩, fun x => by (first | rfl | (simp only [List.append_eq, cnt_append, cnt_cons, cnt_nil, blk]; omega) | (simp only [List.append_eq, cnt_append, cnt_cons, cnt_nil, blk]; done))⟩
        | false =>
          rw [if_neg (by simp)] at hm
          refine run_condF rfl rfl ?_
          (refine run_skip ?_; refine in_normal ?_; refine then_normal ?_)
          by_cases he : es2 = []
          · rw [if_pos he] at hm hS3
            refine ⟨((q - sumH hs, r, (if hs = [] then la else lv.p), n + hs.length, (out ++ flls (wq o q) lv.p n hs)), (ak, ck, Ok), (v', H0'')), ⟨hS3, hok', by show lenL r ≤ 64; omega, by show 0 ≤ q - sumH hs; omega, by show q - sumH hs + (((out ++ flls (wq o q) lv.p n hs).length : Nat) : Int) ≤ _; omega, by show 0 ≤ n + (hs.length : Int); omega, by show n + (hs.length : Int) + (q - sumH hs) ≤ _; omega, ownk, ?_⟩, ?_, rfl, A3, fun x => by (first | rfl | (simp only [List.append_eq, cnt_append, cnt_cons, cnt_nil, blk]; omega) | (simp only [List.append_eq, cnt_append, cnt_cons, cnt_nil, blk]; done))⟩
            · rw [hm]; show MR.pre _ (MR.pre _ _) = _; unfold MR.pre; simp only [List.append_assoc]
            · show 2 * r.length + (if 0 < q - sumH hs then 1 else 0) < 2 * (r.length + 1) + (if 0 < q then 1 else 0)
              split <;> omega
          · rw [if_neg he] at hm hS3
            have hq0 : sumH hs = q := (t6 rfl).resolve_right he
            refine ⟨((q - sumH hs, ⟨lv.p, es2⟩ :: r, (if hs = [] then la else lv.p), n + hs.length, (out ++ flls (wq o q) lv.p n hs)), (ak, ck, Ok), (v', H0'')), ⟨hS3, fun x m => ?_, by show es2.length + lenL r ≤ 64; omega, by show 0 ≤ q - sumH hs; omega, by show q - sumH hs + (((out ++ flls (wq o q) lv.p n hs).length : Nat) : Int) ≤ _; omega, by show 0 ≤ n + (hs.length : Int); omega, by show n + (hs.length : Int) + (q - sumH hs) ≤ _; omega, ownk, ?_⟩, ?_, rfl, A3, fun x => by (first | rfl | (simp only [List.append_eq, cnt_append, cnt_cons, cnt_nil, blk]; omega) | (simp only [List.append_eq, cnt_append, cnt_cons, cnt_nil, blk]; done))⟩
            · rcases List.mem_cons.1 m with rfl | m
              · exact ⟨t7, he⟩
              · exact hok' x m
            · rw [hm, matchL_zero _ _ _ _ (by show ¬ 0 < q - sumH hs; omega)]
              unfold MR.pre; simp only [List.append_nil]; rfl
            · show 2 * (r.length + 1) + (if 0 < q - sumH hs then 1 else 0) < 2 * (r.length + 1) + (if 0 < q then 1 else 0)
              rw [if_neg (by omega), if_pos hq9]; omega
    · have hend : matchL (wq o q) lv0 la n = ⟨[], q, false, lv0, la, n⟩ := by
        by_cases h9 : 0 < q
        · cases lv0 with
          | nil => rfl
          | cons lv r =>
            unfold matchL
            rw [if_neg (fun h8 => hc ⟨h9, h8.2⟩)]; rfl
        · exact matchL_zero _ _ _ _ h9
      refine run_condF rfl (by
        by_cases h9 : 0 < q
        · have : meets (wq o q) lv0 = false := by simpa using fun h8 => hc ⟨h9, h8⟩
          rw [this, decide_eq_true h9]; rfl
        · rw [decide_eq_false h9]; rfl) ?_
      (refine run_exit ?_; (iterate 2 refine then_exit ?_); refine in_exit ?_; refine then_normal ?_; refine run_seq ?_; refine run_region_draw mo (by kernel_rfl) ?_; refine xqp rfl rfl ?_; refine xql rfl (ev_fieldAddr rfl rfl (fo rfl)) ?_; refine xql rfl (ev_loadK rfl rfl (sc rfl) (memF (.head _)) rfl) ?_; (iterate 3 refine xqp rfl rfl ?_); refine runQ_nil ?_; refine then_normal ?_; refine run_ret ?_)
      rw [hend] at hm
      rw [hm]
      exact ⟨_, rfl, blk b [w,v, .int .i64 la, .int .i64 n] 90 :: (H0 ++ H1) ++ O, [blk b3 (wq o q).cells 35], ⟨ao, co, O, v, H0, by simp only [MR.pre, List.append_nil]; rfl, by simp only [MR.pre, List.append_nil]; exact own, h0, rfl⟩, fun x => by (first | rfl | (simp only [List.append_eq, cnt_append, cnt_cons, cnt_nil, blk]; omega) | (simp only [List.append_eq, cnt_append, cnt_cons, cnt_nil, blk]; done))⟩
end Go.Proofs.YtmelpobcpcmdoaaGreat
