/- Contracts of functions of the given program over its translation, each proved by walking its text; used by the laws' rows. It proves no given statement by itself. -/
import Derived.Test.YtmelpobcpcmdoaaGreatSLRBk5X
import Derived.Test.YtmelpobcpcmdoaaGreatSLBkN
set_option autoImplicit false
set_option linter.unusedSectionVars false
set_option linter.unusedSimpArgs false
set_option linter.unusedVariables false
set_option maxRecDepth 4000
set_option maxHeartbeats 100000000
namespace Go.Proofs.YtmelpobcpcmdoaaGreat
open Go Go.SL Go.Proofs
theorem matchL_no {o : Ord} {l : List Lv} {la n : Int} (h : ∀ lv r, l = lv :: r → 0 < o.qty → crosses o lv.p = false) : matchL o l la n = ⟨[], o.qty, false, l, la, n⟩ := by
  cases l with
  | nil => rfl
  | cons lv r =>
    unfold matchL
    rw [if_neg (fun h9 => by rw [h lv r rfl h9.1] at h9; cases h9.2)]
variable [Base]
theorem sp_rbmatch1 (F H0 H1 : Heap) (b : Nat) (w v : Value) (last no : Int) (l : List Lv) (h0 : RsH v l H0) (hok : ∀ lv ∈ l, lv.Ok) (h64 : lenL l ≤ 64) (o : Ord) (hs : 3 - o.side = 1) (hq : 0 ≤ o.qty) (hq2 : o.qty ≤ 1048576) (hn : 0 ≤ no) (hn2 : no ≤ 1099511627776) :
    Sp Tryz.prog F 60 [.pointer (some ⟨b, 0, none⟩), ov o] (blk b [.slice none 0 0, v,w, .int .i64 last, .int .i64 no] 60 :: (H0 ++ H1)) (fun r h' => ∃ a c A v' H0', r = .tuple #[.slice a (matchL o l last no).fs.length c, .int .i64 (matchL o l last no).qty, .bool (matchL o l last no).self] ∧
      OwnS 93 21 (.slice a (matchL o l last no).fs.length c) (matchL o l last no).fs.length (rows fcell (matchL o l last no).fs) A ∧ RsH v' (matchL o l last no).lvs H0' ∧
      h' = blk b [.slice none 0 0, v',w, .int .i64 (matchL o l last no).last, .int .i64 (matchL o l last no).no] 60 :: (H0' ++ H1) ++ A) := by
  have hs9 : o.side = 3 - 1 := by omega
  refine Sp.up ?_
  refine sp_of_code Tryz.func60 rfl rfl ?_
  (refine run_seq ?_; refine run_region ?_; refine runL_box rfl rfl rfl rfl rfl rfl (fun _ => ?_); (iterate 3 refine xep rfl rfl ?_); refine runL_nil ?_; refine then_normal ?_; refine run_seq ?_; refine run_region ?_; refine xel rfl (ev_fieldAddr rfl rfl (fo rfl)) ?_; refine xel rfl (ev_loadK rfl rfl (sc rfl) (memF (.head _)) rfl) ?_; refine xel rfl (ev_sub rfl rfl rfl (by omega)) ?_; refine xep rfl rfl ?_; refine runL_nil ?_; refine then_normal ?_; refine run_seq ?_; refine run_region ?_; refine xep rfl rfl ?_; refine runL_nil ?_; refine then_normal ?_; refine run_seq ?_; refine run_block ?_)
  rw [hs]
  rename_i b3
  refine run_loopK (σ := (Int × List Lv × Int × Int × List Fl) × (Option Addr × Nat × Heap) × (Value × Heap)) [0, 3, 7, 8]
    (fun s => [(0, .pointer (some ⟨b, 0, none⟩)), (3, .pointer (some ⟨b3, 0, none⟩)), (7, .int .i64 1), (8, .slice s.2.1.1 s.1.2.2.2.2.length s.2.1.2.1)])
    (fun s => blk b3 (wq o s.1.1).cells 35 :: blk b [.slice none 0 0, s.2.2.1,w, .int .i64 s.1.2.2.1, .int .i64 s.1.2.2.2.1] 60 :: (s.2.2.2 ++ (H1 ++ s.2.1.2.2)))
    (fun s => RsH s.2.2.1 s.1.2.1 s.2.2.2 ∧ (∀ lv ∈ s.1.2.1, lv.Ok) ∧ lenL s.1.2.1 ≤ 64 ∧ 0 ≤ s.1.1 ∧ s.1.1 + s.1.2.2.2.2.length ≤ 1048576 ∧ 0 ≤ s.1.2.2.2.1 ∧ s.1.2.2.2.1 + s.1.1 ≤ 1099512676352 ∧
      OwnS 93 21 (.slice s.2.1.1 s.1.2.2.2.2.length s.2.1.2.1) s.1.2.2.2.2.length (rows fcell s.1.2.2.2.2) s.2.1.2.2 ∧ matchL o l last no = (matchL (wq o s.1.1) s.1.2.1 s.1.2.2.1 s.1.2.2.2.1).pre s.1.2.2.2.2)
    (fun s => 2 * s.1.2.1.length + (if 0 < s.1.1 then 1 else 0)) ((o.qty, l, last, no, []), (none, 0, []), (v, H0)) ⟨h0, hok, h64, hq, by show o.qty + ((0 : Nat) : Int) ≤ _; omega, hn, by show no + o.qty ≤ _; omega, .nil _ _, rfl⟩ rfl (fun x => by
      show cnt x (blk b3 o.cells 35 :: _) = cnt x (blk b3 o.cells 35 :: blk b [.slice none 0 0, v,w, .int .i64 last, .int .i64 no] 60 :: (H0 ++ (H1 ++ [])))
      (first | rfl | (simp only [List.append_eq, cnt_append, cnt_cons, cnt_nil, blk]; omega) | (simp only [List.append_eq, cnt_append, cnt_cons, cnt_nil, blk]; done))) ?_
  clear h0 hok h64
  rintro ⟨⟨q, lv0, la, n, out⟩, ⟨ao, co, O⟩, ⟨v, H0⟩⟩ ⟨h0, hok, h64, g1_, g2, g3, g4, own, hm⟩
  dsimp only at h0 hok h64 g1_ g2 g3 g4 own hm ⊢
  have hwq : (wq o q).qty = q := rfl
  have h00 := h0
  obtain ⟨a, cap, bs, A, L, rfl, ownA, hL, rfl⟩ := h0
  have hck : lv0.length ≤ cap := by
    obtain ⟨_, _, hv, h2⟩ := ownA.form
    cases hv; exact h2
  have hbl := hL.len
  ((iterate 2 refine run_seq ?_); refine run_region ?_; refine xel rfl (ev_fieldAddr rfl rfl (fo rfl)) ?_; refine xel rfl (ev_loadK rfl rfl (sc rfl) (memF (.head _)) rfl) ?_; (iterate 2 refine xep rfl rfl ?_); (iterate 3 refine xgp rfl rfl rfl ?_); refine xgl rfl rfl (fun hq => ev_fieldAddr rfl rfl (fo rfl)) ?_; refine xgl rfl rfl (fun hq => ev_indexAddrA rfl rfl rfl (ar rfl) (by (try simp only [z0, z1, z2, z3, z4, z5, z6, z7, z8, z9, Bool.not_true, Bool.not_false, Bool.false_or, Bool.true_and, true_and, and_true, false_or, or_false, reduceCtorEq, Bool.false_eq_true] at hq); omega) (by (try simp only [z0, z1, z2, z3, z4, z5, z6, z7, z8, z9, Bool.not_true, Bool.not_false, Bool.false_or, Bool.true_and, true_and, and_true, false_or, or_false, reduceCtorEq, Bool.false_eq_true] at hq); omega)) ?_; refine xgl rfl rfl (fun hq => ev_loadK rfl rfl (sc rfl) (memF (.tail _ (.head _))) rfl) ?_; refine xgl rfl rfl (fun hq => ev_len rfl rfl (se rfl)) ?_; refine xgp rfl rfl rfl ?_; refine xep rfl rfl ?_; refine runL_nil ?_; refine then_normal ?_)
  by_cases hc : 0 < q ∧ 0 < lv0.length
  · refine run_condT rfl (by rw [decide_eq_true (by rw [hwq]; exact hc.1 : (0 : Int) < (wq o q).qty), decide_eq_true (by omega : (0 : Int) < (lv0.length : Int))]; rfl) ?_
    obtain ⟨lv, r, rfl⟩ : ∃ lv r, lv0 = lv :: r := by
      cases lv0 with
      | nil => exact absurd hc.2 (by simp)
      | cons x y => exact ⟨x, y, rfl⟩
    have hlok := hok lv (by simp)
    have hq9 := hc.1
    have hok' : ∀ lv ∈ r, lv.Ok := fun x m => hok x (List.mem_cons_of_mem _ m)
    have hl0 : 0 < (lv :: r).length := by simp
    have hll := lenL_ge hok
    obtain ⟨bi, hbi⟩ : ∃ bi, bs[0]? = some bi := ⟨bs[0]'(by omega), List.getElem?_eq_getElem _⟩
    obtain ⟨G1, G2, hG1, hpG, hset, G3, hG3, hpG3⟩ := hL.out (k := 0) (lv := lv) hbi rfl
    obtain ⟨ba, rest, cap', hv, hA, hl2, hr2, hk2⟩ := ownA.pos hl0
    cases hv
    have g1' : (rows pc bs ++ rest)[0 + (0 : Int).toNat * 1]? = some (.pointer (some ⟨bi, 0, none⟩)) := by
      have := (rows_at pc_len hbi rest).get (k := 0) (v := .pointer (some ⟨bi, 0, none⟩)) rfl
      simpa using this
    rw [hA] at ownA
    have src := ownA.src (H := [blk ba (rows pc bs ++ rest) 97]) fun x m => m
    obtain ⟨HH, hHH⟩ : ∃ HH, HH = blk b3 (wq o q).cells 35 :: blk b [.slice none 0 0, .slice (some ⟨ba, 0, none⟩) (lv :: r).length cap,w, .int .i64 la, .int .i64 n] 60 :: blk ba (rows pc bs ++ rest) 97 :: (G1 ++ (G2 ++ (H1 ++ O))) := ⟨_, rfl⟩
    refine RunC.perm (h' := blk b3 (wq o q).cells 35 :: blk b [.slice none 0 0, .slice (some ⟨ba, 0, none⟩) (lv :: r).length cap,w, .int .i64 la, .int .i64 n] 60 :: blk ba (rows pc bs ++ rest) 97 :: (G1 ++ (G2 ++ (H1 ++ O)))) (fun x => by
      have h1 := hpG x
      rw [hA]
      simp only [List.append_eq, cnt_append, cnt_cons, cnt_nil, blk] at h1 ⊢
      omega) ?_
    have g1 := g1'
    (refine run_skip ?_; refine then_normal ?_; refine run_block ?_; refine run_seq ?_; refine run_region ?_; (iterate 3 refine xep rfl rfl ?_); refine xel rfl (ev_fieldAddr rfl rfl (fo rfl)) ?_; refine xel rfl (ev_indexAddrA rfl rfl rfl (ar rfl) (by omega) (by omega)) ?_; refine xel rfl (ev_loadK rfl rfl (sc rfl) (memF (.tail _ (.head _))) rfl) ?_; refine xel rfl (ev_indexAddr rfl rfl rfl (se rfl) (by omega) (by omega)) ?_; refine xel rfl (ev_load rfl rfl (sc rfl) (memF (.tail _ (.tail _ (.head _)))) g1) ?_; refine xep rfl rfl ?_; refine runL_nil ?_; refine then_normal ?_; (iterate 2 refine run_seq ?_))
    clear g1
    rw [← hHH]
    refine run_midO (σ := Unit) [0, 3, 7, 8, 9] (fun _ => [(44, .bool (!crosses (wq o q) lv.p))]) (fun _ => HH) (fun _ => True) rfl ?_ ?_
    · obtain ⟨a4, c4, A4, own4, hG4⟩ := hG1
      refine RunC.freeze ?_
      have l1 : AggF (HH ++ F) b3 0 (wq o q).cells := ⟨_, _, _, by rw [hHH]; exact memF (.head _), by simp, rfl⟩
      have l2 : LoadsF (HH ++ F) bi (0 + 0) (.int .i64 lv.p) := ⟨_, _, _, by rw [hHH, hG4]; exact memF (.tail _ (.tail _ (.tail _ (.head _)))), rfl⟩
      have q1 := fun F => rp_crosses F (wq o q) lv.p
      refine run_region_D mo ?_
      (refine runD_q 0 rfl rfl (by kernel_rfl) ?_; refine ⟨_, fun _ => ev_loadAF rfl rfl (ag rfl) (sz rfl) l1 rfl, ?_⟩; refine runD_q 1 rfl rfl (by kernel_rfl) ?_; refine ⟨_, fun _ => ev_pure rfl, ?_⟩; refine runD_q 2 rfl rfl (by kernel_rfl) ?_; refine ⟨_, fun _ => ev_pure rfl, ?_⟩; refine runD_q 3 rfl rfl (by kernel_rfl) ?_; refine ⟨_, fun _ => ev_fieldAddr rfl rfl (fo rfl), ?_⟩; refine runD_q 4 rfl rfl (by kernel_rfl) ?_; refine ⟨_, fun _ => ev_loadF rfl rfl (sc rfl) l2, ?_⟩; refine runD_q 5 rfl rfl (by kernel_rfl) ?_; refine ⟨_, fun _ => ev_callQ rfl rfl rfl (pf rfl) (q1 ..), ?_⟩; refine runD_q 6 rfl rfl (by kernel_rfl) ?_; refine ⟨_, fun _ => ev_pure rfl, ?_⟩; refine runD_done (by kernel_rfl) ?_)
      exact midN () [] trivial rfl (fun x => by (first | rfl | (simp only [List.append_eq, cnt_append, cnt_cons, cnt_nil, blk]; omega) | (simp only [List.append_eq, cnt_append, cnt_cons, cnt_nil, blk]; done)))
    intro fr' h' hmid
    (refine then_normal ?_)
    refine midN_out hmid ?_
    clear hmid
    rintro ⟨⟩ -
    cases hcr : crosses (wq o q) lv.p with
    | false =>
      have hend : matchL (wq o q) (lv :: r) la n = ⟨[], q, false, lv :: r, la, n⟩ := matchL_no fun lv' r' e _ => by cases e; exact hcr
      refine run_condT rfl rfl ?_
      (refine run_exit ?_; refine then_exit ?_; refine in_pass rfl ?_; refine then_exit ?_; refine in_exit ?_; refine then_normal ?_)
      rw [hend] at hm
      have l9 : AggF (HH ++ F) b3 0 (wq o q).cells := ⟨_, _, _, by rw [hHH]; exact memF (.head _), by simp, rfl⟩
      have l8 := l9.at 6 _ rfl
      (refine run_seq ?_)
      refine RunC.freeze ?_
      refine run_region_D mo ?_
      (refine runD_q 0 rfl rfl (by kernel_rfl) ?_; refine ⟨_, fun _ => ev_pure rfl, ?_⟩; refine runD_q 1 rfl rfl (by kernel_rfl) ?_; refine ⟨_, fun _ => ev_fieldAddr rfl rfl (fo rfl), ?_⟩; refine runD_q 2 rfl rfl (by kernel_rfl) ?_; refine ⟨_, fun _ => ev_loadF rfl rfl (sc rfl) l8, ?_⟩; refine runD_q 3 rfl rfl (by kernel_rfl) ?_; refine ⟨_, fun _ => ev_pure rfl, ?_⟩; refine runD_q 4 rfl rfl (by kernel_rfl) ?_; refine ⟨_, fun _ => ev_pure rfl, ?_⟩; refine runD_q 5 rfl rfl (by kernel_rfl) ?_; refine ⟨_, fun _ => ev_pure rfl, ?_⟩; refine runD_done (by kernel_rfl) ?_; refine then_normal ?_; refine run_ret ?_)
      rw [hm]
      exact ⟨_, rfl, blk b [.slice none 0 0, .slice (some ⟨ba, 0, none⟩) (lv :: r).length cap,w, .int .i64 la, .int .i64 n] 60 :: (A ++ L ++ H1) ++ O, [blk b3 (wq o q).cells 35], ⟨ao, co, O, _, A ++ L, by simp only [MR.pre, List.append_nil]; rfl, by simp only [MR.pre, List.append_nil]; exact own, h00, rfl⟩, fun x => by
        have h1 := hpG x
        rw [hHH, hA]
        simp only [List.append_eq, cnt_append, cnt_cons, cnt_nil, blk] at h1 ⊢
        omega⟩
    | true =>
      refine run_condF rfl rfl ?_
      rw [hHH]
      (refine run_skip ?_; refine then_normal ?_; refine run_seq ?_; refine run_region ?_; refine xep rfl rfl ?_; refine xel rfl (ev_fieldAddr rfl rfl (fo rfl)) ?_; refine xel rfl (ev_loadK rfl rfl (sc rfl) (memF (.head _)) rfl) ?_; refine xel rfl (ev_fieldAddr rfl rfl (fo rfl)) ?_; refine xel rfl (ev_loadK rfl rfl (sc rfl) (memF (.head _)) rfl) ?_)
      refine runL_callZ (blk b3 (wq o q).cells 35 :: blk b [.slice none 0 0, .slice (some ⟨ba, 0, none⟩) (lv :: r).length cap,w, .int .i64 la, .int .i64 n] 60 :: blk ba (rows pc bs ++ rest) 97 :: (G2 ++ (H1 ++ O))) G1 rfl rfl rfl rfl rfl rfl rfl (pf rfl) (fun x => by (first | rfl | (simp only [List.append_eq, cnt_append, cnt_cons, cnt_nil, blk]; omega) | (simp only [List.append_eq, cnt_append, cnt_cons, cnt_nil, blk]; done))) (sp_rtake _ G1 bi lv.p lv.es hG1 hlok.1 o.firm q (by unfold InI; omega) (by omega)) ?_
      rintro v2 _ ⟨a3, c3, A3, G1', rfl, own3, hG1', rfl⟩
      have hti := take_is (firm := o.firm) q.toNat q lv.es (Nat.le_refl _) g1_ hlok.1
      have hun : matchL (wq o q) (lv :: r) la n = if (take o.firm q lv.es).2.1 = true then
          ⟨flls (wq o q) lv.p n (take o.firm q lv.es).1, q - sumH (take o.firm q lv.es).1, true, (if (take o.firm q lv.es).2.2 = [] then r else ⟨lv.p, (take o.firm q lv.es).2.2⟩ :: r), (if (take o.firm q lv.es).1 = [] then la else lv.p), n + (take o.firm q lv.es).1.length⟩
        else if (take o.firm q lv.es).2.2 = [] then
          (matchL (wq o (q - sumH (take o.firm q lv.es).1)) r (if (take o.firm q lv.es).1 = [] then la else lv.p) (n + (take o.firm q lv.es).1.length)).pre (flls (wq o q) lv.p n (take o.firm q lv.es).1)
        else ⟨flls (wq o q) lv.p n (take o.firm q lv.es).1, q - sumH (take o.firm q lv.es).1, false, ⟨lv.p, (take o.firm q lv.es).2.2⟩ :: r, (if (take o.firm q lv.es).1 = [] then la else lv.p), n + (take o.firm q lv.es).1.length⟩ := by
        conv => lhs; unfold matchL
        rw [if_pos ⟨hc.1, hcr⟩]; rfl
      rw [hun] at hm
      clear hun
      generalize take o.firm q lv.es = T at *
      obtain ⟨hs, self, es2⟩ := T
      dsimp only at *
      obtain ⟨t1, t2, t3, t4, t5, t6, t7, t8⟩ := hti
      dsimp only at t1 t2 t3 t4 t5 t6 t7 t8
      obtain ⟨L', hL', hpL'⟩ := hset lv.p es2 G1' hG1'
      have hsp := fun k => sumH_part (l := hs) (fun x m => (t1 x m).1) k
      obtain ⟨a5, c5, A5, own5, rfl⟩ := hG1'
      ((iterate 5 refine xep rfl rfl ?_); refine runL_nil ?_; refine then_normal ?_; (iterate 2 refine run_seq ?_); refine run_region ?_; refine xep rfl rfl ?_; refine xel rfl (ev_len rfl rfl (se rfl)) ?_; refine xep rfl rfl ?_; refine runL_nil ?_; refine then_normal ?_; refine run_block ?_)
      refine run_loopK (σ := Nat × (Option Addr × Nat × Heap)) [0, 3, 7, 8, 9, 11, 54, 55, 56] (fun s => [(0, .pointer (some ⟨b, 0, none⟩)), (3, .pointer (some ⟨b3, 0, none⟩)), (7, .int .i64 1), (8, .slice s.2.1 (out ++ flls (wq o q) lv.p n (hs.take s.1)).length s.2.2.1), (9, .pointer (some ⟨bi, 0, none⟩)), (11, .bool self), (54, .slice a3 hs.length c3), (55, .int .i64 hs.length), (56, .int .i64 s.1)])
        (fun s => blk b3 (wq o (q - sumH (hs.take s.1))).cells 35 :: blk b [.slice none 0 0, .slice (some ⟨ba, 0, none⟩) (lv :: r).length cap,w, .int .i64 (if s.1 = 0 then la else lv.p), .int .i64 (n + (s.1 : Nat))] 60 :: blk bi [.int .i64 lv.p, .slice a5 es2.length c5] 100 :: (A3 ++ (s.2.2.2 ++ (blk ba (rows pc bs ++ rest) 97 :: (A5 ++ (G2 ++ H1))))))
        (fun s => s.1 ≤ hs.length ∧ OwnS 93 21 (.slice s.2.1 (out ++ flls (wq o q) lv.p n (hs.take s.1)).length s.2.2.1) (out ++ flls (wq o q) lv.p n (hs.take s.1)).length (rows fcell (out ++ flls (wq o q) lv.p n (hs.take s.1))) s.2.2.2) (fun s => hs.length - s.1) (0, ao, co, O) ⟨Nat.zero_le _, by show OwnS _ _ (.slice ao (out ++ flls (wq o q) lv.p n []).length co) (out ++ flls (wq o q) lv.p n []).length (rows fcell (out ++ flls (wq o q) lv.p n [])) _; rw [show out ++ flls (wq o q) lv.p n [] = out from List.append_nil _]; exact own⟩ (by simp only [List.take_zero, flls, List.append_nil]; rfl) (fun x => by
          show _ = cnt x (blk b3 (wq o (q - 0)).cells 35 :: blk b [.slice none 0 0, .slice (some ⟨ba, 0, none⟩) (lv :: r).length cap,w, .int .i64 la, .int .i64 (n + (0 : Nat))] 60 :: blk bi [.int .i64 lv.p, .slice a5 es2.length c5] 100 :: (A3 ++ (O ++ (blk ba (rows pc bs ++ rest) 97 :: (A5 ++ (G2 ++ H1))))))
          simp only [Int.sub_zero, Int.natCast_zero, Int.add_zero]
          (first | rfl | (simp only [List.append_eq, cnt_append, cnt_cons, cnt_nil, blk]; omega) | (simp only [List.append_eq, cnt_append, cnt_cons, cnt_nil, blk]; done))) ?_
      rintro ⟨k, ak, ck, Ok⟩ ⟨gk, ownk⟩
      dsimp only at gk ownk ⊢
      have hk1 := hsp k
      have hwk : (wq o (q - sumH (hs.take k))).qty = q - sumH (hs.take k) := rfl
      (refine run_seq ?_; refine run_region ?_; refine xep rfl rfl ?_; refine runL_nil ?_; refine then_normal ?_; refine run_seq ?_)
      (refine run_cond rfl (fun hc => ?_) (fun hc => ?_) <;> (try simp only [z0, z1, z2, z3, z4, z5, z6, z7, z8, z9, Bool.not_true, Bool.not_false, Bool.false_or, Bool.true_and, true_and, and_true, false_or, or_false, reduceCtorEq, Bool.false_eq_true] at hc))
      · obtain ⟨b4, rest4, c4, hv4, hA4, hl4, hr4, hk4⟩ := own3.pos (by omega)
        cases hv4
        obtain ⟨h, hh⟩ : ∃ h, hs[k]? = some h := ⟨hs[k]'(by omega), List.getElem?_eq_getElem _⟩
        have hh1 := t1 h (List.mem_of_getElem? hh)
        have hst := sumH_take hh
        have hk2 := hsp (k + 1)
        have r1 : RowAt (rows hcell hs ++ rest4) (0 + (k : Int).toNat * 10) (hcell h) := by
          rw [Nat.zero_add]; exact rows_at hcell_len hh rest4
        rw [hA4]
        (refine run_skip ?_; refine then_normal ?_; refine run_seq ?_; refine run_block ?_; refine run_seq ?_; refine run_region ?_; refine xel rfl (ev_indexAddr rfl rfl rfl (se rfl) (by omega) (by omega)) ?_; refine xel rfl (ev_loadAR rfl rfl (ag rfl) (sz rfl) (memF (.tail _ (.tail _ (.tail _ (.head _))))) r1 rfl) ?_; refine runL_alloc rfl rfl rfl rfl rfl ze84 (fun _ => ?_); refine runL_store0 rfl rfl rfl rfl rfl (sz rfl) rfl rfl rfl rfl rfl ?_; refine runL_nil ?_; refine then_normal ?_; refine run_seq ?_; refine run_region ?_; (iterate 2 refine xep rfl rfl ?_); refine xel rfl (ev_fieldAddr rfl rfl (fo rfl)) ?_; refine xel rfl (ev_loadK rfl rfl (sc rfl) (memF (.tail _ (.tail _ (.head _)))) rfl) ?_; refine xel rfl (ev_add rfl rfl rfl (by omega)) ?_; refine xep rfl rfl ?_; refine xel rfl (ev_fieldAddr rfl rfl (fo rfl)) ?_; refine runL_store2 rfl rfl rfl rfl rfl (sz rfl) rfl rfl rfl rfl rfl ?_; refine runL_nil ?_; refine then_normal ?_; refine run_seq ?_; refine run_region ?_; (iterate 3 refine xep rfl rfl ?_); refine xel rfl (ev_fieldAddr rfl rfl (fo rfl)) ?_; refine xel rfl (ev_loadK rfl rfl (sc rfl) (memF (.tail _ (.tail _ (.tail _ (.head _))))) rfl) ?_; refine xep rfl rfl ?_; refine xel rfl (ev_fieldAddr rfl rfl (fo rfl)) ?_; refine runL_store2 rfl rfl rfl rfl rfl (sz rfl) rfl rfl rfl rfl rfl ?_; refine runL_nil ?_; refine then_normal ?_; refine run_seq ?_)
        rename_i b13
        obtain ⟨AA, hAA⟩ : ∃ AA, AA = blk b13 (hcell h) 84 :: blk b3 (wq o (q - sumH (hs.take k))).cells 35 :: blk b [.slice none 0 0, .slice (some ⟨ba, 0, none⟩) (lv :: r).length cap,w, .int .i64 lv.p, .int .i64 (n + k + 1)] 60 :: blk bi [.int .i64 lv.p, .slice a5 es2.length c5] 100 :: blk b4 (rows hcell hs ++ rest4) 84 :: (blk ba (rows pc bs ++ rest) 97 :: (A5 ++ (G2 ++ H1))) := ⟨_, rfl⟩
        refine RunC.perm (h' := Ok ++ AA) (fun x => by rw [hAA]; simp only [List.append_eq, cnt_append, cnt_cons, cnt_nil, blk, hcell, Ord.cells, wq]; omega) ?_
        refine RunC.freezeR ?_
        have l0 : AggF (AA ++ F) b13 0 (hcell h) := ⟨_, _, _, by rw [hAA]; exact memF (.head _), by simp, rfl⟩
        have l1 := l0.sub (j := 0) (n := 9) (l' := h.1.cells) rfl
        have l2 := l0.at 9 _ rfl
        have l3 : AggF (AA ++ F) b3 0 (wq o (q - sumH (hs.take k))).cells := ⟨_, _, _, by rw [hAA]; exact memF (.tail _ (.head _)), by simp, rfl⟩
        have l4 : LoadsF (AA ++ F) b (0 + 4) (.int .i64 (n + k + 1)) := ⟨_, _, _, by rw [hAA]; exact memF (.tail _ (.tail _ (.head _))), rfl⟩
        have l5 : LoadsF (AA ++ F) bi (0 + 0) (.int .i64 lv.p) := ⟨_, _, _, by rw [hAA]; exact memF (.tail _ (.tail _ (.tail _ (.head _)))), rfl⟩
        have hfl := flls_len (wq o q) lv.p n (hs.take k)
        rw [List.length_take] at hfl
        have hfl2 : (out ++ flls (wq o q) lv.p n (hs.take k)).length = out.length + k := by rw [List.length_append, hfl]; omega
        refine run_region_D mo ?_
        (refine runD_q 0 rfl rfl (by kernel_rfl) ?_; refine ⟨_, fun _ => ev_pure rfl, ?_⟩; refine runD_q 1 rfl rfl (by kernel_rfl) ?_; refine ⟨_, fun _ => ev_fieldAddr rfl rfl (fo rfl), ?_⟩; refine runD_q 2 rfl rfl (by kernel_rfl) ?_; refine ⟨_, fun _ => ev_loadAF rfl rfl (ag rfl) (sz rfl) l1 rfl, ?_⟩; refine runD_q 3 rfl rfl (by kernel_rfl) ?_; refine ⟨_, fun _ => ev_loadAF rfl rfl (ag rfl) (sz rfl) l3 rfl, ?_⟩; refine runD_q 4 rfl rfl (by kernel_rfl) ?_; refine ⟨_, fun _ => ev_pure rfl, ?_⟩; refine runD_q 5 rfl rfl (by kernel_rfl) ?_; refine ⟨_, fun _ => ev_pure rfl, ?_⟩; refine runD_q 6 rfl rfl (by kernel_rfl) ?_; refine ⟨_, fun _ => ev_fieldAddr rfl rfl (fo rfl), ?_⟩; refine runD_q 7 rfl rfl (by kernel_rfl) ?_; refine ⟨_, fun _ => ev_loadF rfl rfl (sc rfl) l5, ?_⟩; refine runD_q 8 rfl rfl (by kernel_rfl) ?_; refine ⟨_, fun _ => ev_fieldAddr rfl rfl (fo rfl), ?_⟩; refine runD_q 9 rfl rfl (by kernel_rfl) ?_; refine ⟨_, fun _ => ev_loadF rfl rfl (sc rfl) l2, ?_⟩; refine runD_q 10 rfl rfl (by kernel_rfl) ?_; refine ⟨_, fun _ => ev_pure rfl, ?_⟩; refine runD_q 11 rfl rfl (by kernel_rfl) ?_; refine ⟨_, fun _ => ev_pure rfl, ?_⟩; refine runD_q 12 rfl rfl (by kernel_rfl) ?_; refine ⟨_, fun _ => ev_fieldAddr rfl rfl (fo rfl), ?_⟩; refine runD_q 13 rfl rfl (by kernel_rfl) ?_; refine ⟨_, fun _ => ev_loadF rfl rfl (sc rfl) l4, ?_⟩; refine runD_q 14 rfl rfl (by kernel_rfl) ?_; refine ⟨_, fun _ => ev_build rfl pl93 rfl, ?_⟩; refine runD_1 15 (by kernel_rfl) rfl rfl rfl ?_)
        refine runL_buildSlice (l := fcell (Fl.mk h.1 (wq o (q - sumH (hs.take k))) lv.p h.2 (n + k + 1))) rfl rfl rfl rfl rfl (se rfl) ze93 rfl rfl rfl rfl rfl (fun b14 => ?_)
        (refine runL_nil ?_; refine endS_d rfl ?_; refine runD_1 16 (by kernel_rfl) rfl rfl rfl ?_)
        refine runL_append (sl := fcell (Fl.mk h.1 (wq o (q - sumH (hs.take k))) lv.p h.2 (n + k + 1))) [blk b14 (fcell (Fl.mk h.1 (wq o (q - sumH (hs.take k))) lv.p h.2 (n + k + 1))) 93] rfl rfl rfl rfl rfl rfl rfl (se rfl) (se rfl) ze93 rfl (byt rfl) ownk (fun y => by (first | rfl | (simp only [List.append_eq, cnt_append, cnt_cons, cnt_nil, blk]; omega) | (simp only [List.append_eq, cnt_append, cnt_cons, cnt_nil, blk]; done))) ⟨rfl, .inr ⟨b14, 0, _, _, _, rfl, memF (.head _), by simp [fcell], rfl⟩⟩ rfl (by decide) (by decide) (by omega) ?_
        rintro v' A' own'
        have own2 := own'.snoc (f := fcell) (x := (Fl.mk h.1 (wq o (q - sumH (hs.take k))) lv.p h.2 (n + k + 1))) rfl
        have htk : hs.take (k + 1) = hs.take k ++ [h] := by rw [List.take_succ_eq_append_getElem (List.getElem?_eq_some_iff.1 hh).1, (List.getElem?_eq_some_iff.1 hh).2]
        have efs : (out ++ flls (wq o q) lv.p n (hs.take k)) ++ [(Fl.mk h.1 (wq o (q - sumH (hs.take k))) lv.p h.2 (n + k + 1))] = out ++ flls (wq o q) lv.p n (hs.take (k + 1)) := by
          rw [htk, flls_snoc, List.append_assoc, List.length_take, Nat.min_eq_left (by omega)]; rfl
        rw [efs] at own2
        obtain ⟨a7, c7, rfl, own7⟩ := own2.at
        (refine runL_nil ?_; refine endS_d rfl ?_; refine runD_q 17 rfl rfl (by kernel_rfl) ?_; refine ⟨_, fun _ => ev_pure rfl, ?_⟩; refine runD_done (by kernel_rfl) ?_; refine then_normal ?_; refine run_region ?_; refine xel rfl (ev_fieldAddr rfl rfl (fo rfl)) ?_)
        refine RunL.perm (h' := blk b3 (wq o (q - sumH (hs.take k))).cells 35 :: blk b13 (hcell h) 84 :: (blk b [.slice none 0 0, .slice (some ⟨ba, 0, none⟩) (lv :: r).length cap,w, .int .i64 lv.p, .int .i64 (n + k + 1)] 60 :: blk bi [.int .i64 lv.p, .slice a5 es2.length c5] 100 :: blk b4 (rows hcell hs ++ rest4) 84 :: (blk ba (rows pc bs ++ rest) 97 :: (A5 ++ (G2 ++ H1))) ++ (A' ++ [blk b14 (fcell (Fl.mk h.1 (wq o (q - sumH (hs.take k))) lv.p h.2 (n + k + 1))) 93]))) (fun x => by rw [hAA]; (first | rfl | (simp only [List.append_eq, cnt_append, cnt_cons, cnt_nil, blk]; omega) | (simp only [List.append_eq, cnt_append, cnt_cons, cnt_nil, blk]; done))) ?_
        (refine xel rfl (ev_loadK rfl rfl (sc rfl) (memF (.head _)) rfl) ?_; refine xel rfl (ev_fieldAddr rfl rfl (fo rfl)) ?_; refine xel rfl (ev_loadK rfl rfl (sc rfl) (memF (.tail _ (.head _))) rfl) ?_; refine xel rfl (ev_sub rfl rfl rfl (by omega)) ?_; refine xel rfl (ev_fieldAddr rfl rfl (fo rfl)) ?_; refine runL_store0 rfl rfl rfl rfl rfl (sz rfl) rfl rfl rfl rfl rfl ?_; refine runL_nil ?_; refine in_normal ?_; refine then_normal ?_; refine run_region ?_; refine xel rfl (ev_add rfl rfl rfl (by omega)) ?_; refine xep rfl rfl ?_; refine runL_nil ?_; refine then_normal ?_)
        have e1 : q - sumH (hs.take (k + 1)) = q - sumH (hs.take k) - h.2 := by omega
        refine ⟨(k + 1, a7, c7, A'), ⟨by show k + 1 ≤ _; omega, own7⟩, by show hs.length - (k + 1) < hs.length - k; omega, rfl, [blk b13 (hcell h) 84, blk b14 (fcell (Fl.mk h.1 (wq o (q - sumH (hs.take k))) lv.p h.2 (n + k + 1))) 93], fun x => ?_⟩
        dsimp only
        rw [e1, if_neg (Nat.succ_ne_zero k), show n + ((k + 1 : Nat) : Int) = n + k + 1 by push_cast; omega]
        simp only [List.append_eq, cnt_append, cnt_cons, cnt_nil, blk, hcell, Ord.cells, wq]
        omega
      · have : k = hs.length := by omega
        subst this
        (refine run_exit ?_; (iterate 2 refine then_exit ?_); refine in_exit ?_; refine then_normal ?_)
        simp only [List.take_length] at ownk ⊢
        rw [show (if hs.length = 0 then la else lv.p) = (if hs = [] then la else lv.p) by cases hs <;> simp]
        have hq3 : (out ++ flls (wq o q) lv.p n hs).length = out.length + hs.length := by rw [List.length_append, flls_len]
        ((iterate 2 refine run_seq ?_); refine run_region ?_; (iterate 2 refine xep rfl rfl ?_); refine xel rfl (ev_fieldAddr rfl rfl (fo rfl)) ?_; refine xel rfl (ev_loadK rfl rfl (sc rfl) (memF (.tail _ (.tail _ (.head _)))) rfl) ?_; refine xel rfl (ev_len rfl rfl (se rfl)) ?_; refine xep rfl rfl ?_; refine runL_nil ?_; refine then_normal ?_)
        refine run_midO (σ := Value × Heap) [0, 3, 7, 8, 11] (fun _ => []) (fun s => blk b3 (wq o (q - sumH hs)).cells 35 :: blk b [.slice none 0 0, s.1,w, .int .i64 (if hs = [] then la else lv.p), .int .i64 (n + hs.length)] 60 :: (s.2 ++ (H1 ++ Ok))) (fun s => RsH s.1 (if es2 = [] then r else ⟨lv.p, es2⟩ :: r) s.2) rfl ?_ ?_
        · by_cases he : es2 = []
          · rw [if_pos he]
            refine run_condT rfl (by rw [he]; rfl) ?_
            obtain ⟨BB, hBB⟩ : ∃ BB, BB = blk b [.slice none 0 0, .slice (some ⟨ba, 0, none⟩) (lv :: r).length cap,w, .int .i64 (if hs = [] then la else lv.p), .int .i64 (n + hs.length)] 60 :: blk ba (rows pc bs ++ rest) 97 :: (blk b3 (wq o (q - sumH hs)).cells 35 :: blk bi [.int .i64 lv.p, .slice a5 es2.length c5] 100 :: (A3 ++ (Ok ++ (A5 ++ (G2 ++ H1))))) := ⟨_, rfl⟩
            refine RunC.perm (h' := [] ++ BB) (fun x => by rw [hBB]; (first | rfl | (simp only [List.append_eq, cnt_append, cnt_cons, cnt_nil, blk]; omega) | (simp only [List.append_eq, cnt_append, cnt_cons, cnt_nil, blk]; done))) ?_
            have l1 : LoadsF (BB ++ F) b (0 + (1 : Int).toNat * 1) (.slice (some ⟨ba, 0, none⟩) (lv :: r).length cap) := ⟨_, _, _, by rw [hBB]; exact memF (.head _), rfl⟩
            have src2 := src.mono (H' := BB ++ F) fun x m => by simp at m; rw [hBB]; simp [m]
            have s2 := src2.drop (k := 1) (cap := cap) (by omega) hck
            rw [rows_drop pc_len _ (by omega)] at s2
            have hel : (lv :: r).length - Int.toNat 1 = r.length := rfl
            have hrr : lenL r ≤ lenL (lv :: r) := by show _ ≤ lv.es.length + lenL r; omega
            have hlr : r.length + 1 = (lv :: r).length := rfl
            have hr64 : r.length ≤ 64 := by omega
            refine run_region_D6 (σ := Option Addr × Nat × Heap) 13 2 [0, 3, 7, 8, 11] (fun s => [(114, .slice s.1 r.length s.2.1), (116, .pointer (some ⟨b, 0 + 0, none⟩)), (105, .int .i64 1)]) (fun s => s.2.2) (fun s => OwnS 97 1 (.slice s.1 r.length s.2.1) r.length (rows pc (bs.drop 1)) s.2.2) mo rfl (by kernel_rfl) rfl ?_ ?_
            · (refine runD_q 0 rfl rfl (by kernel_rfl) ?_; refine ⟨_, fun _ => ev_pure rfl, ?_⟩; refine runD_q 1 rfl rfl (by kernel_rfl) ?_; refine ⟨_, fun _ => ev_pure rfl, ?_⟩; refine runD_q 3 rfl rfl (by kernel_rfl) ?_; refine ⟨_, fun _ => ev_pure rfl, ?_⟩; refine runD_q 4 rfl rfl (by kernel_rfl) ?_; refine ⟨_, fun _ => ev_pure rfl, ?_⟩; refine runD_q 5 rfl rfl (by kernel_rfl) ?_; refine ⟨_, fun _ => ev_pure rfl, ?_⟩; refine runD_q 6 rfl rfl (by kernel_rfl) ?_; refine ⟨_, fun _ => ev_fieldAddr rfl rfl (fo rfl), ?_⟩; refine runD_q 7 rfl rfl (by kernel_rfl) ?_; refine ⟨_, fun _ => ev_indexAddrA rfl rfl rfl (ar rfl) (by omega) (by omega), ?_⟩; refine runD_q 8 rfl rfl (by kernel_rfl) ?_; refine ⟨_, fun _ => ev_loadF rfl rfl (sc rfl) l1, ?_⟩; refine runD_q 9 rfl rfl (by kernel_rfl) ?_; refine ⟨_, fun _ => ev_sliceLo rfl rfl rfl (se rfl) (by omega) (by omega), ?_⟩; refine runD_q 11 rfl rfl (by kernel_rfl) ?_; refine ⟨_, fun _ => ev_pure rfl, ?_⟩; refine runD_q 12 rfl rfl (by kernel_rfl) ?_; refine ⟨_, fun _ => ev_fieldAddr rfl rfl (fo rfl), ?_⟩; refine runD_1 2 (by kernel_rfl) rfl rfl rfl ?_)
              refine runL_buildSlice (n := 1) (l := []) rfl rfl rfl rfl rfl (se rfl) ze97 rfl rfl rfl rfl rfl (fun b15 => ?_)
              (refine runL_nil ?_; refine endS_d rfl ?_; refine runD_1 10 (by kernel_rfl) rfl rfl rfl ?_)
              refine runL_append (sl := rows pc (bs.drop 1)) [] rfl rfl rfl rfl rfl rfl rfl (se rfl) (se rfl) ze97 rfl (byt rfl) (OwnS.lit (l := []) rfl) (fun y => by (first | rfl | (simp only [List.append_eq, cnt_append, cnt_cons, cnt_nil, blk]; omega) | (simp only [List.append_eq, cnt_append, cnt_cons, cnt_nil, blk]; done))) (s2.mono fun x m => by simp [m]) (rows_cells pc_cells _) (by decide) (by decide) (by rw [hel]; omega) ?_
              rintro v' A' own'
              rw [List.nil_append, Nat.zero_add, hel] at own'
              obtain ⟨a16, c16, rfl, own16⟩ := own'.at
              (refine runL_nil ?_; refine endS_d rfl ?_; refine runD_done (by kernel_rfl) ?_)
              exact midX (a16, c16, A') own16 rfl (fun y => by (first | rfl | (simp only [List.append_eq, cnt_append, cnt_cons, cnt_nil, blk]; omega) | (simp only [List.append_eq, cnt_append, cnt_cons, cnt_nil, blk]; done)))
            · rintro ⟨a7, c7, A7⟩ own7
              dsimp only at own7 ⊢
              subst hBB
              have hG3' : RvsH (bs.drop 1) r G3 := by
                have h9 := hG3
                rw [List.eraseIdx_eq_take_drop_succ, List.take_zero, List.nil_append] at h9
                exact h9
              refine RunD.same (M' := blk b [.slice none 0 0, .slice (some ⟨ba, 0, none⟩) (lv :: r).length cap,w, .int .i64 (if hs = [] then la else lv.p), .int .i64 (n + hs.length)] 60 :: (blk ba (rows pc bs ++ rest) 97 :: (blk b3 (wq o (q - sumH hs)).cells 35 :: blk bi [.int .i64 lv.p, .slice a5 es2.length c5] 100 :: (A3 ++ (Ok ++ (A5 ++ (G2 ++ H1))))) ++ A7)) (fun _ _ h => h) (fun x => by (first | rfl | (simp only [List.append_eq, cnt_append, cnt_cons, cnt_nil, blk]; omega) | (simp only [List.append_eq, cnt_append, cnt_cons, cnt_nil, blk]; done))) ?_
              (refine runD_q 13 rfl rfl (by kernel_rfl) ?_; refine ⟨_, fun _ => ev_indexAddrA rfl rfl rfl (ar rfl) (by omega) (by omega), ?_⟩; refine runD_1 14 (by kernel_rfl) rfl rfl rfl ?_; refine runL_store0 rfl rfl rfl rfl rfl (sz rfl) rfl rfl rfl rfl rfl ?_; refine runL_nil ?_; refine endS_n rfl ?_; refine runD_done (by kernel_rfl) ?_)
              exact midN (.slice a7 r.length c7, A7 ++ G3) (blk ba (rows pc bs ++ rest) 97 :: blk bi [.int .i64 lv.p, .slice a5 es2.length c5] 100 :: (A3 ++ A5)) ⟨a7, c7, _, A7, G3, rfl, own7, hG3', rfl⟩ rfl (fun x => by
                have h2 := hpG3 x
                simp only [List.append_eq, cnt_append, cnt_cons, cnt_nil, blk] at h2 ⊢
                omega)
          · rw [if_neg he]
            refine run_condF rfl (decide_eq_false (fun h9 => he (List.eq_nil_of_length_eq_zero (by omega)))) ?_
            (refine run_skip ?_)
            exact midN (.slice (some ⟨ba, 0, none⟩) (lv :: r).length cap, [blk ba (rows pc bs ++ rest) 97] ++ L') A3 ⟨some ⟨ba, 0, none⟩, cap, bs, _, L', rfl, ownA, hL', rfl⟩ rfl (fun x => by
              have h2 := hpL' x
              simp only [List.append_eq, cnt_append, cnt_cons, cnt_nil, blk] at h2 ⊢
              omega)
        intro fr' h' hmid
        (refine then_normal ?_)
        refine midN_out hmid ?_
        clear hmid
        rintro ⟨v9, H9⟩ hS3
        dsimp only at hS3 ⊢
        have hlen2 : lenL (lv :: r) = lv.es.length + lenL r := rfl
        (refine run_seq ?_; refine run_region ?_; refine xep rfl rfl ?_; refine runL_nil ?_; refine then_normal ?_)
        cases self with
        | true =>
          rw [if_pos rfl] at hm
          refine run_condT rfl rfl ?_
          (refine run_seq ?_)
          obtain ⟨HJ, hHJ⟩ : ∃ HJ, HJ = blk b3 (wq o (q - sumH hs)).cells 35 :: blk b [.slice none 0 0, v9,w, .int .i64 (if hs = [] then la else lv.p), .int .i64 (n + hs.length)] 60 :: (H9 ++ (H1 ++ Ok)) := ⟨_, rfl⟩
          rw [← hHJ]
          have l9 : AggF (HJ ++ F) b3 0 (wq o (q - sumH hs)).cells := ⟨_, _, _, by rw [hHJ]; exact memF (.head _), by simp, rfl⟩
          have l8 := l9.at 6 _ rfl
          refine RunC.freeze ?_
          refine run_region_D mo ?_
          (refine runD_q 0 rfl rfl (by kernel_rfl) ?_; refine ⟨_, fun _ => ev_pure rfl, ?_⟩; refine runD_q 1 rfl rfl (by kernel_rfl) ?_; refine ⟨_, fun _ => ev_fieldAddr rfl rfl (fo rfl), ?_⟩; refine runD_q 2 rfl rfl (by kernel_rfl) ?_; refine ⟨_, fun _ => ev_loadF rfl rfl (sc rfl) l8, ?_⟩; refine runD_q 3 rfl rfl (by kernel_rfl) ?_; refine ⟨_, fun _ => ev_pure rfl, ?_⟩; refine runD_q 4 rfl rfl (by kernel_rfl) ?_; refine ⟨_, fun _ => ev_pure rfl, ?_⟩; refine runD_q 5 rfl rfl (by kernel_rfl) ?_; refine ⟨_, fun _ => ev_pure rfl, ?_⟩; refine runD_done (by kernel_rfl) ?_; refine then_normal ?_; refine run_ret ?_; refine in_ret ?_; refine then_ret ?_; refine in_ret ?_; refine then_ret ?_)
          rw [hm]
          exact ⟨_, rfl, blk b [.slice none 0 0, v9,w, .int .i64 (if hs = [] then la else lv.p), .int .i64 (n + hs.length)] 60 :: (H9 ++ H1) ++ Ok, [blk b3 (wq o (q - sumH hs)).cells 35], ⟨ak, ck, Ok, v9, H9, rfl, ownk, hS3, rfl⟩, fun x => by rw [hHJ]; (first | rfl | (simp only [List.append_eq, cnt_append, cnt_cons, cnt_nil, blk]; omega) | (simp only [List.append_eq, cnt_append, cnt_cons, cnt_nil, blk]; done))⟩
        | false =>
          rw [if_neg (by simp)] at hm
          refine run_condF rfl rfl ?_
          (refine run_skip ?_; refine in_normal ?_; refine then_normal ?_)
          by_cases he : es2 = []
          · rw [if_pos he] at hm hS3
            refine ⟨((q - sumH hs, r, (if hs = [] then la else lv.p), n + hs.length, (out ++ flls (wq o q) lv.p n hs)), (ak, ck, Ok), (v9, H9)), ⟨hS3, hok', by show lenL r ≤ 64; omega, by show 0 ≤ q - sumH hs; omega, by show q - sumH hs + (((out ++ flls (wq o q) lv.p n hs).length : Nat) : Int) ≤ _; omega, by show 0 ≤ n + (hs.length : Int); omega, by show n + (hs.length : Int) + (q - sumH hs) ≤ _; omega, ownk, ?_⟩, ?_, rfl, [], fun x => by (first | rfl | (simp only [List.append_eq, cnt_append, cnt_cons, cnt_nil, blk]; omega) | (simp only [List.append_eq, cnt_append, cnt_cons, cnt_nil, blk]; done))⟩
            · rw [hm]; show MR.pre _ (MR.pre _ _) = _; unfold MR.pre; simp only [List.append_assoc]
            · show 2 * r.length + (if 0 < q - sumH hs then 1 else 0) < 2 * (r.length + 1) + (if 0 < q then 1 else 0)
              split <;> omega
          · rw [if_neg he] at hm hS3
            have hq0 : sumH hs = q := (t6 rfl).resolve_right he
            refine ⟨((q - sumH hs, ⟨lv.p, es2⟩ :: r, (if hs = [] then la else lv.p), n + hs.length, (out ++ flls (wq o q) lv.p n hs)), (ak, ck, Ok), (v9, H9)), ⟨hS3, fun x m => ?_, by show es2.length + lenL r ≤ 64; omega, by show 0 ≤ q - sumH hs; omega, by show q - sumH hs + (((out ++ flls (wq o q) lv.p n hs).length : Nat) : Int) ≤ _; omega, by show 0 ≤ n + (hs.length : Int); omega, by show n + (hs.length : Int) + (q - sumH hs) ≤ _; omega, ownk, ?_⟩, ?_, rfl, [], fun x => by (first | rfl | (simp only [List.append_eq, cnt_append, cnt_cons, cnt_nil, blk]; omega) | (simp only [List.append_eq, cnt_append, cnt_cons, cnt_nil, blk]; done))⟩
            · rcases List.mem_cons.1 m with rfl | m
              · exact ⟨t7, he⟩
              · exact hok' x m
            · rw [hm, matchL_zero _ _ _ _ (by show ¬ 0 < q - sumH hs; omega)]
              unfold MR.pre; simp only [List.append_nil]; rfl
            · show 2 * (r.length + 1) + (if 0 < q - sumH hs then 1 else 0) < 2 * (r.length + 1) + (if 0 < q then 1 else 0)
              rw [if_neg (by omega), if_pos hq9]; omega
  · have hend : matchL (wq o q) lv0 la n = ⟨[], q, false, lv0, la, n⟩ := matchL_no fun lv' r' e h9 => by subst e; exact absurd ⟨h9, by simp⟩ hc
    refine run_condF rfl (by
      by_cases h9 : 0 < q
      · rw [decide_eq_false (by omega : ¬ (0 : Int) < (lv0.length : Int)), Bool.and_false]
      · rw [decide_eq_false (by rw [hwq]; exact h9 : ¬ (0 : Int) < (wq o q).qty)]; rfl) ?_
    (refine run_exit ?_; (iterate 2 refine then_exit ?_); refine in_exit ?_; refine then_normal ?_)
    rw [hend] at hm
    obtain ⟨HH, hHH⟩ : ∃ HH, HH = blk b3 (wq o q).cells 35 :: blk b [.slice none 0 0, .slice a lv0.length cap,w, .int .i64 la, .int .i64 n] 60 :: (A ++ L ++ (H1 ++ O)) := ⟨_, rfl⟩
    rw [← hHH]
    have l9 : AggF (HH ++ F) b3 0 (wq o q).cells := ⟨_, _, _, by rw [hHH]; exact memF (.head _), by simp, rfl⟩
    have l8 := l9.at 6 _ rfl
    (refine run_seq ?_)
    refine RunC.freeze ?_
    refine run_region_D mo ?_
    (refine runD_q 0 rfl rfl (by kernel_rfl) ?_; refine ⟨_, fun _ => ev_pure rfl, ?_⟩; refine runD_q 1 rfl rfl (by kernel_rfl) ?_; refine ⟨_, fun _ => ev_fieldAddr rfl rfl (fo rfl), ?_⟩; refine runD_q 2 rfl rfl (by kernel_rfl) ?_; refine ⟨_, fun _ => ev_loadF rfl rfl (sc rfl) l8, ?_⟩; refine runD_q 3 rfl rfl (by kernel_rfl) ?_; refine ⟨_, fun _ => ev_pure rfl, ?_⟩; refine runD_q 4 rfl rfl (by kernel_rfl) ?_; refine ⟨_, fun _ => ev_pure rfl, ?_⟩; refine runD_q 5 rfl rfl (by kernel_rfl) ?_; refine ⟨_, fun _ => ev_pure rfl, ?_⟩; refine runD_done (by kernel_rfl) ?_; refine then_normal ?_; refine run_ret ?_)
    rw [hm]
    exact ⟨_, rfl, blk b [.slice none 0 0, .slice a lv0.length cap,w, .int .i64 la, .int .i64 n] 60 :: (A ++ L ++ H1) ++ O, [blk b3 (wq o q).cells 35], ⟨ao, co, O, _, A ++ L, by simp only [MR.pre, List.append_nil]; rfl, by simp only [MR.pre, List.append_nil]; exact own, h00, rfl⟩, fun x => by rw [hHH]; (first | rfl | (simp only [List.append_eq, cnt_append, cnt_cons, cnt_nil, blk]; omega) | (simp only [List.append_eq, cnt_append, cnt_cons, cnt_nil, blk]; done))⟩
theorem sp_rbmatch2 (F H0 H1 : Heap) (b : Nat) (w v : Value) (last no : Int) (l : List Lv) (h0 : RsH v l H0) (hok : ∀ lv ∈ l, lv.Ok) (h64 : lenL l ≤ 64) (o : Ord) (hs : 3 - o.side = 2) (hq : 0 ≤ o.qty) (hq2 : o.qty ≤ 1048576) (hn : 0 ≤ no) (hn2 : no ≤ 1099511627776) :
    Sp Tryz.prog F 60 [.pointer (some ⟨b, 0, none⟩), ov o] (blk b [.slice none 0 0, w,v, .int .i64 last, .int .i64 no] 60 :: (H0 ++ H1)) (fun r h' => ∃ a c A v' H0', r = .tuple #[.slice a (matchL o l last no).fs.length c, .int .i64 (matchL o l last no).qty, .bool (matchL o l last no).self] ∧
      OwnS 93 21 (.slice a (matchL o l last no).fs.length c) (matchL o l last no).fs.length (rows fcell (matchL o l last no).fs) A ∧ RsH v' (matchL o l last no).lvs H0' ∧
      h' = blk b [.slice none 0 0, w,v', .int .i64 (matchL o l last no).last, .int .i64 (matchL o l last no).no] 60 :: (H0' ++ H1) ++ A) := by
  have hs9 : o.side = 3 - 2 := by omega
  refine Sp.up ?_
  refine sp_of_code Tryz.func60 rfl rfl ?_
  (refine run_seq ?_; refine run_region ?_; refine runL_box rfl rfl rfl rfl rfl rfl (fun _ => ?_); (iterate 3 refine xep rfl rfl ?_); refine runL_nil ?_; refine then_normal ?_; refine run_seq ?_; refine run_region ?_; refine xel rfl (ev_fieldAddr rfl rfl (fo rfl)) ?_; refine xel rfl (ev_loadK rfl rfl (sc rfl) (memF (.head _)) rfl) ?_; refine xel rfl (ev_sub rfl rfl rfl (by omega)) ?_; refine xep rfl rfl ?_; refine runL_nil ?_; refine then_normal ?_; refine run_seq ?_; refine run_region ?_; refine xep rfl rfl ?_; refine runL_nil ?_; refine then_normal ?_; refine run_seq ?_; refine run_block ?_)
  rw [hs]
  rename_i b3
  refine run_loopK (σ := (Int × List Lv × Int × Int × List Fl) × (Option Addr × Nat × Heap) × (Value × Heap)) [0, 3, 7, 8]
    (fun s => [(0, .pointer (some ⟨b, 0, none⟩)), (3, .pointer (some ⟨b3, 0, none⟩)), (7, .int .i64 2), (8, .slice s.2.1.1 s.1.2.2.2.2.length s.2.1.2.1)])
    (fun s => blk b3 (wq o s.1.1).cells 35 :: blk b [.slice none 0 0, w,s.2.2.1, .int .i64 s.1.2.2.1, .int .i64 s.1.2.2.2.1] 60 :: (s.2.2.2 ++ (H1 ++ s.2.1.2.2)))
    (fun s => RsH s.2.2.1 s.1.2.1 s.2.2.2 ∧ (∀ lv ∈ s.1.2.1, lv.Ok) ∧ lenL s.1.2.1 ≤ 64 ∧ 0 ≤ s.1.1 ∧ s.1.1 + s.1.2.2.2.2.length ≤ 1048576 ∧ 0 ≤ s.1.2.2.2.1 ∧ s.1.2.2.2.1 + s.1.1 ≤ 1099512676352 ∧
      OwnS 93 21 (.slice s.2.1.1 s.1.2.2.2.2.length s.2.1.2.1) s.1.2.2.2.2.length (rows fcell s.1.2.2.2.2) s.2.1.2.2 ∧ matchL o l last no = (matchL (wq o s.1.1) s.1.2.1 s.1.2.2.1 s.1.2.2.2.1).pre s.1.2.2.2.2)
    (fun s => 2 * s.1.2.1.length + (if 0 < s.1.1 then 1 else 0)) ((o.qty, l, last, no, []), (none, 0, []), (v, H0)) ⟨h0, hok, h64, hq, by show o.qty + ((0 : Nat) : Int) ≤ _; omega, hn, by show no + o.qty ≤ _; omega, .nil _ _, rfl⟩ rfl (fun x => by
      show cnt x (blk b3 o.cells 35 :: _) = cnt x (blk b3 o.cells 35 :: blk b [.slice none 0 0, w,v, .int .i64 last, .int .i64 no] 60 :: (H0 ++ (H1 ++ [])))
      (first | rfl | (simp only [List.append_eq, cnt_append, cnt_cons, cnt_nil, blk]; omega) | (simp only [List.append_eq, cnt_append, cnt_cons, cnt_nil, blk]; done))) ?_
  clear h0 hok h64
  rintro ⟨⟨q, lv0, la, n, out⟩, ⟨ao, co, O⟩, ⟨v, H0⟩⟩ ⟨h0, hok, h64, g1_, g2, g3, g4, own, hm⟩
  dsimp only at h0 hok h64 g1_ g2 g3 g4 own hm ⊢
  have hwq : (wq o q).qty = q := rfl
  have h00 := h0
  obtain ⟨a, cap, bs, A, L, rfl, ownA, hL, rfl⟩ := h0
  have hck : lv0.length ≤ cap := by
    obtain ⟨_, _, hv, h2⟩ := ownA.form
    cases hv; exact h2
  have hbl := hL.len
  ((iterate 2 refine run_seq ?_); refine run_region ?_; refine xel rfl (ev_fieldAddr rfl rfl (fo rfl)) ?_; refine xel rfl (ev_loadK rfl rfl (sc rfl) (memF (.head _)) rfl) ?_; (iterate 2 refine xep rfl rfl ?_); (iterate 3 refine xgp rfl rfl rfl ?_); refine xgl rfl rfl (fun hq => ev_fieldAddr rfl rfl (fo rfl)) ?_; refine xgl rfl rfl (fun hq => ev_indexAddrA rfl rfl rfl (ar rfl) (by (try simp only [z0, z1, z2, z3, z4, z5, z6, z7, z8, z9, Bool.not_true, Bool.not_false, Bool.false_or, Bool.true_and, true_and, and_true, false_or, or_false, reduceCtorEq, Bool.false_eq_true] at hq); omega) (by (try simp only [z0, z1, z2, z3, z4, z5, z6, z7, z8, z9, Bool.not_true, Bool.not_false, Bool.false_or, Bool.true_and, true_and, and_true, false_or, or_false, reduceCtorEq, Bool.false_eq_true] at hq); omega)) ?_; refine xgl rfl rfl (fun hq => ev_loadK rfl rfl (sc rfl) (memF (.tail _ (.head _))) rfl) ?_; refine xgl rfl rfl (fun hq => ev_len rfl rfl (se rfl)) ?_; refine xgp rfl rfl rfl ?_; refine xep rfl rfl ?_; refine runL_nil ?_; refine then_normal ?_)
  by_cases hc : 0 < q ∧ 0 < lv0.length
  · refine run_condT rfl (by rw [decide_eq_true (by rw [hwq]; exact hc.1 : (0 : Int) < (wq o q).qty), decide_eq_true (by omega : (0 : Int) < (lv0.length : Int))]; rfl) ?_
    obtain ⟨lv, r, rfl⟩ : ∃ lv r, lv0 = lv :: r := by
      cases lv0 with
      | nil => exact absurd hc.2 (by simp)
      | cons x y => exact ⟨x, y, rfl⟩
    have hlok := hok lv (by simp)
    have hq9 := hc.1
    have hok' : ∀ lv ∈ r, lv.Ok := fun x m => hok x (List.mem_cons_of_mem _ m)
    have hl0 : 0 < (lv :: r).length := by simp
    have hll := lenL_ge hok
    obtain ⟨bi, hbi⟩ : ∃ bi, bs[0]? = some bi := ⟨bs[0]'(by omega), List.getElem?_eq_getElem _⟩
    obtain ⟨G1, G2, hG1, hpG, hset, G3, hG3, hpG3⟩ := hL.out (k := 0) (lv := lv) hbi rfl
    obtain ⟨ba, rest, cap', hv, hA, hl2, hr2, hk2⟩ := ownA.pos hl0
    cases hv
    have g1' : (rows pc bs ++ rest)[0 + (0 : Int).toNat * 1]? = some (.pointer (some ⟨bi, 0, none⟩)) := by
      have := (rows_at pc_len hbi rest).get (k := 0) (v := .pointer (some ⟨bi, 0, none⟩)) rfl
      simpa using this
    rw [hA] at ownA
    have src := ownA.src (H := [blk ba (rows pc bs ++ rest) 97]) fun x m => m
    obtain ⟨HH, hHH⟩ : ∃ HH, HH = blk b3 (wq o q).cells 35 :: blk b [.slice none 0 0, w,.slice (some ⟨ba, 0, none⟩) (lv :: r).length cap, .int .i64 la, .int .i64 n] 60 :: blk ba (rows pc bs ++ rest) 97 :: (G1 ++ (G2 ++ (H1 ++ O))) := ⟨_, rfl⟩
    refine RunC.perm (h' := blk b3 (wq o q).cells 35 :: blk b [.slice none 0 0, w,.slice (some ⟨ba, 0, none⟩) (lv :: r).length cap, .int .i64 la, .int .i64 n] 60 :: blk ba (rows pc bs ++ rest) 97 :: (G1 ++ (G2 ++ (H1 ++ O)))) (fun x => by
      have h1 := hpG x
      rw [hA]
      simp only [List.append_eq, cnt_append, cnt_cons, cnt_nil, blk] at h1 ⊢
      omega) ?_
    have g1 := g1'
    (refine run_skip ?_; refine then_normal ?_; refine run_block ?_; refine run_seq ?_; refine run_region ?_; (iterate 3 refine xep rfl rfl ?_); refine xel rfl (ev_fieldAddr rfl rfl (fo rfl)) ?_; refine xel rfl (ev_indexAddrA rfl rfl rfl (ar rfl) (by omega) (by omega)) ?_; refine xel rfl (ev_loadK rfl rfl (sc rfl) (memF (.tail _ (.head _))) rfl) ?_; refine xel rfl (ev_indexAddr rfl rfl rfl (se rfl) (by omega) (by omega)) ?_; refine xel rfl (ev_load rfl rfl (sc rfl) (memF (.tail _ (.tail _ (.head _)))) g1) ?_; refine xep rfl rfl ?_; refine runL_nil ?_; refine then_normal ?_; (iterate 2 refine run_seq ?_))
    clear g1
    rw [← hHH]
    refine run_midO (σ := Unit) [0, 3, 7, 8, 9] (fun _ => [(44, .bool (!crosses (wq o q) lv.p))]) (fun _ => HH) (fun _ => True) rfl ?_ ?_
    · obtain ⟨a4, c4, A4, own4, hG4⟩ := hG1
      refine RunC.freeze ?_
      have l1 : AggF (HH ++ F) b3 0 (wq o q).cells := ⟨_, _, _, by rw [hHH]; exact memF (.head _), by simp, rfl⟩
      have l2 : LoadsF (HH ++ F) bi (0 + 0) (.int .i64 lv.p) := ⟨_, _, _, by rw [hHH, hG4]; exact memF (.tail _ (.tail _ (.tail _ (.head _)))), rfl⟩
      have q1 := fun F => rp_crosses F (wq o q) lv.p
      refine run_region_D mo ?_
      (refine runD_q 0 rfl rfl (by kernel_rfl) ?_; refine ⟨_, fun _ => ev_loadAF rfl rfl (ag rfl) (sz rfl) l1 rfl, ?_⟩; refine runD_q 1 rfl rfl (by kernel_rfl) ?_; refine ⟨_, fun _ => ev_pure rfl, ?_⟩; refine runD_q 2 rfl rfl (by kernel_rfl) ?_; refine ⟨_, fun _ => ev_pure rfl, ?_⟩; refine runD_q 3 rfl rfl (by kernel_rfl) ?_; refine ⟨_, fun _ => ev_fieldAddr rfl rfl (fo rfl), ?_⟩; refine runD_q 4 rfl rfl (by kernel_rfl) ?_; refine ⟨_, fun _ => ev_loadF rfl rfl (sc rfl) l2, ?_⟩; refine runD_q 5 rfl rfl (by kernel_rfl) ?_; refine ⟨_, fun _ => ev_callQ rfl rfl rfl (pf rfl) (q1 ..), ?_⟩; refine runD_q 6 rfl rfl (by kernel_rfl) ?_; refine ⟨_, fun _ => ev_pure rfl, ?_⟩; refine runD_done (by kernel_rfl) ?_)
      exact midN () [] trivial rfl (fun x => by (first | rfl | (simp only [List.append_eq, cnt_append, cnt_cons, cnt_nil, blk]; omega) | (simp only [List.append_eq, cnt_append, cnt_cons, cnt_nil, blk]; done)))
    intro fr' h' hmid
    (refine then_normal ?_)
    refine midN_out hmid ?_
    clear hmid
    rintro ⟨⟩ -
    cases hcr : crosses (wq o q) lv.p with
    | false =>
      have hend : matchL (wq o q) (lv :: r) la n = ⟨[], q, false, lv :: r, la, n⟩ := matchL_no fun lv' r' e _ => by cases e; exact hcr
      refine run_condT rfl rfl ?_
      (refine run_exit ?_; refine then_exit ?_; refine in_pass rfl ?_; refine then_exit ?_; refine in_exit ?_; refine then_normal ?_)
      rw [hend] at hm
      have l9 : AggF (HH ++ F) b3 0 (wq o q).cells := ⟨_, _, _, by rw [hHH]; exact memF (.head _), by simp, rfl⟩
      have l8 := l9.at 6 _ rfl
      (refine run_seq ?_)
      refine RunC.freeze ?_
      refine run_region_D mo ?_
      (refine runD_q 0 rfl rfl (by kernel_rfl) ?_; refine ⟨_, fun _ => ev_pure rfl, ?_⟩; refine runD_q 1 rfl rfl (by kernel_rfl) ?_; refine ⟨_, fun _ => ev_fieldAddr rfl rfl (fo rfl), ?_⟩; refine runD_q 2 rfl rfl (by kernel_rfl) ?_; refine ⟨_, fun _ => ev_loadF rfl rfl (sc rfl) l8, ?_⟩; refine runD_q 3 rfl rfl (by kernel_rfl) ?_; refine ⟨_, fun _ => ev_pure rfl, ?_⟩; refine runD_q 4 rfl rfl (by kernel_rfl) ?_; refine ⟨_, fun _ => ev_pure rfl, ?_⟩; refine runD_q 5 rfl rfl (by kernel_rfl) ?_; refine ⟨_, fun _ => ev_pure rfl, ?_⟩; refine runD_done (by kernel_rfl) ?_; refine then_normal ?_; refine run_ret ?_)
      rw [hm]
      exact ⟨_, rfl, blk b [.slice none 0 0, w,.slice (some ⟨ba, 0, none⟩) (lv :: r).length cap, .int .i64 la, .int .i64 n] 60 :: (A ++ L ++ H1) ++ O, [blk b3 (wq o q).cells 35], ⟨ao, co, O, _, A ++ L, by simp only [MR.pre, List.append_nil]; rfl, by simp only [MR.pre, List.append_nil]; exact own, h00, rfl⟩, fun x => by
        have h1 := hpG x
        rw [hHH, hA]
        simp only [List.append_eq, cnt_append, cnt_cons, cnt_nil, blk] at h1 ⊢
        omega⟩
    | true =>
      refine run_condF rfl rfl ?_
      rw [hHH]
      (refine run_skip ?_; refine then_normal ?_; refine run_seq ?_; refine run_region ?_; refine xep rfl rfl ?_; refine xel rfl (ev_fieldAddr rfl rfl (fo rfl)) ?_; refine xel rfl (ev_loadK rfl rfl (sc rfl) (memF (.head _)) rfl) ?_; refine xel rfl (ev_fieldAddr rfl rfl (fo rfl)) ?_; refine xel rfl (ev_loadK rfl rfl (sc rfl) (memF (.head _)) rfl) ?_)
      refine runL_callZ (blk b3 (wq o q).cells 35 :: blk b [.slice none 0 0, w,.slice (some ⟨ba, 0, none⟩) (lv :: r).length cap, .int .i64 la, .int .i64 n] 60 :: blk ba (rows pc bs ++ rest) 97 :: (G2 ++ (H1 ++ O))) G1 rfl rfl rfl rfl rfl rfl rfl (pf rfl) (fun x => by (first | rfl | (simp only [List.append_eq, cnt_append, cnt_cons, cnt_nil, blk]; omega) | (simp only [List.append_eq, cnt_append, cnt_cons, cnt_nil, blk]; done))) (sp_rtake _ G1 bi lv.p lv.es hG1 hlok.1 o.firm q (by unfold InI; omega) (by omega)) ?_
      rintro v2 _ ⟨a3, c3, A3, G1', rfl, own3, hG1', rfl⟩
      have hti := take_is (firm := o.firm) q.toNat q lv.es (Nat.le_refl _) g1_ hlok.1
      have hun : matchL (wq o q) (lv :: r) la n = if (take o.firm q lv.es).2.1 = true then
          ⟨flls (wq o q) lv.p n (take o.firm q lv.es).1, q - sumH (take o.firm q lv.es).1, true, (if (take o.firm q lv.es).2.2 = [] then r else ⟨lv.p, (take o.firm q lv.es).2.2⟩ :: r), (if (take o.firm q lv.es).1 = [] then la else lv.p), n + (take o.firm q lv.es).1.length⟩
        else if (take o.firm q lv.es).2.2 = [] then
          (matchL (wq o (q - sumH (take o.firm q lv.es).1)) r (if (take o.firm q lv.es).1 = [] then la else lv.p) (n + (take o.firm q lv.es).1.length)).pre (flls (wq o q) lv.p n (take o.firm q lv.es).1)
        else ⟨flls (wq o q) lv.p n (take o.firm q lv.es).1, q - sumH (take o.firm q lv.es).1, false, ⟨lv.p, (take o.firm q lv.es).2.2⟩ :: r, (if (take o.firm q lv.es).1 = [] then la else lv.p), n + (take o.firm q lv.es).1.length⟩ := by
        conv => lhs; unfold matchL
        rw [if_pos ⟨hc.1, hcr⟩]; rfl
      rw [hun] at hm
      clear hun
      generalize take o.firm q lv.es = T at *
      obtain ⟨hs, self, es2⟩ := T
      dsimp only at *
      obtain ⟨t1, t2, t3, t4, t5, t6, t7, t8⟩ := hti
      dsimp only at t1 t2 t3 t4 t5 t6 t7 t8
      obtain ⟨L', hL', hpL'⟩ := hset lv.p es2 G1' hG1'
      have hsp := fun k => sumH_part (l := hs) (fun x m => (t1 x m).1) k
      obtain ⟨a5, c5, A5, own5, rfl⟩ := hG1'
      ((iterate 5 refine xep rfl rfl ?_); refine runL_nil ?_; refine then_normal ?_; (iterate 2 refine run_seq ?_); refine run_region ?_; refine xep rfl rfl ?_; refine xel rfl (ev_len rfl rfl (se rfl)) ?_; refine xep rfl rfl ?_; refine runL_nil ?_; refine then_normal ?_; refine run_block ?_)
      refine run_loopK (σ := Nat × (Option Addr × Nat × Heap)) [0, 3, 7, 8, 9, 11, 54, 55, 56] (fun s => [(0, .pointer (some ⟨b, 0, none⟩)), (3, .pointer (some ⟨b3, 0, none⟩)), (7, .int .i64 2), (8, .slice s.2.1 (out ++ flls (wq o q) lv.p n (hs.take s.1)).length s.2.2.1), (9, .pointer (some ⟨bi, 0, none⟩)), (11, .bool self), (54, .slice a3 hs.length c3), (55, .int .i64 hs.length), (56, .int .i64 s.1)])
        (fun s => blk b3 (wq o (q - sumH (hs.take s.1))).cells 35 :: blk b [.slice none 0 0, w,.slice (some ⟨ba, 0, none⟩) (lv :: r).length cap, .int .i64 (if s.1 = 0 then la else lv.p), .int .i64 (n + (s.1 : Nat))] 60 :: blk bi [.int .i64 lv.p, .slice a5 es2.length c5] 100 :: (A3 ++ (s.2.2.2 ++ (blk ba (rows pc bs ++ rest) 97 :: (A5 ++ (G2 ++ H1))))))
        (fun s => s.1 ≤ hs.length ∧ OwnS 93 21 (.slice s.2.1 (out ++ flls (wq o q) lv.p n (hs.take s.1)).length s.2.2.1) (out ++ flls (wq o q) lv.p n (hs.take s.1)).length (rows fcell (out ++ flls (wq o q) lv.p n (hs.take s.1))) s.2.2.2) (fun s => hs.length - s.1) (0, ao, co, O) ⟨Nat.zero_le _, by show OwnS _ _ (.slice ao (out ++ flls (wq o q) lv.p n []).length co) (out ++ flls (wq o q) lv.p n []).length (rows fcell (out ++ flls (wq o q) lv.p n [])) _; rw [show out ++ flls (wq o q) lv.p n [] = out from List.append_nil _]; exact own⟩ (by simp only [List.take_zero, flls, List.append_nil]; rfl) (fun x => by
          show _ = cnt x (blk b3 (wq o (q - 0)).cells 35 :: blk b [.slice none 0 0, w,.slice (some ⟨ba, 0, none⟩) (lv :: r).length cap, .int .i64 la, .int .i64 (n + (0 : Nat))] 60 :: blk bi [.int .i64 lv.p, .slice a5 es2.length c5] 100 :: (A3 ++ (O ++ (blk ba (rows pc bs ++ rest) 97 :: (A5 ++ (G2 ++ H1))))))
          simp only [Int.sub_zero, Int.natCast_zero, Int.add_zero]
          (first | rfl | (simp only [List.append_eq, cnt_append, cnt_cons, cnt_nil, blk]; omega) | (simp only [List.append_eq, cnt_append, cnt_cons, cnt_nil, blk]; done))) ?_
      rintro ⟨k, ak, ck, Ok⟩ ⟨gk, ownk⟩
      dsimp only at gk ownk ⊢
      have hk1 := hsp k
      have hwk : (wq o (q - sumH (hs.take k))).qty = q - sumH (hs.take k) := rfl
      (refine run_seq ?_; refine run_region ?_; refine xep rfl rfl ?_; refine runL_nil ?_; refine then_normal ?_; refine run_seq ?_)
      (refine run_cond rfl (fun hc => ?_) (fun hc => ?_) <;> (try simp only [z0, z1, z2, z3, z4, z5, z6, z7, z8, z9, Bool.not_true, Bool.not_false, Bool.false_or, Bool.true_and, true_and, and_true, false_or, or_false, reduceCtorEq, Bool.false_eq_true] at hc))
      · obtain ⟨b4, rest4, c4, hv4, hA4, hl4, hr4, hk4⟩ := own3.pos (by omega)
        cases hv4
        obtain ⟨h, hh⟩ : ∃ h, hs[k]? = some h := ⟨hs[k]'(by omega), List.getElem?_eq_getElem _⟩
        have hh1 := t1 h (List.mem_of_getElem? hh)
        have hst := sumH_take hh
        have hk2 := hsp (k + 1)
        have r1 : RowAt (rows hcell hs ++ rest4) (0 + (k : Int).toNat * 10) (hcell h) := by
          rw [Nat.zero_add]; exact rows_at hcell_len hh rest4
        rw [hA4]
        (refine run_skip ?_; refine then_normal ?_; refine run_seq ?_; refine run_block ?_; refine run_seq ?_; refine run_region ?_; refine xel rfl (ev_indexAddr rfl rfl rfl (se rfl) (by omega) (by omega)) ?_; refine xel rfl (ev_loadAR rfl rfl (ag rfl) (sz rfl) (memF (.tail _ (.tail _ (.tail _ (.head _))))) r1 rfl) ?_; refine runL_alloc rfl rfl rfl rfl rfl ze84 (fun _ => ?_); refine runL_store0 rfl rfl rfl rfl rfl (sz rfl) rfl rfl rfl rfl rfl ?_; refine runL_nil ?_; refine then_normal ?_; refine run_seq ?_; refine run_region ?_; (iterate 2 refine xep rfl rfl ?_); refine xel rfl (ev_fieldAddr rfl rfl (fo rfl)) ?_; refine xel rfl (ev_loadK rfl rfl (sc rfl) (memF (.tail _ (.tail _ (.head _)))) rfl) ?_; refine xel rfl (ev_add rfl rfl rfl (by omega)) ?_; refine xep rfl rfl ?_; refine xel rfl (ev_fieldAddr rfl rfl (fo rfl)) ?_; refine runL_store2 rfl rfl rfl rfl rfl (sz rfl) rfl rfl rfl rfl rfl ?_; refine runL_nil ?_; refine then_normal ?_; refine run_seq ?_; refine run_region ?_; (iterate 3 refine xep rfl rfl ?_); refine xel rfl (ev_fieldAddr rfl rfl (fo rfl)) ?_; refine xel rfl (ev_loadK rfl rfl (sc rfl) (memF (.tail _ (.tail _ (.tail _ (.head _))))) rfl) ?_; refine xep rfl rfl ?_; refine xel rfl (ev_fieldAddr rfl rfl (fo rfl)) ?_; refine runL_store2 rfl rfl rfl rfl rfl (sz rfl) rfl rfl rfl rfl rfl ?_; refine runL_nil ?_; refine then_normal ?_; refine run_seq ?_)
        rename_i b13
        obtain ⟨AA, hAA⟩ : ∃ AA, AA = blk b13 (hcell h) 84 :: blk b3 (wq o (q - sumH (hs.take k))).cells 35 :: blk b [.slice none 0 0, w,.slice (some ⟨ba, 0, none⟩) (lv :: r).length cap, .int .i64 lv.p, .int .i64 (n + k + 1)] 60 :: blk bi [.int .i64 lv.p, .slice a5 es2.length c5] 100 :: blk b4 (rows hcell hs ++ rest4) 84 :: (blk ba (rows pc bs ++ rest) 97 :: (A5 ++ (G2 ++ H1))) := ⟨_, rfl⟩
        refine RunC.perm (h' := Ok ++ AA) (fun x => by rw [hAA]; simp only [List.append_eq, cnt_append, cnt_cons, cnt_nil, blk, hcell, Ord.cells, wq]; omega) ?_
        refine RunC.freezeR ?_
        have l0 : AggF (AA ++ F) b13 0 (hcell h) := ⟨_, _, _, by rw [hAA]; exact memF (.head _), by simp, rfl⟩
        have l1 := l0.sub (j := 0) (n := 9) (l' := h.1.cells) rfl
        have l2 := l0.at 9 _ rfl
        have l3 : AggF (AA ++ F) b3 0 (wq o (q - sumH (hs.take k))).cells := ⟨_, _, _, by rw [hAA]; exact memF (.tail _ (.head _)), by simp, rfl⟩
        have l4 : LoadsF (AA ++ F) b (0 + 4) (.int .i64 (n + k + 1)) := ⟨_, _, _, by rw [hAA]; exact memF (.tail _ (.tail _ (.head _))), rfl⟩
        have l5 : LoadsF (AA ++ F) bi (0 + 0) (.int .i64 lv.p) := ⟨_, _, _, by rw [hAA]; exact memF (.tail _ (.tail _ (.tail _ (.head _)))), rfl⟩
        have hfl := flls_len (wq o q) lv.p n (hs.take k)
        rw [List.length_take] at hfl
        have hfl2 : (out ++ flls (wq o q) lv.p n (hs.take k)).length = out.length + k := by rw [List.length_append, hfl]; omega
        refine run_region_D mo ?_
        (refine runD_q 0 rfl rfl (by kernel_rfl) ?_; refine ⟨_, fun _ => ev_pure rfl, ?_⟩; refine runD_q 1 rfl rfl (by kernel_rfl) ?_; refine ⟨_, fun _ => ev_fieldAddr rfl rfl (fo rfl), ?_⟩; refine runD_q 2 rfl rfl (by kernel_rfl) ?_; refine ⟨_, fun _ => ev_loadAF rfl rfl (ag rfl) (sz rfl) l1 rfl, ?_⟩; refine runD_q 3 rfl rfl (by kernel_rfl) ?_; refine ⟨_, fun _ => ev_loadAF rfl rfl (ag rfl) (sz rfl) l3 rfl, ?_⟩; refine runD_q 4 rfl rfl (by kernel_rfl) ?_; refine ⟨_, fun _ => ev_pure rfl, ?_⟩; refine runD_q 5 rfl rfl (by kernel_rfl) ?_; refine ⟨_, fun _ => ev_pure rfl, ?_⟩; refine runD_q 6 rfl rfl (by kernel_rfl) ?_; refine ⟨_, fun _ => ev_fieldAddr rfl rfl (fo rfl), ?_⟩; refine runD_q 7 rfl rfl (by kernel_rfl) ?_; refine ⟨_, fun _ => ev_loadF rfl rfl (sc rfl) l5, ?_⟩; refine runD_q 8 rfl rfl (by kernel_rfl) ?_; refine ⟨_, fun _ => ev_fieldAddr rfl rfl (fo rfl), ?_⟩; refine runD_q 9 rfl rfl (by kernel_rfl) ?_; refine ⟨_, fun _ => ev_loadF rfl rfl (sc rfl) l2, ?_⟩; refine runD_q 10 rfl rfl (by kernel_rfl) ?_; refine ⟨_, fun _ => ev_pure rfl, ?_⟩; refine runD_q 11 rfl rfl (by kernel_rfl) ?_; refine ⟨_, fun _ => ev_pure rfl, ?_⟩; refine runD_q 12 rfl rfl (by kernel_rfl) ?_; refine ⟨_, fun _ => ev_fieldAddr rfl rfl (fo rfl), ?_⟩; refine runD_q 13 rfl rfl (by kernel_rfl) ?_; refine ⟨_, fun _ => ev_loadF rfl rfl (sc rfl) l4, ?_⟩; refine runD_q 14 rfl rfl (by kernel_rfl) ?_; refine ⟨_, fun _ => ev_build rfl pl93 rfl, ?_⟩; refine runD_1 15 (by kernel_rfl) rfl rfl rfl ?_)
        refine runL_buildSlice (l := fcell (Fl.mk h.1 (wq o (q - sumH (hs.take k))) lv.p h.2 (n + k + 1))) rfl rfl rfl rfl rfl (se rfl) ze93 rfl rfl rfl rfl rfl (fun b14 => ?_)
        (refine runL_nil ?_; refine endS_d rfl ?_; refine runD_1 16 (by kernel_rfl) rfl rfl rfl ?_)
        refine runL_append (sl := fcell (Fl.mk h.1 (wq o (q - sumH (hs.take k))) lv.p h.2 (n + k + 1))) [blk b14 (fcell (Fl.mk h.1 (wq o (q - sumH (hs.take k))) lv.p h.2 (n + k + 1))) 93] rfl rfl rfl rfl rfl rfl rfl (se rfl) (se rfl) ze93 rfl (byt rfl) ownk (fun y => by (first | rfl | (simp only [List.append_eq, cnt_append, cnt_cons, cnt_nil, blk]; omega) | (simp only [List.append_eq, cnt_append, cnt_cons, cnt_nil, blk]; done))) ⟨rfl, .inr ⟨b14, 0, _, _, _, rfl, memF (.head _), by simp [fcell], rfl⟩⟩ rfl (by decide) (by decide) (by omega) ?_
        rintro v' A' own'
        have own2 := own'.snoc (f := fcell) (x := (Fl.mk h.1 (wq o (q - sumH (hs.take k))) lv.p h.2 (n + k + 1))) rfl
        have htk : hs.take (k + 1) = hs.take k ++ [h] := by rw [List.take_succ_eq_append_getElem (List.getElem?_eq_some_iff.1 hh).1, (List.getElem?_eq_some_iff.1 hh).2]
        have efs : (out ++ flls (wq o q) lv.p n (hs.take k)) ++ [(Fl.mk h.1 (wq o (q - sumH (hs.take k))) lv.p h.2 (n + k + 1))] = out ++ flls (wq o q) lv.p n (hs.take (k + 1)) := by
          rw [htk, flls_snoc, List.append_assoc, List.length_take, Nat.min_eq_left (by omega)]; rfl
        rw [efs] at own2
        obtain ⟨a7, c7, rfl, own7⟩ := own2.at
        (refine runL_nil ?_; refine endS_d rfl ?_; refine runD_q 17 rfl rfl (by kernel_rfl) ?_; refine ⟨_, fun _ => ev_pure rfl, ?_⟩; refine runD_done (by kernel_rfl) ?_; refine then_normal ?_; refine run_region ?_; refine xel rfl (ev_fieldAddr rfl rfl (fo rfl)) ?_)
        refine RunL.perm (h' := blk b3 (wq o (q - sumH (hs.take k))).cells 35 :: blk b13 (hcell h) 84 :: (blk b [.slice none 0 0, w,.slice (some ⟨ba, 0, none⟩) (lv :: r).length cap, .int .i64 lv.p, .int .i64 (n + k + 1)] 60 :: blk bi [.int .i64 lv.p, .slice a5 es2.length c5] 100 :: blk b4 (rows hcell hs ++ rest4) 84 :: (blk ba (rows pc bs ++ rest) 97 :: (A5 ++ (G2 ++ H1))) ++ (A' ++ [blk b14 (fcell (Fl.mk h.1 (wq o (q - sumH (hs.take k))) lv.p h.2 (n + k + 1))) 93]))) (fun x => by rw [hAA]; (first | rfl | (simp only [List.append_eq, cnt_append, cnt_cons, cnt_nil, blk]; omega) | (simp only [List.append_eq, cnt_append, cnt_cons, cnt_nil, blk]; done))) ?_
        (refine xel rfl (ev_loadK rfl rfl (sc rfl) (memF (.head _)) rfl) ?_; refine xel rfl (ev_fieldAddr rfl rfl (fo rfl)) ?_; refine xel rfl (ev_loadK rfl rfl (sc rfl) (memF (.tail _ (.head _))) rfl) ?_; refine xel rfl (ev_sub rfl rfl rfl (by omega)) ?_; refine xel rfl (ev_fieldAddr rfl rfl (fo rfl)) ?_; refine runL_store0 rfl rfl rfl rfl rfl (sz rfl) rfl rfl rfl rfl rfl ?_; refine runL_nil ?_; refine in_normal ?_; refine then_normal ?_; refine run_region ?_; refine xel rfl (ev_add rfl rfl rfl (by omega)) ?_; refine xep rfl rfl ?_; refine runL_nil ?_; refine then_normal ?_)
        have e1 : q - sumH (hs.take (k + 1)) = q - sumH (hs.take k) - h.2 := by omega
        refine ⟨(k + 1, a7, c7, A'), ⟨by show k + 1 ≤ _; omega, own7⟩, by show hs.length - (k + 1) < hs.length - k; omega, rfl, [blk b13 (hcell h) 84, blk b14 (fcell (Fl.mk h.1 (wq o (q - sumH (hs.take k))) lv.p h.2 (n + k + 1))) 93], fun x => ?_⟩
        dsimp only
        rw [e1, if_neg (Nat.succ_ne_zero k), show n + ((k + 1 : Nat) : Int) = n + k + 1 by push_cast; omega]
        simp only [List.append_eq, cnt_append, cnt_cons, cnt_nil, blk, hcell, Ord.cells, wq]
        omega
      · have : k = hs.length := by omega
        subst this
        (refine run_exit ?_; (iterate 2 refine then_exit ?_); refine in_exit ?_; refine then_normal ?_)
        simp only [List.take_length] at ownk ⊢
        rw [show (if hs.length = 0 then la else lv.p) = (if hs = [] then la else lv.p) by cases hs <;> simp]
        have hq3 : (out ++ flls (wq o q) lv.p n hs).length = out.length + hs.length := by rw [List.length_append, flls_len]
        ((iterate 2 refine run_seq ?_); refine run_region ?_; (iterate 2 refine xep rfl rfl ?_); refine xel rfl (ev_fieldAddr rfl rfl (fo rfl)) ?_; refine xel rfl (ev_loadK rfl rfl (sc rfl) (memF (.tail _ (.tail _ (.head _)))) rfl) ?_; refine xel rfl (ev_len rfl rfl (se rfl)) ?_; refine xep rfl rfl ?_; refine runL_nil ?_; refine then_normal ?_)
        refine run_midO (σ := Value × Heap) [0, 3, 7, 8, 11] (fun _ => []) (fun s => blk b3 (wq o (q - sumH hs)).cells 35 :: blk b [.slice none 0 0, w,s.1, .int .i64 (if hs = [] then la else lv.p), .int .i64 (n + hs.length)] 60 :: (s.2 ++ (H1 ++ Ok))) (fun s => RsH s.1 (if es2 = [] then r else ⟨lv.p, es2⟩ :: r) s.2) rfl ?_ ?_
        · by_cases he : es2 = []
          · rw [if_pos he]
            refine run_condT rfl (by rw [he]; rfl) ?_
            obtain ⟨BB, hBB⟩ : ∃ BB, BB = blk b [.slice none 0 0, w,.slice (some ⟨ba, 0, none⟩) (lv :: r).length cap, .int .i64 (if hs = [] then la else lv.p), .int .i64 (n + hs.length)] 60 :: blk ba (rows pc bs ++ rest) 97 :: (blk b3 (wq o (q - sumH hs)).cells 35 :: blk bi [.int .i64 lv.p, .slice a5 es2.length c5] 100 :: (A3 ++ (Ok ++ (A5 ++ (G2 ++ H1))))) := ⟨_, rfl⟩
            refine RunC.perm (h' := [] ++ BB) (fun x => by rw [hBB]; (first | rfl | (simp only [List.append_eq, cnt_append, cnt_cons, cnt_nil, blk]; omega) | (simp only [List.append_eq, cnt_append, cnt_cons, cnt_nil, blk]; done))) ?_
            have l1 : LoadsF (BB ++ F) b (0 + (2 : Int).toNat * 1) (.slice (some ⟨ba, 0, none⟩) (lv :: r).length cap) := ⟨_, _, _, by rw [hBB]; exact memF (.head _), rfl⟩
            have src2 := src.mono (H' := BB ++ F) fun x m => by simp at m; rw [hBB]; simp [m]
            have s2 := src2.drop (k := 1) (cap := cap) (by omega) hck
            rw [rows_drop pc_len _ (by omega)] at s2
            have hel : (lv :: r).length - Int.toNat 1 = r.length := rfl
            have hrr : lenL r ≤ lenL (lv :: r) := by show _ ≤ lv.es.length + lenL r; omega
            have hlr : r.length + 1 = (lv :: r).length := rfl
            have hr64 : r.length ≤ 64 := by omega
            refine run_region_D6 (σ := Option Addr × Nat × Heap) 13 2 [0, 3, 7, 8, 11] (fun s => [(114, .slice s.1 r.length s.2.1), (116, .pointer (some ⟨b, 0 + 0, none⟩)), (105, .int .i64 2)]) (fun s => s.2.2) (fun s => OwnS 97 1 (.slice s.1 r.length s.2.1) r.length (rows pc (bs.drop 1)) s.2.2) mo rfl (by kernel_rfl) rfl ?_ ?_
            · (refine runD_q 0 rfl rfl (by kernel_rfl) ?_; refine ⟨_, fun _ => ev_pure rfl, ?_⟩; refine runD_q 1 rfl rfl (by kernel_rfl) ?_; refine ⟨_, fun _ => ev_pure rfl, ?_⟩; refine runD_q 3 rfl rfl (by kernel_rfl) ?_; refine ⟨_, fun _ => ev_pure rfl, ?_⟩; refine runD_q 4 rfl rfl (by kernel_rfl) ?_; refine ⟨_, fun _ => ev_pure rfl, ?_⟩; refine runD_q 5 rfl rfl (by kernel_rfl) ?_; refine ⟨_, fun _ => ev_pure rfl, ?_⟩; refine runD_q 6 rfl rfl (by kernel_rfl) ?_; refine ⟨_, fun _ => ev_fieldAddr rfl rfl (fo rfl), ?_⟩; refine runD_q 7 rfl rfl (by kernel_rfl) ?_; refine ⟨_, fun _ => ev_indexAddrA rfl rfl rfl (ar rfl) (by omega) (by omega), ?_⟩; refine runD_q 8 rfl rfl (by kernel_rfl) ?_; refine ⟨_, fun _ => ev_loadF rfl rfl (sc rfl) l1, ?_⟩; refine runD_q 9 rfl rfl (by kernel_rfl) ?_; refine ⟨_, fun _ => ev_sliceLo rfl rfl rfl (se rfl) (by omega) (by omega), ?_⟩; refine runD_q 11 rfl rfl (by kernel_rfl) ?_; refine ⟨_, fun _ => ev_pure rfl, ?_⟩; refine runD_q 12 rfl rfl (by kernel_rfl) ?_; refine ⟨_, fun _ => ev_fieldAddr rfl rfl (fo rfl), ?_⟩; refine runD_1 2 (by kernel_rfl) rfl rfl rfl ?_)
              refine runL_buildSlice (n := 1) (l := []) rfl rfl rfl rfl rfl (se rfl) ze97 rfl rfl rfl rfl rfl (fun b15 => ?_)
              (refine runL_nil ?_; refine endS_d rfl ?_; refine runD_1 10 (by kernel_rfl) rfl rfl rfl ?_)
              refine runL_append (sl := rows pc (bs.drop 1)) [] rfl rfl rfl rfl rfl rfl rfl (se rfl) (se rfl) ze97 rfl (byt rfl) (OwnS.lit (l := []) rfl) (fun y => by (first | rfl | (simp only [List.append_eq, cnt_append, cnt_cons, cnt_nil, blk]; omega) | (simp only [List.append_eq, cnt_append, cnt_cons, cnt_nil, blk]; done))) (s2.mono fun x m => by simp [m]) (rows_cells pc_cells _) (by decide) (by decide) (by rw [hel]; omega) ?_
              rintro v' A' own'
              rw [List.nil_append, Nat.zero_add, hel] at own'
              obtain ⟨a16, c16, rfl, own16⟩ := own'.at
              (refine runL_nil ?_; refine endS_d rfl ?_; refine runD_done (by kernel_rfl) ?_)
              exact midX (a16, c16, A') own16 rfl (fun y => by (first | rfl | (simp only [List.append_eq, cnt_append, cnt_cons, cnt_nil, blk]; omega) | (simp only [List.append_eq, cnt_append, cnt_cons, cnt_nil, blk]; done)))
            · rintro ⟨a7, c7, A7⟩ own7
              dsimp only at own7 ⊢
              subst hBB
              have hG3' : RvsH (bs.drop 1) r G3 := by
                have h9 := hG3
                rw [List.eraseIdx_eq_take_drop_succ, List.take_zero, List.nil_append] at h9
                exact h9
              refine RunD.same (M' := blk b [.slice none 0 0, w,.slice (some ⟨ba, 0, none⟩) (lv :: r).length cap, .int .i64 (if hs = [] then la else lv.p), .int .i64 (n + hs.length)] 60 :: (blk ba (rows pc bs ++ rest) 97 :: (blk b3 (wq o (q - sumH hs)).cells 35 :: blk bi [.int .i64 lv.p, .slice a5 es2.length c5] 100 :: (A3 ++ (Ok ++ (A5 ++ (G2 ++ H1))))) ++ A7)) (fun _ _ h => h) (fun x => by (first | rfl | (simp only [List.append_eq, cnt_append, cnt_cons, cnt_nil, blk]; omega) | (simp only [List.append_eq, cnt_append, cnt_cons, cnt_nil, blk]; done))) ?_
              (refine runD_q 13 rfl rfl (by kernel_rfl) ?_; refine ⟨_, fun _ => ev_indexAddrA rfl rfl rfl (ar rfl) (by omega) (by omega), ?_⟩; refine runD_1 14 (by kernel_rfl) rfl rfl rfl ?_; refine runL_store0 rfl rfl rfl rfl rfl (sz rfl) rfl rfl rfl rfl rfl ?_; refine runL_nil ?_; refine endS_n rfl ?_; refine runD_done (by kernel_rfl) ?_)
              exact midN (.slice a7 r.length c7, A7 ++ G3) (blk ba (rows pc bs ++ rest) 97 :: blk bi [.int .i64 lv.p, .slice a5 es2.length c5] 100 :: (A3 ++ A5)) ⟨a7, c7, _, A7, G3, rfl, own7, hG3', rfl⟩ rfl (fun x => by
                have h2 := hpG3 x
                simp only [List.append_eq, cnt_append, cnt_cons, cnt_nil, blk] at h2 ⊢
                omega)
          · rw [if_neg he]
            refine run_condF rfl (decide_eq_false (fun h9 => he (List.eq_nil_of_length_eq_zero (by omega)))) ?_
            (refine run_skip ?_)
            exact midN (.slice (some ⟨ba, 0, none⟩) (lv :: r).length cap, [blk ba (rows pc bs ++ rest) 97] ++ L') A3 ⟨some ⟨ba, 0, none⟩, cap, bs, _, L', rfl, ownA, hL', rfl⟩ rfl (fun x => by
              have h2 := hpL' x
              simp only [List.append_eq, cnt_append, cnt_cons, cnt_nil, blk] at h2 ⊢
              omega)
        intro fr' h' hmid
        (refine then_normal ?_)
        refine midN_out hmid ?_
        clear hmid
        rintro ⟨v9, H9⟩ hS3
        dsimp only at hS3 ⊢
        have hlen2 : lenL (lv :: r) = lv.es.length + lenL r := rfl
        (refine run_seq ?_; refine run_region ?_; refine xep rfl rfl ?_; refine runL_nil ?_; refine then_normal ?_)
        cases self with
        | true =>
          rw [if_pos rfl] at hm
          refine run_condT rfl rfl ?_
          (refine run_seq ?_)
          obtain ⟨HJ, hHJ⟩ : ∃ HJ, HJ = blk b3 (wq o (q - sumH hs)).cells 35 :: blk b [.slice none 0 0, w,v9, .int .i64 (if hs = [] then la else lv.p), .int .i64 (n + hs.length)] 60 :: (H9 ++ (H1 ++ Ok)) := ⟨_, rfl⟩
          rw [← hHJ]
          have l9 : AggF (HJ ++ F) b3 0 (wq o (q - sumH hs)).cells := ⟨_, _, _, by rw [hHJ]; exact memF (.head _), by simp, rfl⟩
          have l8 := l9.at 6 _ rfl
          refine RunC.freeze ?_
          refine run_region_D mo ?_
          (refine runD_q 0 rfl rfl (by kernel_rfl) ?_; refine ⟨_, fun _ => ev_pure rfl, ?_⟩; refine runD_q 1 rfl rfl (by kernel_rfl) ?_; refine ⟨_, fun _ => ev_fieldAddr rfl rfl (fo rfl), ?_⟩; refine runD_q 2 rfl rfl (by kernel_rfl) ?_; refine ⟨_, fun _ => ev_loadF rfl rfl (sc rfl) l8, ?_⟩; refine runD_q 3 rfl rfl (by kernel_rfl) ?_; refine ⟨_, fun _ => ev_pure rfl, ?_⟩; refine runD_q 4 rfl rfl (by kernel_rfl) ?_; refine ⟨_, fun _ => ev_pure rfl, ?_⟩; refine runD_q 5 rfl rfl (by kernel_rfl) ?_; refine ⟨_, fun _ => ev_pure rfl, ?_⟩; refine runD_done (by kernel_rfl) ?_; refine then_normal ?_; refine run_ret ?_; refine in_ret ?_; refine then_ret ?_; refine in_ret ?_; refine then_ret ?_)
          rw [hm]
          exact ⟨_, rfl, blk b [.slice none 0 0, w,v9, .int .i64 (if hs = [] then la else lv.p), .int .i64 (n + hs.length)] 60 :: (H9 ++ H1) ++ Ok, [blk b3 (wq o (q - sumH hs)).cells 35], ⟨ak, ck, Ok, v9, H9, rfl, ownk, hS3, rfl⟩, fun x => by rw [hHJ]; (first | rfl | (simp only [List.append_eq, cnt_append, cnt_cons, cnt_nil, blk]; omega) | (simp only [List.append_eq, cnt_append, cnt_cons, cnt_nil, blk]; done))⟩
        | false =>
          rw [if_neg (by simp)] at hm
          refine run_condF rfl rfl ?_
          (refine run_skip ?_; refine in_normal ?_; refine then_normal ?_)
          by_cases he : es2 = []
          · rw [if_pos he] at hm hS3
            refine ⟨((q - sumH hs, r, (if hs = [] then la else lv.p), n + hs.length, (out ++ flls (wq o q) lv.p n hs)), (ak, ck, Ok), (v9, H9)), ⟨hS3, hok', by show lenL r ≤ 64; omega, by show 0 ≤ q - sumH hs; omega, by show q - sumH hs + (((out ++ flls (wq o q) lv.p n hs).length : Nat) : Int) ≤ _; omega, by show 0 ≤ n + (hs.length : Int); omega, by show n + (hs.length : Int) + (q - sumH hs) ≤ _; omega, ownk, ?_⟩, ?_, rfl, [], fun x => by (first | rfl | (simp only [List.append_eq, cnt_append, cnt_cons, cnt_nil, blk]; omega) | (simp only [List.append_eq, cnt_append, cnt_cons, cnt_nil, blk]; done))⟩
            · rw [hm]; show MR.pre _ (MR.pre _ _) = _; unfold MR.pre; simp only [List.append_assoc]
            · show 2 * r.length + (if 0 < q - sumH hs then 1 else 0) < 2 * (r.length + 1) + (if 0 < q then 1 else 0)
              split <;> omega
          · rw [if_neg he] at hm hS3
            have hq0 : sumH hs = q := (t6 rfl).resolve_right he
            refine ⟨((q - sumH hs, ⟨lv.p, es2⟩ :: r, (if hs = [] then la else lv.p), n + hs.length, (out ++ flls (wq o q) lv.p n hs)), (ak, ck, Ok), (v9, H9)), ⟨hS3, fun x m => ?_, by show es2.length + lenL r ≤ 64; omega, by show 0 ≤ q - sumH hs; omega, by show q - sumH hs + (((out ++ flls (wq o q) lv.p n hs).length : Nat) : Int) ≤ _; omega, by show 0 ≤ n + (hs.length : Int); omega, by show n + (hs.length : Int) + (q - sumH hs) ≤ _; omega, ownk, ?_⟩, ?_, rfl, [], fun x => by (first | rfl | (simp only [List.append_eq, cnt_append, cnt_cons, cnt_nil, blk]; omega) | (simp only [List.append_eq, cnt_append, cnt_cons, cnt_nil, blk]; done))⟩
            · rcases List.mem_cons.1 m with rfl | m
              · exact ⟨t7, he⟩
              · exact hok' x m
            · rw [hm, matchL_zero _ _ _ _ (by show ¬ 0 < q - sumH hs; omega)]
              unfold MR.pre; simp only [List.append_nil]; rfl
            · show 2 * (r.length + 1) + (if 0 < q - sumH hs then 1 else 0) < 2 * (r.length + 1) + (if 0 < q then 1 else 0)
              rw [if_neg (by omega), if_pos hq9]; omega
  · have hend : matchL (wq o q) lv0 la n = ⟨[], q, false, lv0, la, n⟩ := matchL_no fun lv' r' e h9 => by subst e; exact absurd ⟨h9, by simp⟩ hc
    refine run_condF rfl (by
      by_cases h9 : 0 < q
      · rw [decide_eq_false (by omega : ¬ (0 : Int) < (lv0.length : Int)), Bool.and_false]
      · rw [decide_eq_false (by rw [hwq]; exact h9 : ¬ (0 : Int) < (wq o q).qty)]; rfl) ?_
    (refine run_exit ?_; (iterate 2 refine then_exit ?_); refine in_exit ?_; refine then_normal ?_)
    rw [hend] at hm
    obtain ⟨HH, hHH⟩ : ∃ HH, HH = blk b3 (wq o q).cells 35 :: blk b [.slice none 0 0, w,.slice a lv0.length cap, .int .i64 la, .int .i64 n] 60 :: (A ++ L ++ (H1 ++ O)) := ⟨_, rfl⟩
    rw [← hHH]
    have l9 : AggF (HH ++ F) b3 0 (wq o q).cells := ⟨_, _, _, by rw [hHH]; exact memF (.head _), by simp, rfl⟩
    have l8 := l9.at 6 _ rfl
    (refine run_seq ?_)
    refine RunC.freeze ?_
    refine run_region_D mo ?_
    (refine runD_q 0 rfl rfl (by kernel_rfl) ?_; refine ⟨_, fun _ => ev_pure rfl, ?_⟩; refine runD_q 1 rfl rfl (by kernel_rfl) ?_; refine ⟨_, fun _ => ev_fieldAddr rfl rfl (fo rfl), ?_⟩; refine runD_q 2 rfl rfl (by kernel_rfl) ?_; refine ⟨_, fun _ => ev_loadF rfl rfl (sc rfl) l8, ?_⟩; refine runD_q 3 rfl rfl (by kernel_rfl) ?_; refine ⟨_, fun _ => ev_pure rfl, ?_⟩; refine runD_q 4 rfl rfl (by kernel_rfl) ?_; refine ⟨_, fun _ => ev_pure rfl, ?_⟩; refine runD_q 5 rfl rfl (by kernel_rfl) ?_; refine ⟨_, fun _ => ev_pure rfl, ?_⟩; refine runD_done (by kernel_rfl) ?_; refine then_normal ?_; refine run_ret ?_)
    rw [hm]
    exact ⟨_, rfl, blk b [.slice none 0 0, w,.slice a lv0.length cap, .int .i64 la, .int .i64 n] 60 :: (A ++ L ++ H1) ++ O, [blk b3 (wq o q).cells 35], ⟨ao, co, O, _, A ++ L, by simp only [MR.pre, List.append_nil]; rfl, by simp only [MR.pre, List.append_nil]; exact own, h00, rfl⟩, fun x => by rw [hHH]; (first | rfl | (simp only [List.append_eq, cnt_append, cnt_cons, cnt_nil, blk]; omega) | (simp only [List.append_eq, cnt_append, cnt_cons, cnt_nil, blk]; done))⟩
end Go.Proofs.YtmelpobcpcmdoaaGreat
