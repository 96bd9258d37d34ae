/- Contracts of functions of the given program over its translation, each proved by walking its text; used by the laws' rows. It proves no given statement by itself. -/
import Derived.Test.YtmelpobcpcmdoaaGreatSLRBkOX
import Derived.Test.YtmelpobcpcmdoaaGreatSLRLvl5X
import Derived.Test.YtmelpobcpcmdoaaGreatSLBkR
set_option autoImplicit false
set_option linter.unusedSectionVars false
set_option linter.unusedSimpArgs false
set_option linter.unusedVariables false
set_option maxRecDepth 4000
set_option maxHeartbeats 100000000
namespace Go.Proofs.YtmelpobcpcmdoaaGreat
open Go Go.SL Go.Proofs
theorem restK_at {o : Ord} {l : List Lv} {k : Nat} (h1 : ∀ (j : Nat) lv, j < k → l[j]? = some lv → better o.side lv.p o.price = true) (h2 : k ≤ l.length) (h3 : ∀ lv, l[k]? = some lv → better o.side lv.p o.price = false) : restK o l = k := by
  unfold restK
  cases h : l.findIdx? fun lv => !better o.side lv.p o.price with
  | none =>
    rw [List.findIdx?_eq_none_iff] at h
    show l.length = k
    by_cases e : k < l.length
    · have h4 := h l[k] (List.getElem_mem e)
      have h5 := h3 l[k] (List.getElem?_eq_getElem e)
      rw [h5] at h4; cases h4
    · omega
  | some m =>
    rw [List.findIdx?_eq_some_iff_getElem] at h
    obtain ⟨hm, h4, h5⟩ := h
    show m = k
    rcases Nat.lt_trichotomy m k with e | e | e
    · have h6 := h1 m l[m] e (List.getElem?_eq_getElem hm)
      rw [h6] at h4; cases h4
    · exact e
    · have h6 := h5 k e
      have h7 := h3 (l[k]'(by omega)) (List.getElem?_eq_getElem (by omega))
      rw [h7] at h6; exact absurd rfl h6
def bstep (o : Ord) (l : List Lv) (k : Nat) : Bool := match l[k]? with
  | some lv => better o.side lv.p o.price
  | none => false
variable [Base]
theorem sp_rbrest (F H : Heap) (b : Nat) (B : Bk) (hH : RbH b B H) (s : Nat) (hok : ∀ lv ∈ B.side s, lv.Ok) (h64 : lenL (B.side s) ≤ 64) (o : Ord) (hs : s = 1 ∨ s = 2) (hso : o.side = s) :
    Sp Tryz.prog F 61 [.pointer (some ⟨b, 0, none⟩), ov o] H (fun _ h' => RbH b (B.put s (restL o (B.side s))) h') := by
  obtain ⟨cc, v, H0, H1, hc5, hcs, hS, hp, hput⟩ := hH.side hs
  have gl := lenL_ge hok
  generalize B.side (s : Int) = l at *
  have hkl := restK_le o l
  obtain ⟨lv0, hlv0, hlv1, hlv2⟩ := restP_get o l
  have hS0 := hS
  obtain ⟨a, cap, bs, A, L, rfl, own, hL, rfl⟩ := hS
  have hbl := hL.len
  have hck : l.length ≤ cap := by
    obtain ⟨_, _, hv, h2⟩ := own.form
    cases hv; exact h2
  refine Sp.up ?_
  refine sp_of_code Tryz.func61 rfl rfl ?_
  (refine run_seq ?_; refine run_region ?_; refine runL_box rfl rfl rfl rfl rfl rfl (fun _ => ?_); refine runL_nil ?_; refine then_normal ?_; refine run_seq ?_)
  rename_i b3
  obtain ⟨HH, hHH⟩ : ∃ HH, HH = blk b3 o.cells 35 :: blk b cc 60 :: (A ++ L ++ H1) := ⟨_, rfl⟩
  have l1 : LoadsF (HH ++ F) b (0 + o.side.toNat * 1) (.slice a l.length cap) := ⟨_, _, _, by rw [hHH]; exact memF (.tail _ (.head _)), by rw [hso, Int.toNat_natCast, Nat.zero_add, Nat.mul_one]; exact hcs⟩
  have l0 : AggF (HH ++ F) b3 0 o.cells := ⟨_, _, _, by rw [hHH]; exact memF (.head _), by simp, rfl⟩
  have l2 := l0.at 3 _ rfl
  have l3 := l0.at 5 _ rfl
  have hsrc := own.src (H := HH ++ F) fun x m => by rw [hHH]; simp [m]
  have hin := hL.in (F := HH ++ F) fun x m => by rw [hHH]; simp [m]
  refine RunC.perm (h' := HH) (fun x => by
    have h1 := hp x
    rw [hHH]
    show cnt x (blk b3 o.cells 35 :: H) = _
    simp only [List.append_eq, cnt_append, cnt_cons, cnt_nil, blk] at h1 ⊢
    omega) ?_
  refine run_midO (σ := Unit) [0, 3] (fun _ => [(4, .slice a l.length cap)]) (fun _ => HH) (fun _ => True) rfl ?_ ?_
  · refine RunC.freeze ?_
    refine run_region_D mo ?_
    (refine runD_q 0 rfl rfl (by kernel_rfl) ?_; refine ⟨_, fun _ => ev_pure rfl, ?_⟩; refine runD_q 1 rfl rfl (by kernel_rfl) ?_; refine ⟨_, fun _ => ev_fieldAddr rfl rfl (fo rfl), ?_⟩; refine runD_q 2 rfl rfl (by kernel_rfl) ?_; refine ⟨_, fun _ => ev_loadF rfl rfl (sc rfl) l2, ?_⟩; refine runD_q 3 rfl rfl (by kernel_rfl) ?_; refine ⟨_, fun _ => ev_pure rfl, ?_⟩; refine runD_q 4 rfl rfl (by kernel_rfl) ?_; refine ⟨_, fun _ => ev_fieldAddr rfl rfl (fo rfl), ?_⟩; refine runD_q 5 rfl rfl (by kernel_rfl) ?_; refine ⟨_, fun _ => ev_indexAddrA rfl rfl rfl (ar rfl) (by omega) (by omega), ?_⟩; refine runD_q 6 rfl rfl (by kernel_rfl) ?_; refine ⟨_, fun _ => ev_loadF rfl rfl (sc rfl) l1, ?_⟩; refine runD_q 7 rfl rfl (by kernel_rfl) ?_; refine ⟨_, fun _ => ev_pure rfl, ?_⟩; refine runD_done (by kernel_rfl) ?_)
    exact midN () [] trivial rfl (fun x => by (first | rfl | (simp only [List.append_eq, cnt_append, cnt_cons, cnt_nil, blk]; omega) | (simp only [List.append_eq, cnt_append, cnt_cons, cnt_nil, blk]; done)))
  intro fr' h' hm
  (refine then_normal ?_)
  refine midN_out hm ?_
  clear hm
  rintro ⟨⟩ -
  (refine run_seq ?_; refine run_region ?_; refine xep rfl rfl ?_; refine runL_nil ?_; refine then_normal ?_; refine run_seq ?_; refine run_block ?_)
  refine run_loopK (σ := Nat) [0, 3, 4, 5] (fun k => [(0, .pointer (some ⟨b, 0, none⟩)), (3, .pointer (some ⟨b3, 0, none⟩)), (4, .slice a l.length cap), (5, .int .i64 k)]) (fun _ => HH)
    (fun k => k ≤ l.length ∧ ∀ (j : Nat) lv, j < k → l[j]? = some lv → better o.side lv.p o.price = true) (fun k => l.length - k) 0 ⟨Nat.zero_le _, fun j lv h => absurd h (Nat.not_lt_zero _)⟩ rfl (fun _ => rfl) ?_
  rintro k ⟨gk, hk⟩
  ((iterate 2 refine run_seq ?_))
  refine run_midO (σ := Unit) [0, 3, 4, 5] (fun _ => [(30, .bool (decide ((k : Int) < (l.length : Int)) && bstep o l k))]) (fun _ => HH) (fun _ => True) rfl ?_ ?_
  · refine RunC.freeze ?_
    by_cases c1 : k < l.length
    · have hgd : decide ((k : Int) < (l.length : Int)) = true := decide_eq_true (by omega)
      obtain ⟨b2, off, bi, lv, rfl, hlv, l4, hi⟩ := RsIn.level (n := 0) (cap := 0) hsrc hin (i := k) c1
      obtain ⟨a3, c3, hc3, hm3, hs3⟩ := hi
      have l5 : LoadsF (HH ++ F) bi (0 + 0) (.int .i64 lv.p) := ⟨_, _, _, hm3, rfl⟩
      have q1 := fun F => rp_better F o.side lv.p o.price
      have e : bstep o l k = better o.side lv.p o.price := by unfold bstep; rw [hlv]
      refine run_region_D mo ?_
      (refine runD_q 0 rfl rfl (by kernel_rfl) ?_; refine ⟨_, fun _ => ev_pure rfl, ?_⟩; refine runD_q 1 rfl rfl (by kernel_rfl) ?_; refine ⟨_, fun _ => ev_pure rfl, ?_⟩; refine runD_q 2 rfl rfl (by kernel_rfl) ?_; refine ⟨_, fun _ => ev_len rfl rfl (se rfl), ?_⟩; refine runD_q 3 rfl rfl (by kernel_rfl) ?_; refine ⟨_, fun _ => ev_pure rfl, ?_⟩; refine runD_q 4 rfl rfl (by kernel_rfl) ?_; refine ⟨_, fun _ => ev_pure rfl, ?_⟩; refine runD_gq 5 rfl rfl rfl rfl rfl rfl hgd (by kernel_rfl) ?_; refine ⟨_, fun _ => ev_fieldAddr rfl rfl (fo rfl), ?_⟩; refine runD_gq 6 rfl rfl rfl rfl rfl rfl hgd (by kernel_rfl) ?_; refine ⟨_, fun _ => ev_loadF rfl rfl (sc rfl) l2, ?_⟩; refine runD_gq 7 rfl rfl rfl rfl rfl rfl hgd (by kernel_rfl) ?_; refine ⟨_, fun _ => ev_pure rfl, ?_⟩; refine runD_gq 8 rfl rfl rfl rfl rfl rfl hgd (by kernel_rfl) ?_; refine ⟨_, fun _ => ev_pure rfl, ?_⟩; refine runD_gq 9 rfl rfl rfl rfl rfl rfl hgd (by kernel_rfl) ?_; refine ⟨_, fun _ => ev_indexAddr rfl rfl rfl (se rfl) (by omega) (by omega), ?_⟩; refine runD_gq 10 rfl rfl rfl rfl rfl rfl hgd (by kernel_rfl) ?_; refine ⟨_, fun _ => ev_loadF rfl rfl (sc rfl) l4, ?_⟩; refine runD_gq 11 rfl rfl rfl rfl rfl rfl hgd (by kernel_rfl) ?_; refine ⟨_, fun _ => ev_pure rfl, ?_⟩; refine runD_gq 12 rfl rfl rfl rfl rfl rfl hgd (by kernel_rfl) ?_; refine ⟨_, fun _ => ev_fieldAddr rfl rfl (fo rfl), ?_⟩; refine runD_gq 13 rfl rfl rfl rfl rfl rfl hgd (by kernel_rfl) ?_; refine ⟨_, fun _ => ev_loadF rfl rfl (sc rfl) l5, ?_⟩; refine runD_gq 14 rfl rfl rfl rfl rfl rfl hgd (by kernel_rfl) ?_; refine ⟨_, fun _ => ev_fieldAddr rfl rfl (fo rfl), ?_⟩; refine runD_gq 15 rfl rfl rfl rfl rfl rfl hgd (by kernel_rfl) ?_; refine ⟨_, fun _ => ev_loadF rfl rfl (sc rfl) l3, ?_⟩; refine runD_gq 16 rfl rfl rfl rfl rfl rfl hgd (by kernel_rfl) ?_; refine ⟨_, fun _ => ev_callQ rfl rfl rfl (pf rfl) (q1 ..), ?_⟩; refine runD_q 17 rfl rfl (by kernel_rfl) ?_; refine ⟨_, fun _ => ev_pure rfl, ?_⟩; refine runD_done (by kernel_rfl) ?_)
      exact midN () [] trivial (by rw [e, hgd]; rfl) (fun x => by (first | rfl | (simp only [List.append_eq, cnt_append, cnt_cons, cnt_nil, blk]; omega) | (simp only [List.append_eq, cnt_append, cnt_cons, cnt_nil, blk]; done)))
    · have hgd : decide ((k : Int) < (l.length : Int)) = false := decide_eq_false (by omega)
      refine run_region_D mo ?_
      (refine runD_q 0 rfl rfl (by kernel_rfl) ?_; refine ⟨_, fun _ => ev_pure rfl, ?_⟩; refine runD_q 1 rfl rfl (by kernel_rfl) ?_; refine ⟨_, fun _ => ev_pure rfl, ?_⟩; refine runD_q 2 rfl rfl (by kernel_rfl) ?_; refine ⟨_, fun _ => ev_len rfl rfl (se rfl), ?_⟩; refine runD_q 3 rfl rfl (by kernel_rfl) ?_; refine ⟨_, fun _ => ev_pure rfl, ?_⟩; refine runD_q 4 rfl rfl (by kernel_rfl) ?_; refine ⟨_, fun _ => ev_pure rfl, ?_⟩; refine runD_gn 5 rfl rfl rfl rfl rfl rfl hgd (by kernel_rfl) ?_; refine runD_gn 6 rfl rfl rfl rfl rfl rfl hgd (by kernel_rfl) ?_; refine runD_gn 7 rfl rfl rfl rfl rfl rfl hgd (by kernel_rfl) ?_; refine runD_gn 8 rfl rfl rfl rfl rfl rfl hgd (by kernel_rfl) ?_; refine runD_gn 9 rfl rfl rfl rfl rfl rfl hgd (by kernel_rfl) ?_; refine runD_gn 10 rfl rfl rfl rfl rfl rfl hgd (by kernel_rfl) ?_; refine runD_gn 11 rfl rfl rfl rfl rfl rfl hgd (by kernel_rfl) ?_; refine runD_gn 12 rfl rfl rfl rfl rfl rfl hgd (by kernel_rfl) ?_; refine runD_gn 13 rfl rfl rfl rfl rfl rfl hgd (by kernel_rfl) ?_; refine runD_gn 14 rfl rfl rfl rfl rfl rfl hgd (by kernel_rfl) ?_; refine runD_gn 15 rfl rfl rfl rfl rfl rfl hgd (by kernel_rfl) ?_; refine runD_gn 16 rfl rfl rfl rfl rfl rfl hgd (by kernel_rfl) ?_; refine runD_q 17 rfl rfl (by kernel_rfl) ?_; refine ⟨_, fun _ => ev_pickF rfl rfl hgd rfl, ?_⟩; refine runD_done (by kernel_rfl) ?_)
      exact midN () [] trivial (by rw [hgd]; rfl) (fun x => by (first | rfl | (simp only [List.append_eq, cnt_append, cnt_cons, cnt_nil, blk]; omega) | (simp only [List.append_eq, cnt_append, cnt_cons, cnt_nil, blk]; done)))
  intro fr' h' hm
  (refine then_normal ?_)
  refine midN_out hm ?_
  clear hm
  rintro ⟨⟩ -
  by_cases hb : k < l.length ∧ bstep o l k = true
  · refine run_condT rfl (by rw [hb.2, decide_eq_true (by omega : (k : Int) < (l.length : Int))]; rfl) ?_
    (refine run_skip ?_; refine then_normal ?_; refine run_block ?_; refine run_region ?_; refine xep rfl rfl ?_; refine xel rfl (ev_add rfl rfl rfl (by omega)) ?_; refine xep rfl rfl ?_; refine runL_nil ?_; refine in_normal ?_; refine then_normal ?_)
    refine ⟨k + 1, ⟨by omega, fun j lv hj hlv => ?_⟩, by omega, rfl, [], fun x => by (first | rfl | (simp only [List.append_eq, cnt_append, cnt_cons, cnt_nil, blk]; omega) | (simp only [List.append_eq, cnt_append, cnt_cons, cnt_nil, blk]; done))⟩
    by_cases e : j = k
    · subst e
      have := hb.2
      unfold bstep at this
      rw [hlv] at this; exact this
    · exact hk j lv (by omega) hlv
  refine run_condF rfl (by
    by_cases c1 : k < l.length
    · have : bstep o l k = false := by simpa using fun h9 => hb ⟨c1, h9⟩
      rw [this, Bool.and_false]
    · rw [decide_eq_false (by omega : ¬ (k : Int) < (l.length : Int))]; rfl) ?_
  (refine run_exit ?_; (iterate 2 refine then_exit ?_); refine in_exit ?_; refine then_normal ?_)
  have hK : restK o l = k := restK_at hk gk fun lv hlv => by
    have : bstep o l k = false := by simpa using fun h9 => hb ⟨(List.getElem?_eq_some_iff.1 hlv).1, h9⟩
    unfold bstep at this
    rw [hlv] at this; exact this
  rw [← hK]
  clear hK hb hk gk k
  generalize hKK : restK o l = K at *
  ((iterate 2 refine run_seq ?_))
  refine run_midO (σ := Unit) [0, 3, 4, 5] (fun _ => [(48, .bool (restI o l))]) (fun _ => HH) (fun _ => True) rfl ?_ ?_
  · refine RunC.freeze ?_
    by_cases c1 : K < l.length
    · have hgd : decide ((K : Int) = (l.length : Int)) = false := decide_eq_false (by omega)
      obtain ⟨b2, off, bi, lv, rfl, hlv, l4, hi⟩ := RsIn.level (n := 0) (cap := 0) hsrc hin (i := K) c1
      obtain ⟨a3, c3, hc3, hm3, hs3⟩ := hi
      have l5 : LoadsF (HH ++ F) bi (0 + 0) (.int .i64 lv.p) := ⟨_, _, _, hm3, rfl⟩
      have e : restI o l = !decide (lv.p = o.price) := by unfold restI; rw [hKK, hlv]
      refine run_region_D mo ?_
      (refine runD_q 0 rfl rfl (by kernel_rfl) ?_; refine ⟨_, fun _ => ev_pure rfl, ?_⟩; refine runD_q 1 rfl rfl (by kernel_rfl) ?_; refine ⟨_, fun _ => ev_pure rfl, ?_⟩; refine runD_q 2 rfl rfl (by kernel_rfl) ?_; refine ⟨_, fun _ => ev_len rfl rfl (se rfl), ?_⟩; refine runD_q 3 rfl rfl (by kernel_rfl) ?_; refine ⟨_, fun _ => ev_pure rfl, ?_⟩; refine runD_q 4 rfl rfl (by kernel_rfl) ?_; refine ⟨_, fun _ => ev_pure rfl, ?_⟩; refine runD_gq 5 rfl rfl rfl rfl rfl rfl hgd (by kernel_rfl) ?_; refine ⟨_, fun _ => ev_pure rfl, ?_⟩; refine runD_gq 6 rfl rfl rfl rfl rfl rfl hgd (by kernel_rfl) ?_; refine ⟨_, fun _ => ev_pure rfl, ?_⟩; refine runD_gq 7 rfl rfl rfl rfl rfl rfl hgd (by kernel_rfl) ?_; refine ⟨_, fun _ => ev_indexAddr rfl rfl rfl (se rfl) (by omega) (by omega), ?_⟩; refine runD_gq 8 rfl rfl rfl rfl rfl rfl hgd (by kernel_rfl) ?_; refine ⟨_, fun _ => ev_loadF rfl rfl (sc rfl) l4, ?_⟩; refine runD_gq 9 rfl rfl rfl rfl rfl rfl hgd (by kernel_rfl) ?_; refine ⟨_, fun _ => ev_pure rfl, ?_⟩; refine runD_gq 10 rfl rfl rfl rfl rfl rfl hgd (by kernel_rfl) ?_; refine ⟨_, fun _ => ev_fieldAddr rfl rfl (fo rfl), ?_⟩; refine runD_gq 11 rfl rfl rfl rfl rfl rfl hgd (by kernel_rfl) ?_; refine ⟨_, fun _ => ev_loadF rfl rfl (sc rfl) l5, ?_⟩; refine runD_gq 12 rfl rfl rfl rfl rfl rfl hgd (by kernel_rfl) ?_; refine ⟨_, fun _ => ev_fieldAddr rfl rfl (fo rfl), ?_⟩; refine runD_gq 13 rfl rfl rfl rfl rfl rfl hgd (by kernel_rfl) ?_; refine ⟨_, fun _ => ev_loadF rfl rfl (sc rfl) l3, ?_⟩; refine runD_gq 14 rfl rfl rfl rfl rfl rfl hgd (by kernel_rfl) ?_; refine ⟨_, fun _ => ev_pure rfl, ?_⟩; refine runD_q 15 rfl rfl (by kernel_rfl) ?_; refine ⟨_, fun _ => ev_pure rfl, ?_⟩; refine runD_done (by kernel_rfl) ?_)
      exact midN () [] trivial (by rw [e, hgd]; rfl) (fun x => by (first | rfl | (simp only [List.append_eq, cnt_append, cnt_cons, cnt_nil, blk]; omega) | (simp only [List.append_eq, cnt_append, cnt_cons, cnt_nil, blk]; done)))
    · have hgd : decide ((K : Int) = (l.length : Int)) = true := decide_eq_true (by omega)
      have e : restI o l = true := by unfold restI; rw [hKK, List.getElem?_eq_none (by omega)]
      refine run_region_D mo ?_
      (refine runD_q 0 rfl rfl (by kernel_rfl) ?_; refine ⟨_, fun _ => ev_pure rfl, ?_⟩; refine runD_q 1 rfl rfl (by kernel_rfl) ?_; refine ⟨_, fun _ => ev_pure rfl, ?_⟩; refine runD_q 2 rfl rfl (by kernel_rfl) ?_; refine ⟨_, fun _ => ev_len rfl rfl (se rfl), ?_⟩; refine runD_q 3 rfl rfl (by kernel_rfl) ?_; refine ⟨_, fun _ => ev_pure rfl, ?_⟩; refine runD_q 4 rfl rfl (by kernel_rfl) ?_; refine ⟨_, fun _ => ev_pure rfl, ?_⟩; refine runD_gn 5 rfl rfl rfl rfl rfl rfl hgd (by kernel_rfl) ?_; refine runD_gn 6 rfl rfl rfl rfl rfl rfl hgd (by kernel_rfl) ?_; refine runD_gn 7 rfl rfl rfl rfl rfl rfl hgd (by kernel_rfl) ?_; refine runD_gn 8 rfl rfl rfl rfl rfl rfl hgd (by kernel_rfl) ?_; refine runD_gn 9 rfl rfl rfl rfl rfl rfl hgd (by kernel_rfl) ?_; refine runD_gn 10 rfl rfl rfl rfl rfl rfl hgd (by kernel_rfl) ?_; refine runD_gn 11 rfl rfl rfl rfl rfl rfl hgd (by kernel_rfl) ?_; refine runD_gn 12 rfl rfl rfl rfl rfl rfl hgd (by kernel_rfl) ?_; refine runD_gn 13 rfl rfl rfl rfl rfl rfl hgd (by kernel_rfl) ?_; refine runD_gn 14 rfl rfl rfl rfl rfl rfl hgd (by kernel_rfl) ?_; refine runD_q 15 rfl rfl (by kernel_rfl) ?_; refine ⟨_, fun _ => ev_pickT rfl rfl hgd rfl, ?_⟩; refine runD_done (by kernel_rfl) ?_)
      exact midN () [] trivial (by rw [e, hgd]; rfl) (fun x => by (first | rfl | (simp only [List.append_eq, cnt_append, cnt_cons, cnt_nil, blk]; omega) | (simp only [List.append_eq, cnt_append, cnt_cons, cnt_nil, blk]; done)))
  intro fr' h' hm
  (refine then_normal ?_)
  refine midN_out hm ?_
  clear hm
  rintro ⟨⟩ -
  refine run_midO (σ := Value × Heap) [0, 3, 5] (fun s => [(4, s.1)]) (fun s => blk b3 o.cells 35 :: blk b cc 60 :: (s.2 ++ H1)) (fun s => RsH s.1 (restP o l) s.2) rfl ?_ ?_
  · cases hri : restI o l with
    | false =>
      have e : restP o l = l := by unfold restP; rw [if_neg (by rw [hri]; simp)]
      rw [e]
      refine run_condF rfl rfl ?_
      (refine run_skip ?_)
      exact midN (_, _) [] hS0 rfl (fun x => by rw [hHH]; (first | rfl | (simp only [List.append_eq, cnt_append, cnt_cons, cnt_nil, blk]; omega) | (simp only [List.append_eq, cnt_append, cnt_cons, cnt_nil, blk]; done)))
    | true =>
      refine run_condT rfl rfl ?_
      have hrp : restP o l = l.take K ++ ⟨o.price, []⟩ :: l.drop K := by unfold restP; rw [if_pos hri, hKK]
      have hrl : (restP o l).length = l.length + 1 := by
        rw [hrp, List.length_append, List.length_cons, List.length_take, List.length_drop]; omega
      have s1 := hsrc.take (k := K) (by omega)
      rw [rows_take pc_len _ (by omega)] at s1
      have s2 := hsrc.drop (k := K) (cap := cap) (by omega) hck
      rw [rows_drop pc_len _ (by omega)] at s2
      have hrows : ∀ bn, (rows pc (bs.take K) ++ pc bn) ++ rows pc (bs.drop K) = rows pc (bs.take K ++ bn :: bs.drop K) := fun bn => by
        rw [rows_append, List.append_assoc]; rfl
      have hlens : (K : Int).toNat + 1 + (l.length - (K : Int).toNat) = (restP o l).length := by rw [hrl]; omega
      refine RunC.perm (h' := [] ++ HH) (fun x => by (first | rfl | (simp only [List.append_eq, cnt_append, cnt_cons, cnt_nil, blk]; omega) | (simp only [List.append_eq, cnt_append, cnt_cons, cnt_nil, blk]; done))) ?_
      refine RunC.freezeR ?_
      refine run_region_D mo ?_
      (refine runD_q 1 rfl rfl (by kernel_rfl) ?_; refine ⟨_, fun _ => ev_pure rfl, ?_⟩; refine runD_q 2 rfl rfl (by kernel_rfl) ?_; refine ⟨_, fun _ => ev_pure rfl, ?_⟩; refine runD_q 3 rfl rfl (by kernel_rfl) ?_; refine ⟨_, fun _ => ev_sliceHi rfl rfl rfl (se rfl) (by omega) (by omega), ?_⟩; refine runD_q 5 rfl rfl (by kernel_rfl) ?_; refine ⟨_, fun _ => ev_fieldAddr rfl rfl (fo rfl), ?_⟩; refine runD_q 6 rfl rfl (by kernel_rfl) ?_; refine ⟨_, fun _ => ev_loadF rfl rfl (sc rfl) l3, ?_⟩; refine runD_q 7 rfl rfl (by kernel_rfl) ?_; refine ⟨_, fun _ => ev_build rfl pl100 rfl, ?_⟩; refine runD_q 11 rfl rfl (by kernel_rfl) ?_; refine ⟨_, fun _ => ev_pure rfl, ?_⟩; refine runD_q 12 rfl rfl (by kernel_rfl) ?_; refine ⟨_, fun _ => ev_pure rfl, ?_⟩; refine runD_q 13 rfl rfl (by kernel_rfl) ?_; refine ⟨_, fun _ => ev_sliceLo rfl rfl rfl (se rfl) (by omega) (by omega), ?_⟩)
      refine runD_2 0 8 (by kernel_rfl) (oneD rfl rfl rfl ?_) (oneD rfl rfl rfl ?_)
      · skip
        refine runL_buildSlice (n := 1) (l := []) rfl rfl rfl rfl rfl (se rfl) ze97 rfl rfl rfl rfl rfl (fun b5 => ?_)
        (refine runL_nil ?_; refine endS_d rfl ?_)
        refine runD_2 4 8 (by kernel_rfl) (oneD rfl rfl rfl ?_) (oneD rfl rfl rfl ?_)
        · skip
          refine runL_append (sl := rows pc (bs.take K)) [] rfl rfl rfl rfl rfl rfl rfl (se rfl) (se rfl) ze97 rfl (byt rfl) (OwnS.lit (l := []) rfl) (fun y => by show cnt y ([blk b5 [] 97]) = _; (first | rfl | (simp only [List.append_eq, cnt_append, cnt_cons, cnt_nil, blk]; omega) | (simp only [List.append_eq, cnt_append, cnt_cons, cnt_nil, blk]; done))) (s1.mono fun x m => by simp [m]) (rows_cells pc_cells _) (by decide) (by decide) (by simp only [Int.toNat_natCast]; omega) ?_
          rintro v' A' own'
          rw [List.nil_append, Nat.zero_add] at own'
          obtain ⟨a6, c6, rfl, own6⟩ := own'.at
          (refine runL_nil ?_; refine endS_d rfl ?_; refine runD_1 8 (by kernel_rfl) rfl rfl rfl ?_; refine runL_box rfl rfl rfl rfl rfl rfl (fun _ => ?_); refine runL_nil ?_; refine endS_d rfl ?_; refine runD_1 9 (by kernel_rfl) rfl rfl rfl ?_)
          rename_i bn
          refine runL_buildSlice (l := pc bn) rfl rfl rfl rfl rfl (se rfl) ze97 rfl rfl rfl rfl rfl (fun b7 => ?_)
          (refine runL_nil ?_; refine endS_d rfl ?_; refine runD_1 10 (by kernel_rfl) rfl rfl rfl ?_)
          refine runL_append (sl := pc bn) (blk b7 (pc bn) 97 :: [blk bn [.int .i64 o.price, .slice none 0 0] 100]) rfl rfl rfl rfl rfl rfl rfl (se rfl) (se rfl) ze97 rfl (byt rfl) own6 (fun y => by
            show cnt y (blk b7 (pc bn) 97 :: blk bn [.int .i64 o.price, .slice none 0 0] 100 :: (A' ++ [])) = _
            (first | rfl | (simp only [List.append_eq, cnt_append, cnt_cons, cnt_nil, blk]; omega) | (simp only [List.append_eq, cnt_append, cnt_cons, cnt_nil, blk]; done))) ⟨rfl, .inr ⟨b7, 0, _, _, _, rfl, memF (.head _), by simp [pc], rfl⟩⟩ rfl (by decide) (by decide) (by simp only [Int.toNat_natCast]; omega) ?_
          rintro v' A'' own''
          obtain ⟨a8, c8, rfl, own8⟩ := own''.at
          (refine runL_nil ?_; refine endS_d rfl ?_; refine runD_1 14 (by kernel_rfl) rfl rfl rfl ?_)
          refine runL_append (sl := rows pc (bs.drop K)) (blk b7 (pc bn) 97 :: [blk bn [.int .i64 o.price, .slice none 0 0] 100]) rfl rfl rfl rfl rfl rfl rfl (se rfl) (se rfl) ze97 rfl (byt rfl) own8 (fun y => by (first | rfl | (simp only [List.append_eq, cnt_append, cnt_cons, cnt_nil, blk]; omega) | (simp only [List.append_eq, cnt_append, cnt_cons, cnt_nil, blk]; done))) (s2.mono fun x m => by simp [m]) (rows_cells pc_cells _) (by decide) (by decide) (by simp only [Int.toNat_natCast]; omega) ?_
          rintro v' A9 own9
          rw [hrows, hlens] at own9
          obtain ⟨a9, c9, rfl, own9⟩ := own9.at
          (refine runL_nil ?_; refine endS_d rfl ?_; refine runD_q 15 rfl rfl (by kernel_rfl) ?_; refine ⟨_, fun _ => ev_pure rfl, ?_⟩; refine runD_done (by kernel_rfl) ?_)
          obtain ⟨L', hL', hpL⟩ := hL.ins K (b := bn) (lv := ⟨o.price, []⟩) (H1 := [blk bn [.int .i64 o.price, .slice none 0 0] 100]) hkl ⟨none, 0, [], .nil _ _, rfl⟩
          refine midN (.slice a9 (restP o l).length c9, A9 ++ L') (blk b7 (pc bn) 97 :: A) ⟨a9, c9, bs.take K ++ bn :: bs.drop K, A9, L', rfl, own9, by rw [hrp]; exact hL', rfl⟩ rfl (fun x => ?_)
          have h1 := hpL x
          rw [hHH]
          simp only [List.append_eq, cnt_append, cnt_cons, cnt_nil, blk] at h1 ⊢
          omega
        · (refine runL_box rfl rfl rfl rfl rfl rfl (fun _ => ?_); refine runL_nil ?_; refine endS_d rfl ?_)
          rename_i bn
          refine runD_2 4 9 (by kernel_rfl) (oneD rfl rfl rfl ?_) (oneD rfl rfl rfl ?_)
          · skip
            refine runL_append (sl := rows pc (bs.take K)) [blk bn [.int .i64 o.price, .slice none 0 0] 100] rfl rfl rfl rfl rfl rfl rfl (se rfl) (se rfl) ze97 rfl (byt rfl) (OwnS.lit (l := []) rfl) (fun y => by show cnt y (blk bn [.int .i64 o.price, .slice none 0 0] 100 :: [blk b5 [] 97]) = _; (first | rfl | (simp only [List.append_eq, cnt_append, cnt_cons, cnt_nil, blk]; omega) | (simp only [List.append_eq, cnt_append, cnt_cons, cnt_nil, blk]; done))) (s1.mono fun x m => by simp [m]) (rows_cells pc_cells _) (by decide) (by decide) (by simp only [Int.toNat_natCast]; omega) ?_
            rintro v' A' own'
            rw [List.nil_append, Nat.zero_add] at own'
            obtain ⟨a6, c6, rfl, own6⟩ := own'.at
            (refine runL_nil ?_; refine endS_d rfl ?_; refine runD_1 9 (by kernel_rfl) rfl rfl rfl ?_)
            refine runL_buildSlice (l := pc bn) rfl rfl rfl rfl rfl (se rfl) ze97 rfl rfl rfl rfl rfl (fun b7 => ?_)
            (refine runL_nil ?_; refine endS_d rfl ?_; refine runD_1 10 (by kernel_rfl) rfl rfl rfl ?_)
            refine runL_append (sl := pc bn) (blk b7 (pc bn) 97 :: [blk bn [.int .i64 o.price, .slice none 0 0] 100]) rfl rfl rfl rfl rfl rfl rfl (se rfl) (se rfl) ze97 rfl (byt rfl) own6 (fun y => by
              show cnt y (blk b7 (pc bn) 97 :: (A' ++ [blk bn [.int .i64 o.price, .slice none 0 0] 100])) = _
              (first | rfl | (simp only [List.append_eq, cnt_append, cnt_cons, cnt_nil, blk]; omega) | (simp only [List.append_eq, cnt_append, cnt_cons, cnt_nil, blk]; done))) ⟨rfl, .inr ⟨b7, 0, _, _, _, rfl, memF (.head _), by simp [pc], rfl⟩⟩ rfl (by decide) (by decide) (by simp only [Int.toNat_natCast]; omega) ?_
            rintro v' A'' own''
            obtain ⟨a8, c8, rfl, own8⟩ := own''.at
            (refine runL_nil ?_; refine endS_d rfl ?_; refine runD_1 14 (by kernel_rfl) rfl rfl rfl ?_)
            refine runL_append (sl := rows pc (bs.drop K)) (blk b7 (pc bn) 97 :: [blk bn [.int .i64 o.price, .slice none 0 0] 100]) rfl rfl rfl rfl rfl rfl rfl (se rfl) (se rfl) ze97 rfl (byt rfl) own8 (fun y => by (first | rfl | (simp only [List.append_eq, cnt_append, cnt_cons, cnt_nil, blk]; omega) | (simp only [List.append_eq, cnt_append, cnt_cons, cnt_nil, blk]; done))) (s2.mono fun x m => by simp [m]) (rows_cells pc_cells _) (by decide) (by decide) (by simp only [Int.toNat_natCast]; omega) ?_
            rintro v' A9 own9
            rw [hrows, hlens] at own9
            obtain ⟨a9, c9, rfl, own9⟩ := own9.at
            (refine runL_nil ?_; refine endS_d rfl ?_; refine runD_q 15 rfl rfl (by kernel_rfl) ?_; refine ⟨_, fun _ => ev_pure rfl, ?_⟩; refine runD_done (by kernel_rfl) ?_)
            obtain ⟨L', hL', hpL⟩ := hL.ins K (b := bn) (lv := ⟨o.price, []⟩) (H1 := [blk bn [.int .i64 o.price, .slice none 0 0] 100]) hkl ⟨none, 0, [], .nil _ _, rfl⟩
            refine midN (.slice a9 (restP o l).length c9, A9 ++ L') (blk b7 (pc bn) 97 :: A) ⟨a9, c9, bs.take K ++ bn :: bs.drop K, A9, L', rfl, own9, by rw [hrp]; exact hL', rfl⟩ rfl (fun x => ?_)
            have h1 := hpL x
            rw [hHH]
            simp only [List.append_eq, cnt_append, cnt_cons, cnt_nil, blk] at h1 ⊢
            omega
          · skip
            refine runL_buildSlice (l := pc bn) rfl rfl rfl rfl rfl (se rfl) ze97 rfl rfl rfl rfl rfl (fun b7 => ?_)
            (refine runL_nil ?_; refine endS_d rfl ?_; refine runD_1 4 (by kernel_rfl) rfl rfl rfl ?_)
            refine runL_append (sl := rows pc (bs.take K)) (blk b7 (pc bn) 97 :: [blk bn [.int .i64 o.price, .slice none 0 0] 100]) rfl rfl rfl rfl rfl rfl rfl (se rfl) (se rfl) ze97 rfl (byt rfl) (OwnS.lit (l := []) rfl) (fun y => by show cnt y (blk b7 (pc bn) 97 :: blk bn [.int .i64 o.price, .slice none 0 0] 100 :: [blk b5 [] 97]) = _; (first | rfl | (simp only [List.append_eq, cnt_append, cnt_cons, cnt_nil, blk]; omega) | (simp only [List.append_eq, cnt_append, cnt_cons, cnt_nil, blk]; done))) (s1.mono fun x m => by simp [m]) (rows_cells pc_cells _) (by decide) (by decide) (by simp only [Int.toNat_natCast]; omega) ?_
            rintro v' A' own'
            rw [List.nil_append, Nat.zero_add] at own'
            obtain ⟨a6, c6, rfl, own6⟩ := own'.at
            (refine runL_nil ?_; refine endS_d rfl ?_; refine runD_1 10 (by kernel_rfl) rfl rfl rfl ?_)
            refine runL_append (sl := pc bn) (blk b7 (pc bn) 97 :: [blk bn [.int .i64 o.price, .slice none 0 0] 100]) rfl rfl rfl rfl rfl rfl rfl (se rfl) (se rfl) ze97 rfl (byt rfl) own6 (fun y => by
              show cnt y (A' ++ (blk b7 (pc bn) 97 :: [blk bn [.int .i64 o.price, .slice none 0 0] 100])) = _
              (first | rfl | (simp only [List.append_eq, cnt_append, cnt_cons, cnt_nil, blk]; omega) | (simp only [List.append_eq, cnt_append, cnt_cons, cnt_nil, blk]; done))) ⟨rfl, .inr ⟨b7, 0, _, _, _, rfl, memF (List.mem_append_right _ (.head _)), by simp [pc], rfl⟩⟩ rfl (by decide) (by decide) (by simp only [Int.toNat_natCast]; omega) ?_
            rintro v' A'' own''
            obtain ⟨a8, c8, rfl, own8⟩ := own''.at
            (refine runL_nil ?_; refine endS_d rfl ?_; refine runD_1 14 (by kernel_rfl) rfl rfl rfl ?_)
            refine runL_append (sl := rows pc (bs.drop K)) (blk b7 (pc bn) 97 :: [blk bn [.int .i64 o.price, .slice none 0 0] 100]) rfl rfl rfl rfl rfl rfl rfl (se rfl) (se rfl) ze97 rfl (byt rfl) own8 (fun y => by (first | rfl | (simp only [List.append_eq, cnt_append, cnt_cons, cnt_nil, blk]; omega) | (simp only [List.append_eq, cnt_append, cnt_cons, cnt_nil, blk]; done))) (s2.mono fun x m => by simp [m]) (rows_cells pc_cells _) (by decide) (by decide) (by simp only [Int.toNat_natCast]; omega) ?_
            rintro v' A9 own9
            rw [hrows, hlens] at own9
            obtain ⟨a9, c9, rfl, own9⟩ := own9.at
            (refine runL_nil ?_; refine endS_d rfl ?_; refine runD_q 15 rfl rfl (by kernel_rfl) ?_; refine ⟨_, fun _ => ev_pure rfl, ?_⟩; refine runD_done (by kernel_rfl) ?_)
            obtain ⟨L', hL', hpL⟩ := hL.ins K (b := bn) (lv := ⟨o.price, []⟩) (H1 := [blk bn [.int .i64 o.price, .slice none 0 0] 100]) hkl ⟨none, 0, [], .nil _ _, rfl⟩
            refine midN (.slice a9 (restP o l).length c9, A9 ++ L') (blk b7 (pc bn) 97 :: A) ⟨a9, c9, bs.take K ++ bn :: bs.drop K, A9, L', rfl, own9, by rw [hrp]; exact hL', rfl⟩ rfl (fun x => ?_)
            have h1 := hpL x
            rw [hHH]
            simp only [List.append_eq, cnt_append, cnt_cons, cnt_nil, blk] at h1 ⊢
            omega
      · (refine runL_box rfl rfl rfl rfl rfl rfl (fun _ => ?_); refine runL_nil ?_; refine endS_d rfl ?_)
        rename_i bn
        refine runD_2 0 9 (by kernel_rfl) (oneD rfl rfl rfl ?_) (oneD rfl rfl rfl ?_)
        · skip
          refine runL_buildSlice (n := 1) (l := []) rfl rfl rfl rfl rfl (se rfl) ze97 rfl rfl rfl rfl rfl (fun b5 => ?_)
          (refine runL_nil ?_; refine endS_d rfl ?_)
          refine runD_2 4 9 (by kernel_rfl) (oneD rfl rfl rfl ?_) (oneD rfl rfl rfl ?_)
          · skip
            refine runL_append (sl := rows pc (bs.take K)) [blk bn [.int .i64 o.price, .slice none 0 0] 100] rfl rfl rfl rfl rfl rfl rfl (se rfl) (se rfl) ze97 rfl (byt rfl) (OwnS.lit (l := []) rfl) (fun y => by show cnt y (blk b5 [] 97 :: [blk bn [.int .i64 o.price, .slice none 0 0] 100]) = _; (first | rfl | (simp only [List.append_eq, cnt_append, cnt_cons, cnt_nil, blk]; omega) | (simp only [List.append_eq, cnt_append, cnt_cons, cnt_nil, blk]; done))) (s1.mono fun x m => by simp [m]) (rows_cells pc_cells _) (by decide) (by decide) (by simp only [Int.toNat_natCast]; omega) ?_
            rintro v' A' own'
            rw [List.nil_append, Nat.zero_add] at own'
            obtain ⟨a6, c6, rfl, own6⟩ := own'.at
            (refine runL_nil ?_; refine endS_d rfl ?_; refine runD_1 9 (by kernel_rfl) rfl rfl rfl ?_)
            refine runL_buildSlice (l := pc bn) rfl rfl rfl rfl rfl (se rfl) ze97 rfl rfl rfl rfl rfl (fun b7 => ?_)
            (refine runL_nil ?_; refine endS_d rfl ?_; refine runD_1 10 (by kernel_rfl) rfl rfl rfl ?_)
            refine runL_append (sl := pc bn) (blk b7 (pc bn) 97 :: [blk bn [.int .i64 o.price, .slice none 0 0] 100]) rfl rfl rfl rfl rfl rfl rfl (se rfl) (se rfl) ze97 rfl (byt rfl) own6 (fun y => by
              show cnt y (blk b7 (pc bn) 97 :: (A' ++ [blk bn [.int .i64 o.price, .slice none 0 0] 100])) = _
              (first | rfl | (simp only [List.append_eq, cnt_append, cnt_cons, cnt_nil, blk]; omega) | (simp only [List.append_eq, cnt_append, cnt_cons, cnt_nil, blk]; done))) ⟨rfl, .inr ⟨b7, 0, _, _, _, rfl, memF (.head _), by simp [pc], rfl⟩⟩ rfl (by decide) (by decide) (by simp only [Int.toNat_natCast]; omega) ?_
            rintro v' A'' own''
            obtain ⟨a8, c8, rfl, own8⟩ := own''.at
            (refine runL_nil ?_; refine endS_d rfl ?_; refine runD_1 14 (by kernel_rfl) rfl rfl rfl ?_)
            refine runL_append (sl := rows pc (bs.drop K)) (blk b7 (pc bn) 97 :: [blk bn [.int .i64 o.price, .slice none 0 0] 100]) rfl rfl rfl rfl rfl rfl rfl (se rfl) (se rfl) ze97 rfl (byt rfl) own8 (fun y => by (first | rfl | (simp only [List.append_eq, cnt_append, cnt_cons, cnt_nil, blk]; omega) | (simp only [List.append_eq, cnt_append, cnt_cons, cnt_nil, blk]; done))) (s2.mono fun x m => by simp [m]) (rows_cells pc_cells _) (by decide) (by decide) (by simp only [Int.toNat_natCast]; omega) ?_
            rintro v' A9 own9
            rw [hrows, hlens] at own9
            obtain ⟨a9, c9, rfl, own9⟩ := own9.at
            (refine runL_nil ?_; refine endS_d rfl ?_; refine runD_q 15 rfl rfl (by kernel_rfl) ?_; refine ⟨_, fun _ => ev_pure rfl, ?_⟩; refine runD_done (by kernel_rfl) ?_)
            obtain ⟨L', hL', hpL⟩ := hL.ins K (b := bn) (lv := ⟨o.price, []⟩) (H1 := [blk bn [.int .i64 o.price, .slice none 0 0] 100]) hkl ⟨none, 0, [], .nil _ _, rfl⟩
            refine midN (.slice a9 (restP o l).length c9, A9 ++ L') (blk b7 (pc bn) 97 :: A) ⟨a9, c9, bs.take K ++ bn :: bs.drop K, A9, L', rfl, own9, by rw [hrp]; exact hL', rfl⟩ rfl (fun x => ?_)
            have h1 := hpL x
            rw [hHH]
            simp only [List.append_eq, cnt_append, cnt_cons, cnt_nil, blk] at h1 ⊢
            omega
          · skip
            refine runL_buildSlice (l := pc bn) rfl rfl rfl rfl rfl (se rfl) ze97 rfl rfl rfl rfl rfl (fun b7 => ?_)
            (refine runL_nil ?_; refine endS_d rfl ?_; refine runD_1 4 (by kernel_rfl) rfl rfl rfl ?_)
            refine runL_append (sl := rows pc (bs.take K)) (blk b7 (pc bn) 97 :: [blk bn [.int .i64 o.price, .slice none 0 0] 100]) rfl rfl rfl rfl rfl rfl rfl (se rfl) (se rfl) ze97 rfl (byt rfl) (OwnS.lit (l := []) rfl) (fun y => by show cnt y (blk b7 (pc bn) 97 :: blk b5 [] 97 :: [blk bn [.int .i64 o.price, .slice none 0 0] 100]) = _; (first | rfl | (simp only [List.append_eq, cnt_append, cnt_cons, cnt_nil, blk]; omega) | (simp only [List.append_eq, cnt_append, cnt_cons, cnt_nil, blk]; done))) (s1.mono fun x m => by simp [m]) (rows_cells pc_cells _) (by decide) (by decide) (by simp only [Int.toNat_natCast]; omega) ?_
            rintro v' A' own'
            rw [List.nil_append, Nat.zero_add] at own'
            obtain ⟨a6, c6, rfl, own6⟩ := own'.at
            (refine runL_nil ?_; refine endS_d rfl ?_; refine runD_1 10 (by kernel_rfl) rfl rfl rfl ?_)
            refine runL_append (sl := pc bn) (blk b7 (pc bn) 97 :: [blk bn [.int .i64 o.price, .slice none 0 0] 100]) rfl rfl rfl rfl rfl rfl rfl (se rfl) (se rfl) ze97 rfl (byt rfl) own6 (fun y => by
              show cnt y (A' ++ (blk b7 (pc bn) 97 :: [blk bn [.int .i64 o.price, .slice none 0 0] 100])) = _
              (first | rfl | (simp only [List.append_eq, cnt_append, cnt_cons, cnt_nil, blk]; omega) | (simp only [List.append_eq, cnt_append, cnt_cons, cnt_nil, blk]; done))) ⟨rfl, .inr ⟨b7, 0, _, _, _, rfl, memF (List.mem_append_right _ (.head _)), by simp [pc], rfl⟩⟩ rfl (by decide) (by decide) (by simp only [Int.toNat_natCast]; omega) ?_
            rintro v' A'' own''
            obtain ⟨a8, c8, rfl, own8⟩ := own''.at
            (refine runL_nil ?_; refine endS_d rfl ?_; refine runD_1 14 (by kernel_rfl) rfl rfl rfl ?_)
            refine runL_append (sl := rows pc (bs.drop K)) (blk b7 (pc bn) 97 :: [blk bn [.int .i64 o.price, .slice none 0 0] 100]) rfl rfl rfl rfl rfl rfl rfl (se rfl) (se rfl) ze97 rfl (byt rfl) own8 (fun y => by (first | rfl | (simp only [List.append_eq, cnt_append, cnt_cons, cnt_nil, blk]; omega) | (simp only [List.append_eq, cnt_append, cnt_cons, cnt_nil, blk]; done))) (s2.mono fun x m => by simp [m]) (rows_cells pc_cells _) (by decide) (by decide) (by simp only [Int.toNat_natCast]; omega) ?_
            rintro v' A9 own9
            rw [hrows, hlens] at own9
            obtain ⟨a9, c9, rfl, own9⟩ := own9.at
            (refine runL_nil ?_; refine endS_d rfl ?_; refine runD_q 15 rfl rfl (by kernel_rfl) ?_; refine ⟨_, fun _ => ev_pure rfl, ?_⟩; refine runD_done (by kernel_rfl) ?_)
            obtain ⟨L', hL', hpL⟩ := hL.ins K (b := bn) (lv := ⟨o.price, []⟩) (H1 := [blk bn [.int .i64 o.price, .slice none 0 0] 100]) hkl ⟨none, 0, [], .nil _ _, rfl⟩
            refine midN (.slice a9 (restP o l).length c9, A9 ++ L') (blk b7 (pc bn) 97 :: A) ⟨a9, c9, bs.take K ++ bn :: bs.drop K, A9, L', rfl, own9, by rw [hrp]; exact hL', rfl⟩ rfl (fun x => ?_)
            have h1 := hpL x
            rw [hHH]
            simp only [List.append_eq, cnt_append, cnt_cons, cnt_nil, blk] at h1 ⊢
            omega
        · skip
          refine runL_buildSlice (l := pc bn) rfl rfl rfl rfl rfl (se rfl) ze97 rfl rfl rfl rfl rfl (fun b7 => ?_)
          (refine runL_nil ?_; refine endS_d rfl ?_; refine runD_1 0 (by kernel_rfl) rfl rfl rfl ?_)
          refine runL_buildSlice (n := 1) (l := []) rfl rfl rfl rfl rfl (se rfl) ze97 rfl rfl rfl rfl rfl (fun b5 => ?_)
          (refine runL_nil ?_; refine endS_d rfl ?_; refine runD_1 4 (by kernel_rfl) rfl rfl rfl ?_)
          refine runL_append (sl := rows pc (bs.take K)) (blk b7 (pc bn) 97 :: [blk bn [.int .i64 o.price, .slice none 0 0] 100]) rfl rfl rfl rfl rfl rfl rfl (se rfl) (se rfl) ze97 rfl (byt rfl) (OwnS.lit (l := []) rfl) (fun y => by show cnt y (blk b5 [] 97 :: blk b7 (pc bn) 97 :: [blk bn [.int .i64 o.price, .slice none 0 0] 100]) = _; (first | rfl | (simp only [List.append_eq, cnt_append, cnt_cons, cnt_nil, blk]; omega) | (simp only [List.append_eq, cnt_append, cnt_cons, cnt_nil, blk]; done))) (s1.mono fun x m => by simp [m]) (rows_cells pc_cells _) (by decide) (by decide) (by simp only [Int.toNat_natCast]; omega) ?_
          rintro v' A' own'
          rw [List.nil_append, Nat.zero_add] at own'
          obtain ⟨a6, c6, rfl, own6⟩ := own'.at
          (refine runL_nil ?_; refine endS_d rfl ?_; refine runD_1 10 (by kernel_rfl) rfl rfl rfl ?_)
          refine runL_append (sl := pc bn) (blk b7 (pc bn) 97 :: [blk bn [.int .i64 o.price, .slice none 0 0] 100]) rfl rfl rfl rfl rfl rfl rfl (se rfl) (se rfl) ze97 rfl (byt rfl) own6 (fun y => by
            show cnt y (A' ++ (blk b7 (pc bn) 97 :: [blk bn [.int .i64 o.price, .slice none 0 0] 100])) = _
            (first | rfl | (simp only [List.append_eq, cnt_append, cnt_cons, cnt_nil, blk]; omega) | (simp only [List.append_eq, cnt_append, cnt_cons, cnt_nil, blk]; done))) ⟨rfl, .inr ⟨b7, 0, _, _, _, rfl, memF (List.mem_append_right _ (.head _)), by simp [pc], rfl⟩⟩ rfl (by decide) (by decide) (by simp only [Int.toNat_natCast]; omega) ?_
          rintro v' A'' own''
          obtain ⟨a8, c8, rfl, own8⟩ := own''.at
          (refine runL_nil ?_; refine endS_d rfl ?_; refine runD_1 14 (by kernel_rfl) rfl rfl rfl ?_)
          refine runL_append (sl := rows pc (bs.drop K)) (blk b7 (pc bn) 97 :: [blk bn [.int .i64 o.price, .slice none 0 0] 100]) rfl rfl rfl rfl rfl rfl rfl (se rfl) (se rfl) ze97 rfl (byt rfl) own8 (fun y => by (first | rfl | (simp only [List.append_eq, cnt_append, cnt_cons, cnt_nil, blk]; omega) | (simp only [List.append_eq, cnt_append, cnt_cons, cnt_nil, blk]; done))) (s2.mono fun x m => by simp [m]) (rows_cells pc_cells _) (by decide) (by decide) (by simp only [Int.toNat_natCast]; omega) ?_
          rintro v' A9 own9
          rw [hrows, hlens] at own9
          obtain ⟨a9, c9, rfl, own9⟩ := own9.at
          (refine runL_nil ?_; refine endS_d rfl ?_; refine runD_q 15 rfl rfl (by kernel_rfl) ?_; refine ⟨_, fun _ => ev_pure rfl, ?_⟩; refine runD_done (by kernel_rfl) ?_)
          obtain ⟨L', hL', hpL⟩ := hL.ins K (b := bn) (lv := ⟨o.price, []⟩) (H1 := [blk bn [.int .i64 o.price, .slice none 0 0] 100]) hkl ⟨none, 0, [], .nil _ _, rfl⟩
          refine midN (.slice a9 (restP o l).length c9, A9 ++ L') (blk b7 (pc bn) 97 :: A) ⟨a9, c9, bs.take K ++ bn :: bs.drop K, A9, L', rfl, own9, by rw [hrp]; exact hL', rfl⟩ rfl (fun x => ?_)
          have h1 := hpL x
          rw [hHH]
          simp only [List.append_eq, cnt_append, cnt_cons, cnt_nil, blk] at h1 ⊢
          omega
  intro fr' h' hm
  (refine then_normal ?_)
  refine midN_out hm ?_
  clear hm
  rintro ⟨v1, H01⟩ h01
  dsimp only at h01 ⊢
  have hrL : restL o l = (restP o l).set K ⟨lv0.p, lv0.es ++ [⟨o, tip o⟩]⟩ := by unfold restL; rw [hKK, hlv0]
  have hes : lv0.es.length ≤ 65535 := by
    cases hri : restI o l with
    | false =>
      have := lenL_mem (List.mem_of_getElem? (hlv1 hri))
      omega
    | true => rw [hlv2 hri]; simp
  have hrlen : (restL o l).length = (restP o l).length := by rw [hrL, List.length_set]
  have hlt := (List.getElem?_eq_some_iff.1 hlv0).1
  obtain ⟨ba, c, cap2, bi, G1, G2, rfl, hcap2, gg1, hG1, hp1, hset⟩ := h01.open hlv0
  (refine run_seq ?_)
  refine run_midO (σ := Heap) [0, 3, 4] (fun _ => []) (fun H02 => blk b3 o.cells 35 :: blk b cc 60 :: (H02 ++ H1)) (fun H02 => RsH (.slice (some ⟨ba, 0, none⟩) (restP o l).length cap2) (restL o l) H02) rfl ?_ ?_
  · obtain ⟨AA, hAA⟩ : ∃ AA, AA = blk b3 o.cells 35 :: blk b cc 60 :: blk ba c 97 :: (G2 ++ H1) := ⟨_, rfl⟩
    refine RunC.perm (h' := G1 ++ AA) (fun x => by
      have h1 := hp1 x
      rw [hAA]
      simp only [List.append_eq, cnt_append, cnt_cons, cnt_nil, blk] at h1 ⊢
      omega) ?_
    refine RunC.freezeR ?_
    clear l1 l2 l3
    have l1 : AggF (AA ++ F) b3 0 o.cells := ⟨_, _, _, by rw [hAA]; exact memF (.head _), by simp, rfl⟩
    have l2 : LoadsF (AA ++ F) ba (0 + (K : Int).toNat * 1) (.pointer (some ⟨bi, 0, none⟩)) := ⟨_, _, _, by rw [hAA]; exact memF (.tail _ (.tail _ (.head _))), gg1⟩
    refine run_region_D mo ?_
    (refine runD_q 0 rfl rfl (by kernel_rfl) ?_; refine ⟨_, fun _ => ev_pure rfl, ?_⟩; refine runD_q 1 rfl rfl (by kernel_rfl) ?_; refine ⟨_, fun _ => ev_pure rfl, ?_⟩; refine runD_q 2 rfl rfl (by kernel_rfl) ?_; refine ⟨_, fun _ => ev_indexAddr rfl rfl rfl (se rfl) (by omega) (by omega), ?_⟩; refine runD_q 3 rfl rfl (by kernel_rfl) ?_; refine ⟨_, fun _ => ev_loadF rfl rfl (sc rfl) l2, ?_⟩; refine runD_q 4 rfl rfl (by kernel_rfl) ?_; refine ⟨_, fun _ => ev_loadAF rfl rfl (ag rfl) (sz rfl) l1 rfl, ?_⟩; refine runD_1 5 (by kernel_rfl) rfl rfl rfl ?_)
    refine runL_callZ [] G1 rfl rfl rfl rfl rfl rfl rfl (pf rfl) (fun x => by (first | rfl | (simp only [List.append_eq, cnt_append, cnt_cons, cnt_nil, blk]; omega) | (simp only [List.append_eq, cnt_append, cnt_cons, cnt_nil, blk]; done))) (sp_radd _ G1 bi lv0.p lv0.es hG1 hes o) ?_
    rintro v2 G1' hG1'
    obtain ⟨H02, hS2, hp2⟩ := hset lv0.p (lv0.es ++ [⟨o, tip o⟩]) G1' hG1'
    rw [← hrL] at hS2
    (refine runL_nil ?_; refine endS_d rfl ?_; refine runD_done (by kernel_rfl) ?_)
    exact midN H02 [] hS2 rfl (fun x => by
      have h1 := hp2 x
      rw [hAA]
      simp only [List.append_eq, cnt_append, cnt_cons, cnt_nil, blk] at h1 ⊢
      omega)
  intro fr' h' hm
  (refine then_normal ?_)
  refine midN_out hm ?_
  clear hm
  rintro H02 h02
  obtain ⟨H', hH', hp3⟩ := hput _ _ _ h02
  skip
  obtain ⟨AA, hAA⟩ : ∃ AA, AA = blk b3 o.cells 35 :: (H02 ++ H1) := ⟨_, rfl⟩
  refine RunC.perm (h' := [blk b cc 60] ++ AA) (fun x => by rw [hAA]; (first | rfl | (simp only [List.append_eq, cnt_append, cnt_cons, cnt_nil, blk]; omega) | (simp only [List.append_eq, cnt_append, cnt_cons, cnt_nil, blk]; done))) ?_
  refine RunC.freezeR ?_
  clear l1 l2 l3
  have l1 : AggF (AA ++ F) b3 0 o.cells := ⟨_, _, _, by rw [hAA]; exact memF (.head _), by simp, rfl⟩
  have l2 := l1.at 3 _ rfl
  refine run_region_D mo ?_
  (refine runD_q 0 rfl rfl (by kernel_rfl) ?_; refine ⟨_, fun _ => ev_pure rfl, ?_⟩; refine runD_q 1 rfl rfl (by kernel_rfl) ?_; refine ⟨_, fun _ => ev_fieldAddr rfl rfl (fo rfl), ?_⟩; refine runD_q 2 rfl rfl (by kernel_rfl) ?_; refine ⟨_, fun _ => ev_loadF rfl rfl (sc rfl) l2, ?_⟩; refine runD_q 3 rfl rfl (by kernel_rfl) ?_; refine ⟨_, fun _ => ev_pure rfl, ?_⟩; refine runD_q 4 rfl rfl (by kernel_rfl) ?_; refine ⟨_, fun _ => ev_pure rfl, ?_⟩; refine runD_q 5 rfl rfl (by kernel_rfl) ?_; refine ⟨_, fun _ => ev_fieldAddr rfl rfl (fo rfl), ?_⟩; refine runD_q 6 rfl rfl (by kernel_rfl) ?_; refine ⟨_, fun _ => ev_indexAddrA rfl rfl rfl (ar rfl) (by omega) (by omega), ?_⟩; refine runD_1 7 (by kernel_rfl) rfl rfl rfl ?_)
  refine runL_store (c := cc) (l := [.slice (some ⟨ba, 0, none⟩) (restP o l).length cap2]) [] [] rfl rfl rfl rfl rfl (sz rfl) rfl rfl rfl (by rw [hc5, hso]; show 0 + 0 + (s : Int).toNat * 1 + 1 ≤ 5; omega) rfl ?_
  rw [show 0 + 0 + o.side.toNat * 1 = s by rw [hso, Int.toNat_natCast]; omega]
  (refine runL_nil ?_; refine endS_n rfl ?_; refine runD_done (by kernel_rfl) ?_)
  exact ⟨_, rfl, H', [blk b3 o.cells 35], hH', fun x => by
    have h1 := hp3 x
    rw [hAA]
    simp only [List.append_eq, cnt_append, cnt_cons, cnt_nil, blk, List.length_singleton, List.nil_append] at h1 ⊢
    omega⟩
end Go.Proofs.YtmelpobcpcmdoaaGreat
