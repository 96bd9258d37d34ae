/- Contracts of functions of the given program over its translation, each proved by walking its text; used by the laws' rows. It proves no given statement by itself. -/
import Derived.Test.YtmelpobcpcmdoaaGreatSLBk3X
set_option autoImplicit false
set_option linter.unusedSectionVars false
set_option linter.unusedSimpArgs false
set_option linter.unusedVariables false
set_option maxRecDepth 4000
set_option maxHeartbeats 16000000
namespace Go.Proofs.YtmelpobcpcmdoaaGreat
open Go Go.SL Go.Proofs
/-- Where an order comes to rest on its side. -/
def restK (o : Ord) (l : List Lv) : Nat := (l.findIdx? fun lv => !better o.side lv.p o.price).getD l.length
def restI (o : Ord) (l : List Lv) : Bool := match l[restK o l]? with
  | some lv => !decide (lv.p = o.price)
  | none => true
/-- The side with a place for the order. -/
def restP (o : Ord) (l : List Lv) : List Lv := if restI o l = true then l.take (restK o l) ++ ⟨o.price, []⟩ :: l.drop (restK o l) else l
def restL (o : Ord) (l : List Lv) : List Lv := match (restP o l)[restK o l]? with
  | some lv => (restP o l).set (restK o l) ⟨lv.p, lv.es ++ [⟨o, tip o⟩]⟩
  | none => restP o l
theorem restK_le (o : Ord) (l : List Lv) : restK o l ≤ l.length := by
  unfold restK
  cases h : l.findIdx? fun lv => !better o.side lv.p o.price with
  | none => exact Nat.le_refl _
  | some k =>
    rw [List.findIdx?_eq_some_iff_getElem] at h
    obtain ⟨hlt, -⟩ := h
    show k ≤ _; omega
theorem restP_get (o : Ord) (l : List Lv) : ∃ lv, (restP o l)[restK o l]? = some lv ∧ (restI o l = false → l[restK o l]? = some lv) ∧ (restI o l = true → lv = ⟨o.price, []⟩) := by
  have hk := restK_le o l
  unfold restP
  split
  · rename_i h
    refine ⟨⟨o.price, []⟩, ?_, (fun h2 => by rw [h] at h2; cases h2), fun _ => rfl⟩
    rw [List.getElem?_append_right (by rw [List.length_take]; omega), List.length_take, Nat.min_eq_left hk, Nat.sub_self]; rfl
  · rename_i h
    unfold restI at h
    split at h
    · rename_i lv hlv
      exact ⟨lv, hlv, (fun _ => hlv), fun h2 => by unfold restI at h2; rw [hlv] at h2; exact absurd h2 h⟩
    · exact absurd rfl h
variable [Base]
theorem sp_idxLvlP (F : Heap) (a : Option Addr) (k cap : Nat) (l : List Nat) (hl : l.length = k) (hkb : k ≤ 1048576) (hs : SrcIs F a k 1 (rows pc l)) (g : FuncId) (hg : SL.Program.plainFn Tryz.prog g = true) (caps : List Value) {α : Type} (xs : List α) (hxl : xs.length = k) (p : α → Bool)
    (hp : ∀ (i : Nat) b x, l[i]? = some b → xs[i]? = some x → Sp Tryz.prog F g (.pointer (some ⟨b, 0, none⟩) :: caps) [] (Ret (.bool (p x)))) :
    Sp Tryz.prog F 94 [.slice a k cap, .func (.func g) #[] ⟨caps⟩] [] (Ret (.int .i64 (idxI p xs))) := by
  refine sp_of_code Tryz.func94 rfl rfl ?_
  (refine run_seq ?_; refine run_region ?_; refine xep rfl rfl ?_; refine runL_nil ?_; refine then_normal ?_; (iterate 2 refine run_seq ?_); refine run_region ?_; refine xep rfl rfl ?_; refine xel rfl (ev_len rfl rfl (se rfl)) ?_; refine xep rfl rfl ?_; refine runL_nil ?_; refine then_normal ?_; refine run_block ?_)
  refine run_loopK (σ := Nat) [0, 1, 7, 8] (fun i => [(0, .slice a k cap), (1, .func (.func g) #[] ⟨caps⟩), (7, .int .i64 k), (8, .int .i64 i)]) (fun _ => []) (fun i => i ≤ k ∧ ∀ j y, j < i → xs[j]? = some y → p y = false) (fun i => k - i) 0 ⟨Nat.zero_le _, fun j y h => absurd h (Nat.not_lt_zero _)⟩ rfl (fun _ => rfl) ?_
  rintro i ⟨g1, g2⟩
  (refine run_seq ?_; refine run_region ?_; refine xep rfl rfl ?_; refine runL_nil ?_; refine then_normal ?_; refine run_seq ?_)
  (refine run_cond rfl (fun hc => ?_) (fun hc => ?_) <;> (try simp only [z0, z1, z2, z3, z4, z5, z6, z7, z8, z9, Bool.not_true, Bool.not_false, Bool.false_or, Bool.true_and, true_and, and_true, false_or, or_false, reduceCtorEq, Bool.false_eq_true] at hc))
  · obtain ⟨b, off, _, _, _, rfl, _⟩ := hs.pos (by omega)
    obtain ⟨x, hx⟩ : ∃ x, l[i]? = some x := ⟨l[i]'(by omega), List.getElem?_eq_getElem _⟩
    obtain ⟨y, hy⟩ : ∃ y, xs[i]? = some y := ⟨xs[i]'(by omega), List.getElem?_eq_getElem _⟩
    have l0 := SrcIs.row pc_len hs hl hx
    have l1 : LoadsF F b (off + i * 1) (.pointer (some ⟨x, 0, none⟩)) := l0.at 0 _ rfl
    clear l0
    (refine run_skip ?_; refine then_normal ?_; refine run_seq ?_; refine run_block ?_; refine run_seq ?_; refine run_region ?_; (iterate 2 refine xep rfl rfl ?_); refine runL_nil ?_; refine then_normal ?_; refine run_seq ?_; refine run_region ?_; (iterate 3 refine xep rfl rfl ?_); refine xel rfl (ev_indexAddr rfl rfl rfl (se rfl) (by omega) (by omega)) ?_; refine xel rfl (ev_loadF rfl rfl (sc rfl) l1) ?_)
    refine runL_ev rfl rfl rfl rfl (ev_call (vs := [.pointer (some ⟨x, 0, none⟩)]) (caps := caps) (v := .bool (p y)) rfl rfl rfl hg (hp i x y hx hy)) ?_
    (refine runL_nil ?_; refine then_normal ?_)
    (refine run_cond rfl (fun hc => ?_) (fun hc => ?_) <;> (try simp only [z0, z1, z2, z3, z4, z5, z6, z7, z8, z9, Bool.not_true, Bool.not_false, Bool.false_or, Bool.true_and, true_and, and_true, false_or, or_false, reduceCtorEq, Bool.false_eq_true] at hc))
    · (refine run_seq ?_; refine run_region ?_; (iterate 2 refine xep rfl rfl ?_); refine runL_nil ?_; refine then_normal ?_; refine run_ret ?_; refine in_ret ?_; (iterate 2 refine then_ret ?_); refine in_ret ?_; refine then_ret ?_)
      refine ⟨_, rfl, ?_⟩
      rw [idxI_here hy hc g2]; rfl
    · have hpx := hc
      (refine run_skip ?_; refine in_normal ?_; refine then_normal ?_; refine run_region ?_; refine xel rfl (ev_add rfl rfl rfl (by omega)) ?_; refine xep rfl rfl ?_; refine runL_nil ?_; refine then_normal ?_)
      refine ⟨i + 1, ⟨by omega, fun j z hj hz => ?_⟩, by omega, rfl, [], fun _ => rfl⟩
      by_cases e : j = i
      · subst e; rw [hy] at hz; cases hz; exact hpx
      · exact g2 j z (by omega) hz
  · (refine run_exit ?_; (iterate 2 refine then_exit ?_); refine in_exit ?_; refine then_normal ?_)
    (refine run_seq ?_; refine run_region ?_; refine xep rfl rfl ?_; refine runL_nil ?_; refine then_normal ?_; refine run_ret ?_)
    refine ⟨_, rfl, ?_⟩
    rw [idxI_none fun j y hy => g2 j y (by have := (List.getElem?_eq_some_iff.1 hy).1; omega) hy]; rfl
theorem sp_rest1 (F : Heap) (b3 bi : Nat) (o : Ord) (p : Int) (es : List Ent) (l1 : AggF F b3 0 o.cells) (hi : LvIn F bi p es) :
    Sp Tryz.prog F 95 [.pointer (some ⟨bi, 0, none⟩), .pointer (some ⟨b3, 0, none⟩)] [] (Ret (.bool (!better o.side p o.price))) := by
  have q1 := fun G : Heap => sp_lprice (G ++ F) bi p es hi.up
  have q2 := fun F => sp_better F o.side p o.price
  have l2 := l1.at 3 _ rfl
  have l3 := l1.at 5 _ rfl
  clear l1
  refine sp_of_code Tryz.func95 rfl rfl ?_
  (refine run_seq ?_; refine run_region ?_; refine xep rfl rfl ?_; refine runL_nil ?_; refine then_normal ?_; refine run_seq ?_; refine run_region_draw mo (by kernel_rfl) ?_; refine xql rfl (ev_fieldAddr rfl rfl (fo rfl)) ?_; refine xql rfl (ev_loadF rfl rfl (sc rfl) l2) ?_; refine xqp rfl rfl ?_; refine xql rfl (ev_callQ rfl rfl rfl (pf rfl) (q1 ..)) ?_; refine xql rfl (ev_fieldAddr rfl rfl (fo rfl)) ?_; refine xql rfl (ev_loadF rfl rfl (sc rfl) l3) ?_; refine xql rfl (ev_callQ rfl rfl rfl (pf rfl) (q2 ..)) ?_; (iterate 2 refine xqp rfl rfl ?_); refine runQ_nil ?_; refine then_normal ?_; refine run_ret ?_)
  exact ⟨_, rfl, rfl⟩
theorem sp_brest1 (F H0 H1 : Heap) (b : Nat) (w v : Value) (last no : Int) (l : List Lv) (h0 : SdH v l H0) (hok : ∀ lv ∈ l, lv.Ok) (h64 : lenL l ≤ 64) (o : Ord) (hs : o.side = 1) :
    Sp Tryz.prog F 79 [.pointer (some ⟨b, 0, none⟩), ov o] (blk b [v,w, .int .i64 last, .int .i64 no] 90 :: (H0 ++ H1)) (fun _ h' => ∃ v' H0', SdH v' (restL o l) H0' ∧ h' = blk b [v',w, .int .i64 last, .int .i64 no] 90 :: (H0' ++ H1)) := by
  have q1 : ∀ F, Sp Tryz.prog F 71 [.pointer (some ⟨b, 0, none⟩), .int .i64 o.side] [] (Ret (.pointer (some ⟨b, 0, none⟩))) := by
    intro F
    have := sp_bside F b o.side
    rw [hs] at this ⊢; exact this
  have gl := lenL_ge hok
  have hkl := restK_le o l
  refine Sp.up ?_
  refine sp_of_code Tryz.func79 rfl rfl ?_
  have h00 := h0
  obtain ⟨a, cap, bs, A, L, rfl, own, hL, rfl⟩ := h0
  have hbl := hL.len
  (refine run_seq ?_; refine run_region ?_; refine runL_box rfl rfl rfl rfl rfl rfl (fun _ => ?_); refine runL_nil ?_; refine then_normal ?_; refine run_seq ?_; refine run_region ?_; refine xep rfl rfl ?_; refine xel rfl (ev_fieldAddr rfl rfl (fo rfl)) ?_; refine xel rfl (ev_loadK rfl rfl (sc rfl) (memF (.head _)) rfl) ?_; refine xel rfl (ev_callQ rfl rfl rfl (pf rfl) (q1 ..)) ?_; refine xep rfl rfl ?_; refine runL_nil ?_; refine then_normal ?_; refine run_seq ?_; refine run_region ?_; (iterate 2 refine xep rfl rfl ?_); refine xel rfl (ev_loadK rfl rfl (sc rfl) (memF (.tail _ (.head _))) rfl) ?_; refine xel rfl (ev_makeFunc rfl rfl) ?_)
  rename_i b3
  refine RunL.perm (h' := blk b3 o.cells 35 :: blk b [.slice a l.length cap,w, .int .i64 last, .int .i64 no] 90 :: (A ++ L ++ H1)) (fun x => rfl) ?_
  refine runL_ev rfl rfl rfl rfl (ev_callQ rfl rfl rfl (pf rfl) (sp_idxLvlP _ a l.length cap bs hbl (by omega) (own.src fun x m => by simp [m]) 95 (pf rfl) [.pointer (some ⟨b3, 0, none⟩)] l rfl (fun lv => !better o.side lv.p o.price) fun i bi lv hb hl => sp_rest1 _ b3 bi o lv.p lv.es ⟨_, _, _, memF (.head _), by simp, rfl⟩ ((hL.in fun x m => by simp [m]).2 i bi lv hb hl))) ?_
  (refine xep rfl rfl ?_; refine runL_nil ?_; refine then_normal ?_; (iterate 2 refine run_seq ?_); refine run_region ?_; (iterate 2 refine xep rfl rfl ?_); refine runL_nil ?_; refine then_normal ?_)
  refine run_midO (σ := Unit) [3, 4] (fun _ => [(5, .int .i64 (restK o l : Nat))]) (fun _ => blk b3 o.cells 35 :: blk b [.slice a l.length cap,w, .int .i64 last, .int .i64 no] 90 :: (A ++ L ++ H1)) (fun _ => True) rfl ?_ ?_
  · rcases idxI_cases (fun lv => !better o.side lv.p o.price) l with ⟨hk, hno⟩ | ⟨k, x, hk, hx, hp, hn⟩
    · have e : restK o l = l.length := by unfold restK; rw [List.findIdx?_eq_none_iff.2 hno]; rfl
      rw [hk, e]
      refine run_condT rfl rfl ?_
      (refine run_region ?_; (iterate 2 refine xep rfl rfl ?_); refine xel rfl (ev_loadK rfl rfl (sc rfl) (memF (.tail _ (.head _))) rfl) ?_; refine xel rfl (ev_len rfl rfl (se rfl)) ?_; refine xep rfl rfl ?_; refine runL_nil ?_)
      exact midN () [] trivial rfl (fun x => by (first | rfl | (simp only [List.append_eq, cnt_append, cnt_cons, cnt_nil, blk]; omega) | (simp only [List.append_eq, cnt_append, cnt_cons, cnt_nil, blk]; done)))
    · have e : restK o l = k := by
        have : l.findIdx? (fun lv => !better o.side lv.p o.price) = some k := by
          rw [List.findIdx?_eq_some_iff_getElem]
          refine ⟨(List.getElem?_eq_some_iff.1 hx).1, by rw [(List.getElem?_eq_some_iff.1 hx).2]; exact hp, fun j hj => ?_⟩
          have h9 := hn j _ hj (List.getElem?_eq_getElem (by have := (List.getElem?_eq_some_iff.1 hx).1; omega))
          rw [h9]; simp
        unfold restK; rw [this]; rfl
      rw [hk, e]
      refine run_condF rfl (decide_eq_false (by omega)) ?_
      (refine run_skip ?_)
      exact midN () [] trivial rfl (fun x => by (first | rfl | (simp only [List.append_eq, cnt_append, cnt_cons, cnt_nil, blk]; omega) | (simp only [List.append_eq, cnt_append, cnt_cons, cnt_nil, blk]; done)))
  intro fr' h' hm
  (refine then_normal ?_)
  refine midN_out hm ?_
  rintro ⟨⟩ -
  clear hm fr' h'
  obtain ⟨AA, hAA⟩ : ∃ AA, AA = blk b3 o.cells 35 :: blk b [.slice a l.length cap,w, .int .i64 last, .int .i64 no] 90 :: (A ++ L ++ H1) := ⟨_, rfl⟩
  have l1 : LoadsF (AA ++ F) b 0 (.slice a l.length cap) := ⟨_, _, _, by rw [hAA]; exact memF (.tail _ (.head _)), rfl⟩
  have l2 : AggF (AA ++ F) b3 0 o.cells := ⟨_, _, _, by rw [hAA]; exact memF (.head _), by simp, rfl⟩
  have l3 := l2.at 5 _ rfl
  have hcap : l.length ≤ cap := by
    obtain ⟨_, _, hv, h2⟩ := own.form
    cases hv; exact h2
  ((iterate 2 refine run_seq ?_))
  refine run_midO (σ := Unit) [3, 4, 5] (fun _ => [(38, .bool (restI o l))]) (fun _ => blk b3 o.cells 35 :: blk b [.slice a l.length cap,w, .int .i64 last, .int .i64 no] 90 :: (A ++ L ++ H1)) (fun _ => True) rfl ?_ ?_
  · rw [← hAA]
    refine RunC.freeze ?_
    by_cases hkk : restK o l = l.length
    · have hgd : decide (((restK o l : Nat) : Int) = l.length) = true := decide_eq_true (by omega)
      have hri : restI o l = true := by
        unfold restI; rw [hkk, List.getElem?_eq_none (Nat.le_refl _)]
      refine run_region_D mo ?_
      (refine runD_q 0 rfl rfl (by kernel_rfl) ?_; refine ⟨_, fun _ => ev_pure rfl, ?_⟩; refine runD_q 1 rfl rfl (by kernel_rfl) ?_; refine ⟨_, fun _ => ev_pure rfl, ?_⟩; refine runD_q 2 rfl rfl (by kernel_rfl) ?_; refine ⟨_, fun _ => ev_pure rfl, ?_⟩; refine runD_q 3 rfl rfl (by kernel_rfl) ?_; refine ⟨_, fun _ => ev_loadF rfl rfl (sc rfl) l1, ?_⟩; refine runD_q 4 rfl rfl (by kernel_rfl) ?_; refine ⟨_, fun _ => ev_len rfl rfl (se rfl), ?_⟩; refine runD_q 5 rfl rfl (by kernel_rfl) ?_; refine ⟨_, fun _ => ev_pure rfl, ?_⟩; refine runD_q 6 rfl rfl (by kernel_rfl) ?_; refine ⟨_, fun _ => ev_pure rfl, ?_⟩; refine runD_gn 7 rfl rfl rfl rfl rfl rfl hgd (by kernel_rfl) ?_; refine runD_gn 8 rfl rfl rfl rfl rfl rfl hgd (by kernel_rfl) ?_; refine runD_gn 9 rfl rfl rfl rfl rfl rfl hgd (by kernel_rfl) ?_; refine runD_gn 10 rfl rfl rfl rfl rfl rfl hgd (by kernel_rfl) ?_; refine runD_gn 11 rfl rfl rfl rfl rfl rfl hgd (by kernel_rfl) ?_; refine runD_gn 12 rfl rfl rfl rfl rfl rfl hgd (by kernel_rfl) ?_; refine runD_gn 13 rfl rfl rfl rfl rfl rfl hgd (by kernel_rfl) ?_; refine runD_gn 14 rfl rfl rfl rfl rfl rfl hgd (by kernel_rfl) ?_; refine runD_gn 15 rfl rfl rfl rfl rfl rfl hgd (by kernel_rfl) ?_; refine runD_gn 16 rfl rfl rfl rfl rfl rfl hgd (by kernel_rfl) ?_; refine runD_q 17 rfl rfl (by kernel_rfl) ?_; refine ⟨_, fun _ => ev_pickT rfl rfl hgd rfl, ?_⟩; refine runD_done (by kernel_rfl) ?_)
      exact midN () [] trivial (by rw [hri]; rfl) (fun x => by (first | rfl | (simp only [List.append_eq, cnt_append, cnt_cons, cnt_nil, blk]; omega) | (simp only [List.append_eq, cnt_append, cnt_cons, cnt_nil, blk]; done)))
    · have hgd : decide (((restK o l : Nat) : Int) = l.length) = false := decide_eq_false (by omega)
      have hlt : restK o l < l.length := by omega
      obtain ⟨b2, off, bi, lv, rfl, hlv, l4, hi⟩ := SdIn.level (n := 0) (cap := 0) (F := AA ++ F) (own.src fun x m => by simp [hAA, m]) (hL.in fun x m => by simp [hAA, m]) hlt
      have q7 := fun G : Heap => sp_lprice (G ++ (AA ++ F)) bi lv.p lv.es (hi.mono fun x m => List.mem_append_right _ m)
      have hri : restI o l = !decide (lv.p = o.price) := by unfold restI; rw [hlv]
      refine run_region_D mo ?_
      (refine runD_q 0 rfl rfl (by kernel_rfl) ?_; refine ⟨_, fun _ => ev_pure rfl, ?_⟩; refine runD_q 1 rfl rfl (by kernel_rfl) ?_; refine ⟨_, fun _ => ev_pure rfl, ?_⟩; refine runD_q 2 rfl rfl (by kernel_rfl) ?_; refine ⟨_, fun _ => ev_pure rfl, ?_⟩; refine runD_q 3 rfl rfl (by kernel_rfl) ?_; refine ⟨_, fun _ => ev_loadF rfl rfl (sc rfl) l1, ?_⟩; refine runD_q 4 rfl rfl (by kernel_rfl) ?_; refine ⟨_, fun _ => ev_len rfl rfl (se rfl), ?_⟩; refine runD_q 5 rfl rfl (by kernel_rfl) ?_; refine ⟨_, fun _ => ev_pure rfl, ?_⟩; refine runD_q 6 rfl rfl (by kernel_rfl) ?_; refine ⟨_, fun _ => ev_pure rfl, ?_⟩; refine runD_gq 7 rfl rfl rfl rfl rfl rfl hgd (by kernel_rfl) ?_; refine ⟨_, fun _ => ev_pure rfl, ?_⟩; refine runD_gq 8 rfl rfl rfl rfl rfl rfl hgd (by kernel_rfl) ?_; refine ⟨_, fun _ => ev_pure rfl, ?_⟩; refine runD_gq 9 rfl rfl rfl rfl rfl rfl hgd (by kernel_rfl) ?_; refine ⟨_, fun _ => ev_loadF rfl rfl (sc rfl) l1, ?_⟩; refine runD_gq 10 rfl rfl rfl rfl rfl rfl hgd (by kernel_rfl) ?_; refine ⟨_, fun _ => ev_pure rfl, ?_⟩; refine runD_gq 11 rfl rfl rfl rfl rfl rfl hgd (by kernel_rfl) ?_; refine ⟨_, fun _ => ev_indexAddr rfl rfl rfl (se rfl) (by omega) (by omega), ?_⟩; refine runD_gq 12 rfl rfl rfl rfl rfl rfl hgd (by kernel_rfl) ?_; refine ⟨_, fun _ => ev_loadF rfl rfl (sc rfl) l4, ?_⟩; refine runD_gq 13 rfl rfl rfl rfl rfl rfl hgd (by kernel_rfl) ?_; refine ⟨_, fun _ => ev_callQ rfl rfl rfl (pf rfl) (q7 ..), ?_⟩; refine runD_gq 14 rfl rfl rfl rfl rfl rfl hgd (by kernel_rfl) ?_; refine ⟨_, fun _ => ev_fieldAddr rfl rfl (fo rfl), ?_⟩; refine runD_gq 15 rfl rfl rfl rfl rfl rfl hgd (by kernel_rfl) ?_; refine ⟨_, fun _ => ev_loadF rfl rfl (sc rfl) l3, ?_⟩; refine runD_gq 16 rfl rfl rfl rfl rfl rfl hgd (by kernel_rfl) ?_; refine ⟨_, fun _ => ev_pure rfl, ?_⟩; refine runD_q 17 rfl rfl (by kernel_rfl) ?_; refine ⟨_, fun _ => ev_pure rfl, ?_⟩; refine runD_done (by kernel_rfl) ?_)
      exact midN () [] trivial (by rw [hri, hgd]; rfl) (fun x => by (first | rfl | (simp only [List.append_eq, cnt_append, cnt_cons, cnt_nil, blk]; omega) | (simp only [List.append_eq, cnt_append, cnt_cons, cnt_nil, blk]; done)))
  intro fr' h' hm
  (refine then_normal ?_)
  refine midN_out hm ?_
  rintro ⟨⟩ -
  clear hm fr' h'
  obtain ⟨lv, hlv, hlv1, hlv2⟩ := restP_get o l
  have hres : restL o l = (restP o l).set (restK o l) ⟨lv.p, lv.es ++ [⟨o, tip o⟩]⟩ := by unfold restL; rw [hlv]
  rw [hres]
  refine run_midO (σ := Value × Heap) [3, 4, 5] (fun _ => []) (fun s => blk b3 o.cells 35 :: blk b [s.1,w, .int .i64 last, .int .i64 no] 90 :: (s.2 ++ H1)) (fun s => SdH s.1 (restP o l) s.2) rfl ?_ ?_
  · cases hri : restI o l with
    | false =>
      have e : restP o l = l := by unfold restP; rw [if_neg (by rw [hri]; simp)]
      rw [e]
      refine run_condF rfl rfl ?_
      (refine run_skip ?_)
      exact midN (_, _) [] h00 rfl (fun x => by (first | rfl | (simp only [List.append_eq, cnt_append, cnt_cons, cnt_nil, blk]; omega) | (simp only [List.append_eq, cnt_append, cnt_cons, cnt_nil, blk]; done)))
    | true =>
      refine run_condT rfl rfl ?_
      have e : restP o l = l.take (restK o l) ++ ⟨o.price, []⟩ :: l.drop (restK o l) := by unfold restP; rw [if_pos hri]
      have hl' : (l.take (restK o l) ++ (⟨o.price, []⟩ : Lv) :: l.drop (restK o l)).length = l.length + 1 := by
        rw [List.length_append, List.length_cons, List.length_take, List.length_drop]; omega
      obtain ⟨BB, hBB⟩ : ∃ BB, BB = blk b [.slice a l.length cap,w, .int .i64 last, .int .i64 no] 90 :: blk b3 o.cells 35 :: (L ++ H1) := ⟨_, rfl⟩
      refine RunC.perm (h' := A ++ BB) (fun x => by rw [hBB]; (first | rfl | (simp only [List.append_eq, cnt_append, cnt_cons, cnt_nil, blk]; omega) | (simp only [List.append_eq, cnt_append, cnt_cons, cnt_nil, blk]; done))) ?_
      clear l1 l2 l3
      have l1 : LoadsF (BB ++ F) b 0 (.slice a l.length cap) := ⟨_, _, _, by rw [hBB]; exact memF (.head _), rfl⟩
      have l3 : LoadsF (BB ++ F) b3 (0 + 5) (.int .i64 o.price) := ⟨_, _, _, by rw [hBB]; exact memF (.tail _ (.head _)), rfl⟩
      refine run_region_D3 (σ := Option Addr × Nat × Heap × Nat × Heap) 10 2 [3, 4, 5] (fun s => [(48, .slice s.1 (l.length + 1) s.2.1), (39, .pointer (some ⟨b, 0, none⟩))]) (fun s => s.2.2.1 ++ s.2.2.2.2)
        (fun s => OwnS 110 1 (.slice s.1 (l.length + 1) s.2.1) (l.length + 1) (rows pc (bs.take (restK o l) ++ s.2.2.2.1 :: bs.drop (restK o l))) s.2.2.1 ∧ LvH s.2.2.2.1 o.price [] s.2.2.2.2) mo rfl (by kernel_rfl) rfl ?_ ?_
      · (refine runD_q 0 rfl rfl (by kernel_rfl) ?_; refine ⟨_, fun _ => ev_pure rfl, ?_⟩; refine runD_q 1 rfl rfl (by kernel_rfl) ?_; refine ⟨_, fun _ => ev_pure rfl, ?_⟩; refine runD_q 2 rfl rfl (by kernel_rfl) ?_; refine ⟨_, fun _ => ev_pure rfl, ?_⟩; refine runD_q 3 rfl rfl (by kernel_rfl) ?_; refine ⟨_, fun _ => ev_loadF rfl rfl (sc rfl) l1, ?_⟩; refine runD_q 4 rfl rfl (by kernel_rfl) ?_; refine ⟨_, fun _ => ev_pure rfl, ?_⟩; refine runD_q 5 rfl rfl (by kernel_rfl) ?_; refine ⟨_, fun _ => ev_fieldAddr rfl rfl (fo rfl), ?_⟩; refine runD_q 6 rfl rfl (by kernel_rfl) ?_; refine ⟨_, fun _ => ev_loadF rfl rfl (sc rfl) l3, ?_⟩; refine runD_1 7 (by kernel_rfl) rfl rfl rfl ?_)
        refine runL_callZ A [] rfl rfl rfl rfl rfl rfl rfl (pf rfl) (fun x => by (first | rfl | (simp only [List.append_eq, cnt_append, cnt_cons, cnt_nil, blk]; omega) | (simp only [List.append_eq, cnt_append, cnt_cons, cnt_nil, blk]; done))) (sp_lnew _ o.price) ?_
        rintro v2 HN ⟨bi, rfl, hN⟩
        (refine runL_nil ?_; refine endS_d rfl ?_; refine runD_1 8 (by kernel_rfl) rfl rfl rfl ?_)
        refine runL_buildSlice (l := pc bi) rfl rfl rfl rfl rfl (se rfl) ze110 rfl rfl rfl rfl rfl (fun bv => ?_)
        (refine runL_nil ?_; refine endS_d rfl ?_; refine runD_1 9 (by kernel_rfl) rfl rfl rfl ?_)
        refine runL_callZ HN (A ++ [blk bv (pc bi) 110]) rfl rfl rfl rfl rfl rfl rfl (pf rfl) (fun x => by (first | rfl | (simp only [List.append_eq, cnt_append, cnt_cons, cnt_nil, blk]; omega) | (simp only [List.append_eq, cnt_append, cnt_cons, cnt_nil, blk]; done))) (sp_insLvl _ A a l.length cap bs own hbl (by omega) (restK o l) hkl bi bv) ?_
        rintro v3 A' own'
        obtain ⟨a5, c5, rfl, own5⟩ := own'.at
        (refine runL_nil ?_; refine endS_d rfl ?_; refine runD_done (by kernel_rfl) ?_)
        exact midX (a5, c5, A', bi, HN) ⟨own5, hN⟩ rfl (fun x => by (first | rfl | (simp only [List.append_eq, cnt_append, cnt_cons, cnt_nil, blk]; omega) | (simp only [List.append_eq, cnt_append, cnt_cons, cnt_nil, blk]; done)))
      · rintro ⟨a5, c5, A', bi, HN⟩ ⟨own5, hN⟩
        dsimp only at own5 hN ⊢
        obtain ⟨L', hL', hpL⟩ := hL.ins (restK o l) (lv := ⟨o.price, []⟩) hkl hN
        refine RunD.same (M' := blk b [.slice a l.length cap,w, .int .i64 last, .int .i64 no] 90 :: (blk b3 o.cells 35 :: (A' ++ HN ++ (L ++ H1)))) (fun _ _ h => h) (fun x => by rw [hBB]; (first | rfl | (simp only [List.append_eq, cnt_append, cnt_cons, cnt_nil, blk]; omega) | (simp only [List.append_eq, cnt_append, cnt_cons, cnt_nil, blk]; done))) ?_
        (refine runD_q 10 rfl rfl (by kernel_rfl) ?_; refine ⟨_, fun _ => ev_pure rfl, ?_⟩; refine runD_1 11 (by kernel_rfl) rfl rfl rfl ?_; refine runL_store0 rfl rfl rfl rfl rfl (sz rfl) rfl rfl rfl rfl rfl ?_; refine runL_nil ?_; refine endS_n rfl ?_; refine runD_done (by kernel_rfl) ?_)
        rw [e]
        refine midN (.slice a5 (l.length + 1) c5, A' ++ L') [] ⟨a5, c5, bs.take (restK o l) ++ bi :: bs.drop (restK o l), A', L', by rw [hl'], by rw [hl']; exact own5, hL', rfl⟩ rfl (fun x => ?_)
        have h1 := hpL x
        simp only [List.append_eq, cnt_append, cnt_cons, cnt_nil, blk] at h1 ⊢
        omega
  intro fr' h' hm
  (refine then_normal ?_)
  refine midN_out hm ?_
  rintro ⟨v1, H01⟩ h01
  dsimp only at h01 ⊢
  obtain ⟨ba, c, cap2, bi, G1, G2, rfl, hcap2, gg1, hG1, hp, hset⟩ := h01.open hlv
  have hlt := (List.getElem?_eq_some_iff.1 hlv).1
  skip
  refine RunC.perm (h' := G1 ++ (blk b3 o.cells 35 :: blk b [.slice (some ⟨ba, 0, none⟩) (restP o l).length cap2,w, .int .i64 last, .int .i64 no] 90 :: blk ba c 110 :: (G2 ++ H1))) (fun x => by
    have h1 := hp x
    simp only [List.append_eq, cnt_append, cnt_cons, cnt_nil, blk] at h1 ⊢
    omega) ?_
  refine RunC.freezeR ?_
  clear l1 l2 l3
  have l1 : LoadsF ((blk b3 o.cells 35 :: blk b [.slice (some ⟨ba, 0, none⟩) (restP o l).length cap2,w, .int .i64 last, .int .i64 no] 90 :: blk ba c 110 :: (G2 ++ H1)) ++ F) b 0 (.slice (some ⟨ba, 0, none⟩) (restP o l).length cap2) := ⟨_, _, _, memF (.tail _ (.head _)), rfl⟩
  have l2 : AggF ((blk b3 o.cells 35 :: blk b [.slice (some ⟨ba, 0, none⟩) (restP o l).length cap2,w, .int .i64 last, .int .i64 no] 90 :: blk ba c 110 :: (G2 ++ H1)) ++ F) b3 0 o.cells := ⟨_, _, _, memF (.head _), by simp, rfl⟩
  have l3 : LoadsF ((blk b3 o.cells 35 :: blk b [.slice (some ⟨ba, 0, none⟩) (restP o l).length cap2,w, .int .i64 last, .int .i64 no] 90 :: blk ba c 110 :: (G2 ++ H1)) ++ F) ba (0 + ((restK o l : Nat) : Int).toNat * 1) (.pointer (some ⟨bi, 0, none⟩)) := ⟨_, _, _, memF (.tail _ (.tail _ (.head _))), gg1⟩
  refine run_region_D mo ?_
  (refine runD_q 0 rfl rfl (by kernel_rfl) ?_; refine ⟨_, fun _ => ev_pure rfl, ?_⟩; refine runD_q 1 rfl rfl (by kernel_rfl) ?_; refine ⟨_, fun _ => ev_pure rfl, ?_⟩; refine runD_q 2 rfl rfl (by kernel_rfl) ?_; refine ⟨_, fun _ => ev_loadK rfl rfl (sc rfl) (memR (memF (.tail _ (.head _)))) rfl, ?_⟩; refine runD_q 3 rfl rfl (by kernel_rfl) ?_; refine ⟨_, fun _ => ev_pure rfl, ?_⟩; refine runD_q 4 rfl rfl (by kernel_rfl) ?_; refine ⟨_, fun _ => ev_indexAddr rfl rfl rfl (se rfl) (by omega) (by omega), ?_⟩; refine runD_q 5 rfl rfl (by kernel_rfl) ?_; refine ⟨_, fun _ => ev_loadF rfl rfl (sc rfl) l3, ?_⟩; refine runD_q 6 rfl rfl (by kernel_rfl) ?_; refine ⟨_, fun _ => ev_loadAK rfl rfl (ag rfl) (sz rfl) (memR (memF (.head _))) rfl, ?_⟩; refine runD_1 7 (by kernel_rfl) rfl rfl rfl ?_)
  have hes : lv.es.length ≤ 65535 := by
    cases hri : restI o l with
    | false =>
      have := lenL_mem (List.mem_of_getElem? (hlv1 hri))
      omega
    | true => rw [hlv2 hri]; simp
  refine runL_callZ [] G1 rfl rfl rfl rfl rfl rfl rfl (pf rfl) (fun x => by (first | rfl | (simp only [List.append_eq, cnt_append, cnt_cons, cnt_nil, blk]; omega) | (simp only [List.append_eq, cnt_append, cnt_cons, cnt_nil, blk]; done))) (sp_ladd _ G1 bi lv.p lv.es hG1 hes o) ?_
  rintro v2 G1' hG1'
  obtain ⟨H02, hS2, hp2⟩ := hset lv.p (lv.es ++ [⟨o, tip o⟩]) G1' hG1'
  (refine runL_nil ?_; refine endS_d rfl ?_; refine runD_done (by kernel_rfl) ?_)
  exact ⟨_, rfl, blk b [.slice (some ⟨ba, 0, none⟩) (restP o l).length cap2,w, .int .i64 last, .int .i64 no] 90 :: (H02 ++ H1), [blk b3 o.cells 35], ⟨_, H02, hS2, rfl⟩, fun x => by
    have h1 := hp2 x
    simp only [List.append_eq, cnt_append, cnt_cons, cnt_nil, blk] at h1 ⊢
    omega⟩
theorem sp_brest2 (F H0 H1 : Heap) (b : Nat) (w v : Value) (last no : Int) (l : List Lv) (h0 : SdH v l H0) (hok : ∀ lv ∈ l, lv.Ok) (h64 : lenL l ≤ 64) (o : Ord) (hs : o.side = 2) :
    Sp Tryz.prog F 79 [.pointer (some ⟨b, 0, none⟩), ov o] (blk b [w,v, .int .i64 last, .int .i64 no] 90 :: (H0 ++ H1)) (fun _ h' => ∃ v' H0', SdH v' (restL o l) H0' ∧ h' = blk b [w,v', .int .i64 last, .int .i64 no] 90 :: (H0' ++ H1)) := by
  have q1 : ∀ F, Sp Tryz.prog F 71 [.pointer (some ⟨b, 0, none⟩), .int .i64 o.side] [] (Ret (.pointer (some ⟨b, 1, none⟩))) := by
    intro F
    have := sp_bside F b o.side
    rw [hs] at this ⊢; exact this
  have gl := lenL_ge hok
  have hkl := restK_le o l
  refine Sp.up ?_
  refine sp_of_code Tryz.func79 rfl rfl ?_
  have h00 := h0
  obtain ⟨a, cap, bs, A, L, rfl, own, hL, rfl⟩ := h0
  have hbl := hL.len
  (refine run_seq ?_; refine run_region ?_; refine runL_box rfl rfl rfl rfl rfl rfl (fun _ => ?_); refine runL_nil ?_; refine then_normal ?_; refine run_seq ?_; refine run_region ?_; refine xep rfl rfl ?_; refine xel rfl (ev_fieldAddr rfl rfl (fo rfl)) ?_; refine xel rfl (ev_loadK rfl rfl (sc rfl) (memF (.head _)) rfl) ?_; refine xel rfl (ev_callQ rfl rfl rfl (pf rfl) (q1 ..)) ?_; refine xep rfl rfl ?_; refine runL_nil ?_; refine then_normal ?_; refine run_seq ?_; refine run_region ?_; (iterate 2 refine xep rfl rfl ?_); refine xel rfl (ev_loadK rfl rfl (sc rfl) (memF (.tail _ (.head _))) rfl) ?_; refine xel rfl (ev_makeFunc rfl rfl) ?_)
  rename_i b3
  refine RunL.perm (h' := blk b3 o.cells 35 :: blk b [w,.slice a l.length cap, .int .i64 last, .int .i64 no] 90 :: (A ++ L ++ H1)) (fun x => rfl) ?_
  refine runL_ev rfl rfl rfl rfl (ev_callQ rfl rfl rfl (pf rfl) (sp_idxLvlP _ a l.length cap bs hbl (by omega) (own.src fun x m => by simp [m]) 95 (pf rfl) [.pointer (some ⟨b3, 0, none⟩)] l rfl (fun lv => !better o.side lv.p o.price) fun i bi lv hb hl => sp_rest1 _ b3 bi o lv.p lv.es ⟨_, _, _, memF (.head _), by simp, rfl⟩ ((hL.in fun x m => by simp [m]).2 i bi lv hb hl))) ?_
  (refine xep rfl rfl ?_; refine runL_nil ?_; refine then_normal ?_; (iterate 2 refine run_seq ?_); refine run_region ?_; (iterate 2 refine xep rfl rfl ?_); refine runL_nil ?_; refine then_normal ?_)
  refine run_midO (σ := Unit) [3, 4] (fun _ => [(5, .int .i64 (restK o l : Nat))]) (fun _ => blk b3 o.cells 35 :: blk b [w,.slice a l.length cap, .int .i64 last, .int .i64 no] 90 :: (A ++ L ++ H1)) (fun _ => True) rfl ?_ ?_
  · rcases idxI_cases (fun lv => !better o.side lv.p o.price) l with ⟨hk, hno⟩ | ⟨k, x, hk, hx, hp, hn⟩
    · have e : restK o l = l.length := by unfold restK; rw [List.findIdx?_eq_none_iff.2 hno]; rfl
      rw [hk, e]
      refine run_condT rfl rfl ?_
      (refine run_region ?_; (iterate 2 refine xep rfl rfl ?_); refine xel rfl (ev_loadK rfl rfl (sc rfl) (memF (.tail _ (.head _))) rfl) ?_; refine xel rfl (ev_len rfl rfl (se rfl)) ?_; refine xep rfl rfl ?_; refine runL_nil ?_)
      exact midN () [] trivial rfl (fun x => by (first | rfl | (simp only [List.append_eq, cnt_append, cnt_cons, cnt_nil, blk]; omega) | (simp only [List.append_eq, cnt_append, cnt_cons, cnt_nil, blk]; done)))
    · have e : restK o l = k := by
        have : l.findIdx? (fun lv => !better o.side lv.p o.price) = some k := by
          rw [List.findIdx?_eq_some_iff_getElem]
          refine ⟨(List.getElem?_eq_some_iff.1 hx).1, by rw [(List.getElem?_eq_some_iff.1 hx).2]; exact hp, fun j hj => ?_⟩
          have h9 := hn j _ hj (List.getElem?_eq_getElem (by have := (List.getElem?_eq_some_iff.1 hx).1; omega))
          rw [h9]; simp
        unfold restK; rw [this]; rfl
      rw [hk, e]
      refine run_condF rfl (decide_eq_false (by omega)) ?_
      (refine run_skip ?_)
      exact midN () [] trivial rfl (fun x => by (first | rfl | (simp only [List.append_eq, cnt_append, cnt_cons, cnt_nil, blk]; omega) | (simp only [List.append_eq, cnt_append, cnt_cons, cnt_nil, blk]; done)))
  intro fr' h' hm
  (refine then_normal ?_)
  refine midN_out hm ?_
  rintro ⟨⟩ -
  clear hm fr' h'
  obtain ⟨AA, hAA⟩ : ∃ AA, AA = blk b3 o.cells 35 :: blk b [w,.slice a l.length cap, .int .i64 last, .int .i64 no] 90 :: (A ++ L ++ H1) := ⟨_, rfl⟩
  have l1 : LoadsF (AA ++ F) b 1 (.slice a l.length cap) := ⟨_, _, _, by rw [hAA]; exact memF (.tail _ (.head _)), rfl⟩
  have l2 : AggF (AA ++ F) b3 0 o.cells := ⟨_, _, _, by rw [hAA]; exact memF (.head _), by simp, rfl⟩
  have l3 := l2.at 5 _ rfl
  have hcap : l.length ≤ cap := by
    obtain ⟨_, _, hv, h2⟩ := own.form
    cases hv; exact h2
  ((iterate 2 refine run_seq ?_))
  refine run_midO (σ := Unit) [3, 4, 5] (fun _ => [(38, .bool (restI o l))]) (fun _ => blk b3 o.cells 35 :: blk b [w,.slice a l.length cap, .int .i64 last, .int .i64 no] 90 :: (A ++ L ++ H1)) (fun _ => True) rfl ?_ ?_
  · rw [← hAA]
    refine RunC.freeze ?_
    by_cases hkk : restK o l = l.length
    · have hgd : decide (((restK o l : Nat) : Int) = l.length) = true := decide_eq_true (by omega)
      have hri : restI o l = true := by
        unfold restI; rw [hkk, List.getElem?_eq_none (Nat.le_refl _)]
      refine run_region_D mo ?_
      (refine runD_q 0 rfl rfl (by kernel_rfl) ?_; refine ⟨_, fun _ => ev_pure rfl, ?_⟩; refine runD_q 1 rfl rfl (by kernel_rfl) ?_; refine ⟨_, fun _ => ev_pure rfl, ?_⟩; refine runD_q 2 rfl rfl (by kernel_rfl) ?_; refine ⟨_, fun _ => ev_pure rfl, ?_⟩; refine runD_q 3 rfl rfl (by kernel_rfl) ?_; refine ⟨_, fun _ => ev_loadF rfl rfl (sc rfl) l1, ?_⟩; refine runD_q 4 rfl rfl (by kernel_rfl) ?_; refine ⟨_, fun _ => ev_len rfl rfl (se rfl), ?_⟩; refine runD_q 5 rfl rfl (by kernel_rfl) ?_; refine ⟨_, fun _ => ev_pure rfl, ?_⟩; refine runD_q 6 rfl rfl (by kernel_rfl) ?_; refine ⟨_, fun _ => ev_pure rfl, ?_⟩; refine runD_gn 7 rfl rfl rfl rfl rfl rfl hgd (by kernel_rfl) ?_; refine runD_gn 8 rfl rfl rfl rfl rfl rfl hgd (by kernel_rfl) ?_; refine runD_gn 9 rfl rfl rfl rfl rfl rfl hgd (by kernel_rfl) ?_; refine runD_gn 10 rfl rfl rfl rfl rfl rfl hgd (by kernel_rfl) ?_; refine runD_gn 11 rfl rfl rfl rfl rfl rfl hgd (by kernel_rfl) ?_; refine runD_gn 12 rfl rfl rfl rfl rfl rfl hgd (by kernel_rfl) ?_; refine runD_gn 13 rfl rfl rfl rfl rfl rfl hgd (by kernel_rfl) ?_; refine runD_gn 14 rfl rfl rfl rfl rfl rfl hgd (by kernel_rfl) ?_; refine runD_gn 15 rfl rfl rfl rfl rfl rfl hgd (by kernel_rfl) ?_; refine runD_gn 16 rfl rfl rfl rfl rfl rfl hgd (by kernel_rfl) ?_; refine runD_q 17 rfl rfl (by kernel_rfl) ?_; refine ⟨_, fun _ => ev_pickT rfl rfl hgd rfl, ?_⟩; refine runD_done (by kernel_rfl) ?_)
      exact midN () [] trivial (by rw [hri]; rfl) (fun x => by (first | rfl | (simp only [List.append_eq, cnt_append, cnt_cons, cnt_nil, blk]; omega) | (simp only [List.append_eq, cnt_append, cnt_cons, cnt_nil, blk]; done)))
    · have hgd : decide (((restK o l : Nat) : Int) = l.length) = false := decide_eq_false (by omega)
      have hlt : restK o l < l.length := by omega
      obtain ⟨b2, off, bi, lv, rfl, hlv, l4, hi⟩ := SdIn.level (n := 0) (cap := 0) (F := AA ++ F) (own.src fun x m => by simp [hAA, m]) (hL.in fun x m => by simp [hAA, m]) hlt
      have q7 := fun G : Heap => sp_lprice (G ++ (AA ++ F)) bi lv.p lv.es (hi.mono fun x m => List.mem_append_right _ m)
      have hri : restI o l = !decide (lv.p = o.price) := by unfold restI; rw [hlv]
      refine run_region_D mo ?_
      (refine runD_q 0 rfl rfl (by kernel_rfl) ?_; refine ⟨_, fun _ => ev_pure rfl, ?_⟩; refine runD_q 1 rfl rfl (by kernel_rfl) ?_; refine ⟨_, fun _ => ev_pure rfl, ?_⟩; refine runD_q 2 rfl rfl (by kernel_rfl) ?_; refine ⟨_, fun _ => ev_pure rfl, ?_⟩; refine runD_q 3 rfl rfl (by kernel_rfl) ?_; refine ⟨_, fun _ => ev_loadF rfl rfl (sc rfl) l1, ?_⟩; refine runD_q 4 rfl rfl (by kernel_rfl) ?_; refine ⟨_, fun _ => ev_len rfl rfl (se rfl), ?_⟩; refine runD_q 5 rfl rfl (by kernel_rfl) ?_; refine ⟨_, fun _ => ev_pure rfl, ?_⟩; refine runD_q 6 rfl rfl (by kernel_rfl) ?_; refine ⟨_, fun _ => ev_pure rfl, ?_⟩; refine runD_gq 7 rfl rfl rfl rfl rfl rfl hgd (by kernel_rfl) ?_; refine ⟨_, fun _ => ev_pure rfl, ?_⟩; refine runD_gq 8 rfl rfl rfl rfl rfl rfl hgd (by kernel_rfl) ?_; refine ⟨_, fun _ => ev_pure rfl, ?_⟩; refine runD_gq 9 rfl rfl rfl rfl rfl rfl hgd (by kernel_rfl) ?_; refine ⟨_, fun _ => ev_loadF rfl rfl (sc rfl) l1, ?_⟩; refine runD_gq 10 rfl rfl rfl rfl rfl rfl hgd (by kernel_rfl) ?_; refine ⟨_, fun _ => ev_pure rfl, ?_⟩; refine runD_gq 11 rfl rfl rfl rfl rfl rfl hgd (by kernel_rfl) ?_; refine ⟨_, fun _ => ev_indexAddr rfl rfl rfl (se rfl) (by omega) (by omega), ?_⟩; refine runD_gq 12 rfl rfl rfl rfl rfl rfl hgd (by kernel_rfl) ?_; refine ⟨_, fun _ => ev_loadF rfl rfl (sc rfl) l4, ?_⟩; refine runD_gq 13 rfl rfl rfl rfl rfl rfl hgd (by kernel_rfl) ?_; refine ⟨_, fun _ => ev_callQ rfl rfl rfl (pf rfl) (q7 ..), ?_⟩; refine runD_gq 14 rfl rfl rfl rfl rfl rfl hgd (by kernel_rfl) ?_; refine ⟨_, fun _ => ev_fieldAddr rfl rfl (fo rfl), ?_⟩; refine runD_gq 15 rfl rfl rfl rfl rfl rfl hgd (by kernel_rfl) ?_; refine ⟨_, fun _ => ev_loadF rfl rfl (sc rfl) l3, ?_⟩; refine runD_gq 16 rfl rfl rfl rfl rfl rfl hgd (by kernel_rfl) ?_; refine ⟨_, fun _ => ev_pure rfl, ?_⟩; refine runD_q 17 rfl rfl (by kernel_rfl) ?_; refine ⟨_, fun _ => ev_pure rfl, ?_⟩; refine runD_done (by kernel_rfl) ?_)
      exact midN () [] trivial (by rw [hri, hgd]; rfl) (fun x => by (first | rfl | (simp only [List.append_eq, cnt_append, cnt_cons, cnt_nil, blk]; omega) | (simp only [List.append_eq, cnt_append, cnt_cons, cnt_nil, blk]; done)))
  intro fr' h' hm
  (refine then_normal ?_)
  refine midN_out hm ?_
  rintro ⟨⟩ -
  clear hm fr' h'
  obtain ⟨lv, hlv, hlv1, hlv2⟩ := restP_get o l
  have hres : restL o l = (restP o l).set (restK o l) ⟨lv.p, lv.es ++ [⟨o, tip o⟩]⟩ := by unfold restL; rw [hlv]
  rw [hres]
  refine run_midO (σ := Value × Heap) [3, 4, 5] (fun _ => []) (fun s => blk b3 o.cells 35 :: blk b [w,s.1, .int .i64 last, .int .i64 no] 90 :: (s.2 ++ H1)) (fun s => SdH s.1 (restP o l) s.2) rfl ?_ ?_
  · cases hri : restI o l with
    | false =>
      have e : restP o l = l := by unfold restP; rw [if_neg (by rw [hri]; simp)]
      rw [e]
      refine run_condF rfl rfl ?_
      (refine run_skip ?_)
      exact midN (_, _) [] h00 rfl (fun x => by (first | rfl | (simp only [List.append_eq, cnt_append, cnt_cons, cnt_nil, blk]; omega) | (simp only [List.append_eq, cnt_append, cnt_cons, cnt_nil, blk]; done)))
    | true =>
      refine run_condT rfl rfl ?_
      have e : restP o l = l.take (restK o l) ++ ⟨o.price, []⟩ :: l.drop (restK o l) := by unfold restP; rw [if_pos hri]
      have hl' : (l.take (restK o l) ++ (⟨o.price, []⟩ : Lv) :: l.drop (restK o l)).length = l.length + 1 := by
        rw [List.length_append, List.length_cons, List.length_take, List.length_drop]; omega
      obtain ⟨BB, hBB⟩ : ∃ BB, BB = blk b [w,.slice a l.length cap, .int .i64 last, .int .i64 no] 90 :: blk b3 o.cells 35 :: (L ++ H1) := ⟨_, rfl⟩
      refine RunC.perm (h' := A ++ BB) (fun x => by rw [hBB]; (first | rfl | (simp only [List.append_eq, cnt_append, cnt_cons, cnt_nil, blk]; omega) | (simp only [List.append_eq, cnt_append, cnt_cons, cnt_nil, blk]; done))) ?_
      clear l1 l2 l3
      have l1 : LoadsF (BB ++ F) b 1 (.slice a l.length cap) := ⟨_, _, _, by rw [hBB]; exact memF (.head _), rfl⟩
      have l3 : LoadsF (BB ++ F) b3 (0 + 5) (.int .i64 o.price) := ⟨_, _, _, by rw [hBB]; exact memF (.tail _ (.head _)), rfl⟩
      refine run_region_D3 (σ := Option Addr × Nat × Heap × Nat × Heap) 10 2 [3, 4, 5] (fun s => [(48, .slice s.1 (l.length + 1) s.2.1), (39, .pointer (some ⟨b, 1, none⟩))]) (fun s => s.2.2.1 ++ s.2.2.2.2)
        (fun s => OwnS 110 1 (.slice s.1 (l.length + 1) s.2.1) (l.length + 1) (rows pc (bs.take (restK o l) ++ s.2.2.2.1 :: bs.drop (restK o l))) s.2.2.1 ∧ LvH s.2.2.2.1 o.price [] s.2.2.2.2) mo rfl (by kernel_rfl) rfl ?_ ?_
      · (refine runD_q 0 rfl rfl (by kernel_rfl) ?_; refine ⟨_, fun _ => ev_pure rfl, ?_⟩; refine runD_q 1 rfl rfl (by kernel_rfl) ?_; refine ⟨_, fun _ => ev_pure rfl, ?_⟩; refine runD_q 2 rfl rfl (by kernel_rfl) ?_; refine ⟨_, fun _ => ev_pure rfl, ?_⟩; refine runD_q 3 rfl rfl (by kernel_rfl) ?_; refine ⟨_, fun _ => ev_loadF rfl rfl (sc rfl) l1, ?_⟩; refine runD_q 4 rfl rfl (by kernel_rfl) ?_; refine ⟨_, fun _ => ev_pure rfl, ?_⟩; refine runD_q 5 rfl rfl (by kernel_rfl) ?_; refine ⟨_, fun _ => ev_fieldAddr rfl rfl (fo rfl), ?_⟩; refine runD_q 6 rfl rfl (by kernel_rfl) ?_; refine ⟨_, fun _ => ev_loadF rfl rfl (sc rfl) l3, ?_⟩; refine runD_1 7 (by kernel_rfl) rfl rfl rfl ?_)
        refine runL_callZ A [] rfl rfl rfl rfl rfl rfl rfl (pf rfl) (fun x => by (first | rfl | (simp only [List.append_eq, cnt_append, cnt_cons, cnt_nil, blk]; omega) | (simp only [List.append_eq, cnt_append, cnt_cons, cnt_nil, blk]; done))) (sp_lnew _ o.price) ?_
        rintro v2 HN ⟨bi, rfl, hN⟩
        (refine runL_nil ?_; refine endS_d rfl ?_; refine runD_1 8 (by kernel_rfl) rfl rfl rfl ?_)
        refine runL_buildSlice (l := pc bi) rfl rfl rfl rfl rfl (se rfl) ze110 rfl rfl rfl rfl rfl (fun bv => ?_)
        (refine runL_nil ?_; refine endS_d rfl ?_; refine runD_1 9 (by kernel_rfl) rfl rfl rfl ?_)
        refine runL_callZ HN (A ++ [blk bv (pc bi) 110]) rfl rfl rfl rfl rfl rfl rfl (pf rfl) (fun x => by (first | rfl | (simp only [List.append_eq, cnt_append, cnt_cons, cnt_nil, blk]; omega) | (simp only [List.append_eq, cnt_append, cnt_cons, cnt_nil, blk]; done))) (sp_insLvl _ A a l.length cap bs own hbl (by omega) (restK o l) hkl bi bv) ?_
        rintro v3 A' own'
        obtain ⟨a5, c5, rfl, own5⟩ := own'.at
        (refine runL_nil ?_; refine endS_d rfl ?_; refine runD_done (by kernel_rfl) ?_)
        exact midX (a5, c5, A', bi, HN) ⟨own5, hN⟩ rfl (fun x => by (first | rfl | (simp only [List.append_eq, cnt_append, cnt_cons, cnt_nil, blk]; omega) | (simp only [List.append_eq, cnt_append, cnt_cons, cnt_nil, blk]; done)))
      · rintro ⟨a5, c5, A', bi, HN⟩ ⟨own5, hN⟩
        dsimp only at own5 hN ⊢
        obtain ⟨L', hL', hpL⟩ := hL.ins (restK o l) (lv := ⟨o.price, []⟩) hkl hN
        refine RunD.same (M' := blk b [w,.slice a l.length cap, .int .i64 last, .int .i64 no] 90 :: (blk b3 o.cells 35 :: (A' ++ HN ++ (L ++ H1)))) (fun _ _ h => h) (fun x => by rw [hBB]; (first | rfl | (simp only [List.append_eq, cnt_append, cnt_cons, cnt_nil, blk]; omega) | (simp only [List.append_eq, cnt_append, cnt_cons, cnt_nil, blk]; done))) ?_
        (refine runD_q 10 rfl rfl (by kernel_rfl) ?_; refine ⟨_, fun _ => ev_pure rfl, ?_⟩; refine runD_1 11 (by kernel_rfl) rfl rfl rfl ?_; refine runL_store0 rfl rfl rfl rfl rfl (sz rfl) rfl rfl rfl rfl rfl ?_; refine runL_nil ?_; refine endS_n rfl ?_; refine runD_done (by kernel_rfl) ?_)
        rw [e]
        refine midN (.slice a5 (l.length + 1) c5, A' ++ L') [] ⟨a5, c5, bs.take (restK o l) ++ bi :: bs.drop (restK o l), A', L', by rw [hl'], by rw [hl']; exact own5, hL', rfl⟩ rfl (fun x => ?_)
        have h1 := hpL x
        simp only [List.append_eq, cnt_append, cnt_cons, cnt_nil, blk] at h1 ⊢
        omega
  intro fr' h' hm
  (refine then_normal ?_)
  refine midN_out hm ?_
  rintro ⟨v1, H01⟩ h01
  dsimp only at h01 ⊢
  obtain ⟨ba, c, cap2, bi, G1, G2, rfl, hcap2, gg1, hG1, hp, hset⟩ := h01.open hlv
  have hlt := (List.getElem?_eq_some_iff.1 hlv).1
  skip
  refine RunC.perm (h' := G1 ++ (blk b3 o.cells 35 :: blk b [w,.slice (some ⟨ba, 0, none⟩) (restP o l).length cap2, .int .i64 last, .int .i64 no] 90 :: blk ba c 110 :: (G2 ++ H1))) (fun x => by
    have h1 := hp x
    simp only [List.append_eq, cnt_append, cnt_cons, cnt_nil, blk] at h1 ⊢
    omega) ?_
  refine RunC.freezeR ?_
  clear l1 l2 l3
  have l1 : LoadsF ((blk b3 o.cells 35 :: blk b [w,.slice (some ⟨ba, 0, none⟩) (restP o l).length cap2, .int .i64 last, .int .i64 no] 90 :: blk ba c 110 :: (G2 ++ H1)) ++ F) b 1 (.slice (some ⟨ba, 0, none⟩) (restP o l).length cap2) := ⟨_, _, _, memF (.tail _ (.head _)), rfl⟩
  have l2 : AggF ((blk b3 o.cells 35 :: blk b [w,.slice (some ⟨ba, 0, none⟩) (restP o l).length cap2, .int .i64 last, .int .i64 no] 90 :: blk ba c 110 :: (G2 ++ H1)) ++ F) b3 0 o.cells := ⟨_, _, _, memF (.head _), by simp, rfl⟩
  have l3 : LoadsF ((blk b3 o.cells 35 :: blk b [w,.slice (some ⟨ba, 0, none⟩) (restP o l).length cap2, .int .i64 last, .int .i64 no] 90 :: blk ba c 110 :: (G2 ++ H1)) ++ F) ba (0 + ((restK o l : Nat) : Int).toNat * 1) (.pointer (some ⟨bi, 0, none⟩)) := ⟨_, _, _, memF (.tail _ (.tail _ (.head _))), gg1⟩
  refine run_region_D mo ?_
  (refine runD_q 0 rfl rfl (by kernel_rfl) ?_; refine ⟨_, fun _ => ev_pure rfl, ?_⟩; refine runD_q 1 rfl rfl (by kernel_rfl) ?_; refine ⟨_, fun _ => ev_pure rfl, ?_⟩; refine runD_q 2 rfl rfl (by kernel_rfl) ?_; refine ⟨_, fun _ => ev_loadK rfl rfl (sc rfl) (memR (memF (.tail _ (.head _)))) rfl, ?_⟩; refine runD_q 3 rfl rfl (by kernel_rfl) ?_; refine ⟨_, fun _ => ev_pure rfl, ?_⟩; refine runD_q 4 rfl rfl (by kernel_rfl) ?_; refine ⟨_, fun _ => ev_indexAddr rfl rfl rfl (se rfl) (by omega) (by omega), ?_⟩; refine runD_q 5 rfl rfl (by kernel_rfl) ?_; refine ⟨_, fun _ => ev_loadF rfl rfl (sc rfl) l3, ?_⟩; refine runD_q 6 rfl rfl (by kernel_rfl) ?_; refine ⟨_, fun _ => ev_loadAK rfl rfl (ag rfl) (sz rfl) (memR (memF (.head _))) rfl, ?_⟩; refine runD_1 7 (by kernel_rfl) rfl rfl rfl ?_)
  have hes : lv.es.length ≤ 65535 := by
    cases hri : restI o l with
    | false =>
      have := lenL_mem (List.mem_of_getElem? (hlv1 hri))
      omega
    | true => rw [hlv2 hri]; simp
  refine runL_callZ [] G1 rfl rfl rfl rfl rfl rfl rfl (pf rfl) (fun x => by (first | rfl | (simp only [List.append_eq, cnt_append, cnt_cons, cnt_nil, blk]; omega) | (simp only [List.append_eq, cnt_append, cnt_cons, cnt_nil, blk]; done))) (sp_ladd _ G1 bi lv.p lv.es hG1 hes o) ?_
  rintro v2 G1' hG1'
  obtain ⟨H02, hS2, hp2⟩ := hset lv.p (lv.es ++ [⟨o, tip o⟩]) G1' hG1'
  (refine runL_nil ?_; refine endS_d rfl ?_; refine runD_done (by kernel_rfl) ?_)
  exact ⟨_, rfl, blk b [w,.slice (some ⟨ba, 0, none⟩) (restP o l).length cap2, .int .i64 last, .int .i64 no] 90 :: (H02 ++ H1), [blk b3 o.cells 35], ⟨_, H02, hS2, rfl⟩, fun x => by
    have h1 := hp2 x
    simp only [List.append_eq, cnt_append, cnt_cons, cnt_nil, blk] at h1 ⊢
    omega⟩
end Go.Proofs.YtmelpobcpcmdoaaGreat
