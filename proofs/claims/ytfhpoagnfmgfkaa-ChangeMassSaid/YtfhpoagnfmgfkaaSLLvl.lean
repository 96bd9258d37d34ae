/- Contracts of functions of the given program over its translation, each proved by walking its text; used by the laws' rows. It proves no given statement by itself. -/
import Derived.Test.YtfhpoagnfmgfkaaSLSlcE
import Derived.Test.YtfhpoagnfmgfkaaSLOrdT
set_option autoImplicit false
set_option linter.unusedSectionVars false
set_option linter.unusedSimpArgs false
set_option linter.unusedVariables false
namespace Go.Proofs.Ytfhpoagnfmgfkaa
open Go Go.SL Go.Proofs
/-- What rests of an order, and how much of it is seen. -/
structure Ent where
  o : Ord
  seen : Int
def ec (x : Ent) : List Value := [.int .i64 x.o.trader, .int .i64 x.o.id, .int .i64 x.o.firm, .int .i64 x.o.side, .int .i64 x.o.kind, .int .i64 x.o.price, .int .i64 x.o.qty, .int .i64 x.o.show_, .int .i64 x.o.stop, .int .i64 x.seen]
theorem ec_len (x : Ent) : (ec x).length = 10 := rfl
theorem ec_cells (x : Ent) : allCells (ec x) = true := rfl
theorem oc_len (o : Ord) : o.cells.length = 9 := rfl
theorem oc_cells (o : Ord) : allCells o.cells = true := rfl
def tip (o : Ord) : Int := if 0 < o.show_ then min o.show_ o.qty else o.qty
def LB (es : List Ent) : Prop := es.length ≤ 65536 ∧ ∀ x ∈ es, 1 ≤ x.o.qty ∧ x.o.qty ≤ 1048576 ∧ 1 ≤ x.seen ∧ x.seen ≤ x.o.qty
variable [Base]
/-- A level at a block of its own. -/
def LvH (b : Nat) (p : Int) (es : List Ent) (H : Heap) : Prop :=
  ∃ a cap A, OwnS 98 10 (.slice a es.length cap) es.length (rows ec es) A ∧ H = blk b [.int .i64 p, .slice a es.length cap] 96 :: A
/-- A level that can be read. -/
def LvIn (F : Heap) (b : Nat) (p : Int) (es : List Ent) : Prop :=
  ∃ a cap, blk b [.int .i64 p, .slice a es.length cap] 96 ∈ F ∧ SrcIs F a es.length 10 (rows ec es)
theorem LvH.in {b : Nat} {p : Int} {es : List Ent} {H F : Heap} (h : LvH b p es H) (hF : ∀ x ∈ H, x ∈ F) : LvIn F b p es := by
  obtain ⟨a, cap, A, own, rfl⟩ := h
  exact ⟨a, cap, hF _ (.head _), own.src fun x m => hF _ (.tail _ m)⟩
theorem LvIn.mono {F F' : Heap} {b : Nat} {p : Int} {es : List Ent} (h : LvIn F b p es) (hF : ∀ x ∈ F, x ∈ F') : LvIn F' b p es := by
  obtain ⟨a, cap, h1, h2⟩ := h
  exact ⟨a, cap, hF _ h1, h2.mono hF⟩
theorem LvIn.up {F A : Heap} {b : Nat} {p : Int} {es : List Ent} (h : LvIn F b p es) : LvIn (A ++ F) b p es := h.mono fun x m => List.mem_append_right _ m
theorem sp_lnew (F : Heap) (p : Int) : Sp Try.prog F 80 [.int .i64 p] [] (fun v h' => ∃ b, v = .pointer (some ⟨b, 0, none⟩) ∧ LvH b p [] h') := by
  refine sp_of_code Try.func80 rfl rfl ?_
  (refine run_seq ?_; refine run_region ?_; refine xep rfl rfl ?_; refine runL_nil ?_; refine then_normal ?_; refine run_seq ?_; refine run_region ?_; refine xep rfl rfl ?_; refine xel rfl (ev_build rfl pl96 rfl) ?_; refine runL_box rfl rfl rfl rfl rfl rfl (fun _ => ?_); refine xep rfl rfl ?_; refine runL_nil ?_; refine then_normal ?_; refine run_ret ?_)
  exact ⟨_, rfl, _, rfl, none, 0, [], .nil _ _, rfl⟩
theorem sp_tip (F : Heap) (o : Ord) : Sp Try.prog F 86 [ov o] [] (Ret (.int .i64 (tip o))) := by
  refine sp_of_code Try.func86 rfl rfl ?_
  unfold tip
  (refine run_seq ?_; refine run_region ?_; refine runL_box rfl rfl rfl rfl rfl rfl (fun _ => ?_); refine xep rfl rfl ?_; refine runL_nil ?_; refine then_normal ?_; (iterate 2 refine run_seq ?_); refine run_region ?_; refine xel rfl (ev_fieldAddr rfl rfl (fo rfl)) ?_; refine xel rfl (ev_loadK rfl rfl (sc rfl) (memF (.head _)) rfl) ?_; refine xep rfl rfl ?_; refine runL_nil ?_; refine then_normal ?_)
  (refine run_cond rfl (fun hc => ?_) (fun hc => ?_) <;> (try simp only [z0, z1, z2, z3, z4, z5, z6, z7, z8, z9, Bool.not_true, Bool.not_false, Bool.false_or, Bool.true_and, true_and, and_true, false_or, or_false, reduceCtorEq, Bool.false_eq_true] at hc))
  · (refine run_seq ?_; refine run_region ?_; refine xel rfl (ev_fieldAddr rfl rfl (fo rfl)) ?_; refine xel rfl (ev_loadK rfl rfl (sc rfl) (memF (.head _)) rfl) ?_; refine xel rfl (ev_fieldAddr rfl rfl (fo rfl)) ?_; refine xel rfl (ev_loadK rfl rfl (sc rfl) (memF (.head _)) rfl) ?_; refine xel rfl (ev_min rfl rfl rfl) ?_; refine xep rfl rfl ?_; refine runL_nil ?_; refine then_normal ?_; refine run_ret ?_; refine then_ret ?_)
    rw [if_pos hc]; exact ⟨_, rfl, rfl⟩
  · (refine run_skip ?_; refine then_normal ?_; refine run_seq ?_; refine run_region ?_; refine xel rfl (ev_fieldAddr rfl rfl (fo rfl)) ?_; refine xel rfl (ev_loadK rfl rfl (sc rfl) (memF (.head _)) rfl) ?_; refine xep rfl rfl ?_; refine runL_nil ?_; refine then_normal ?_; refine run_ret ?_)
    rw [if_neg (by omega)]; exact ⟨_, rfl, rfl⟩
theorem sp_lprice (F : Heap) (b : Nat) (p : Int) (es : List Ent) (hl : LvIn F b p es) : Sp Try.prog F 73 [.pointer (some ⟨b, 0, none⟩)] [] (Ret (.int .i64 p)) := by
  obtain ⟨a, cap, hm, hs⟩ := hl
  have l1 : LoadsF F b (0 + 0) (.int .i64 p) := ⟨_, _, _, hm, rfl⟩
  refine sp_of_code Try.func73 rfl rfl ?_
  (refine run_seq ?_; refine run_region ?_; refine xep rfl rfl ?_; refine runL_nil ?_; refine then_normal ?_; refine run_seq ?_; refine run_region ?_; (iterate 2 refine xep rfl rfl ?_); refine xel rfl (ev_fieldAddr rfl rfl (fo rfl)) ?_; refine xel rfl (ev_loadF rfl rfl (sc rfl) l1) ?_; refine xep rfl rfl ?_; refine runL_nil ?_; refine then_normal ?_; refine run_ret ?_)
  exact ⟨_, rfl, rfl⟩
theorem sp_llen (F : Heap) (b : Nat) (p : Int) (es : List Ent) (hl : LvIn F b p es) : Sp Try.prog F 62 [.pointer (some ⟨b, 0, none⟩)] [] (Ret (.int .i64 es.length)) := by
  obtain ⟨a, cap, hm, hs⟩ := hl
  have l1 : LoadsF F b (0 + 1) (.slice a es.length cap) := ⟨_, _, _, hm, rfl⟩
  refine sp_of_code Try.func62 rfl rfl ?_
  (refine run_seq ?_; refine run_region ?_; refine xep rfl rfl ?_; refine runL_nil ?_; refine then_normal ?_; refine run_seq ?_; refine run_region ?_; (iterate 2 refine xep rfl rfl ?_); refine xel rfl (ev_fieldAddr rfl rfl (fo rfl)) ?_; refine xel rfl (ev_loadF rfl rfl (sc rfl) l1) ?_; refine xel rfl (ev_len rfl rfl (se rfl)) ?_; refine xep rfl rfl ?_; refine runL_nil ?_; refine then_normal ?_; refine run_ret ?_)
  exact ⟨_, rfl, rfl⟩
def isIt (t i : Int) (x : Ent) : Bool := decide (x.o.trader = t) && decide (x.o.id = i)
theorem sp_find1 (F : Heap) (c1 c2 : Nat) (t i : Int) (x : Ent) (l1 : LoadsF F c1 0 (.int .i64 t)) (l2 : LoadsF F c2 0 (.int .i64 i)) :
    Sp Try.prog F 70 [.agg ⟨ec x⟩, .pointer (some ⟨c1, 0, none⟩), .pointer (some ⟨c2, 0, none⟩)] [] (Ret (.bool (isIt t i x))) := by
  refine sp_of_code Try.func70 rfl rfl ?_
  (refine run_seq ?_; refine run_region ?_; refine runL_box rfl rfl rfl rfl rfl rfl (fun _ => ?_); refine xep rfl rfl ?_; refine runL_nil ?_; refine then_normal ?_; refine run_seq ?_; refine run_region ?_; (iterate 2 refine xel rfl (ev_fieldAddr rfl rfl (fo rfl)) ?_); refine xel rfl (ev_loadK rfl rfl (sc rfl) (memF (.head _)) rfl) ?_; refine xel rfl (ev_loadF rfl rfl (sc rfl) l1) ?_; (iterate 2 refine xep rfl rfl ?_); (iterate 2 refine xgl rfl rfl (fun hq => ev_fieldAddr rfl rfl (fo rfl)) ?_); refine xgl rfl rfl (fun hq => ev_loadK rfl rfl (sc rfl) (memF (.head _)) rfl) ?_; refine xgl rfl rfl (fun hq => ev_loadF rfl rfl (sc rfl) l2) ?_; refine xgp rfl rfl rfl ?_; (iterate 2 refine xep rfl rfl ?_); refine runL_nil ?_; refine then_normal ?_; refine run_ret ?_)
  exact ⟨_, rfl, rfl⟩
theorem sp_lfind (F : Heap) (b : Nat) (p : Int) (es : List Ent) (hl : LvIn F b p es) (hb : es.length ≤ 65536) (t i : Int) :
    Sp Try.prog F 60 [.pointer (some ⟨b, 0, none⟩), .int .i64 t, .int .i64 i] [] (Ret (.int .i64 (idxI (isIt t i) es))) := by
  obtain ⟨a, cap, hm, hs⟩ := hl
  have l1 : LoadsF F b (0 + 1) (.slice a es.length cap) := ⟨_, _, _, hm, rfl⟩
  refine sp_of_code Try.func60 rfl rfl ?_
  (refine run_seq ?_; refine run_region ?_; (iterate 2 refine runL_box rfl rfl rfl rfl rfl rfl (fun _ => ?_)); refine xep rfl rfl ?_; refine runL_nil ?_; refine then_normal ?_; refine run_seq ?_; refine run_region ?_; (iterate 2 refine xep rfl rfl ?_); refine xel rfl (ev_fieldAddr rfl rfl (fo rfl)) ?_; refine xel rfl (ev_loadF rfl rfl (sc rfl) l1) ?_; refine xel rfl (ev_makeFunc rfl rfl) ?_)
  rename_i c1 c2
  refine runL_ev rfl rfl rfl rfl (ev_callQ rfl rfl rfl (pf rfl) (sp_idxEnt _ a es.length cap ec ec_len es rfl (by omega) hs.up 70 (pf rfl) _ (isIt t i) fun x _ => sp_find1 _ c1 c2 t i x ⟨_, _, _, memF (.tail _ (.head _)), rfl⟩ ⟨_, _, _, memF (.head _), rfl⟩)) ?_
  (refine xep rfl rfl ?_; refine runL_nil ?_; refine then_normal ?_; refine run_ret ?_)
  exact ⟨_, rfl, rfl⟩
def sumE (g : Ent → Int) : List Ent → Int
  | [] => 0
  | x :: l => g x + sumE g l
theorem sumE_append (g : Ent → Int) (l m : List Ent) : sumE g (l ++ m) = sumE g l + sumE g m := by
  induction l with
  | nil => simp [sumE]
  | cons x l ih => simp only [List.cons_append, sumE, ih]; omega
theorem sumE_in {g : Ent → Int} {l : List Ent} (h : ∀ x ∈ l, 0 ≤ g x ∧ g x ≤ 1048576) : 0 ≤ sumE g l ∧ sumE g l ≤ l.length * 1048576 := by
  induction l with
  | nil => simp [sumE]
  | cons x l ih =>
    have h1 := ih fun y m => h y (List.mem_cons_of_mem _ m)
    have h2 := h x (List.mem_cons_self ..)
    simp only [sumE, List.length_cons]; omega
theorem sumE_take {g : Ent → Int} {l : List Ent} {i : Nat} {x : Ent} (h : l[i]? = some x) : sumE g (l.take (i + 1)) = sumE g (l.take i) + g x := by
  have hi := (List.getElem?_eq_some_iff.1 h).1
  have hx := (List.getElem?_eq_some_iff.1 h).2
  rw [List.take_succ_eq_append_getElem hi, sumE_append, hx]; simp [sumE]
set_option maxRecDepth 4000 in
theorem sp_lwhole (F : Heap) (b : Nat) (p : Int) (es : List Ent) (hl : LvIn F b p es) (hb : LB es) :
    Sp Try.prog F 87 [.pointer (some ⟨b, 0, none⟩)] [] (Ret (.int .i64 (sumE (fun x => x.o.qty) es))) := by
  obtain ⟨a, cap, hm, hs⟩ := hl
  obtain ⟨hb1, hb2⟩ := hb
  have l1 : LoadsF F b (0 + 1) (.slice a es.length cap) := ⟨_, _, _, hm, rfl⟩
  refine sp_of_code Try.func87 rfl rfl ?_
  (refine run_seq ?_; refine run_region ?_; refine xep rfl rfl ?_; refine runL_nil ?_; refine then_normal ?_; refine run_seq ?_; refine run_region ?_; refine xep rfl rfl ?_; refine runL_nil ?_; refine then_normal ?_; (iterate 2 refine run_seq ?_); refine run_region ?_; (iterate 2 refine xep rfl rfl ?_); refine xel rfl (ev_fieldAddr rfl rfl (fo rfl)) ?_; refine xel rfl (ev_loadF rfl rfl (sc rfl) l1) ?_; refine xel rfl (ev_len rfl rfl (se rfl)) ?_; refine xep rfl rfl ?_; refine runL_nil ?_; refine then_normal ?_; refine run_block ?_)
  clear l1
  refine run_loopK (σ := Nat) [9, 10, 11, 3] (fun i => [(9, .slice a es.length cap), (10, .int .i64 es.length), (11, .int .i64 i), (3, .int .i64 (sumE (fun x => x.o.qty) (es.take i)))]) (fun _ => []) (fun i => i ≤ es.length) (fun i => es.length - i) 0 (Nat.zero_le _) rfl (fun _ => rfl) ?_
  intro i gi
  have hs1 := sumE_in (g := (fun x => x.o.qty)) (l := es.take i) fun x m => by have := hb2 x (List.mem_of_mem_take m); omega
  have hlen : (es.take i).length ≤ 65536 := by rw [List.length_take]; omega
  (refine run_seq ?_; refine run_region ?_; refine xep rfl rfl ?_; refine runL_nil ?_; refine then_normal ?_; refine run_seq ?_)
  (refine run_cond rfl (fun hc => ?_) (fun hc => ?_) <;> (try simp only [z0, z1, z2, z3, z4, z5, z6, z7, z8, z9, Bool.not_true, Bool.not_false, Bool.false_or, Bool.true_and, true_and, and_true, false_or, or_false, reduceCtorEq, Bool.false_eq_true] at hc))
  · obtain ⟨b2, off, _, _, _, rfl, _⟩ := hs.pos (by omega)
    obtain ⟨x, hx⟩ : ∃ x, es[i]? = some x := ⟨es[i]'(by omega), List.getElem?_eq_getElem _⟩
    have l1 := SrcIs.row ec_len hs rfl hx
    have hx2 := hb2 x (List.mem_of_getElem? hx)
    have hst := sumE_take (g := (fun x => x.o.qty)) hx
    (refine run_skip ?_; refine then_normal ?_; refine run_seq ?_; refine run_block ?_; refine run_seq ?_; refine run_region ?_; refine xel rfl (ev_indexAddr rfl rfl rfl (se rfl) (by omega) (by omega)) ?_; refine xel rfl (ev_loadAF rfl rfl (ag rfl) (sz rfl) l1 rfl) ?_; refine runL_alloc rfl rfl rfl rfl rfl ze26 (fun _ => ?_); refine runL_store0 rfl rfl rfl rfl rfl (sz rfl) rfl rfl rfl rfl rfl ?_; refine runL_nil ?_; refine then_normal ?_; refine run_region ?_; refine xep rfl rfl ?_; (iterate 2 refine xel rfl (ev_fieldAddr rfl rfl (fo rfl)) ?_); refine xel rfl (ev_loadK rfl rfl (sc rfl) (memF (.head _)) rfl) ?_; refine xel rfl (ev_add rfl rfl rfl (by omega)) ?_; refine xep rfl rfl ?_; refine runL_nil ?_; refine in_normal ?_; refine then_normal ?_; refine run_region ?_; refine xel rfl (ev_add rfl rfl rfl (by omega)) ?_; refine xep rfl rfl ?_; refine runL_nil ?_; refine then_normal ?_)
    refine ⟨i + 1, by omega, by omega, ?_, [_], fun _ => rfl⟩
    rw [hst]; rfl
  · have : i = es.length := by omega
    subst this
    (refine run_exit ?_; (iterate 2 refine then_exit ?_); refine in_exit ?_; refine then_normal ?_)
    (refine run_seq ?_; refine run_region ?_; (iterate 2 refine xep rfl rfl ?_); refine runL_nil ?_; refine then_normal ?_; refine run_ret ?_)
    refine ⟨_, rfl, ?_⟩
    rw [List.take_length]; rfl
end Go.Proofs.Ytfhpoagnfmgfkaa
