/- Contracts of functions of the given program over its translation, each proved by walking its text; used by the laws' rows. It proves no given statement by itself. -/
import Derived.Test.YtfhpoagnfmgfkaaSLLvl
set_option autoImplicit false
set_option linter.unusedSectionVars false
set_option linter.unusedSimpArgs false
set_option linter.unusedVariables false
namespace Go.Proofs.Ytfhpoagnfmgfkaa
open Go Go.SL Go.Proofs
variable [Base]
set_option maxRecDepth 4000 in
theorem sp_lorders (F : Heap) (b : Nat) (p : Int) (es : List Ent) (hl : LvIn F b p es) (hb : es.length ≤ 65536) :
    Sp Try.prog F 45 [.pointer (some ⟨b, 0, none⟩)] [] (fun v h' => OwnS 24 9 v es.length (rows Ord.cells (es.map (·.o))) h') := by
  obtain ⟨a, cap, hm, hs⟩ := hl
  have l1 : LoadsF F b (0 + 1) (.slice a es.length cap) := ⟨_, _, _, hm, rfl⟩
  refine Sp.up ?_
  refine sp_of_code Try.func45 rfl rfl ?_
  (refine run_seq ?_; refine run_region ?_; refine xep rfl rfl ?_; refine runL_nil ?_; refine then_normal ?_; refine run_seq ?_; refine run_region ?_; refine xep rfl rfl ?_; refine runL_nil ?_; refine then_normal ?_; (iterate 2 refine run_seq ?_); refine run_region ?_; (iterate 2 refine xep rfl rfl ?_); refine xel rfl (ev_fieldAddr rfl rfl (fo rfl)) ?_; refine xel rfl (ev_loadF rfl rfl (sc rfl) l1) ?_; refine xel rfl (ev_len rfl rfl (se rfl)) ?_; refine xep rfl rfl ?_; refine runL_nil ?_; refine then_normal ?_; refine run_block ?_)
  clear l1
  refine run_loopK (σ := Nat × Option Addr × Nat × Heap) [9, 10, 11, 3] (fun s => [(9, .slice a es.length cap), (10, .int .i64 es.length), (11, .int .i64 s.1), (3, .slice s.2.1 s.1 s.2.2.1)]) (fun s => s.2.2.2)
    (fun s => s.1 ≤ es.length ∧ OwnS 24 9 (.slice s.2.1 s.1 s.2.2.1) s.1 (rows Ord.cells ((es.take s.1).map (·.o))) s.2.2.2) (fun s => es.length - s.1) (0, none, 0, []) ⟨Nat.zero_le _, .nil _ _⟩ rfl (fun _ => rfl) ?_
  rintro ⟨i, ao, co, A⟩ ⟨gi, own⟩
  dsimp only at gi own ⊢
  (refine run_seq ?_; refine run_region ?_; refine xep rfl rfl ?_; refine runL_nil ?_; refine then_normal ?_; refine run_seq ?_)
  (refine run_cond rfl (fun hc => ?_) (fun hc => ?_) <;> (try simp only [z0, z1, z2, z3, z4, z5, z6, z7, z8, z9, Bool.not_true, Bool.not_false, Bool.false_or, Bool.true_and, true_and, and_true, false_or, or_false, reduceCtorEq, Bool.false_eq_true] at hc))
  · obtain ⟨b2, off, _, _, _, rfl, _⟩ := hs.pos (by omega)
    obtain ⟨x, hx⟩ : ∃ x, es[i]? = some x := ⟨es[i]'(by omega), List.getElem?_eq_getElem _⟩
    have l1 := SrcIs.row ec_len hs rfl hx
    (refine run_skip ?_; refine then_normal ?_; refine run_seq ?_; refine run_block ?_; refine run_seq ?_; refine run_region ?_; refine xel rfl (ev_indexAddr rfl rfl rfl (se rfl) (by omega) (by omega)) ?_; refine xel rfl (ev_loadAF rfl rfl (ag rfl) (sz rfl) l1 rfl) ?_; refine runL_alloc rfl rfl rfl rfl rfl ze26 (fun _ => ?_); refine runL_store0 rfl rfl rfl rfl rfl (sz rfl) rfl rfl rfl rfl rfl ?_; refine runL_nil ?_; refine then_normal ?_; refine run_region ?_; refine xep rfl rfl ?_; refine xel rfl (ev_fieldAddr rfl rfl (fo rfl)) ?_; refine xel rfl (ev_loadAK rfl rfl (ag rfl) (sz rfl) (memF (.head _)) rfl) ?_)
    rename_i b3
    refine runL_buildSlice (l := x.o.cells) rfl rfl rfl rfl rfl (se rfl) ze24 rfl rfl rfl rfl rfl (fun b4 => ?_)
    skip
    refine runL_append (sl := x.o.cells) [blk b4 x.o.cells 24, blk b3 (ec x) 98] rfl rfl rfl rfl rfl rfl rfl (se rfl) (se rfl) ze24 rfl (byt rfl) own (fun y => by show cnt y (blk b4 x.o.cells 24 :: blk b3 (ec x) 98 :: A) = _; (first | rfl | (simp only [List.append_eq, cnt_append, cnt_cons, cnt_nil, blk]; omega) | (simp only [List.append_eq, cnt_append, cnt_cons, cnt_nil, blk]; done))) ⟨rfl, .inr ⟨b4, 0, _, _, _, rfl, memF (.head _), by simp [Ord.cells], rfl⟩⟩ rfl (by decide) (by decide) (by omega) ?_
    rintro v' A' own'
    have own2 := own'.snoc (x := x.o) (by rw [List.length_map, List.length_take]; omega)
    have e : (es.take i).map (·.o) ++ [x.o] = (es.take (i + 1)).map (·.o) := by
      have hi := (List.getElem?_eq_some_iff.1 hx).1
      rw [List.take_succ_eq_append_getElem hi, List.map_append, (List.getElem?_eq_some_iff.1 hx).2]; rfl
    rw [e, List.length_map, List.length_take, Nat.min_eq_left (by omega)] at own2
    obtain ⟨a5, c5, rfl, own3⟩ := own2.at
    (refine xep rfl rfl ?_; refine runL_nil ?_; refine in_normal ?_; refine then_normal ?_; refine run_region ?_; refine xel rfl (ev_add rfl rfl rfl (by omega)) ?_; refine xep rfl rfl ?_; refine runL_nil ?_; refine then_normal ?_)
    exact ⟨(i + 1, a5, c5, A'), ⟨by show i + 1 ≤ _; omega, own3⟩, by show es.length - (i + 1) < es.length - i; omega, rfl, _, fun _ => rfl⟩
  · have : i = es.length := by omega
    subst this
    (refine run_exit ?_; (iterate 2 refine then_exit ?_); refine in_exit ?_; refine then_normal ?_)
    (refine run_seq ?_; refine run_region ?_; (iterate 2 refine xep rfl rfl ?_); refine runL_nil ?_; refine then_normal ?_; refine run_ret ?_)
    refine ⟨_, rfl, A, [], ?_, fun x => by rw [List.append_nil]⟩
    rw [List.take_length] at own
    exact own
end Go.Proofs.Ytfhpoagnfmgfkaa
