/- The separation layer: shifts, conversions of integers. It proves no statement by itself. -/
import Derived.Test.YtmelpobcpcmdoaaGreatSLCopy
set_option autoImplicit false
set_option linter.unusedSimpArgs false
set_option linter.unusedSectionVars false
set_option linter.unusedVariables false
namespace Go.SL
variable [Base]
section
variable {P : Program} {F : Heap} {N : Nat}
theorem ev_shr {fr : Slots} {cs : Conds} {h : Heap} {o : Oper} {t t' : TypeId} {x y : Operand} {k k2 : IntKind} {a b : Int} (ho : o.op = .binOp .shr t x y t') (hx : evO fr x = some (.int k a)) (hy : evO fr y = some (.int k2 b)) (h0 : 0 ≤ b) :
    Ev P F N fr cs h o (.int k (a.fdiv (2 ^ min b.toNat k.bits))) := by
  refine Ev.of_run fun ac hf w _ => ?_
  simp [execOp, ho, hf.ev hx, hf.ev hy, eqGuard, binOp, Op.shift, show ¬ b < 0 by omega]
theorem ev_conv {fr : Slots} {cs : Conds} {h : Heap} {o : Oper} {s d : TypeId} {x : Operand} {k k' : IntKind} {u : TypeDesc} {a : Int} (ho : o.op = .convert s d x) (hx : evO fr x = some (.int k a)) (hs : P.underlying s = some u) (hd : P.underlying d = some (.int k')) (hw : k'.wrap a = a) :
    Ev P F N fr cs h o (.int k' a) := by
  refine Ev.of_run fun ac hf w _ => ?_
  simp [execOp, ho, hf.ev hx, convert, run_underlying hs, run_underlying hd, Conv.intToInt, hw]
end
end Go.SL
