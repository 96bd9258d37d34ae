/- Contracts of functions of the given program over its translation, each proved by walking its text; used by the laws' rows. It proves no given statement by itself. -/
import Derived.Test.YtfhpoagnfmgfkaaSLBase
import Derived.Test.YtfhpoagnfmgfkaaSLRows
set_option autoImplicit false
set_option linter.unusedSectionVars false
set_option linter.unusedSimpArgs false
set_option linter.unusedVariables false
namespace Go.Proofs.Ytfhpoagnfmgfkaa
open Go Go.SL Go.Proofs

/-- An order, by its numbers. -/
structure Ord where
  (trader id firm side kind price qty show_ stop : Int)
def Ord.zs (o : Ord) : List Int := [o.trader, o.id, o.firm, o.side, o.kind, o.price, o.qty, o.show_, o.stop]
def Ord.cells (o : Ord) : List Value := [.int .i64 o.trader, .int .i64 o.id, .int .i64 o.firm, .int .i64 o.side, .int .i64 o.kind, .int .i64 o.price, .int .i64 o.qty, .int .i64 o.show_, .int .i64 o.stop]
def ov (o : Ord) : Value := .agg ⟨o.cells⟩
structure Ord.In (o : Ord) : Prop where
  (trader : InI o.trader) (id : InI o.id) (firm : InI o.firm) (side : InI o.side) (kind : InI o.kind) (price : InI o.price) (qty : InI o.qty) (show_ : InI o.show_) (stop : InI o.stop)
theorem Ord.of {zs : List Int} (hl : zs.length = 9) (hz : ∀ z ∈ zs, InI z) : ∃ o : Ord, Value.agg ⟨ints zs⟩ = ov o ∧ o.In := by
  match zs, hl with
  | [a, b, c, d, e, f, g, h, i], _ =>
    refine ⟨⟨a, b, c, d, e, f, g, h, i⟩, rfl, ?_⟩
    constructor <;> exact hz _ (by simp)

def rightP (o : Ord) : Prop := 0 ≤ o.trader ∧ o.trader ≤ 31 ∧ 0 ≤ o.firm ∧ o.firm ≤ 7 ∧ 0 ≤ o.id ∧ o.id ≤ 1073741824 ∧ 1 ≤ o.side ∧ o.side ≤ 2 ∧ 1 ≤ o.kind ∧ o.kind ≤ 5 ∧ 1 ≤ o.qty ∧ o.qty ≤ 1048576 ∧
  0 ≤ o.show_ ∧ o.show_ ≤ o.qty ∧ 0 ≤ o.stop ∧ o.stop ≤ 1048576 ∧ (o.kind = 2 → o.price = 0) ∧ (o.kind ≠ 2 → 1 ≤ o.price ∧ o.price ≤ 1048576) ∧ (o.show_ = 0 ∨ o.kind = 1 ∨ o.kind = 5)
instance (o : Ord) : Decidable (rightP o) := by unfold rightP; infer_instance
def right (o : Ord) : Int := if rightP o then 0 else 1
def crosses (o : Ord) (p : Int) : Bool := if o.kind = 2 then true else if o.side = 1 then decide (p ≤ o.price) else decide (o.price ≤ p)
def hit (o : Ord) (p : Int) : Bool := if o.stop ≤ 0 ∨ p ≤ 0 then false else if o.side = 1 then decide (o.stop ≤ p) else decide (p ≤ o.stop)
def better (s a b : Int) : Bool := if s = 1 then decide (b < a) else decide (a < b)

def win (n lo hi : Int) : Int := lo + n.emod (hi - lo + 1)
theorem win_in (n : Int) {lo hi : Int} (h : lo ≤ hi) : lo ≤ win n lo hi ∧ win n lo hi ≤ hi := by
  have hb := Int.emod_nonneg n (show hi - lo + 1 ≠ 0 by omega)
  have hb2 := Int.emod_lt_of_pos n (show 0 < hi - lo + 1 by omega)
  change 0 ≤ n.emod (hi - lo + 1) at hb
  change n.emod (hi - lo + 1) < _ at hb2
  unfold win; omega
theorem inI {z : Int} (h : (decide (-9223372036854775808 ≤ z) && decide (z ≤ 9223372036854775807)) = true) : InI z := by
  simp only [Bool.and_eq_true, decide_eq_true_eq] at h; exact h
variable [Base]
theorem sp_Win (F : Heap) (n lo hi : Int) (h1 : lo ≤ hi) (h2 : 0 ≤ lo) (h3 : hi ≤ 1099511627776) :
   Sp Try.prog F 15 [.int .i64 n, .int .i64 lo, .int .i64 hi] [] (Ret (.int .i64 (win n lo hi))) := sp_within F n lo hi h1 h2 h3
end Go.Proofs.Ytfhpoagnfmgfkaa
