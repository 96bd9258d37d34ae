/-
  No cell of these rows narrows 'for every input' (looked for: loops, veiled, ifaces, maps, wideKeys, modest, calm, conditions, laid).
  DERIVED. THE GIVEN ROWS OF THIS SEAT. 20 by the template 'for every input the law returns true; each argument reads behind the call as it read before'; 0 by the template 'total and deterministic' (their statements: YtnpcmcijlgklfaaTotals.lean).
  GIVEN WITH THE SEED: the statements are not yours to turn. If you find one false, say at which input.
  Laid BY PROGRAM, IN A SANDBOX (cutbox-rows.mjs): the forced cells as the released guide's own fill.sh prints them over the translation cb2627a33197b614… (all of the seat's roots in one cut). By AI agents, Wed Nov 11 2026. No macro, syntax, notation, axiom, sorry.
-/
import Derived.Test.YtnpcmcijlgklfaaChecked
import GoSem.Claim
import GoSem.ClaimJoined
import GoSem.ClaimMapViews
import Derived.JoinedTies
import Derived.KernelRfl
namespace Go.Proofs.Ytnpcmcijlgklfaa
/- THE CELL 'sum', in the pinned program and in every row, IS THE sha256 OF THE DUMP (.gsa) THAT YtnpcmcijlgklfaaProg.lean LOADS. Nothing in Lean hashes anything: it is a label: what it is worth is what the hold of that sum in a sandbox is worth. -/
noncomputable def Try.pinned : Pinned := { name := "ytnpcmcijlgklfaa", sum := "cb2627a33197b61492e33034af389cb2b4d673fb0f447462204f6e0e7cf19574", checked := Try.checked }
namespace Rows
def none {H : Type} : Left H := { results := [], args := [] }

/-- 'jobberlaw7.SumsRuns': WHATEVER THE INPUT: true; the input reads as it did. -/
def sumsRunsSpec : ChangeSpec := { name := "sumsRuns", fn := fun _ => fun
  | [] => { results := [.lit (.bool true)], args := [] }
  | _ => none }
def sumsRunsRow : OpenClaim := { program := "ytnpcmcijlgklfaa", sum := "cb2627a33197b61492e33034af389cb2b4d673fb0f447462204f6e0e7cf19574", func := "jobber/jobberlaw7.SumsRuns", spec := "sumsRuns", apart := false }
def SumsRunsSaid : Prop := sumsRunsRow.holds Try.pinned (OpenSpec.ofChange sumsRunsSpec)

/-- ITS FALSE NEIGHBOUR: 'it returns false'. Refute it at one input. -/
def sumsRunsWrong : ChangeSpec := { name := "sumsRuns", fn := fun _ => fun
  | [] => { results := [.lit (.bool false)], args := [] }
  | _ => none }
def SumsRunsWrongFalsely : Prop := sumsRunsRow.holds Try.pinned (OpenSpec.ofChange sumsRunsWrong)

/-- 'jobberlaw7.SumsTells': WHATEVER THE INPUT: true; the input reads as it did. -/
def sumsTellsSpec : ChangeSpec := { name := "sumsTells", fn := fun _ => fun
  | [d1, d2, d3] => { results := [.lit (.bool true)], args := [d1, d2, d3] }
  | _ => none }
def sumsTellsRow : OpenClaim := { program := "ytnpcmcijlgklfaa", sum := "cb2627a33197b61492e33034af389cb2b4d673fb0f447462204f6e0e7cf19574", func := "jobber/jobberlaw7.SumsTells", spec := "sumsTells", apart := false }
def SumsTellsSaid : Prop := sumsTellsRow.holds Try.pinned (OpenSpec.ofChange sumsTellsSpec)

/-- ITS FALSE NEIGHBOUR: 'it returns false'. Refute it at one input. -/
def sumsTellsWrong : ChangeSpec := { name := "sumsTells", fn := fun _ => fun
  | [d1, d2, d3] => { results := [.lit (.bool false)], args := [d1, d2, d3] }
  | _ => none }
def SumsTellsWrongFalsely : Prop := sumsTellsRow.holds Try.pinned (OpenSpec.ofChange sumsTellsWrong)

/-- 'jobberlaw7.SumsBack': WHATEVER THE INPUT: true; the input reads as it did. -/
def sumsBackSpec : ChangeSpec := { name := "sumsBack", fn := fun _ => fun
  | [d1, d2] => { results := [.lit (.bool true)], args := [d1, d2] }
  | _ => none }
def sumsBackRow : OpenClaim := { program := "ytnpcmcijlgklfaa", sum := "cb2627a33197b61492e33034af389cb2b4d673fb0f447462204f6e0e7cf19574", func := "jobber/jobberlaw7.SumsBack", spec := "sumsBack", apart := false }
def SumsBackSaid : Prop := sumsBackRow.holds Try.pinned (OpenSpec.ofChange sumsBackSpec)

/-- ITS FALSE NEIGHBOUR: 'it returns false'. Refute it at one input. -/
def sumsBackWrong : ChangeSpec := { name := "sumsBack", fn := fun _ => fun
  | [d1, d2] => { results := [.lit (.bool false)], args := [d1, d2] }
  | _ => none }
def SumsBackWrongFalsely : Prop := sumsBackRow.holds Try.pinned (OpenSpec.ofChange sumsBackWrong)

/-- 'jobberlaw7.SumsParts': WHATEVER THE INPUT: true; the input reads as it did. -/
def sumsPartsSpec : ChangeSpec := { name := "sumsParts", fn := fun _ => fun
  | [d1, d2] => { results := [.lit (.bool true)], args := [d1, d2] }
  | _ => none }
def sumsPartsRow : OpenClaim := { program := "ytnpcmcijlgklfaa", sum := "cb2627a33197b61492e33034af389cb2b4d673fb0f447462204f6e0e7cf19574", func := "jobber/jobberlaw7.SumsParts", spec := "sumsParts", apart := false }
def SumsPartsSaid : Prop := sumsPartsRow.holds Try.pinned (OpenSpec.ofChange sumsPartsSpec)

/-- ITS FALSE NEIGHBOUR: 'it returns false'. Refute it at one input. -/
def sumsPartsWrong : ChangeSpec := { name := "sumsParts", fn := fun _ => fun
  | [d1, d2] => { results := [.lit (.bool false)], args := [d1, d2] }
  | _ => none }
def SumsPartsWrongFalsely : Prop := sumsPartsRow.holds Try.pinned (OpenSpec.ofChange sumsPartsWrong)

/-- 'jobberlaw8.OrderRuns': WHATEVER THE INPUT: true; the input reads as it did. -/
def orderRunsSpec : ChangeSpec := { name := "orderRuns", fn := fun _ => fun
  | [] => { results := [.lit (.bool true)], args := [] }
  | _ => none }
def orderRunsRow : OpenClaim := { program := "ytnpcmcijlgklfaa", sum := "cb2627a33197b61492e33034af389cb2b4d673fb0f447462204f6e0e7cf19574", func := "jobber/jobberlaw8.OrderRuns", spec := "orderRuns", apart := false }
def OrderRunsSaid : Prop := orderRunsRow.holds Try.pinned (OpenSpec.ofChange orderRunsSpec)

/-- ITS FALSE NEIGHBOUR: 'it returns false'. Refute it at one input. -/
def orderRunsWrong : ChangeSpec := { name := "orderRuns", fn := fun _ => fun
  | [] => { results := [.lit (.bool false)], args := [] }
  | _ => none }
def OrderRunsWrongFalsely : Prop := orderRunsRow.holds Try.pinned (OpenSpec.ofChange orderRunsWrong)

/-- 'jobberlaw8.OrderRight': WHATEVER THE INPUT: true; the input reads as it did. -/
def orderRightSpec : ChangeSpec := { name := "orderRight", fn := fun _ => fun
  | [d1, d2, d3] => { results := [.lit (.bool true)], args := [d1, d2, d3] }
  | _ => none }
def orderRightRow : OpenClaim := { program := "ytnpcmcijlgklfaa", sum := "cb2627a33197b61492e33034af389cb2b4d673fb0f447462204f6e0e7cf19574", func := "jobber/jobberlaw8.OrderRight", spec := "orderRight", apart := false }
def OrderRightSaid : Prop := orderRightRow.holds Try.pinned (OpenSpec.ofChange orderRightSpec)

/-- ITS FALSE NEIGHBOUR: 'it returns false'. Refute it at one input. -/
def orderRightWrong : ChangeSpec := { name := "orderRight", fn := fun _ => fun
  | [d1, d2, d3] => { results := [.lit (.bool false)], args := [d1, d2, d3] }
  | _ => none }
def OrderRightWrongFalsely : Prop := orderRightRow.holds Try.pinned (OpenSpec.ofChange orderRightWrong)

/-- 'jobberlaw8.OrderStops': WHATEVER THE INPUT: true; the input reads as it did. -/
def orderStopsSpec : ChangeSpec := { name := "orderStops", fn := fun _ => fun
  | [d1, d2, d3] => { results := [.lit (.bool true)], args := [d1, d2, d3] }
  | _ => none }
def orderStopsRow : OpenClaim := { program := "ytnpcmcijlgklfaa", sum := "cb2627a33197b61492e33034af389cb2b4d673fb0f447462204f6e0e7cf19574", func := "jobber/jobberlaw8.OrderStops", spec := "orderStops", apart := false }
def OrderStopsSaid : Prop := orderStopsRow.holds Try.pinned (OpenSpec.ofChange orderStopsSpec)

/-- ITS FALSE NEIGHBOUR: 'it returns false'. Refute it at one input. -/
def orderStopsWrong : ChangeSpec := { name := "orderStops", fn := fun _ => fun
  | [d1, d2, d3] => { results := [.lit (.bool false)], args := [d1, d2, d3] }
  | _ => none }
def OrderStopsWrongFalsely : Prop := orderStopsRow.holds Try.pinned (OpenSpec.ofChange orderStopsWrong)

/-- 'jobberlaw15.AcctRuns': WHATEVER THE INPUT: true; the input reads as it did. -/
def acctRunsSpec : ChangeSpec := { name := "acctRuns", fn := fun _ => fun
  | [] => { results := [.lit (.bool true)], args := [] }
  | _ => none }
def acctRunsRow : OpenClaim := { program := "ytnpcmcijlgklfaa", sum := "cb2627a33197b61492e33034af389cb2b4d673fb0f447462204f6e0e7cf19574", func := "jobber/jobberlaw15.AcctRuns", spec := "acctRuns", apart := false }
def AcctRunsSaid : Prop := acctRunsRow.holds Try.pinned (OpenSpec.ofChange acctRunsSpec)

/-- ITS FALSE NEIGHBOUR: 'it returns false'. Refute it at one input. -/
def acctRunsWrong : ChangeSpec := { name := "acctRuns", fn := fun _ => fun
  | [] => { results := [.lit (.bool false)], args := [] }
  | _ => none }
def AcctRunsWrongFalsely : Prop := acctRunsRow.holds Try.pinned (OpenSpec.ofChange acctRunsWrong)

/-- 'jobberlaw15.AcctPlays': WHATEVER THE INPUT: true; the input reads as it did. -/
def acctPlaysSpec : ChangeSpec := { name := "acctPlays", fn := fun _ => fun
  | [d] => { results := [.lit (.bool true)], args := [d] }
  | _ => none }
def acctPlaysRow : OpenClaim := { program := "ytnpcmcijlgklfaa", sum := "cb2627a33197b61492e33034af389cb2b4d673fb0f447462204f6e0e7cf19574", func := "jobber/jobberlaw15.AcctPlays", spec := "acctPlays", apart := false }
def AcctPlaysSaid : Prop := acctPlaysRow.holds Try.pinned (OpenSpec.ofChange acctPlaysSpec)

/-- ITS FALSE NEIGHBOUR: 'it returns false'. Refute it at one input. -/
def acctPlaysWrong : ChangeSpec := { name := "acctPlays", fn := fun _ => fun
  | [d] => { results := [.lit (.bool false)], args := [d] }
  | _ => none }
def AcctPlaysWrongFalsely : Prop := acctPlaysRow.holds Try.pinned (OpenSpec.ofChange acctPlaysWrong)

/-- 'jobberlaw15.AcctBoth': WHATEVER THE INPUT: true; the input reads as it did. -/
def acctBothSpec : ChangeSpec := { name := "acctBoth", fn := fun _ => fun
  | [d1, d2, d3, d4] => { results := [.lit (.bool true)], args := [d1, d2, d3, d4] }
  | _ => none }
def acctBothRow : OpenClaim := { program := "ytnpcmcijlgklfaa", sum := "cb2627a33197b61492e33034af389cb2b4d673fb0f447462204f6e0e7cf19574", func := "jobber/jobberlaw15.AcctBoth", spec := "acctBoth", apart := false }
def AcctBothSaid : Prop := acctBothRow.holds Try.pinned (OpenSpec.ofChange acctBothSpec)

/-- ITS FALSE NEIGHBOUR: 'it returns false'. Refute it at one input. -/
def acctBothWrong : ChangeSpec := { name := "acctBoth", fn := fun _ => fun
  | [d1, d2, d3, d4] => { results := [.lit (.bool false)], args := [d1, d2, d3, d4] }
  | _ => none }
def AcctBothWrongFalsely : Prop := acctBothRow.holds Try.pinned (OpenSpec.ofChange acctBothWrong)

/-- 'jobberlaw15.AcctOpens': WHATEVER THE INPUT: true; the input reads as it did. -/
def acctOpensSpec : ChangeSpec := { name := "acctOpens", fn := fun _ => fun
  | [d] => { results := [.lit (.bool true)], args := [d] }
  | _ => none }
def acctOpensRow : OpenClaim := { program := "ytnpcmcijlgklfaa", sum := "cb2627a33197b61492e33034af389cb2b4d673fb0f447462204f6e0e7cf19574", func := "jobber/jobberlaw15.AcctOpens", spec := "acctOpens", apart := false }
def AcctOpensSaid : Prop := acctOpensRow.holds Try.pinned (OpenSpec.ofChange acctOpensSpec)

/-- ITS FALSE NEIGHBOUR: 'it returns false'. Refute it at one input. -/
def acctOpensWrong : ChangeSpec := { name := "acctOpens", fn := fun _ => fun
  | [d] => { results := [.lit (.bool false)], args := [d] }
  | _ => none }
def AcctOpensWrongFalsely : Prop := acctOpensRow.holds Try.pinned (OpenSpec.ofChange acctOpensWrong)

/-- 'jobberlaw15.AcctEnds': WHATEVER THE INPUT: true; the input reads as it did. -/
def acctEndsSpec : ChangeSpec := { name := "acctEnds", fn := fun _ => fun
  | [d1, d2, d3, d4] => { results := [.lit (.bool true)], args := [d1, d2, d3, d4] }
  | _ => none }
def acctEndsRow : OpenClaim := { program := "ytnpcmcijlgklfaa", sum := "cb2627a33197b61492e33034af389cb2b4d673fb0f447462204f6e0e7cf19574", func := "jobber/jobberlaw15.AcctEnds", spec := "acctEnds", apart := false }
def AcctEndsSaid : Prop := acctEndsRow.holds Try.pinned (OpenSpec.ofChange acctEndsSpec)

/-- ITS FALSE NEIGHBOUR: 'it returns false'. Refute it at one input. -/
def acctEndsWrong : ChangeSpec := { name := "acctEnds", fn := fun _ => fun
  | [d1, d2, d3, d4] => { results := [.lit (.bool false)], args := [d1, d2, d3, d4] }
  | _ => none }
def AcctEndsWrongFalsely : Prop := acctEndsRow.holds Try.pinned (OpenSpec.ofChange acctEndsWrong)

/-- 'jobberlaw8.OrderTells': WHATEVER THE INPUT: true; the input reads as it did. -/
def orderTellsSpec : ChangeSpec := { name := "orderTells", fn := fun _ => fun
  | [d1, d2, d3, d4] => { results := [.lit (.bool true)], args := [d1, d2, d3, d4] }
  | _ => none }
def orderTellsRow : OpenClaim := { program := "ytnpcmcijlgklfaa", sum := "cb2627a33197b61492e33034af389cb2b4d673fb0f447462204f6e0e7cf19574", func := "jobber/jobberlaw8.OrderTells", spec := "orderTells", apart := false }
def OrderTellsSaid : Prop := orderTellsRow.holds Try.pinned (OpenSpec.ofChange orderTellsSpec)

/-- ITS FALSE NEIGHBOUR: 'it returns false'. Refute it at one input. -/
def orderTellsWrong : ChangeSpec := { name := "orderTells", fn := fun _ => fun
  | [d1, d2, d3, d4] => { results := [.lit (.bool false)], args := [d1, d2, d3, d4] }
  | _ => none }
def OrderTellsWrongFalsely : Prop := orderTellsRow.holds Try.pinned (OpenSpec.ofChange orderTellsWrong)

/-- 'jobberlaw8.OrderSides': WHATEVER THE INPUT: true; the input reads as it did. -/
def orderSidesSpec : ChangeSpec := { name := "orderSides", fn := fun _ => fun
  | [d1, d2, d3] => { results := [.lit (.bool true)], args := [d1, d2, d3] }
  | _ => none }
def orderSidesRow : OpenClaim := { program := "ytnpcmcijlgklfaa", sum := "cb2627a33197b61492e33034af389cb2b4d673fb0f447462204f6e0e7cf19574", func := "jobber/jobberlaw8.OrderSides", spec := "orderSides", apart := false }
def OrderSidesSaid : Prop := orderSidesRow.holds Try.pinned (OpenSpec.ofChange orderSidesSpec)

/-- ITS FALSE NEIGHBOUR: 'it returns false'. Refute it at one input. -/
def orderSidesWrong : ChangeSpec := { name := "orderSides", fn := fun _ => fun
  | [d1, d2, d3] => { results := [.lit (.bool false)], args := [d1, d2, d3] }
  | _ => none }
def OrderSidesWrongFalsely : Prop := orderSidesRow.holds Try.pinned (OpenSpec.ofChange orderSidesWrong)

/-- 'jobberlaw16.RiskRuns': WHATEVER THE INPUT: true; the input reads as it did. -/
def riskRunsSpec : ChangeSpec := { name := "riskRuns", fn := fun _ => fun
  | [] => { results := [.lit (.bool true)], args := [] }
  | _ => none }
def riskRunsRow : OpenClaim := { program := "ytnpcmcijlgklfaa", sum := "cb2627a33197b61492e33034af389cb2b4d673fb0f447462204f6e0e7cf19574", func := "jobber/jobberlaw16.RiskRuns", spec := "riskRuns", apart := false }
def RiskRunsSaid : Prop := riskRunsRow.holds Try.pinned (OpenSpec.ofChange riskRunsSpec)

/-- ITS FALSE NEIGHBOUR: 'it returns false'. Refute it at one input. -/
def riskRunsWrong : ChangeSpec := { name := "riskRuns", fn := fun _ => fun
  | [] => { results := [.lit (.bool false)], args := [] }
  | _ => none }
def RiskRunsWrongFalsely : Prop := riskRunsRow.holds Try.pinned (OpenSpec.ofChange riskRunsWrong)

/-- 'jobberlaw16.RiskOpen': WHATEVER THE INPUT: true; the input reads as it did. -/
def riskOpenSpec : ChangeSpec := { name := "riskOpen", fn := fun _ => fun
  | [d1, d2, d3] => { results := [.lit (.bool true)], args := [d1, d2, d3] }
  | _ => none }
def riskOpenRow : OpenClaim := { program := "ytnpcmcijlgklfaa", sum := "cb2627a33197b61492e33034af389cb2b4d673fb0f447462204f6e0e7cf19574", func := "jobber/jobberlaw16.RiskOpen", spec := "riskOpen", apart := false }
def RiskOpenSaid : Prop := riskOpenRow.holds Try.pinned (OpenSpec.ofChange riskOpenSpec)

/-- ITS FALSE NEIGHBOUR: 'it returns false'. Refute it at one input. -/
def riskOpenWrong : ChangeSpec := { name := "riskOpen", fn := fun _ => fun
  | [d1, d2, d3] => { results := [.lit (.bool false)], args := [d1, d2, d3] }
  | _ => none }
def RiskOpenWrongFalsely : Prop := riskOpenRow.holds Try.pinned (OpenSpec.ofChange riskOpenWrong)

/-- 'jobberlaw16.RiskSides': WHATEVER THE INPUT: true; the input reads as it did. -/
def riskSidesSpec : ChangeSpec := { name := "riskSides", fn := fun _ => fun
  | [d1, d2, d3] => { results := [.lit (.bool true)], args := [d1, d2, d3] }
  | _ => none }
def riskSidesRow : OpenClaim := { program := "ytnpcmcijlgklfaa", sum := "cb2627a33197b61492e33034af389cb2b4d673fb0f447462204f6e0e7cf19574", func := "jobber/jobberlaw16.RiskSides", spec := "riskSides", apart := false }
def RiskSidesSaid : Prop := riskSidesRow.holds Try.pinned (OpenSpec.ofChange riskSidesSpec)

/-- ITS FALSE NEIGHBOUR: 'it returns false'. Refute it at one input. -/
def riskSidesWrong : ChangeSpec := { name := "riskSides", fn := fun _ => fun
  | [d1, d2, d3] => { results := [.lit (.bool false)], args := [d1, d2, d3] }
  | _ => none }
def RiskSidesWrongFalsely : Prop := riskSidesRow.holds Try.pinned (OpenSpec.ofChange riskSidesWrong)

/-- 'jobberlaw16.RiskTells': WHATEVER THE INPUT: true; the input reads as it did. -/
def riskTellsSpec : ChangeSpec := { name := "riskTells", fn := fun _ => fun
  | [d1, d2, d3, d4] => { results := [.lit (.bool true)], args := [d1, d2, d3, d4] }
  | _ => none }
def riskTellsRow : OpenClaim := { program := "ytnpcmcijlgklfaa", sum := "cb2627a33197b61492e33034af389cb2b4d673fb0f447462204f6e0e7cf19574", func := "jobber/jobberlaw16.RiskTells", spec := "riskTells", apart := false }
def RiskTellsSaid : Prop := riskTellsRow.holds Try.pinned (OpenSpec.ofChange riskTellsSpec)

/-- ITS FALSE NEIGHBOUR: 'it returns false'. Refute it at one input. -/
def riskTellsWrong : ChangeSpec := { name := "riskTells", fn := fun _ => fun
  | [d1, d2, d3, d4] => { results := [.lit (.bool false)], args := [d1, d2, d3, d4] }
  | _ => none }
def RiskTellsWrongFalsely : Prop := riskTellsRow.holds Try.pinned (OpenSpec.ofChange riskTellsWrong)

/-- 'jobberlaw16.RiskWider': WHATEVER THE INPUT: true; the input reads as it did. -/
def riskWiderSpec : ChangeSpec := { name := "riskWider", fn := fun _ => fun
  | [d1, d2, d3, d4, d5, d6] => { results := [.lit (.bool true)], args := [d1, d2, d3, d4, d5, d6] }
  | _ => none }
def riskWiderRow : OpenClaim := { program := "ytnpcmcijlgklfaa", sum := "cb2627a33197b61492e33034af389cb2b4d673fb0f447462204f6e0e7cf19574", func := "jobber/jobberlaw16.RiskWider", spec := "riskWider", apart := false }
def RiskWiderSaid : Prop := riskWiderRow.holds Try.pinned (OpenSpec.ofChange riskWiderSpec)

/-- ITS FALSE NEIGHBOUR: 'it returns false'. Refute it at one input. -/
def riskWiderWrong : ChangeSpec := { name := "riskWider", fn := fun _ => fun
  | [d1, d2, d3, d4, d5, d6] => { results := [.lit (.bool false)], args := [d1, d2, d3, d4, d5, d6] }
  | _ => none }
def RiskWiderWrongFalsely : Prop := riskWiderRow.holds Try.pinned (OpenSpec.ofChange riskWiderWrong)

/-- 'jobberlaw16.RiskEnds': WHATEVER THE INPUT: true; the input reads as it did. -/
def riskEndsSpec : ChangeSpec := { name := "riskEnds", fn := fun _ => fun
  | [d1, d2, d3, d4] => { results := [.lit (.bool true)], args := [d1, d2, d3, d4] }
  | _ => none }
def riskEndsRow : OpenClaim := { program := "ytnpcmcijlgklfaa", sum := "cb2627a33197b61492e33034af389cb2b4d673fb0f447462204f6e0e7cf19574", func := "jobber/jobberlaw16.RiskEnds", spec := "riskEnds", apart := false }
def RiskEndsSaid : Prop := riskEndsRow.holds Try.pinned (OpenSpec.ofChange riskEndsSpec)

/-- ITS FALSE NEIGHBOUR: 'it returns false'. Refute it at one input. -/
def riskEndsWrong : ChangeSpec := { name := "riskEnds", fn := fun _ => fun
  | [d1, d2, d3, d4] => { results := [.lit (.bool false)], args := [d1, d2, d3, d4] }
  | _ => none }
def RiskEndsWrongFalsely : Prop := riskEndsRow.holds Try.pinned (OpenSpec.ofChange riskEndsWrong)

/- THE SECOND FORM. 'bulk': how many values and letters a reading holds, each counted each time it is reached (what is shared counts as often as it is met; a slice's spare places count too). A statement '..UptoSaid' is the law's where the arguments, and the package variables that the reading takes, are together of bulk at most 1048576: NARROWER than '..Said'. Prove '..Said' where nothing that the law and all that it calls make is longer than what came in: it says more and counts as full. Else prove '..UptoSaid'. A law counts once. -/
mutual
def uptoBulk {H : Type} : DataW H → Nat
  | .lit (.string bytes) => bytes.length + 1
  | .lit _ => 1
  | .nil => 1
  | .ptr d => uptoBulk d + 1
  | .slice elems spare => uptoBulkAll elems + uptoBulkAll spare + 1
  | .agg parts => uptoBulkAll parts + 1
  | .iface _ d => uptoBulk d + 1
  | .map entries => uptoBulkEntries entries + 1
  | .held _ => 1
def uptoBulkAll {H : Type} : List (DataW H) → Nat
  | [] => 0
  | d :: r => uptoBulk d + uptoBulkAll r
def uptoBulkEntries {H : Type} : List (Lit × DataW H) → Nat
  | [] => 0
  | x :: r => uptoBulkEntry x + uptoBulkEntries r
def uptoBulkEntry {H : Type} : Lit × DataW H → Nat
  | (.string bytes, d) => bytes.length + uptoBulk d + 1
  | (_, d) => uptoBulk d + 1
 end
def uptoSmall : (H : Type) → List (DataW H) → Bool := fun _ ds => decide (uptoBulkAll ds ≤ 1048576)
def OpenSpec.upto (s : _root_.Go.ChangeSpec) : _root_.Go.OpenSpec := { _root_.Go.OpenSpec.ofChange s with cond := some uptoSmall }

/-- 'jobberlaw7.SumsRuns', WHERE WHAT IT READS IS OF BULK AT MOST 1048576: true; the input reads as it did. -/
def sumsRunsUptoRow : OpenClaim := { program := "ytnpcmcijlgklfaa", sum := "cb2627a33197b61492e33034af389cb2b4d673fb0f447462204f6e0e7cf19574", func := "jobber/jobberlaw7.SumsRuns", spec := "sumsRuns", apart := false, narrowed := true }
def SumsRunsUptoSaid : Prop := sumsRunsUptoRow.holds Try.pinned (OpenSpec.upto sumsRunsSpec)

/-- 'jobberlaw7.SumsTells', WHERE WHAT IT READS IS OF BULK AT MOST 1048576: true; the input reads as it did. -/
def sumsTellsUptoRow : OpenClaim := { program := "ytnpcmcijlgklfaa", sum := "cb2627a33197b61492e33034af389cb2b4d673fb0f447462204f6e0e7cf19574", func := "jobber/jobberlaw7.SumsTells", spec := "sumsTells", apart := false, narrowed := true }
def SumsTellsUptoSaid : Prop := sumsTellsUptoRow.holds Try.pinned (OpenSpec.upto sumsTellsSpec)

/-- 'jobberlaw7.SumsBack', WHERE WHAT IT READS IS OF BULK AT MOST 1048576: true; the input reads as it did. -/
def sumsBackUptoRow : OpenClaim := { program := "ytnpcmcijlgklfaa", sum := "cb2627a33197b61492e33034af389cb2b4d673fb0f447462204f6e0e7cf19574", func := "jobber/jobberlaw7.SumsBack", spec := "sumsBack", apart := false, narrowed := true }
def SumsBackUptoSaid : Prop := sumsBackUptoRow.holds Try.pinned (OpenSpec.upto sumsBackSpec)

/-- 'jobberlaw7.SumsParts', WHERE WHAT IT READS IS OF BULK AT MOST 1048576: true; the input reads as it did. -/
def sumsPartsUptoRow : OpenClaim := { program := "ytnpcmcijlgklfaa", sum := "cb2627a33197b61492e33034af389cb2b4d673fb0f447462204f6e0e7cf19574", func := "jobber/jobberlaw7.SumsParts", spec := "sumsParts", apart := false, narrowed := true }
def SumsPartsUptoSaid : Prop := sumsPartsUptoRow.holds Try.pinned (OpenSpec.upto sumsPartsSpec)

/-- 'jobberlaw8.OrderRuns', WHERE WHAT IT READS IS OF BULK AT MOST 1048576: true; the input reads as it did. -/
def orderRunsUptoRow : OpenClaim := { program := "ytnpcmcijlgklfaa", sum := "cb2627a33197b61492e33034af389cb2b4d673fb0f447462204f6e0e7cf19574", func := "jobber/jobberlaw8.OrderRuns", spec := "orderRuns", apart := false, narrowed := true }
def OrderRunsUptoSaid : Prop := orderRunsUptoRow.holds Try.pinned (OpenSpec.upto orderRunsSpec)

/-- 'jobberlaw8.OrderRight', WHERE WHAT IT READS IS OF BULK AT MOST 1048576: true; the input reads as it did. -/
def orderRightUptoRow : OpenClaim := { program := "ytnpcmcijlgklfaa", sum := "cb2627a33197b61492e33034af389cb2b4d673fb0f447462204f6e0e7cf19574", func := "jobber/jobberlaw8.OrderRight", spec := "orderRight", apart := false, narrowed := true }
def OrderRightUptoSaid : Prop := orderRightUptoRow.holds Try.pinned (OpenSpec.upto orderRightSpec)

/-- 'jobberlaw8.OrderStops', WHERE WHAT IT READS IS OF BULK AT MOST 1048576: true; the input reads as it did. -/
def orderStopsUptoRow : OpenClaim := { program := "ytnpcmcijlgklfaa", sum := "cb2627a33197b61492e33034af389cb2b4d673fb0f447462204f6e0e7cf19574", func := "jobber/jobberlaw8.OrderStops", spec := "orderStops", apart := false, narrowed := true }
def OrderStopsUptoSaid : Prop := orderStopsUptoRow.holds Try.pinned (OpenSpec.upto orderStopsSpec)

/-- 'jobberlaw15.AcctRuns', WHERE WHAT IT READS IS OF BULK AT MOST 1048576: true; the input reads as it did. -/
def acctRunsUptoRow : OpenClaim := { program := "ytnpcmcijlgklfaa", sum := "cb2627a33197b61492e33034af389cb2b4d673fb0f447462204f6e0e7cf19574", func := "jobber/jobberlaw15.AcctRuns", spec := "acctRuns", apart := false, narrowed := true }
def AcctRunsUptoSaid : Prop := acctRunsUptoRow.holds Try.pinned (OpenSpec.upto acctRunsSpec)

/-- 'jobberlaw15.AcctPlays', WHERE WHAT IT READS IS OF BULK AT MOST 1048576: true; the input reads as it did. -/
def acctPlaysUptoRow : OpenClaim := { program := "ytnpcmcijlgklfaa", sum := "cb2627a33197b61492e33034af389cb2b4d673fb0f447462204f6e0e7cf19574", func := "jobber/jobberlaw15.AcctPlays", spec := "acctPlays", apart := false, narrowed := true }
def AcctPlaysUptoSaid : Prop := acctPlaysUptoRow.holds Try.pinned (OpenSpec.upto acctPlaysSpec)

/-- 'jobberlaw15.AcctBoth', WHERE WHAT IT READS IS OF BULK AT MOST 1048576: true; the input reads as it did. -/
def acctBothUptoRow : OpenClaim := { program := "ytnpcmcijlgklfaa", sum := "cb2627a33197b61492e33034af389cb2b4d673fb0f447462204f6e0e7cf19574", func := "jobber/jobberlaw15.AcctBoth", spec := "acctBoth", apart := false, narrowed := true }
def AcctBothUptoSaid : Prop := acctBothUptoRow.holds Try.pinned (OpenSpec.upto acctBothSpec)

/-- 'jobberlaw15.AcctOpens', WHERE WHAT IT READS IS OF BULK AT MOST 1048576: true; the input reads as it did. -/
def acctOpensUptoRow : OpenClaim := { program := "ytnpcmcijlgklfaa", sum := "cb2627a33197b61492e33034af389cb2b4d673fb0f447462204f6e0e7cf19574", func := "jobber/jobberlaw15.AcctOpens", spec := "acctOpens", apart := false, narrowed := true }
def AcctOpensUptoSaid : Prop := acctOpensUptoRow.holds Try.pinned (OpenSpec.upto acctOpensSpec)

/-- 'jobberlaw15.AcctEnds', WHERE WHAT IT READS IS OF BULK AT MOST 1048576: true; the input reads as it did. -/
def acctEndsUptoRow : OpenClaim := { program := "ytnpcmcijlgklfaa", sum := "cb2627a33197b61492e33034af389cb2b4d673fb0f447462204f6e0e7cf19574", func := "jobber/jobberlaw15.AcctEnds", spec := "acctEnds", apart := false, narrowed := true }
def AcctEndsUptoSaid : Prop := acctEndsUptoRow.holds Try.pinned (OpenSpec.upto acctEndsSpec)

/-- 'jobberlaw8.OrderTells', WHERE WHAT IT READS IS OF BULK AT MOST 1048576: true; the input reads as it did. -/
def orderTellsUptoRow : OpenClaim := { program := "ytnpcmcijlgklfaa", sum := "cb2627a33197b61492e33034af389cb2b4d673fb0f447462204f6e0e7cf19574", func := "jobber/jobberlaw8.OrderTells", spec := "orderTells", apart := false, narrowed := true }
def OrderTellsUptoSaid : Prop := orderTellsUptoRow.holds Try.pinned (OpenSpec.upto orderTellsSpec)

/-- 'jobberlaw8.OrderSides', WHERE WHAT IT READS IS OF BULK AT MOST 1048576: true; the input reads as it did. -/
def orderSidesUptoRow : OpenClaim := { program := "ytnpcmcijlgklfaa", sum := "cb2627a33197b61492e33034af389cb2b4d673fb0f447462204f6e0e7cf19574", func := "jobber/jobberlaw8.OrderSides", spec := "orderSides", apart := false, narrowed := true }
def OrderSidesUptoSaid : Prop := orderSidesUptoRow.holds Try.pinned (OpenSpec.upto orderSidesSpec)

/-- 'jobberlaw16.RiskRuns', WHERE WHAT IT READS IS OF BULK AT MOST 1048576: true; the input reads as it did. -/
def riskRunsUptoRow : OpenClaim := { program := "ytnpcmcijlgklfaa", sum := "cb2627a33197b61492e33034af389cb2b4d673fb0f447462204f6e0e7cf19574", func := "jobber/jobberlaw16.RiskRuns", spec := "riskRuns", apart := false, narrowed := true }
def RiskRunsUptoSaid : Prop := riskRunsUptoRow.holds Try.pinned (OpenSpec.upto riskRunsSpec)

/-- 'jobberlaw16.RiskOpen', WHERE WHAT IT READS IS OF BULK AT MOST 1048576: true; the input reads as it did. -/
def riskOpenUptoRow : OpenClaim := { program := "ytnpcmcijlgklfaa", sum := "cb2627a33197b61492e33034af389cb2b4d673fb0f447462204f6e0e7cf19574", func := "jobber/jobberlaw16.RiskOpen", spec := "riskOpen", apart := false, narrowed := true }
def RiskOpenUptoSaid : Prop := riskOpenUptoRow.holds Try.pinned (OpenSpec.upto riskOpenSpec)

/-- 'jobberlaw16.RiskSides', WHERE WHAT IT READS IS OF BULK AT MOST 1048576: true; the input reads as it did. -/
def riskSidesUptoRow : OpenClaim := { program := "ytnpcmcijlgklfaa", sum := "cb2627a33197b61492e33034af389cb2b4d673fb0f447462204f6e0e7cf19574", func := "jobber/jobberlaw16.RiskSides", spec := "riskSides", apart := false, narrowed := true }
def RiskSidesUptoSaid : Prop := riskSidesUptoRow.holds Try.pinned (OpenSpec.upto riskSidesSpec)

/-- 'jobberlaw16.RiskTells', WHERE WHAT IT READS IS OF BULK AT MOST 1048576: true; the input reads as it did. -/
def riskTellsUptoRow : OpenClaim := { program := "ytnpcmcijlgklfaa", sum := "cb2627a33197b61492e33034af389cb2b4d673fb0f447462204f6e0e7cf19574", func := "jobber/jobberlaw16.RiskTells", spec := "riskTells", apart := false, narrowed := true }
def RiskTellsUptoSaid : Prop := riskTellsUptoRow.holds Try.pinned (OpenSpec.upto riskTellsSpec)

/-- 'jobberlaw16.RiskWider', WHERE WHAT IT READS IS OF BULK AT MOST 1048576: true; the input reads as it did. -/
def riskWiderUptoRow : OpenClaim := { program := "ytnpcmcijlgklfaa", sum := "cb2627a33197b61492e33034af389cb2b4d673fb0f447462204f6e0e7cf19574", func := "jobber/jobberlaw16.RiskWider", spec := "riskWider", apart := false, narrowed := true }
def RiskWiderUptoSaid : Prop := riskWiderUptoRow.holds Try.pinned (OpenSpec.upto riskWiderSpec)

/-- 'jobberlaw16.RiskEnds', WHERE WHAT IT READS IS OF BULK AT MOST 1048576: true; the input reads as it did. -/
def riskEndsUptoRow : OpenClaim := { program := "ytnpcmcijlgklfaa", sum := "cb2627a33197b61492e33034af389cb2b4d673fb0f447462204f6e0e7cf19574", func := "jobber/jobberlaw16.RiskEnds", spec := "riskEnds", apart := false, narrowed := true }
def RiskEndsUptoSaid : Prop := riskEndsUptoRow.holds Try.pinned (OpenSpec.upto riskEndsSpec)

end Rows
end Go.Proofs.Ytnpcmcijlgklfaa
