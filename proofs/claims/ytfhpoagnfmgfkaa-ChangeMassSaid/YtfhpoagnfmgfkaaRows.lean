/-
  No cell of these rows narrows 'for every input' (looked for: loops, veiled, ifaces, maps, wideKeys, modest, calm, conditions, laid).
  DERIVED. THE GIVEN ROWS OF THIS SEAT. 6 by the template 'for every input the law returns true; each argument reads behind the call as it read before'; 0 by the template 'total and deterministic' (their statements: YtfhpoagnfmgfkaaTotals.lean).
  GIVEN WITH THE SEED: the statements are not yours to turn. If you find one false, say at which input.
  Laid BY PROGRAM, IN A SANDBOX (cutbox-rows.mjs): the forced cells as the released guide's own fill.sh prints them over the translation e79268306ebb99f4… (all of the seat's roots in one cut). By AI agents, Wed Nov 11 2026. No macro, syntax, notation, axiom, sorry.
-/
import Derived.Test.YtfhpoagnfmgfkaaChecked
import GoSem.Claim
import GoSem.ClaimJoined
import GoSem.ClaimMapViews
import Derived.JoinedTies
import Derived.KernelRfl
namespace Go.Proofs.Ytfhpoagnfmgfkaa
/- THE CELL 'sum', in the pinned program and in every row, IS THE sha256 OF THE DUMP (.gsa) THAT YtfhpoagnfmgfkaaProg.lean LOADS. Nothing in Lean hashes anything: it is a label: what it is worth is what the hold of that sum in a sandbox is worth. -/
noncomputable def Try.pinned : Pinned := { name := "ytfhpoagnfmgfkaa", sum := "e79268306ebb99f41a2a63a4e763db446cdc6d7f247554598f89bd6bfa51febe", checked := Try.checked }
namespace Rows
def none {H : Type} : Left H := { results := [], args := [] }

/-- 'jobberlaw12.ChangeRuns': WHATEVER THE INPUT: true; the input reads as it did. -/
def changeRunsSpec : ChangeSpec := { name := "changeRuns", fn := fun _ => fun
  | [] => { results := [.lit (.bool true)], args := [] }
  | _ => none }
def changeRunsRow : OpenClaim := { program := "ytfhpoagnfmgfkaa", sum := "e79268306ebb99f41a2a63a4e763db446cdc6d7f247554598f89bd6bfa51febe", func := "jobber/jobberlaw12.ChangeRuns", spec := "changeRuns", inPlace := ["slices.overlaps[*jobber/level.Level]"], unfollowed := true, recurses := true, apart := false }
def ChangeRunsSaid : Prop := changeRunsRow.holds Try.pinned (OpenSpec.ofChange changeRunsSpec)

/-- ITS FALSE NEIGHBOUR: 'it returns false'. Refute it at one input. -/
def changeRunsWrong : ChangeSpec := { name := "changeRuns", fn := fun _ => fun
  | [] => { results := [.lit (.bool false)], args := [] }
  | _ => none }
def ChangeRunsWrongFalsely : Prop := changeRunsRow.holds Try.pinned (OpenSpec.ofChange changeRunsWrong)

/-- 'jobberlaw12.ChangeNone': WHATEVER THE INPUT: true; the input reads as it did. -/
def changeNoneSpec : ChangeSpec := { name := "changeNone", fn := fun _ => fun
  | [d1, d2, d3, d4, d5] => { results := [.lit (.bool true)], args := [d1, d2, d3, d4, d5] }
  | _ => none }
def changeNoneRow : OpenClaim := { program := "ytfhpoagnfmgfkaa", sum := "e79268306ebb99f41a2a63a4e763db446cdc6d7f247554598f89bd6bfa51febe", func := "jobber/jobberlaw12.ChangeNone", spec := "changeNone", inPlace := ["slices.overlaps[*jobber/level.Level]"], unfollowed := true, recurses := true, apart := false }
def ChangeNoneSaid : Prop := changeNoneRow.holds Try.pinned (OpenSpec.ofChange changeNoneSpec)

/-- ITS FALSE NEIGHBOUR: 'it returns false'. Refute it at one input. -/
def changeNoneWrong : ChangeSpec := { name := "changeNone", fn := fun _ => fun
  | [d1, d2, d3, d4, d5] => { results := [.lit (.bool false)], args := [d1, d2, d3, d4, d5] }
  | _ => none }
def ChangeNoneWrongFalsely : Prop := changeNoneRow.holds Try.pinned (OpenSpec.ofChange changeNoneWrong)

/-- 'jobberlaw12.ChangeTwin': WHATEVER THE INPUT: true; the input reads as it did. -/
def changeTwinSpec : ChangeSpec := { name := "changeTwin", fn := fun _ => fun
  | [d1, d2, d3] => { results := [.lit (.bool true)], args := [d1, d2, d3] }
  | _ => none }
def changeTwinRow : OpenClaim := { program := "ytfhpoagnfmgfkaa", sum := "e79268306ebb99f41a2a63a4e763db446cdc6d7f247554598f89bd6bfa51febe", func := "jobber/jobberlaw12.ChangeTwin", spec := "changeTwin", inPlace := ["slices.overlaps[*jobber/level.Level]"], unfollowed := true, recurses := true, apart := false }
def ChangeTwinSaid : Prop := changeTwinRow.holds Try.pinned (OpenSpec.ofChange changeTwinSpec)

/-- ITS FALSE NEIGHBOUR: 'it returns false'. Refute it at one input. -/
def changeTwinWrong : ChangeSpec := { name := "changeTwin", fn := fun _ => fun
  | [d1, d2, d3] => { results := [.lit (.bool false)], args := [d1, d2, d3] }
  | _ => none }
def ChangeTwinWrongFalsely : Prop := changeTwinRow.holds Try.pinned (OpenSpec.ofChange changeTwinWrong)

/-- 'jobberlaw12.ChangeBehind': WHATEVER THE INPUT: true; the input reads as it did. -/
def changeBehindSpec : ChangeSpec := { name := "changeBehind", fn := fun _ => fun
  | [d1, d2, d3] => { results := [.lit (.bool true)], args := [d1, d2, d3] }
  | _ => none }
def changeBehindRow : OpenClaim := { program := "ytfhpoagnfmgfkaa", sum := "e79268306ebb99f41a2a63a4e763db446cdc6d7f247554598f89bd6bfa51febe", func := "jobber/jobberlaw12.ChangeBehind", spec := "changeBehind", inPlace := ["slices.overlaps[*jobber/level.Level]"], unfollowed := true, recurses := true, apart := false }
def ChangeBehindSaid : Prop := changeBehindRow.holds Try.pinned (OpenSpec.ofChange changeBehindSpec)

/-- ITS FALSE NEIGHBOUR: 'it returns false'. Refute it at one input. -/
def changeBehindWrong : ChangeSpec := { name := "changeBehind", fn := fun _ => fun
  | [d1, d2, d3] => { results := [.lit (.bool false)], args := [d1, d2, d3] }
  | _ => none }
def ChangeBehindWrongFalsely : Prop := changeBehindRow.holds Try.pinned (OpenSpec.ofChange changeBehindWrong)

/-- 'jobberlaw12.ChangeLess': WHATEVER THE INPUT: true; the input reads as it did. -/
def changeLessSpec : ChangeSpec := { name := "changeLess", fn := fun _ => fun
  | [d1, d2, d3] => { results := [.lit (.bool true)], args := [d1, d2, d3] }
  | _ => none }
def changeLessRow : OpenClaim := { program := "ytfhpoagnfmgfkaa", sum := "e79268306ebb99f41a2a63a4e763db446cdc6d7f247554598f89bd6bfa51febe", func := "jobber/jobberlaw12.ChangeLess", spec := "changeLess", inPlace := ["slices.overlaps[*jobber/level.Level]"], unfollowed := true, recurses := true, apart := false }
def ChangeLessSaid : Prop := changeLessRow.holds Try.pinned (OpenSpec.ofChange changeLessSpec)

/-- ITS FALSE NEIGHBOUR: 'it returns false'. Refute it at one input. -/
def changeLessWrong : ChangeSpec := { name := "changeLess", fn := fun _ => fun
  | [d1, d2, d3] => { results := [.lit (.bool false)], args := [d1, d2, d3] }
  | _ => none }
def ChangeLessWrongFalsely : Prop := changeLessRow.holds Try.pinned (OpenSpec.ofChange changeLessWrong)

/-- 'jobberlaw12.ChangeMass': WHATEVER THE INPUT: true; the input reads as it did. -/
def changeMassSpec : ChangeSpec := { name := "changeMass", fn := fun _ => fun
  | [d1, d2] => { results := [.lit (.bool true)], args := [d1, d2] }
  | _ => none }
def changeMassRow : OpenClaim := { program := "ytfhpoagnfmgfkaa", sum := "e79268306ebb99f41a2a63a4e763db446cdc6d7f247554598f89bd6bfa51febe", func := "jobber/jobberlaw12.ChangeMass", spec := "changeMass", inPlace := ["slices.overlaps[*jobber/level.Level]"], unfollowed := true, recurses := true, apart := false }
def ChangeMassSaid : Prop := changeMassRow.holds Try.pinned (OpenSpec.ofChange changeMassSpec)

/-- ITS FALSE NEIGHBOUR: 'it returns false'. Refute it at one input. -/
def changeMassWrong : ChangeSpec := { name := "changeMass", fn := fun _ => fun
  | [d1, d2] => { results := [.lit (.bool false)], args := [d1, d2] }
  | _ => none }
def ChangeMassWrongFalsely : Prop := changeMassRow.holds Try.pinned (OpenSpec.ofChange changeMassWrong)

/- THE SECOND FORM. 'bulk': how many values and letters a reading holds, each counted each time it is reached (what is shared counts as often as it is met; a slice's spare places count too). A statement '..UptoSaid' is the law's where the arguments, and the package variables that the reading takes, are together of bulk at most 1048576: NARROWER than '..Said'. Prove '..Said' where nothing that the law and all that it calls make is longer than what came in: it says more and counts as full. Else prove '..UptoSaid'. A law counts once. -/
mutual
def uptoBulk {H : Type} : DataW H → Nat
  | .lit (.string bytes) => bytes.length + 1
  | .lit _ => 1
  | .nil => 1
  | .ptr d => uptoBulk d + 1
  | .slice elems spare => uptoBulkAll elems + uptoBulkAll spare + 1
  | .agg parts => uptoBulkAll parts + 1
  | .iface _ d => uptoBulk d + 1
  | .map entries => uptoBulkEntries entries + 1
  | .held _ => 1
def uptoBulkAll {H : Type} : List (DataW H) → Nat
  | [] => 0
  | d :: r => uptoBulk d + uptoBulkAll r
def uptoBulkEntries {H : Type} : List (Lit × DataW H) → Nat
  | [] => 0
  | x :: r => uptoBulkEntry x + uptoBulkEntries r
def uptoBulkEntry {H : Type} : Lit × DataW H → Nat
  | (.string bytes, d) => bytes.length + uptoBulk d + 1
  | (_, d) => uptoBulk d + 1
 end
def uptoSmall : (H : Type) → List (DataW H) → Bool := fun _ ds => decide (uptoBulkAll ds ≤ 1048576)
def OpenSpec.upto (s : _root_.Go.ChangeSpec) : _root_.Go.OpenSpec := { _root_.Go.OpenSpec.ofChange s with cond := some uptoSmall }

/-- 'jobberlaw12.ChangeRuns', WHERE WHAT IT READS IS OF BULK AT MOST 1048576: true; the input reads as it did. -/
def changeRunsUptoRow : OpenClaim := { program := "ytfhpoagnfmgfkaa", sum := "e79268306ebb99f41a2a63a4e763db446cdc6d7f247554598f89bd6bfa51febe", func := "jobber/jobberlaw12.ChangeRuns", spec := "changeRuns", inPlace := ["slices.overlaps[*jobber/level.Level]"], unfollowed := true, recurses := true, apart := false, narrowed := true }
def ChangeRunsUptoSaid : Prop := changeRunsUptoRow.holds Try.pinned (OpenSpec.upto changeRunsSpec)

/-- 'jobberlaw12.ChangeNone', WHERE WHAT IT READS IS OF BULK AT MOST 1048576: true; the input reads as it did. -/
def changeNoneUptoRow : OpenClaim := { program := "ytfhpoagnfmgfkaa", sum := "e79268306ebb99f41a2a63a4e763db446cdc6d7f247554598f89bd6bfa51febe", func := "jobber/jobberlaw12.ChangeNone", spec := "changeNone", inPlace := ["slices.overlaps[*jobber/level.Level]"], unfollowed := true, recurses := true, apart := false, narrowed := true }
def ChangeNoneUptoSaid : Prop := changeNoneUptoRow.holds Try.pinned (OpenSpec.upto changeNoneSpec)

/-- 'jobberlaw12.ChangeTwin', WHERE WHAT IT READS IS OF BULK AT MOST 1048576: true; the input reads as it did. -/
def changeTwinUptoRow : OpenClaim := { program := "ytfhpoagnfmgfkaa", sum := "e79268306ebb99f41a2a63a4e763db446cdc6d7f247554598f89bd6bfa51febe", func := "jobber/jobberlaw12.ChangeTwin", spec := "changeTwin", inPlace := ["slices.overlaps[*jobber/level.Level]"], unfollowed := true, recurses := true, apart := false, narrowed := true }
def ChangeTwinUptoSaid : Prop := changeTwinUptoRow.holds Try.pinned (OpenSpec.upto changeTwinSpec)

/-- 'jobberlaw12.ChangeBehind', WHERE WHAT IT READS IS OF BULK AT MOST 1048576: true; the input reads as it did. -/
def changeBehindUptoRow : OpenClaim := { program := "ytfhpoagnfmgfkaa", sum := "e79268306ebb99f41a2a63a4e763db446cdc6d7f247554598f89bd6bfa51febe", func := "jobber/jobberlaw12.ChangeBehind", spec := "changeBehind", inPlace := ["slices.overlaps[*jobber/level.Level]"], unfollowed := true, recurses := true, apart := false, narrowed := true }
def ChangeBehindUptoSaid : Prop := changeBehindUptoRow.holds Try.pinned (OpenSpec.upto changeBehindSpec)

/-- 'jobberlaw12.ChangeLess', WHERE WHAT IT READS IS OF BULK AT MOST 1048576: true; the input reads as it did. -/
def changeLessUptoRow : OpenClaim := { program := "ytfhpoagnfmgfkaa", sum := "e79268306ebb99f41a2a63a4e763db446cdc6d7f247554598f89bd6bfa51febe", func := "jobber/jobberlaw12.ChangeLess", spec := "changeLess", inPlace := ["slices.overlaps[*jobber/level.Level]"], unfollowed := true, recurses := true, apart := false, narrowed := true }
def ChangeLessUptoSaid : Prop := changeLessUptoRow.holds Try.pinned (OpenSpec.upto changeLessSpec)

/-- 'jobberlaw12.ChangeMass', WHERE WHAT IT READS IS OF BULK AT MOST 1048576: true; the input reads as it did. -/
def changeMassUptoRow : OpenClaim := { program := "ytfhpoagnfmgfkaa", sum := "e79268306ebb99f41a2a63a4e763db446cdc6d7f247554598f89bd6bfa51febe", func := "jobber/jobberlaw12.ChangeMass", spec := "changeMass", inPlace := ["slices.overlaps[*jobber/level.Level]"], unfollowed := true, recurses := true, apart := false, narrowed := true }
def ChangeMassUptoSaid : Prop := changeMassUptoRow.holds Try.pinned (OpenSpec.upto changeMassSpec)

end Rows
end Go.Proofs.Ytfhpoagnfmgfkaa
