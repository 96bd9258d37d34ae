/-
  No cell of these rows narrows 'for every input' (looked for: loops, veiled, ifaces, maps, wideKeys, modest, calm, conditions, laid).
  DERIVED. THE GIVEN ROWS OF THIS SEAT. 6 by the template 'for every input the law returns true; each argument reads behind the call as it read before'; 0 by the template 'total and deterministic' (their statements: YtfclaleiciodmaaTotals.lean).
  GIVEN WITH THE SEED: the statements are not yours to turn. If you find one false, say at which input.
  Laid BY PROGRAM, IN A SANDBOX (cutbox-rows.mjs): the forced cells as the released guide's own fill.sh prints them over the translation ab8b409fab9d9f7f… (all of the seat's roots in one cut). By AI agents, Wed Nov 11 2026. No macro, syntax, notation, axiom, sorry.
-/
import Derived.Test.YtfclaleiciodmaaChecked
import GoSem.Claim
import GoSem.ClaimJoined
import GoSem.ClaimMapViews
import Derived.JoinedTies
import Derived.KernelRfl
namespace Go.Proofs.Ytfclaleiciodmaa
/- THE CELL 'sum', in the pinned program and in every row, IS THE sha256 OF THE DUMP (.gsa) THAT YtfclaleiciodmaaProg.lean LOADS. Nothing in Lean hashes anything: it is a label: what it is worth is what the hold of that sum in a sandbox is worth. -/
noncomputable def Try.pinned : Pinned := { name := "ytfclaleiciodmaa", sum := "ab8b409fab9d9f7f32b5adf3922de19e233f9fe0f2570255025f130ccd85856c", checked := Try.checked }
namespace Rows
def none {H : Type} : Left H := { results := [], args := [] }

/-- 'jobberlaw9.LevelRuns': WHATEVER THE INPUT: true; the input reads as it did. -/
def levelRunsSpec : ChangeSpec := { name := "levelRuns", fn := fun _ => fun
  | [] => { results := [.lit (.bool true)], args := [] }
  | _ => none }
def levelRunsRow : OpenClaim := { program := "ytfclaleiciodmaa", sum := "ab8b409fab9d9f7f32b5adf3922de19e233f9fe0f2570255025f130ccd85856c", func := "jobber/jobberlaw9.LevelRuns", spec := "levelRuns", plainKeys := false, apart := false }
def LevelRunsSaid : Prop := levelRunsRow.holds Try.pinned (OpenSpec.ofChange levelRunsSpec)

/-- ITS FALSE NEIGHBOUR: 'it returns false'. Refute it at one input. -/
def levelRunsWrong : ChangeSpec := { name := "levelRuns", fn := fun _ => fun
  | [] => { results := [.lit (.bool false)], args := [] }
  | _ => none }
def LevelRunsWrongFalsely : Prop := levelRunsRow.holds Try.pinned (OpenSpec.ofChange levelRunsWrong)

/-- 'jobberlaw9.LevelParts': WHATEVER THE INPUT: true; the input reads as it did. -/
def levelPartsSpec : ChangeSpec := { name := "levelParts", fn := fun _ => fun
  | [d1, d2, d3] => { results := [.lit (.bool true)], args := [d1, d2, d3] }
  | _ => none }
def levelPartsRow : OpenClaim := { program := "ytfclaleiciodmaa", sum := "ab8b409fab9d9f7f32b5adf3922de19e233f9fe0f2570255025f130ccd85856c", func := "jobber/jobberlaw9.LevelParts", spec := "levelParts", plainKeys := false, apart := false }
def LevelPartsSaid : Prop := levelPartsRow.holds Try.pinned (OpenSpec.ofChange levelPartsSpec)

/-- ITS FALSE NEIGHBOUR: 'it returns false'. Refute it at one input. -/
def levelPartsWrong : ChangeSpec := { name := "levelParts", fn := fun _ => fun
  | [d1, d2, d3] => { results := [.lit (.bool false)], args := [d1, d2, d3] }
  | _ => none }
def LevelPartsWrongFalsely : Prop := levelPartsRow.holds Try.pinned (OpenSpec.ofChange levelPartsWrong)

/-- 'jobberlaw9.LevelTakes': WHATEVER THE INPUT: true; the input reads as it did. -/
def levelTakesSpec : ChangeSpec := { name := "levelTakes", fn := fun _ => fun
  | [d1, d2, d3] => { results := [.lit (.bool true)], args := [d1, d2, d3] }
  | _ => none }
def levelTakesRow : OpenClaim := { program := "ytfclaleiciodmaa", sum := "ab8b409fab9d9f7f32b5adf3922de19e233f9fe0f2570255025f130ccd85856c", func := "jobber/jobberlaw9.LevelTakes", spec := "levelTakes", plainKeys := false, apart := false }
def LevelTakesSaid : Prop := levelTakesRow.holds Try.pinned (OpenSpec.ofChange levelTakesSpec)

/-- ITS FALSE NEIGHBOUR: 'it returns false'. Refute it at one input. -/
def levelTakesWrong : ChangeSpec := { name := "levelTakes", fn := fun _ => fun
  | [d1, d2, d3] => { results := [.lit (.bool false)], args := [d1, d2, d3] }
  | _ => none }
def LevelTakesWrongFalsely : Prop := levelTakesRow.holds Try.pinned (OpenSpec.ofChange levelTakesWrong)

/-- 'jobberlaw9.LevelFirst': WHATEVER THE INPUT: true; the input reads as it did. -/
def levelFirstSpec : ChangeSpec := { name := "levelFirst", fn := fun _ => fun
  | [d1, d2, d3] => { results := [.lit (.bool true)], args := [d1, d2, d3] }
  | _ => none }
def levelFirstRow : OpenClaim := { program := "ytfclaleiciodmaa", sum := "ab8b409fab9d9f7f32b5adf3922de19e233f9fe0f2570255025f130ccd85856c", func := "jobber/jobberlaw9.LevelFirst", spec := "levelFirst", unfollowed := true, recurses := true, plainKeys := false, apart := false }
def LevelFirstSaid : Prop := levelFirstRow.holds Try.pinned (OpenSpec.ofChange levelFirstSpec)

/-- ITS FALSE NEIGHBOUR: 'it returns false'. Refute it at one input. -/
def levelFirstWrong : ChangeSpec := { name := "levelFirst", fn := fun _ => fun
  | [d1, d2, d3] => { results := [.lit (.bool false)], args := [d1, d2, d3] }
  | _ => none }
def LevelFirstWrongFalsely : Prop := levelFirstRow.holds Try.pinned (OpenSpec.ofChange levelFirstWrong)

/-- 'jobberlaw9.LevelRemoves': WHATEVER THE INPUT: true; the input reads as it did. -/
def levelRemovesSpec : ChangeSpec := { name := "levelRemoves", fn := fun _ => fun
  | [d1, d2] => { results := [.lit (.bool true)], args := [d1, d2] }
  | _ => none }
def levelRemovesRow : OpenClaim := { program := "ytfclaleiciodmaa", sum := "ab8b409fab9d9f7f32b5adf3922de19e233f9fe0f2570255025f130ccd85856c", func := "jobber/jobberlaw9.LevelRemoves", spec := "levelRemoves", unfollowed := true, recurses := true, plainKeys := false, apart := false }
def LevelRemovesSaid : Prop := levelRemovesRow.holds Try.pinned (OpenSpec.ofChange levelRemovesSpec)

/-- ITS FALSE NEIGHBOUR: 'it returns false'. Refute it at one input. -/
def levelRemovesWrong : ChangeSpec := { name := "levelRemoves", fn := fun _ => fun
  | [d1, d2] => { results := [.lit (.bool false)], args := [d1, d2] }
  | _ => none }
def LevelRemovesWrongFalsely : Prop := levelRemovesRow.holds Try.pinned (OpenSpec.ofChange levelRemovesWrong)

/-- 'jobberlaw9.LevelPlays': WHATEVER THE INPUT: true; the input reads as it did. -/
def levelPlaysSpec : ChangeSpec := { name := "levelPlays", fn := fun _ => fun
  | [d] => { results := [.lit (.bool true)], args := [d] }
  | _ => none }
def levelPlaysRow : OpenClaim := { program := "ytfclaleiciodmaa", sum := "ab8b409fab9d9f7f32b5adf3922de19e233f9fe0f2570255025f130ccd85856c", func := "jobber/jobberlaw9.LevelPlays", spec := "levelPlays", unfollowed := true, recurses := true, plainKeys := false, apart := false }
def LevelPlaysSaid : Prop := levelPlaysRow.holds Try.pinned (OpenSpec.ofChange levelPlaysSpec)

/-- ITS FALSE NEIGHBOUR: 'it returns false'. Refute it at one input. -/
def levelPlaysWrong : ChangeSpec := { name := "levelPlays", fn := fun _ => fun
  | [d] => { results := [.lit (.bool false)], args := [d] }
  | _ => none }
def LevelPlaysWrongFalsely : Prop := levelPlaysRow.holds Try.pinned (OpenSpec.ofChange levelPlaysWrong)

/- THE SECOND FORM. 'bulk': how many values and letters a reading holds, each counted each time it is reached (what is shared counts as often as it is met; a slice's spare places count too). A statement '..UptoSaid' is the law's where the arguments, and the package variables that the reading takes, are together of bulk at most 1048576: NARROWER than '..Said'. Prove '..Said' where nothing that the law and all that it calls make is longer than what came in: it says more and counts as full. Else prove '..UptoSaid'. A law counts once. -/
mutual
def uptoBulk {H : Type} : DataW H → Nat
  | .lit (.string bytes) => bytes.length + 1
  | .lit _ => 1
  | .nil => 1
  | .ptr d => uptoBulk d + 1
  | .slice elems spare => uptoBulkAll elems + uptoBulkAll spare + 1
  | .agg parts => uptoBulkAll parts + 1
  | .iface _ d => uptoBulk d + 1
  | .map entries => uptoBulkEntries entries + 1
  | .held _ => 1
def uptoBulkAll {H : Type} : List (DataW H) → Nat
  | [] => 0
  | d :: r => uptoBulk d + uptoBulkAll r
def uptoBulkEntries {H : Type} : List (Lit × DataW H) → Nat
  | [] => 0
  | x :: r => uptoBulkEntry x + uptoBulkEntries r
def uptoBulkEntry {H : Type} : Lit × DataW H → Nat
  | (.string bytes, d) => bytes.length + uptoBulk d + 1
  | (_, d) => uptoBulk d + 1
 end
def uptoSmall : (H : Type) → List (DataW H) → Bool := fun _ ds => decide (uptoBulkAll ds ≤ 1048576)
def OpenSpec.upto (s : _root_.Go.ChangeSpec) : _root_.Go.OpenSpec := { _root_.Go.OpenSpec.ofChange s with cond := some uptoSmall }

/-- 'jobberlaw9.LevelRuns', WHERE WHAT IT READS IS OF BULK AT MOST 1048576: true; the input reads as it did. -/
def levelRunsUptoRow : OpenClaim := { program := "ytfclaleiciodmaa", sum := "ab8b409fab9d9f7f32b5adf3922de19e233f9fe0f2570255025f130ccd85856c", func := "jobber/jobberlaw9.LevelRuns", spec := "levelRuns", plainKeys := false, apart := false, narrowed := true }
def LevelRunsUptoSaid : Prop := levelRunsUptoRow.holds Try.pinned (OpenSpec.upto levelRunsSpec)

/-- 'jobberlaw9.LevelParts', WHERE WHAT IT READS IS OF BULK AT MOST 1048576: true; the input reads as it did. -/
def levelPartsUptoRow : OpenClaim := { program := "ytfclaleiciodmaa", sum := "ab8b409fab9d9f7f32b5adf3922de19e233f9fe0f2570255025f130ccd85856c", func := "jobber/jobberlaw9.LevelParts", spec := "levelParts", plainKeys := false, apart := false, narrowed := true }
def LevelPartsUptoSaid : Prop := levelPartsUptoRow.holds Try.pinned (OpenSpec.upto levelPartsSpec)

/-- 'jobberlaw9.LevelTakes', WHERE WHAT IT READS IS OF BULK AT MOST 1048576: true; the input reads as it did. -/
def levelTakesUptoRow : OpenClaim := { program := "ytfclaleiciodmaa", sum := "ab8b409fab9d9f7f32b5adf3922de19e233f9fe0f2570255025f130ccd85856c", func := "jobber/jobberlaw9.LevelTakes", spec := "levelTakes", plainKeys := false, apart := false, narrowed := true }
def LevelTakesUptoSaid : Prop := levelTakesUptoRow.holds Try.pinned (OpenSpec.upto levelTakesSpec)

/-- 'jobberlaw9.LevelFirst', WHERE WHAT IT READS IS OF BULK AT MOST 1048576: true; the input reads as it did. -/
def levelFirstUptoRow : OpenClaim := { program := "ytfclaleiciodmaa", sum := "ab8b409fab9d9f7f32b5adf3922de19e233f9fe0f2570255025f130ccd85856c", func := "jobber/jobberlaw9.LevelFirst", spec := "levelFirst", unfollowed := true, recurses := true, plainKeys := false, apart := false, narrowed := true }
def LevelFirstUptoSaid : Prop := levelFirstUptoRow.holds Try.pinned (OpenSpec.upto levelFirstSpec)

/-- 'jobberlaw9.LevelRemoves', WHERE WHAT IT READS IS OF BULK AT MOST 1048576: true; the input reads as it did. -/
def levelRemovesUptoRow : OpenClaim := { program := "ytfclaleiciodmaa", sum := "ab8b409fab9d9f7f32b5adf3922de19e233f9fe0f2570255025f130ccd85856c", func := "jobber/jobberlaw9.LevelRemoves", spec := "levelRemoves", unfollowed := true, recurses := true, plainKeys := false, apart := false, narrowed := true }
def LevelRemovesUptoSaid : Prop := levelRemovesUptoRow.holds Try.pinned (OpenSpec.upto levelRemovesSpec)

/-- 'jobberlaw9.LevelPlays', WHERE WHAT IT READS IS OF BULK AT MOST 1048576: true; the input reads as it did. -/
def levelPlaysUptoRow : OpenClaim := { program := "ytfclaleiciodmaa", sum := "ab8b409fab9d9f7f32b5adf3922de19e233f9fe0f2570255025f130ccd85856c", func := "jobber/jobberlaw9.LevelPlays", spec := "levelPlays", unfollowed := true, recurses := true, plainKeys := false, apart := false, narrowed := true }
def LevelPlaysUptoSaid : Prop := levelPlaysUptoRow.holds Try.pinned (OpenSpec.upto levelPlaysSpec)

end Rows
end Go.Proofs.Ytfclaleiciodmaa
