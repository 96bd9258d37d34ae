/-
  No cell of these rows narrows 'for every input' (looked for: loops, veiled, ifaces, maps, wideKeys, modest, calm, conditions, laid).
  DERIVED. THE GIVEN ROWS OF THIS SEAT. 6 by the template 'for every input the law returns true; each argument reads behind the call as it read before'; 0 by the template 'total and deterministic' (their statements: YtlokkniepoeepaaTotals.lean).
  GIVEN WITH THE SEED: the statements are not yours to turn. If you find one false, say at which input.
  Laid BY PROGRAM, IN A SANDBOX (cutbox-rows.mjs): the forced cells as the released guide's own fill.sh prints them over the translation efcc681e7247e601… (all of the seat's roots in one cut). By AI agents, Wed Nov 11 2026. No macro, syntax, notation, axiom, sorry.
-/
import Derived.Test.YtlokkniepoeepaaChecked
import GoSem.Claim
import GoSem.ClaimJoined
import GoSem.ClaimMapViews
import Derived.JoinedTies
import Derived.KernelRfl
namespace Go.Proofs.Ytlokkniepoeepaa
/- THE CELL 'sum', in the pinned program and in every row, IS THE sha256 OF THE DUMP (.gsa) THAT YtlokkniepoeepaaProg.lean LOADS. Nothing in Lean hashes anything: it is a label: what it is worth is what the hold of that sum in a sandbox is worth. -/
noncomputable def Try.pinned : Pinned := { name := "ytlokkniepoeepaa", sum := "efcc681e7247e601961e623724b96ed75a265e872f8ceff9ff9173d35e756aec", checked := Try.checked }
namespace Rows
def none {H : Type} : Left H := { results := [], args := [] }

/-- 'jobberlaw11.StopsRuns': WHATEVER THE INPUT: true; the input reads as it did. -/
def stopsRunsSpec : ChangeSpec := { name := "stopsRuns", fn := fun _ => fun
  | [] => { results := [.lit (.bool true)], args := [] }
  | _ => none }
def stopsRunsRow : OpenClaim := { program := "ytlokkniepoeepaa", sum := "efcc681e7247e601961e623724b96ed75a265e872f8ceff9ff9173d35e756aec", func := "jobber/jobberlaw11.StopsRuns", spec := "stopsRuns", inPlace := ["slices.overlaps[*jobber/level.Level]"], unfollowed := true, recurses := true, apart := false }
def StopsRunsSaid : Prop := stopsRunsRow.holds Try.pinned (OpenSpec.ofChange stopsRunsSpec)

/-- ITS FALSE NEIGHBOUR: 'it returns false'. Refute it at one input. -/
def stopsRunsWrong : ChangeSpec := { name := "stopsRuns", fn := fun _ => fun
  | [] => { results := [.lit (.bool false)], args := [] }
  | _ => none }
def StopsRunsWrongFalsely : Prop := stopsRunsRow.holds Try.pinned (OpenSpec.ofChange stopsRunsWrong)

/-- 'jobberlaw11.StopsTurn': WHATEVER THE INPUT: true; the input reads as it did. -/
def stopsTurnSpec : ChangeSpec := { name := "stopsTurn", fn := fun _ => fun
  | [d1, d2] => { results := [.lit (.bool true)], args := [d1, d2] }
  | _ => none }
def stopsTurnRow : OpenClaim := { program := "ytlokkniepoeepaa", sum := "efcc681e7247e601961e623724b96ed75a265e872f8ceff9ff9173d35e756aec", func := "jobber/jobberlaw11.StopsTurn", spec := "stopsTurn", inPlace := ["slices.overlaps[*jobber/level.Level]"], unfollowed := true, recurses := true, apart := false }
def StopsTurnSaid : Prop := stopsTurnRow.holds Try.pinned (OpenSpec.ofChange stopsTurnSpec)

/-- ITS FALSE NEIGHBOUR: 'it returns false'. Refute it at one input. -/
def stopsTurnWrong : ChangeSpec := { name := "stopsTurn", fn := fun _ => fun
  | [d1, d2] => { results := [.lit (.bool false)], args := [d1, d2] }
  | _ => none }
def StopsTurnWrongFalsely : Prop := stopsTurnRow.holds Try.pinned (OpenSpec.ofChange stopsTurnWrong)

/-- 'jobberlaw11.StopsPlain': WHATEVER THE INPUT: true; the input reads as it did. -/
def stopsPlainSpec : ChangeSpec := { name := "stopsPlain", fn := fun _ => fun
  | [d] => { results := [.lit (.bool true)], args := [d] }
  | _ => none }
def stopsPlainRow : OpenClaim := { program := "ytlokkniepoeepaa", sum := "efcc681e7247e601961e623724b96ed75a265e872f8ceff9ff9173d35e756aec", func := "jobber/jobberlaw11.StopsPlain", spec := "stopsPlain", inPlace := ["slices.overlaps[*jobber/level.Level]"], unfollowed := true, recurses := true, apart := false }
def StopsPlainSaid : Prop := stopsPlainRow.holds Try.pinned (OpenSpec.ofChange stopsPlainSpec)

/-- ITS FALSE NEIGHBOUR: 'it returns false'. Refute it at one input. -/
def stopsPlainWrong : ChangeSpec := { name := "stopsPlain", fn := fun _ => fun
  | [d] => { results := [.lit (.bool false)], args := [d] }
  | _ => none }
def StopsPlainWrongFalsely : Prop := stopsPlainRow.holds Try.pinned (OpenSpec.ofChange stopsPlainWrong)

/-- 'jobberlaw11.StopsCounts': WHATEVER THE INPUT: true; the input reads as it did. -/
def stopsCountsSpec : ChangeSpec := { name := "stopsCounts", fn := fun _ => fun
  | [d] => { results := [.lit (.bool true)], args := [d] }
  | _ => none }
def stopsCountsRow : OpenClaim := { program := "ytlokkniepoeepaa", sum := "efcc681e7247e601961e623724b96ed75a265e872f8ceff9ff9173d35e756aec", func := "jobber/jobberlaw11.StopsCounts", spec := "stopsCounts", inPlace := ["slices.overlaps[*jobber/level.Level]"], unfollowed := true, recurses := true, apart := false }
def StopsCountsSaid : Prop := stopsCountsRow.holds Try.pinned (OpenSpec.ofChange stopsCountsSpec)

/-- ITS FALSE NEIGHBOUR: 'it returns false'. Refute it at one input. -/
def stopsCountsWrong : ChangeSpec := { name := "stopsCounts", fn := fun _ => fun
  | [d] => { results := [.lit (.bool false)], args := [d] }
  | _ => none }
def StopsCountsWrongFalsely : Prop := stopsCountsRow.holds Try.pinned (OpenSpec.ofChange stopsCountsWrong)

/-- 'jobberlaw11.StopsQuiet': WHATEVER THE INPUT: true; the input reads as it did. -/
def stopsQuietSpec : ChangeSpec := { name := "stopsQuiet", fn := fun _ => fun
  | [d] => { results := [.lit (.bool true)], args := [d] }
  | _ => none }
def stopsQuietRow : OpenClaim := { program := "ytlokkniepoeepaa", sum := "efcc681e7247e601961e623724b96ed75a265e872f8ceff9ff9173d35e756aec", func := "jobber/jobberlaw11.StopsQuiet", spec := "stopsQuiet", inPlace := ["slices.overlaps[*jobber/level.Level]"], unfollowed := true, recurses := true, apart := false }
def StopsQuietSaid : Prop := stopsQuietRow.holds Try.pinned (OpenSpec.ofChange stopsQuietSpec)

/-- ITS FALSE NEIGHBOUR: 'it returns false'. Refute it at one input. -/
def stopsQuietWrong : ChangeSpec := { name := "stopsQuiet", fn := fun _ => fun
  | [d] => { results := [.lit (.bool false)], args := [d] }
  | _ => none }
def StopsQuietWrongFalsely : Prop := stopsQuietRow.holds Try.pinned (OpenSpec.ofChange stopsQuietWrong)

/-- 'jobberlaw11.StopsFind': WHATEVER THE INPUT: true; the input reads as it did. -/
def stopsFindSpec : ChangeSpec := { name := "stopsFind", fn := fun _ => fun
  | [d1, d2] => { results := [.lit (.bool true)], args := [d1, d2] }
  | _ => none }
def stopsFindRow : OpenClaim := { program := "ytlokkniepoeepaa", sum := "efcc681e7247e601961e623724b96ed75a265e872f8ceff9ff9173d35e756aec", func := "jobber/jobberlaw11.StopsFind", spec := "stopsFind", inPlace := ["slices.overlaps[*jobber/level.Level]"], unfollowed := true, recurses := true, apart := false }
def StopsFindSaid : Prop := stopsFindRow.holds Try.pinned (OpenSpec.ofChange stopsFindSpec)

/-- ITS FALSE NEIGHBOUR: 'it returns false'. Refute it at one input. -/
def stopsFindWrong : ChangeSpec := { name := "stopsFind", fn := fun _ => fun
  | [d1, d2] => { results := [.lit (.bool false)], args := [d1, d2] }
  | _ => none }
def StopsFindWrongFalsely : Prop := stopsFindRow.holds Try.pinned (OpenSpec.ofChange stopsFindWrong)

/- THE SECOND FORM. 'bulk': how many values and letters a reading holds, each counted each time it is reached (what is shared counts as often as it is met; a slice's spare places count too). A statement '..UptoSaid' is the law's where the arguments, and the package variables that the reading takes, are together of bulk at most 1048576: NARROWER than '..Said'. Prove '..Said' where nothing that the law and all that it calls make is longer than what came in: it says more and counts as full. Else prove '..UptoSaid'. A law counts once. -/
mutual
def uptoBulk {H : Type} : DataW H → Nat
  | .lit (.string bytes) => bytes.length + 1
  | .lit _ => 1
  | .nil => 1
  | .ptr d => uptoBulk d + 1
  | .slice elems spare => uptoBulkAll elems + uptoBulkAll spare + 1
  | .agg parts => uptoBulkAll parts + 1
  | .iface _ d => uptoBulk d + 1
  | .map entries => uptoBulkEntries entries + 1
  | .held _ => 1
def uptoBulkAll {H : Type} : List (DataW H) → Nat
  | [] => 0
  | d :: r => uptoBulk d + uptoBulkAll r
def uptoBulkEntries {H : Type} : List (Lit × DataW H) → Nat
  | [] => 0
  | x :: r => uptoBulkEntry x + uptoBulkEntries r
def uptoBulkEntry {H : Type} : Lit × DataW H → Nat
  | (.string bytes, d) => bytes.length + uptoBulk d + 1
  | (_, d) => uptoBulk d + 1
 end
def uptoSmall : (H : Type) → List (DataW H) → Bool := fun _ ds => decide (uptoBulkAll ds ≤ 1048576)
def OpenSpec.upto (s : _root_.Go.ChangeSpec) : _root_.Go.OpenSpec := { _root_.Go.OpenSpec.ofChange s with cond := some uptoSmall }

/-- 'jobberlaw11.StopsRuns', WHERE WHAT IT READS IS OF BULK AT MOST 1048576: true; the input reads as it did. -/
def stopsRunsUptoRow : OpenClaim := { program := "ytlokkniepoeepaa", sum := "efcc681e7247e601961e623724b96ed75a265e872f8ceff9ff9173d35e756aec", func := "jobber/jobberlaw11.StopsRuns", spec := "stopsRuns", inPlace := ["slices.overlaps[*jobber/level.Level]"], unfollowed := true, recurses := true, apart := false, narrowed := true }
def StopsRunsUptoSaid : Prop := stopsRunsUptoRow.holds Try.pinned (OpenSpec.upto stopsRunsSpec)

/-- 'jobberlaw11.StopsTurn', WHERE WHAT IT READS IS OF BULK AT MOST 1048576: true; the input reads as it did. -/
def stopsTurnUptoRow : OpenClaim := { program := "ytlokkniepoeepaa", sum := "efcc681e7247e601961e623724b96ed75a265e872f8ceff9ff9173d35e756aec", func := "jobber/jobberlaw11.StopsTurn", spec := "stopsTurn", inPlace := ["slices.overlaps[*jobber/level.Level]"], unfollowed := true, recurses := true, apart := false, narrowed := true }
def StopsTurnUptoSaid : Prop := stopsTurnUptoRow.holds Try.pinned (OpenSpec.upto stopsTurnSpec)

/-- 'jobberlaw11.StopsPlain', WHERE WHAT IT READS IS OF BULK AT MOST 1048576: true; the input reads as it did. -/
def stopsPlainUptoRow : OpenClaim := { program := "ytlokkniepoeepaa", sum := "efcc681e7247e601961e623724b96ed75a265e872f8ceff9ff9173d35e756aec", func := "jobber/jobberlaw11.StopsPlain", spec := "stopsPlain", inPlace := ["slices.overlaps[*jobber/level.Level]"], unfollowed := true, recurses := true, apart := false, narrowed := true }
def StopsPlainUptoSaid : Prop := stopsPlainUptoRow.holds Try.pinned (OpenSpec.upto stopsPlainSpec)

/-- 'jobberlaw11.StopsCounts', WHERE WHAT IT READS IS OF BULK AT MOST 1048576: true; the input reads as it did. -/
def stopsCountsUptoRow : OpenClaim := { program := "ytlokkniepoeepaa", sum := "efcc681e7247e601961e623724b96ed75a265e872f8ceff9ff9173d35e756aec", func := "jobber/jobberlaw11.StopsCounts", spec := "stopsCounts", inPlace := ["slices.overlaps[*jobber/level.Level]"], unfollowed := true, recurses := true, apart := false, narrowed := true }
def StopsCountsUptoSaid : Prop := stopsCountsUptoRow.holds Try.pinned (OpenSpec.upto stopsCountsSpec)

/-- 'jobberlaw11.StopsQuiet', WHERE WHAT IT READS IS OF BULK AT MOST 1048576: true; the input reads as it did. -/
def stopsQuietUptoRow : OpenClaim := { program := "ytlokkniepoeepaa", sum := "efcc681e7247e601961e623724b96ed75a265e872f8ceff9ff9173d35e756aec", func := "jobber/jobberlaw11.StopsQuiet", spec := "stopsQuiet", inPlace := ["slices.overlaps[*jobber/level.Level]"], unfollowed := true, recurses := true, apart := false, narrowed := true }
def StopsQuietUptoSaid : Prop := stopsQuietUptoRow.holds Try.pinned (OpenSpec.upto stopsQuietSpec)

/-- 'jobberlaw11.StopsFind', WHERE WHAT IT READS IS OF BULK AT MOST 1048576: true; the input reads as it did. -/
def stopsFindUptoRow : OpenClaim := { program := "ytlokkniepoeepaa", sum := "efcc681e7247e601961e623724b96ed75a265e872f8ceff9ff9173d35e756aec", func := "jobber/jobberlaw11.StopsFind", spec := "stopsFind", inPlace := ["slices.overlaps[*jobber/level.Level]"], unfollowed := true, recurses := true, apart := false, narrowed := true }
def StopsFindUptoSaid : Prop := stopsFindUptoRow.holds Try.pinned (OpenSpec.upto stopsFindSpec)

end Rows
end Go.Proofs.Ytlokkniepoeepaa
