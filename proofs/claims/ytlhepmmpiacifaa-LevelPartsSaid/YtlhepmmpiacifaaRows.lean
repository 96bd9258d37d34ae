/-
  No cell of these rows narrows 'for every input' (looked for: loops, veiled, ifaces, maps, wideKeys, modest, calm, conditions, laid).
  DERIVED. THE GIVEN ROWS OF THIS SEAT. 28 by the template 'for every input the law returns true; each argument reads behind the call as it read before'; 0 by the template 'total and deterministic' (their statements: YtlhepmmpiacifaaTotals.lean).
  GIVEN WITH THE SEED: the statements are not yours to turn. If you find one false, say at which input.
  Laid BY PROGRAM, IN A SANDBOX (cutbox-rows.mjs): the forced cells as the released guide's own fill.sh prints them over the translation 2200b94fd42c4411… (all of the seat's roots in one cut). By AI agents, Wed Nov 11 2026. No macro, syntax, notation, axiom, sorry.
-/
import Derived.Test.YtlhepmmpiacifaaChecked
import GoSem.Claim
import GoSem.ClaimJoined
import GoSem.ClaimMapViews
import Derived.JoinedTies
import Derived.KernelRfl
namespace Go.Proofs.Ytlhepmmpiacifaa
/- THE CELL 'sum', in the pinned program and in every row, IS THE sha256 OF THE DUMP (.gsa) THAT YtlhepmmpiacifaaProg.lean LOADS. Nothing in Lean hashes anything: it is a label: what it is worth is what the hold of that sum in a sandbox is worth. -/
noncomputable def Try.pinned : Pinned := { name := "ytlhepmmpiacifaa", sum := "2200b94fd42c441107e86e90eac446290201d73ddf76a89952a162741ea08775", checked := Try.checked }
namespace Rows
def none {H : Type} : Left H := { results := [], args := [] }

/-- 'jobberlaw9.LevelRuns': WHATEVER THE INPUT: true; the input reads as it did. -/
def levelRunsSpec : ChangeSpec := { name := "levelRuns", fn := fun _ => fun
  | [] => { results := [.lit (.bool true)], args := [] }
  | _ => none }
def levelRunsRow : OpenClaim := { program := "ytlhepmmpiacifaa", sum := "2200b94fd42c441107e86e90eac446290201d73ddf76a89952a162741ea08775", func := "jobber/jobberlaw9.LevelRuns", spec := "levelRuns", plainKeys := false, apart := false }
def LevelRunsSaid : Prop := levelRunsRow.holds Try.pinned (OpenSpec.ofChange levelRunsSpec)

/-- ITS FALSE NEIGHBOUR: 'it returns false'. Refute it at one input. -/
def levelRunsWrong : ChangeSpec := { name := "levelRuns", fn := fun _ => fun
  | [] => { results := [.lit (.bool false)], args := [] }
  | _ => none }
def LevelRunsWrongFalsely : Prop := levelRunsRow.holds Try.pinned (OpenSpec.ofChange levelRunsWrong)

/-- 'jobberlaw9.LevelParts': WHATEVER THE INPUT: true; the input reads as it did. -/
def levelPartsSpec : ChangeSpec := { name := "levelParts", fn := fun _ => fun
  | [d1, d2, d3] => { results := [.lit (.bool true)], args := [d1, d2, d3] }
  | _ => none }
def levelPartsRow : OpenClaim := { program := "ytlhepmmpiacifaa", sum := "2200b94fd42c441107e86e90eac446290201d73ddf76a89952a162741ea08775", func := "jobber/jobberlaw9.LevelParts", spec := "levelParts", plainKeys := false, apart := false }
def LevelPartsSaid : Prop := levelPartsRow.holds Try.pinned (OpenSpec.ofChange levelPartsSpec)

/-- ITS FALSE NEIGHBOUR: 'it returns false'. Refute it at one input. -/
def levelPartsWrong : ChangeSpec := { name := "levelParts", fn := fun _ => fun
  | [d1, d2, d3] => { results := [.lit (.bool false)], args := [d1, d2, d3] }
  | _ => none }
def LevelPartsWrongFalsely : Prop := levelPartsRow.holds Try.pinned (OpenSpec.ofChange levelPartsWrong)

/-- 'jobberlaw9.LevelTakes': WHATEVER THE INPUT: true; the input reads as it did. -/
def levelTakesSpec : ChangeSpec := { name := "levelTakes", fn := fun _ => fun
  | [d1, d2, d3] => { results := [.lit (.bool true)], args := [d1, d2, d3] }
  | _ => none }
def levelTakesRow : OpenClaim := { program := "ytlhepmmpiacifaa", sum := "2200b94fd42c441107e86e90eac446290201d73ddf76a89952a162741ea08775", func := "jobber/jobberlaw9.LevelTakes", spec := "levelTakes", plainKeys := false, apart := false }
def LevelTakesSaid : Prop := levelTakesRow.holds Try.pinned (OpenSpec.ofChange levelTakesSpec)

/-- ITS FALSE NEIGHBOUR: 'it returns false'. Refute it at one input. -/
def levelTakesWrong : ChangeSpec := { name := "levelTakes", fn := fun _ => fun
  | [d1, d2, d3] => { results := [.lit (.bool false)], args := [d1, d2, d3] }
  | _ => none }
def LevelTakesWrongFalsely : Prop := levelTakesRow.holds Try.pinned (OpenSpec.ofChange levelTakesWrong)

/-- 'jobberlaw9.LevelFirst': WHATEVER THE INPUT: true; the input reads as it did. -/
def levelFirstSpec : ChangeSpec := { name := "levelFirst", fn := fun _ => fun
  | [d1, d2, d3] => { results := [.lit (.bool true)], args := [d1, d2, d3] }
  | _ => none }
def levelFirstRow : OpenClaim := { program := "ytlhepmmpiacifaa", sum := "2200b94fd42c441107e86e90eac446290201d73ddf76a89952a162741ea08775", func := "jobber/jobberlaw9.LevelFirst", spec := "levelFirst", unfollowed := true, recurses := true, plainKeys := false, apart := false }
def LevelFirstSaid : Prop := levelFirstRow.holds Try.pinned (OpenSpec.ofChange levelFirstSpec)

/-- ITS FALSE NEIGHBOUR: 'it returns false'. Refute it at one input. -/
def levelFirstWrong : ChangeSpec := { name := "levelFirst", fn := fun _ => fun
  | [d1, d2, d3] => { results := [.lit (.bool false)], args := [d1, d2, d3] }
  | _ => none }
def LevelFirstWrongFalsely : Prop := levelFirstRow.holds Try.pinned (OpenSpec.ofChange levelFirstWrong)

/-- 'jobberlaw9.LevelRemoves': WHATEVER THE INPUT: true; the input reads as it did. -/
def levelRemovesSpec : ChangeSpec := { name := "levelRemoves", fn := fun _ => fun
  | [d1, d2] => { results := [.lit (.bool true)], args := [d1, d2] }
  | _ => none }
def levelRemovesRow : OpenClaim := { program := "ytlhepmmpiacifaa", sum := "2200b94fd42c441107e86e90eac446290201d73ddf76a89952a162741ea08775", func := "jobber/jobberlaw9.LevelRemoves", spec := "levelRemoves", unfollowed := true, recurses := true, plainKeys := false, apart := false }
def LevelRemovesSaid : Prop := levelRemovesRow.holds Try.pinned (OpenSpec.ofChange levelRemovesSpec)

/-- ITS FALSE NEIGHBOUR: 'it returns false'. Refute it at one input. -/
def levelRemovesWrong : ChangeSpec := { name := "levelRemoves", fn := fun _ => fun
  | [d1, d2] => { results := [.lit (.bool false)], args := [d1, d2] }
  | _ => none }
def LevelRemovesWrongFalsely : Prop := levelRemovesRow.holds Try.pinned (OpenSpec.ofChange levelRemovesWrong)

/-- 'jobberlaw9.LevelPlays': WHATEVER THE INPUT: true; the input reads as it did. -/
def levelPlaysSpec : ChangeSpec := { name := "levelPlays", fn := fun _ => fun
  | [d] => { results := [.lit (.bool true)], args := [d] }
  | _ => none }
def levelPlaysRow : OpenClaim := { program := "ytlhepmmpiacifaa", sum := "2200b94fd42c441107e86e90eac446290201d73ddf76a89952a162741ea08775", func := "jobber/jobberlaw9.LevelPlays", spec := "levelPlays", unfollowed := true, recurses := true, plainKeys := false, apart := false }
def LevelPlaysSaid : Prop := levelPlaysRow.holds Try.pinned (OpenSpec.ofChange levelPlaysSpec)

/-- ITS FALSE NEIGHBOUR: 'it returns false'. Refute it at one input. -/
def levelPlaysWrong : ChangeSpec := { name := "levelPlays", fn := fun _ => fun
  | [d] => { results := [.lit (.bool false)], args := [d] }
  | _ => none }
def LevelPlaysWrongFalsely : Prop := levelPlaysRow.holds Try.pinned (OpenSpec.ofChange levelPlaysWrong)

/-- 'jobberlaw10.BookRuns': WHATEVER THE INPUT: true; the input reads as it did. -/
def bookRunsSpec : ChangeSpec := { name := "bookRuns", fn := fun _ => fun
  | [] => { results := [.lit (.bool true)], args := [] }
  | _ => none }
def bookRunsRow : OpenClaim := { program := "ytlhepmmpiacifaa", sum := "2200b94fd42c441107e86e90eac446290201d73ddf76a89952a162741ea08775", func := "jobber/jobberlaw10.BookRuns", spec := "bookRuns", inPlace := ["slices.overlaps[*jobber/level.Level]"], unfollowed := true, recurses := true, plainKeys := false, apart := false }
def BookRunsSaid : Prop := bookRunsRow.holds Try.pinned (OpenSpec.ofChange bookRunsSpec)

/-- ITS FALSE NEIGHBOUR: 'it returns false'. Refute it at one input. -/
def bookRunsWrong : ChangeSpec := { name := "bookRuns", fn := fun _ => fun
  | [] => { results := [.lit (.bool false)], args := [] }
  | _ => none }
def BookRunsWrongFalsely : Prop := bookRunsRow.holds Try.pinned (OpenSpec.ofChange bookRunsWrong)

/-- 'jobberlaw10.BookKinds': WHATEVER THE INPUT: true; the input reads as it did. -/
def bookKindsSpec : ChangeSpec := { name := "bookKinds", fn := fun _ => fun
  | [d1, d2] => { results := [.lit (.bool true)], args := [d1, d2] }
  | _ => none }
def bookKindsRow : OpenClaim := { program := "ytlhepmmpiacifaa", sum := "2200b94fd42c441107e86e90eac446290201d73ddf76a89952a162741ea08775", func := "jobber/jobberlaw10.BookKinds", spec := "bookKinds", inPlace := ["slices.overlaps[*jobber/level.Level]"], unfollowed := true, recurses := true, plainKeys := false, apart := false }
def BookKindsSaid : Prop := bookKindsRow.holds Try.pinned (OpenSpec.ofChange bookKindsSpec)

/-- ITS FALSE NEIGHBOUR: 'it returns false'. Refute it at one input. -/
def bookKindsWrong : ChangeSpec := { name := "bookKinds", fn := fun _ => fun
  | [d1, d2] => { results := [.lit (.bool false)], args := [d1, d2] }
  | _ => none }
def BookKindsWrongFalsely : Prop := bookKindsRow.holds Try.pinned (OpenSpec.ofChange bookKindsWrong)

/-- 'jobberlaw10.BookTime': WHATEVER THE INPUT: true; the input reads as it did. -/
def bookTimeSpec : ChangeSpec := { name := "bookTime", fn := fun _ => fun
  | [d1, d2] => { results := [.lit (.bool true)], args := [d1, d2] }
  | _ => none }
def bookTimeRow : OpenClaim := { program := "ytlhepmmpiacifaa", sum := "2200b94fd42c441107e86e90eac446290201d73ddf76a89952a162741ea08775", func := "jobber/jobberlaw10.BookTime", spec := "bookTime", inPlace := ["slices.overlaps[*jobber/level.Level]"], unfollowed := true, recurses := true, plainKeys := false, apart := false }
def BookTimeSaid : Prop := bookTimeRow.holds Try.pinned (OpenSpec.ofChange bookTimeSpec)

/-- ITS FALSE NEIGHBOUR: 'it returns false'. Refute it at one input. -/
def bookTimeWrong : ChangeSpec := { name := "bookTime", fn := fun _ => fun
  | [d1, d2] => { results := [.lit (.bool false)], args := [d1, d2] }
  | _ => none }
def BookTimeWrongFalsely : Prop := bookTimeRow.holds Try.pinned (OpenSpec.ofChange bookTimeWrong)

/-- 'jobberlaw10.BookUncrossed': WHATEVER THE INPUT: true; the input reads as it did. -/
def bookUncrossedSpec : ChangeSpec := { name := "bookUncrossed", fn := fun _ => fun
  | [d] => { results := [.lit (.bool true)], args := [d] }
  | _ => none }
def bookUncrossedRow : OpenClaim := { program := "ytlhepmmpiacifaa", sum := "2200b94fd42c441107e86e90eac446290201d73ddf76a89952a162741ea08775", func := "jobber/jobberlaw10.BookUncrossed", spec := "bookUncrossed", inPlace := ["slices.overlaps[*jobber/level.Level]"], unfollowed := true, recurses := true, plainKeys := false, apart := false }
def BookUncrossedSaid : Prop := bookUncrossedRow.holds Try.pinned (OpenSpec.ofChange bookUncrossedSpec)

/-- ITS FALSE NEIGHBOUR: 'it returns false'. Refute it at one input. -/
def bookUncrossedWrong : ChangeSpec := { name := "bookUncrossed", fn := fun _ => fun
  | [d] => { results := [.lit (.bool false)], args := [d] }
  | _ => none }
def BookUncrossedWrongFalsely : Prop := bookUncrossedRow.holds Try.pinned (OpenSpec.ofChange bookUncrossedWrong)

/-- 'jobberlaw10.BookCounts': WHATEVER THE INPUT: true; the input reads as it did. -/
def bookCountsSpec : ChangeSpec := { name := "bookCounts", fn := fun _ => fun
  | [d1, d2] => { results := [.lit (.bool true)], args := [d1, d2] }
  | _ => none }
def bookCountsRow : OpenClaim := { program := "ytlhepmmpiacifaa", sum := "2200b94fd42c441107e86e90eac446290201d73ddf76a89952a162741ea08775", func := "jobber/jobberlaw10.BookCounts", spec := "bookCounts", inPlace := ["slices.overlaps[*jobber/level.Level]"], unfollowed := true, recurses := true, plainKeys := false, apart := false }
def BookCountsSaid : Prop := bookCountsRow.holds Try.pinned (OpenSpec.ofChange bookCountsSpec)

/-- ITS FALSE NEIGHBOUR: 'it returns false'. Refute it at one input. -/
def bookCountsWrong : ChangeSpec := { name := "bookCounts", fn := fun _ => fun
  | [d1, d2] => { results := [.lit (.bool false)], args := [d1, d2] }
  | _ => none }
def BookCountsWrongFalsely : Prop := bookCountsRow.holds Try.pinned (OpenSpec.ofChange bookCountsWrong)

/-- 'jobberlaw10.BookBest': WHATEVER THE INPUT: true; the input reads as it did. -/
def bookBestSpec : ChangeSpec := { name := "bookBest", fn := fun _ => fun
  | [d1, d2] => { results := [.lit (.bool true)], args := [d1, d2] }
  | _ => none }
def bookBestRow : OpenClaim := { program := "ytlhepmmpiacifaa", sum := "2200b94fd42c441107e86e90eac446290201d73ddf76a89952a162741ea08775", func := "jobber/jobberlaw10.BookBest", spec := "bookBest", inPlace := ["slices.overlaps[*jobber/level.Level]"], unfollowed := true, recurses := true, plainKeys := false, apart := false }
def BookBestSaid : Prop := bookBestRow.holds Try.pinned (OpenSpec.ofChange bookBestSpec)

/-- ITS FALSE NEIGHBOUR: 'it returns false'. Refute it at one input. -/
def bookBestWrong : ChangeSpec := { name := "bookBest", fn := fun _ => fun
  | [d1, d2] => { results := [.lit (.bool false)], args := [d1, d2] }
  | _ => none }
def BookBestWrongFalsely : Prop := bookBestRow.holds Try.pinned (OpenSpec.ofChange bookBestWrong)

/-- 'jobberlaw10.BookFok': WHATEVER THE INPUT: true; the input reads as it did. -/
def bookFokSpec : ChangeSpec := { name := "bookFok", fn := fun _ => fun
  | [d1, d2] => { results := [.lit (.bool true)], args := [d1, d2] }
  | _ => none }
def bookFokRow : OpenClaim := { program := "ytlhepmmpiacifaa", sum := "2200b94fd42c441107e86e90eac446290201d73ddf76a89952a162741ea08775", func := "jobber/jobberlaw10.BookFok", spec := "bookFok", inPlace := ["slices.overlaps[*jobber/level.Level]"], unfollowed := true, recurses := true, plainKeys := false, apart := false }
def BookFokSaid : Prop := bookFokRow.holds Try.pinned (OpenSpec.ofChange bookFokSpec)

/-- ITS FALSE NEIGHBOUR: 'it returns false'. Refute it at one input. -/
def bookFokWrong : ChangeSpec := { name := "bookFok", fn := fun _ => fun
  | [d1, d2] => { results := [.lit (.bool false)], args := [d1, d2] }
  | _ => none }
def BookFokWrongFalsely : Prop := bookFokRow.holds Try.pinned (OpenSpec.ofChange bookFokWrong)

/-- 'jobberlaw10.BookDepth': WHATEVER THE INPUT: true; the input reads as it did. -/
def bookDepthSpec : ChangeSpec := { name := "bookDepth", fn := fun _ => fun
  | [d] => { results := [.lit (.bool true)], args := [d] }
  | _ => none }
def bookDepthRow : OpenClaim := { program := "ytlhepmmpiacifaa", sum := "2200b94fd42c441107e86e90eac446290201d73ddf76a89952a162741ea08775", func := "jobber/jobberlaw10.BookDepth", spec := "bookDepth", inPlace := ["slices.overlaps[*jobber/level.Level]"], unfollowed := true, recurses := true, plainKeys := false, apart := false }
def BookDepthSaid : Prop := bookDepthRow.holds Try.pinned (OpenSpec.ofChange bookDepthSpec)

/-- ITS FALSE NEIGHBOUR: 'it returns false'. Refute it at one input. -/
def bookDepthWrong : ChangeSpec := { name := "bookDepth", fn := fun _ => fun
  | [d] => { results := [.lit (.bool false)], args := [d] }
  | _ => none }
def BookDepthWrongFalsely : Prop := bookDepthRow.holds Try.pinned (OpenSpec.ofChange bookDepthWrong)

/-- 'jobberlaw10.BookBack': WHATEVER THE INPUT: true; the input reads as it did. -/
def bookBackSpec : ChangeSpec := { name := "bookBack", fn := fun _ => fun
  | [d1, d2] => { results := [.lit (.bool true)], args := [d1, d2] }
  | _ => none }
def bookBackRow : OpenClaim := { program := "ytlhepmmpiacifaa", sum := "2200b94fd42c441107e86e90eac446290201d73ddf76a89952a162741ea08775", func := "jobber/jobberlaw10.BookBack", spec := "bookBack", inPlace := ["slices.overlaps[*jobber/level.Level]"], unfollowed := true, recurses := true, plainKeys := false, apart := false }
def BookBackSaid : Prop := bookBackRow.holds Try.pinned (OpenSpec.ofChange bookBackSpec)

/-- ITS FALSE NEIGHBOUR: 'it returns false'. Refute it at one input. -/
def bookBackWrong : ChangeSpec := { name := "bookBack", fn := fun _ => fun
  | [d1, d2] => { results := [.lit (.bool false)], args := [d1, d2] }
  | _ => none }
def BookBackWrongFalsely : Prop := bookBackRow.holds Try.pinned (OpenSpec.ofChange bookBackWrong)

/-- 'jobberlaw10.BookIoc': WHATEVER THE INPUT: true; the input reads as it did. -/
def bookIocSpec : ChangeSpec := { name := "bookIoc", fn := fun _ => fun
  | [d1, d2] => { results := [.lit (.bool true)], args := [d1, d2] }
  | _ => none }
def bookIocRow : OpenClaim := { program := "ytlhepmmpiacifaa", sum := "2200b94fd42c441107e86e90eac446290201d73ddf76a89952a162741ea08775", func := "jobber/jobberlaw10.BookIoc", spec := "bookIoc", inPlace := ["slices.overlaps[*jobber/level.Level]"], unfollowed := true, recurses := true, plainKeys := false, apart := false }
def BookIocSaid : Prop := bookIocRow.holds Try.pinned (OpenSpec.ofChange bookIocSpec)

/-- ITS FALSE NEIGHBOUR: 'it returns false'. Refute it at one input. -/
def bookIocWrong : ChangeSpec := { name := "bookIoc", fn := fun _ => fun
  | [d1, d2] => { results := [.lit (.bool false)], args := [d1, d2] }
  | _ => none }
def BookIocWrongFalsely : Prop := bookIocRow.holds Try.pinned (OpenSpec.ofChange bookIocWrong)

/-- 'jobberlaw11.StopsRuns': WHATEVER THE INPUT: true; the input reads as it did. -/
def stopsRunsSpec : ChangeSpec := { name := "stopsRuns", fn := fun _ => fun
  | [] => { results := [.lit (.bool true)], args := [] }
  | _ => none }
def stopsRunsRow : OpenClaim := { program := "ytlhepmmpiacifaa", sum := "2200b94fd42c441107e86e90eac446290201d73ddf76a89952a162741ea08775", func := "jobber/jobberlaw11.StopsRuns", spec := "stopsRuns", inPlace := ["slices.overlaps[*jobber/level.Level]"], unfollowed := true, recurses := true, plainKeys := false, apart := false }
def StopsRunsSaid : Prop := stopsRunsRow.holds Try.pinned (OpenSpec.ofChange stopsRunsSpec)

/-- ITS FALSE NEIGHBOUR: 'it returns false'. Refute it at one input. -/
def stopsRunsWrong : ChangeSpec := { name := "stopsRuns", fn := fun _ => fun
  | [] => { results := [.lit (.bool false)], args := [] }
  | _ => none }
def StopsRunsWrongFalsely : Prop := stopsRunsRow.holds Try.pinned (OpenSpec.ofChange stopsRunsWrong)

/-- 'jobberlaw11.StopsTurn': WHATEVER THE INPUT: true; the input reads as it did. -/
def stopsTurnSpec : ChangeSpec := { name := "stopsTurn", fn := fun _ => fun
  | [d1, d2] => { results := [.lit (.bool true)], args := [d1, d2] }
  | _ => none }
def stopsTurnRow : OpenClaim := { program := "ytlhepmmpiacifaa", sum := "2200b94fd42c441107e86e90eac446290201d73ddf76a89952a162741ea08775", func := "jobber/jobberlaw11.StopsTurn", spec := "stopsTurn", inPlace := ["slices.overlaps[*jobber/level.Level]"], unfollowed := true, recurses := true, plainKeys := false, apart := false }
def StopsTurnSaid : Prop := stopsTurnRow.holds Try.pinned (OpenSpec.ofChange stopsTurnSpec)

/-- ITS FALSE NEIGHBOUR: 'it returns false'. Refute it at one input. -/
def stopsTurnWrong : ChangeSpec := { name := "stopsTurn", fn := fun _ => fun
  | [d1, d2] => { results := [.lit (.bool false)], args := [d1, d2] }
  | _ => none }
def StopsTurnWrongFalsely : Prop := stopsTurnRow.holds Try.pinned (OpenSpec.ofChange stopsTurnWrong)

/-- 'jobberlaw11.StopsPlain': WHATEVER THE INPUT: true; the input reads as it did. -/
def stopsPlainSpec : ChangeSpec := { name := "stopsPlain", fn := fun _ => fun
  | [d] => { results := [.lit (.bool true)], args := [d] }
  | _ => none }
def stopsPlainRow : OpenClaim := { program := "ytlhepmmpiacifaa", sum := "2200b94fd42c441107e86e90eac446290201d73ddf76a89952a162741ea08775", func := "jobber/jobberlaw11.StopsPlain", spec := "stopsPlain", inPlace := ["slices.overlaps[*jobber/level.Level]"], unfollowed := true, recurses := true, plainKeys := false, apart := false }
def StopsPlainSaid : Prop := stopsPlainRow.holds Try.pinned (OpenSpec.ofChange stopsPlainSpec)

/-- ITS FALSE NEIGHBOUR: 'it returns false'. Refute it at one input. -/
def stopsPlainWrong : ChangeSpec := { name := "stopsPlain", fn := fun _ => fun
  | [d] => { results := [.lit (.bool false)], args := [d] }
  | _ => none }
def StopsPlainWrongFalsely : Prop := stopsPlainRow.holds Try.pinned (OpenSpec.ofChange stopsPlainWrong)

/-- 'jobberlaw11.StopsCounts': WHATEVER THE INPUT: true; the input reads as it did. -/
def stopsCountsSpec : ChangeSpec := { name := "stopsCounts", fn := fun _ => fun
  | [d] => { results := [.lit (.bool true)], args := [d] }
  | _ => none }
def stopsCountsRow : OpenClaim := { program := "ytlhepmmpiacifaa", sum := "2200b94fd42c441107e86e90eac446290201d73ddf76a89952a162741ea08775", func := "jobber/jobberlaw11.StopsCounts", spec := "stopsCounts", inPlace := ["slices.overlaps[*jobber/level.Level]"], unfollowed := true, recurses := true, plainKeys := false, apart := false }
def StopsCountsSaid : Prop := stopsCountsRow.holds Try.pinned (OpenSpec.ofChange stopsCountsSpec)

/-- ITS FALSE NEIGHBOUR: 'it returns false'. Refute it at one input. -/
def stopsCountsWrong : ChangeSpec := { name := "stopsCounts", fn := fun _ => fun
  | [d] => { results := [.lit (.bool false)], args := [d] }
  | _ => none }
def StopsCountsWrongFalsely : Prop := stopsCountsRow.holds Try.pinned (OpenSpec.ofChange stopsCountsWrong)

/-- 'jobberlaw11.StopsQuiet': WHATEVER THE INPUT: true; the input reads as it did. -/
def stopsQuietSpec : ChangeSpec := { name := "stopsQuiet", fn := fun _ => fun
  | [d] => { results := [.lit (.bool true)], args := [d] }
  | _ => none }
def stopsQuietRow : OpenClaim := { program := "ytlhepmmpiacifaa", sum := "2200b94fd42c441107e86e90eac446290201d73ddf76a89952a162741ea08775", func := "jobber/jobberlaw11.StopsQuiet", spec := "stopsQuiet", inPlace := ["slices.overlaps[*jobber/level.Level]"], unfollowed := true, recurses := true, plainKeys := false, apart := false }
def StopsQuietSaid : Prop := stopsQuietRow.holds Try.pinned (OpenSpec.ofChange stopsQuietSpec)

/-- ITS FALSE NEIGHBOUR: 'it returns false'. Refute it at one input. -/
def stopsQuietWrong : ChangeSpec := { name := "stopsQuiet", fn := fun _ => fun
  | [d] => { results := [.lit (.bool false)], args := [d] }
  | _ => none }
def StopsQuietWrongFalsely : Prop := stopsQuietRow.holds Try.pinned (OpenSpec.ofChange stopsQuietWrong)

/-- 'jobberlaw12.ChangeRuns': WHATEVER THE INPUT: true; the input reads as it did. -/
def changeRunsSpec : ChangeSpec := { name := "changeRuns", fn := fun _ => fun
  | [] => { results := [.lit (.bool true)], args := [] }
  | _ => none }
def changeRunsRow : OpenClaim := { program := "ytlhepmmpiacifaa", sum := "2200b94fd42c441107e86e90eac446290201d73ddf76a89952a162741ea08775", func := "jobber/jobberlaw12.ChangeRuns", spec := "changeRuns", inPlace := ["slices.overlaps[*jobber/level.Level]"], unfollowed := true, recurses := true, plainKeys := false, apart := false }
def ChangeRunsSaid : Prop := changeRunsRow.holds Try.pinned (OpenSpec.ofChange changeRunsSpec)

/-- ITS FALSE NEIGHBOUR: 'it returns false'. Refute it at one input. -/
def changeRunsWrong : ChangeSpec := { name := "changeRuns", fn := fun _ => fun
  | [] => { results := [.lit (.bool false)], args := [] }
  | _ => none }
def ChangeRunsWrongFalsely : Prop := changeRunsRow.holds Try.pinned (OpenSpec.ofChange changeRunsWrong)

/-- 'jobberlaw11.StopsFind': WHATEVER THE INPUT: true; the input reads as it did. -/
def stopsFindSpec : ChangeSpec := { name := "stopsFind", fn := fun _ => fun
  | [d1, d2] => { results := [.lit (.bool true)], args := [d1, d2] }
  | _ => none }
def stopsFindRow : OpenClaim := { program := "ytlhepmmpiacifaa", sum := "2200b94fd42c441107e86e90eac446290201d73ddf76a89952a162741ea08775", func := "jobber/jobberlaw11.StopsFind", spec := "stopsFind", inPlace := ["slices.overlaps[*jobber/level.Level]"], unfollowed := true, recurses := true, plainKeys := false, apart := false }
def StopsFindSaid : Prop := stopsFindRow.holds Try.pinned (OpenSpec.ofChange stopsFindSpec)

/-- ITS FALSE NEIGHBOUR: 'it returns false'. Refute it at one input. -/
def stopsFindWrong : ChangeSpec := { name := "stopsFind", fn := fun _ => fun
  | [d1, d2] => { results := [.lit (.bool false)], args := [d1, d2] }
  | _ => none }
def StopsFindWrongFalsely : Prop := stopsFindRow.holds Try.pinned (OpenSpec.ofChange stopsFindWrong)

/-- 'jobberlaw12.ChangeNone': WHATEVER THE INPUT: true; the input reads as it did. -/
def changeNoneSpec : ChangeSpec := { name := "changeNone", fn := fun _ => fun
  | [d1, d2, d3, d4, d5] => { results := [.lit (.bool true)], args := [d1, d2, d3, d4, d5] }
  | _ => none }
def changeNoneRow : OpenClaim := { program := "ytlhepmmpiacifaa", sum := "2200b94fd42c441107e86e90eac446290201d73ddf76a89952a162741ea08775", func := "jobber/jobberlaw12.ChangeNone", spec := "changeNone", inPlace := ["slices.overlaps[*jobber/level.Level]"], unfollowed := true, recurses := true, plainKeys := false, apart := false }
def ChangeNoneSaid : Prop := changeNoneRow.holds Try.pinned (OpenSpec.ofChange changeNoneSpec)

/-- ITS FALSE NEIGHBOUR: 'it returns false'. Refute it at one input. -/
def changeNoneWrong : ChangeSpec := { name := "changeNone", fn := fun _ => fun
  | [d1, d2, d3, d4, d5] => { results := [.lit (.bool false)], args := [d1, d2, d3, d4, d5] }
  | _ => none }
def ChangeNoneWrongFalsely : Prop := changeNoneRow.holds Try.pinned (OpenSpec.ofChange changeNoneWrong)

/-- 'jobberlaw12.ChangeTwin': WHATEVER THE INPUT: true; the input reads as it did. -/
def changeTwinSpec : ChangeSpec := { name := "changeTwin", fn := fun _ => fun
  | [d1, d2, d3] => { results := [.lit (.bool true)], args := [d1, d2, d3] }
  | _ => none }
def changeTwinRow : OpenClaim := { program := "ytlhepmmpiacifaa", sum := "2200b94fd42c441107e86e90eac446290201d73ddf76a89952a162741ea08775", func := "jobber/jobberlaw12.ChangeTwin", spec := "changeTwin", inPlace := ["slices.overlaps[*jobber/level.Level]"], unfollowed := true, recurses := true, plainKeys := false, apart := false }
def ChangeTwinSaid : Prop := changeTwinRow.holds Try.pinned (OpenSpec.ofChange changeTwinSpec)

/-- ITS FALSE NEIGHBOUR: 'it returns false'. Refute it at one input. -/
def changeTwinWrong : ChangeSpec := { name := "changeTwin", fn := fun _ => fun
  | [d1, d2, d3] => { results := [.lit (.bool false)], args := [d1, d2, d3] }
  | _ => none }
def ChangeTwinWrongFalsely : Prop := changeTwinRow.holds Try.pinned (OpenSpec.ofChange changeTwinWrong)

/-- 'jobberlaw12.ChangeBehind': WHATEVER THE INPUT: true; the input reads as it did. -/
def changeBehindSpec : ChangeSpec := { name := "changeBehind", fn := fun _ => fun
  | [d1, d2, d3] => { results := [.lit (.bool true)], args := [d1, d2, d3] }
  | _ => none }
def changeBehindRow : OpenClaim := { program := "ytlhepmmpiacifaa", sum := "2200b94fd42c441107e86e90eac446290201d73ddf76a89952a162741ea08775", func := "jobber/jobberlaw12.ChangeBehind", spec := "changeBehind", inPlace := ["slices.overlaps[*jobber/level.Level]"], unfollowed := true, recurses := true, plainKeys := false, apart := false }
def ChangeBehindSaid : Prop := changeBehindRow.holds Try.pinned (OpenSpec.ofChange changeBehindSpec)

/-- ITS FALSE NEIGHBOUR: 'it returns false'. Refute it at one input. -/
def changeBehindWrong : ChangeSpec := { name := "changeBehind", fn := fun _ => fun
  | [d1, d2, d3] => { results := [.lit (.bool false)], args := [d1, d2, d3] }
  | _ => none }
def ChangeBehindWrongFalsely : Prop := changeBehindRow.holds Try.pinned (OpenSpec.ofChange changeBehindWrong)

/-- 'jobberlaw12.ChangeLess': WHATEVER THE INPUT: true; the input reads as it did. -/
def changeLessSpec : ChangeSpec := { name := "changeLess", fn := fun _ => fun
  | [d1, d2, d3] => { results := [.lit (.bool true)], args := [d1, d2, d3] }
  | _ => none }
def changeLessRow : OpenClaim := { program := "ytlhepmmpiacifaa", sum := "2200b94fd42c441107e86e90eac446290201d73ddf76a89952a162741ea08775", func := "jobber/jobberlaw12.ChangeLess", spec := "changeLess", inPlace := ["slices.overlaps[*jobber/level.Level]"], unfollowed := true, recurses := true, plainKeys := false, apart := false }
def ChangeLessSaid : Prop := changeLessRow.holds Try.pinned (OpenSpec.ofChange changeLessSpec)

/-- ITS FALSE NEIGHBOUR: 'it returns false'. Refute it at one input. -/
def changeLessWrong : ChangeSpec := { name := "changeLess", fn := fun _ => fun
  | [d1, d2, d3] => { results := [.lit (.bool false)], args := [d1, d2, d3] }
  | _ => none }
def ChangeLessWrongFalsely : Prop := changeLessRow.holds Try.pinned (OpenSpec.ofChange changeLessWrong)

/-- 'jobberlaw12.ChangeMass': WHATEVER THE INPUT: true; the input reads as it did. -/
def changeMassSpec : ChangeSpec := { name := "changeMass", fn := fun _ => fun
  | [d1, d2] => { results := [.lit (.bool true)], args := [d1, d2] }
  | _ => none }
def changeMassRow : OpenClaim := { program := "ytlhepmmpiacifaa", sum := "2200b94fd42c441107e86e90eac446290201d73ddf76a89952a162741ea08775", func := "jobber/jobberlaw12.ChangeMass", spec := "changeMass", inPlace := ["slices.overlaps[*jobber/level.Level]"], unfollowed := true, recurses := true, plainKeys := false, apart := false }
def ChangeMassSaid : Prop := changeMassRow.holds Try.pinned (OpenSpec.ofChange changeMassSpec)

/-- ITS FALSE NEIGHBOUR: 'it returns false'. Refute it at one input. -/
def changeMassWrong : ChangeSpec := { name := "changeMass", fn := fun _ => fun
  | [d1, d2] => { results := [.lit (.bool false)], args := [d1, d2] }
  | _ => none }
def ChangeMassWrongFalsely : Prop := changeMassRow.holds Try.pinned (OpenSpec.ofChange changeMassWrong)

/- THE SECOND FORM. 'bulk': how many values and letters a reading holds, each counted each time it is reached (what is shared counts as often as it is met; a slice's spare places count too). A statement '..UptoSaid' is the law's where the arguments, and the package variables that the reading takes, are together of bulk at most 1048576: NARROWER than '..Said'. Prove '..Said' where nothing that the law and all that it calls make is longer than what came in: it says more and counts as full. Else prove '..UptoSaid'. A law counts once. -/
mutual
def uptoBulk {H : Type} : DataW H → Nat
  | .lit (.string bytes) => bytes.length + 1
  | .lit _ => 1
  | .nil => 1
  | .ptr d => uptoBulk d + 1
  | .slice elems spare => uptoBulkAll elems + uptoBulkAll spare + 1
  | .agg parts => uptoBulkAll parts + 1
  | .iface _ d => uptoBulk d + 1
  | .map entries => uptoBulkEntries entries + 1
  | .held _ => 1
def uptoBulkAll {H : Type} : List (DataW H) → Nat
  | [] => 0
  | d :: r => uptoBulk d + uptoBulkAll r
def uptoBulkEntries {H : Type} : List (Lit × DataW H) → Nat
  | [] => 0
  | x :: r => uptoBulkEntry x + uptoBulkEntries r
def uptoBulkEntry {H : Type} : Lit × DataW H → Nat
  | (.string bytes, d) => bytes.length + uptoBulk d + 1
  | (_, d) => uptoBulk d + 1
 end
def uptoSmall : (H : Type) → List (DataW H) → Bool := fun _ ds => decide (uptoBulkAll ds ≤ 1048576)
def OpenSpec.upto (s : _root_.Go.ChangeSpec) : _root_.Go.OpenSpec := { _root_.Go.OpenSpec.ofChange s with cond := some uptoSmall }

/-- 'jobberlaw9.LevelRuns', WHERE WHAT IT READS IS OF BULK AT MOST 1048576: true; the input reads as it did. -/
def levelRunsUptoRow : OpenClaim := { program := "ytlhepmmpiacifaa", sum := "2200b94fd42c441107e86e90eac446290201d73ddf76a89952a162741ea08775", func := "jobber/jobberlaw9.LevelRuns", spec := "levelRuns", plainKeys := false, apart := false, narrowed := true }
def LevelRunsUptoSaid : Prop := levelRunsUptoRow.holds Try.pinned (OpenSpec.upto levelRunsSpec)

/-- 'jobberlaw9.LevelParts', WHERE WHAT IT READS IS OF BULK AT MOST 1048576: true; the input reads as it did. -/
def levelPartsUptoRow : OpenClaim := { program := "ytlhepmmpiacifaa", sum := "2200b94fd42c441107e86e90eac446290201d73ddf76a89952a162741ea08775", func := "jobber/jobberlaw9.LevelParts", spec := "levelParts", plainKeys := false, apart := false, narrowed := true }
def LevelPartsUptoSaid : Prop := levelPartsUptoRow.holds Try.pinned (OpenSpec.upto levelPartsSpec)

/-- 'jobberlaw9.LevelTakes', WHERE WHAT IT READS IS OF BULK AT MOST 1048576: true; the input reads as it did. -/
def levelTakesUptoRow : OpenClaim := { program := "ytlhepmmpiacifaa", sum := "2200b94fd42c441107e86e90eac446290201d73ddf76a89952a162741ea08775", func := "jobber/jobberlaw9.LevelTakes", spec := "levelTakes", plainKeys := false, apart := false, narrowed := true }
def LevelTakesUptoSaid : Prop := levelTakesUptoRow.holds Try.pinned (OpenSpec.upto levelTakesSpec)

/-- 'jobberlaw9.LevelFirst', WHERE WHAT IT READS IS OF BULK AT MOST 1048576: true; the input reads as it did. -/
def levelFirstUptoRow : OpenClaim := { program := "ytlhepmmpiacifaa", sum := "2200b94fd42c441107e86e90eac446290201d73ddf76a89952a162741ea08775", func := "jobber/jobberlaw9.LevelFirst", spec := "levelFirst", unfollowed := true, recurses := true, plainKeys := false, apart := false, narrowed := true }
def LevelFirstUptoSaid : Prop := levelFirstUptoRow.holds Try.pinned (OpenSpec.upto levelFirstSpec)

/-- 'jobberlaw9.LevelRemoves', WHERE WHAT IT READS IS OF BULK AT MOST 1048576: true; the input reads as it did. -/
def levelRemovesUptoRow : OpenClaim := { program := "ytlhepmmpiacifaa", sum := "2200b94fd42c441107e86e90eac446290201d73ddf76a89952a162741ea08775", func := "jobber/jobberlaw9.LevelRemoves", spec := "levelRemoves", unfollowed := true, recurses := true, plainKeys := false, apart := false, narrowed := true }
def LevelRemovesUptoSaid : Prop := levelRemovesUptoRow.holds Try.pinned (OpenSpec.upto levelRemovesSpec)

/-- 'jobberlaw9.LevelPlays', WHERE WHAT IT READS IS OF BULK AT MOST 1048576: true; the input reads as it did. -/
def levelPlaysUptoRow : OpenClaim := { program := "ytlhepmmpiacifaa", sum := "2200b94fd42c441107e86e90eac446290201d73ddf76a89952a162741ea08775", func := "jobber/jobberlaw9.LevelPlays", spec := "levelPlays", unfollowed := true, recurses := true, plainKeys := false, apart := false, narrowed := true }
def LevelPlaysUptoSaid : Prop := levelPlaysUptoRow.holds Try.pinned (OpenSpec.upto levelPlaysSpec)

/-- 'jobberlaw10.BookRuns', WHERE WHAT IT READS IS OF BULK AT MOST 1048576: true; the input reads as it did. -/
def bookRunsUptoRow : OpenClaim := { program := "ytlhepmmpiacifaa", sum := "2200b94fd42c441107e86e90eac446290201d73ddf76a89952a162741ea08775", func := "jobber/jobberlaw10.BookRuns", spec := "bookRuns", inPlace := ["slices.overlaps[*jobber/level.Level]"], unfollowed := true, recurses := true, plainKeys := false, apart := false, narrowed := true }
def BookRunsUptoSaid : Prop := bookRunsUptoRow.holds Try.pinned (OpenSpec.upto bookRunsSpec)

/-- 'jobberlaw10.BookKinds', WHERE WHAT IT READS IS OF BULK AT MOST 1048576: true; the input reads as it did. -/
def bookKindsUptoRow : OpenClaim := { program := "ytlhepmmpiacifaa", sum := "2200b94fd42c441107e86e90eac446290201d73ddf76a89952a162741ea08775", func := "jobber/jobberlaw10.BookKinds", spec := "bookKinds", inPlace := ["slices.overlaps[*jobber/level.Level]"], unfollowed := true, recurses := true, plainKeys := false, apart := false, narrowed := true }
def BookKindsUptoSaid : Prop := bookKindsUptoRow.holds Try.pinned (OpenSpec.upto bookKindsSpec)

/-- 'jobberlaw10.BookTime', WHERE WHAT IT READS IS OF BULK AT MOST 1048576: true; the input reads as it did. -/
def bookTimeUptoRow : OpenClaim := { program := "ytlhepmmpiacifaa", sum := "2200b94fd42c441107e86e90eac446290201d73ddf76a89952a162741ea08775", func := "jobber/jobberlaw10.BookTime", spec := "bookTime", inPlace := ["slices.overlaps[*jobber/level.Level]"], unfollowed := true, recurses := true, plainKeys := false, apart := false, narrowed := true }
def BookTimeUptoSaid : Prop := bookTimeUptoRow.holds Try.pinned (OpenSpec.upto bookTimeSpec)

/-- 'jobberlaw10.BookUncrossed', WHERE WHAT IT READS IS OF BULK AT MOST 1048576: true; the input reads as it did. -/
def bookUncrossedUptoRow : OpenClaim := { program := "ytlhepmmpiacifaa", sum := "2200b94fd42c441107e86e90eac446290201d73ddf76a89952a162741ea08775", func := "jobber/jobberlaw10.BookUncrossed", spec := "bookUncrossed", inPlace := ["slices.overlaps[*jobber/level.Level]"], unfollowed := true, recurses := true, plainKeys := false, apart := false, narrowed := true }
def BookUncrossedUptoSaid : Prop := bookUncrossedUptoRow.holds Try.pinned (OpenSpec.upto bookUncrossedSpec)

/-- 'jobberlaw10.BookCounts', WHERE WHAT IT READS IS OF BULK AT MOST 1048576: true; the input reads as it did. -/
def bookCountsUptoRow : OpenClaim := { program := "ytlhepmmpiacifaa", sum := "2200b94fd42c441107e86e90eac446290201d73ddf76a89952a162741ea08775", func := "jobber/jobberlaw10.BookCounts", spec := "bookCounts", inPlace := ["slices.overlaps[*jobber/level.Level]"], unfollowed := true, recurses := true, plainKeys := false, apart := false, narrowed := true }
def BookCountsUptoSaid : Prop := bookCountsUptoRow.holds Try.pinned (OpenSpec.upto bookCountsSpec)

/-- 'jobberlaw10.BookBest', WHERE WHAT IT READS IS OF BULK AT MOST 1048576: true; the input reads as it did. -/
def bookBestUptoRow : OpenClaim := { program := "ytlhepmmpiacifaa", sum := "2200b94fd42c441107e86e90eac446290201d73ddf76a89952a162741ea08775", func := "jobber/jobberlaw10.BookBest", spec := "bookBest", inPlace := ["slices.overlaps[*jobber/level.Level]"], unfollowed := true, recurses := true, plainKeys := false, apart := false, narrowed := true }
def BookBestUptoSaid : Prop := bookBestUptoRow.holds Try.pinned (OpenSpec.upto bookBestSpec)

/-- 'jobberlaw10.BookFok', WHERE WHAT IT READS IS OF BULK AT MOST 1048576: true; the input reads as it did. -/
def bookFokUptoRow : OpenClaim := { program := "ytlhepmmpiacifaa", sum := "2200b94fd42c441107e86e90eac446290201d73ddf76a89952a162741ea08775", func := "jobber/jobberlaw10.BookFok", spec := "bookFok", inPlace := ["slices.overlaps[*jobber/level.Level]"], unfollowed := true, recurses := true, plainKeys := false, apart := false, narrowed := true }
def BookFokUptoSaid : Prop := bookFokUptoRow.holds Try.pinned (OpenSpec.upto bookFokSpec)

/-- 'jobberlaw10.BookDepth', WHERE WHAT IT READS IS OF BULK AT MOST 1048576: true; the input reads as it did. -/
def bookDepthUptoRow : OpenClaim := { program := "ytlhepmmpiacifaa", sum := "2200b94fd42c441107e86e90eac446290201d73ddf76a89952a162741ea08775", func := "jobber/jobberlaw10.BookDepth", spec := "bookDepth", inPlace := ["slices.overlaps[*jobber/level.Level]"], unfollowed := true, recurses := true, plainKeys := false, apart := false, narrowed := true }
def BookDepthUptoSaid : Prop := bookDepthUptoRow.holds Try.pinned (OpenSpec.upto bookDepthSpec)

/-- 'jobberlaw10.BookBack', WHERE WHAT IT READS IS OF BULK AT MOST 1048576: true; the input reads as it did. -/
def bookBackUptoRow : OpenClaim := { program := "ytlhepmmpiacifaa", sum := "2200b94fd42c441107e86e90eac446290201d73ddf76a89952a162741ea08775", func := "jobber/jobberlaw10.BookBack", spec := "bookBack", inPlace := ["slices.overlaps[*jobber/level.Level]"], unfollowed := true, recurses := true, plainKeys := false, apart := false, narrowed := true }
def BookBackUptoSaid : Prop := bookBackUptoRow.holds Try.pinned (OpenSpec.upto bookBackSpec)

/-- 'jobberlaw10.BookIoc', WHERE WHAT IT READS IS OF BULK AT MOST 1048576: true; the input reads as it did. -/
def bookIocUptoRow : OpenClaim := { program := "ytlhepmmpiacifaa", sum := "2200b94fd42c441107e86e90eac446290201d73ddf76a89952a162741ea08775", func := "jobber/jobberlaw10.BookIoc", spec := "bookIoc", inPlace := ["slices.overlaps[*jobber/level.Level]"], unfollowed := true, recurses := true, plainKeys := false, apart := false, narrowed := true }
def BookIocUptoSaid : Prop := bookIocUptoRow.holds Try.pinned (OpenSpec.upto bookIocSpec)

/-- 'jobberlaw11.StopsRuns', WHERE WHAT IT READS IS OF BULK AT MOST 1048576: true; the input reads as it did. -/
def stopsRunsUptoRow : OpenClaim := { program := "ytlhepmmpiacifaa", sum := "2200b94fd42c441107e86e90eac446290201d73ddf76a89952a162741ea08775", func := "jobber/jobberlaw11.StopsRuns", spec := "stopsRuns", inPlace := ["slices.overlaps[*jobber/level.Level]"], unfollowed := true, recurses := true, plainKeys := false, apart := false, narrowed := true }
def StopsRunsUptoSaid : Prop := stopsRunsUptoRow.holds Try.pinned (OpenSpec.upto stopsRunsSpec)

/-- 'jobberlaw11.StopsTurn', WHERE WHAT IT READS IS OF BULK AT MOST 1048576: true; the input reads as it did. -/
def stopsTurnUptoRow : OpenClaim := { program := "ytlhepmmpiacifaa", sum := "2200b94fd42c441107e86e90eac446290201d73ddf76a89952a162741ea08775", func := "jobber/jobberlaw11.StopsTurn", spec := "stopsTurn", inPlace := ["slices.overlaps[*jobber/level.Level]"], unfollowed := true, recurses := true, plainKeys := false, apart := false, narrowed := true }
def StopsTurnUptoSaid : Prop := stopsTurnUptoRow.holds Try.pinned (OpenSpec.upto stopsTurnSpec)

/-- 'jobberlaw11.StopsPlain', WHERE WHAT IT READS IS OF BULK AT MOST 1048576: true; the input reads as it did. -/
def stopsPlainUptoRow : OpenClaim := { program := "ytlhepmmpiacifaa", sum := "2200b94fd42c441107e86e90eac446290201d73ddf76a89952a162741ea08775", func := "jobber/jobberlaw11.StopsPlain", spec := "stopsPlain", inPlace := ["slices.overlaps[*jobber/level.Level]"], unfollowed := true, recurses := true, plainKeys := false, apart := false, narrowed := true }
def StopsPlainUptoSaid : Prop := stopsPlainUptoRow.holds Try.pinned (OpenSpec.upto stopsPlainSpec)

/-- 'jobberlaw11.StopsCounts', WHERE WHAT IT READS IS OF BULK AT MOST 1048576: true; the input reads as it did. -/
def stopsCountsUptoRow : OpenClaim := { program := "ytlhepmmpiacifaa", sum := "2200b94fd42c441107e86e90eac446290201d73ddf76a89952a162741ea08775", func := "jobber/jobberlaw11.StopsCounts", spec := "stopsCounts", inPlace := ["slices.overlaps[*jobber/level.Level]"], unfollowed := true, recurses := true, plainKeys := false, apart := false, narrowed := true }
def StopsCountsUptoSaid : Prop := stopsCountsUptoRow.holds Try.pinned (OpenSpec.upto stopsCountsSpec)

/-- 'jobberlaw11.StopsQuiet', WHERE WHAT IT READS IS OF BULK AT MOST 1048576: true; the input reads as it did. -/
def stopsQuietUptoRow : OpenClaim := { program := "ytlhepmmpiacifaa", sum := "2200b94fd42c441107e86e90eac446290201d73ddf76a89952a162741ea08775", func := "jobber/jobberlaw11.StopsQuiet", spec := "stopsQuiet", inPlace := ["slices.overlaps[*jobber/level.Level]"], unfollowed := true, recurses := true, plainKeys := false, apart := false, narrowed := true }
def StopsQuietUptoSaid : Prop := stopsQuietUptoRow.holds Try.pinned (OpenSpec.upto stopsQuietSpec)

/-- 'jobberlaw12.ChangeRuns', WHERE WHAT IT READS IS OF BULK AT MOST 1048576: true; the input reads as it did. -/
def changeRunsUptoRow : OpenClaim := { program := "ytlhepmmpiacifaa", sum := "2200b94fd42c441107e86e90eac446290201d73ddf76a89952a162741ea08775", func := "jobber/jobberlaw12.ChangeRuns", spec := "changeRuns", inPlace := ["slices.overlaps[*jobber/level.Level]"], unfollowed := true, recurses := true, plainKeys := false, apart := false, narrowed := true }
def ChangeRunsUptoSaid : Prop := changeRunsUptoRow.holds Try.pinned (OpenSpec.upto changeRunsSpec)

/-- 'jobberlaw11.StopsFind', WHERE WHAT IT READS IS OF BULK AT MOST 1048576: true; the input reads as it did. -/
def stopsFindUptoRow : OpenClaim := { program := "ytlhepmmpiacifaa", sum := "2200b94fd42c441107e86e90eac446290201d73ddf76a89952a162741ea08775", func := "jobber/jobberlaw11.StopsFind", spec := "stopsFind", inPlace := ["slices.overlaps[*jobber/level.Level]"], unfollowed := true, recurses := true, plainKeys := false, apart := false, narrowed := true }
def StopsFindUptoSaid : Prop := stopsFindUptoRow.holds Try.pinned (OpenSpec.upto stopsFindSpec)

/-- 'jobberlaw12.ChangeNone', WHERE WHAT IT READS IS OF BULK AT MOST 1048576: true; the input reads as it did. -/
def changeNoneUptoRow : OpenClaim := { program := "ytlhepmmpiacifaa", sum := "2200b94fd42c441107e86e90eac446290201d73ddf76a89952a162741ea08775", func := "jobber/jobberlaw12.ChangeNone", spec := "changeNone", inPlace := ["slices.overlaps[*jobber/level.Level]"], unfollowed := true, recurses := true, plainKeys := false, apart := false, narrowed := true }
def ChangeNoneUptoSaid : Prop := changeNoneUptoRow.holds Try.pinned (OpenSpec.upto changeNoneSpec)

/-- 'jobberlaw12.ChangeTwin', WHERE WHAT IT READS IS OF BULK AT MOST 1048576: true; the input reads as it did. -/
def changeTwinUptoRow : OpenClaim := { program := "ytlhepmmpiacifaa", sum := "2200b94fd42c441107e86e90eac446290201d73ddf76a89952a162741ea08775", func := "jobber/jobberlaw12.ChangeTwin", spec := "changeTwin", inPlace := ["slices.overlaps[*jobber/level.Level]"], unfollowed := true, recurses := true, plainKeys := false, apart := false, narrowed := true }
def ChangeTwinUptoSaid : Prop := changeTwinUptoRow.holds Try.pinned (OpenSpec.upto changeTwinSpec)

/-- 'jobberlaw12.ChangeBehind', WHERE WHAT IT READS IS OF BULK AT MOST 1048576: true; the input reads as it did. -/
def changeBehindUptoRow : OpenClaim := { program := "ytlhepmmpiacifaa", sum := "2200b94fd42c441107e86e90eac446290201d73ddf76a89952a162741ea08775", func := "jobber/jobberlaw12.ChangeBehind", spec := "changeBehind", inPlace := ["slices.overlaps[*jobber/level.Level]"], unfollowed := true, recurses := true, plainKeys := false, apart := false, narrowed := true }
def ChangeBehindUptoSaid : Prop := changeBehindUptoRow.holds Try.pinned (OpenSpec.upto changeBehindSpec)

/-- 'jobberlaw12.ChangeLess', WHERE WHAT IT READS IS OF BULK AT MOST 1048576: true; the input reads as it did. -/
def changeLessUptoRow : OpenClaim := { program := "ytlhepmmpiacifaa", sum := "2200b94fd42c441107e86e90eac446290201d73ddf76a89952a162741ea08775", func := "jobber/jobberlaw12.ChangeLess", spec := "changeLess", inPlace := ["slices.overlaps[*jobber/level.Level]"], unfollowed := true, recurses := true, plainKeys := false, apart := false, narrowed := true }
def ChangeLessUptoSaid : Prop := changeLessUptoRow.holds Try.pinned (OpenSpec.upto changeLessSpec)

/-- 'jobberlaw12.ChangeMass', WHERE WHAT IT READS IS OF BULK AT MOST 1048576: true; the input reads as it did. -/
def changeMassUptoRow : OpenClaim := { program := "ytlhepmmpiacifaa", sum := "2200b94fd42c441107e86e90eac446290201d73ddf76a89952a162741ea08775", func := "jobber/jobberlaw12.ChangeMass", spec := "changeMass", inPlace := ["slices.overlaps[*jobber/level.Level]"], unfollowed := true, recurses := true, plainKeys := false, apart := false, narrowed := true }
def ChangeMassUptoSaid : Prop := changeMassUptoRow.holds Try.pinned (OpenSpec.upto changeMassSpec)

end Rows
end Go.Proofs.Ytlhepmmpiacifaa
