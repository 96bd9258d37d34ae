/-
  No cell of these rows narrows 'for every input' (looked for: loops, veiled, ifaces, maps, wideKeys, modest, calm, conditions, laid).
  DERIVED. THE GIVEN ROWS OF THIS SEAT. 10 by the template 'for every input the law returns true; each argument reads behind the call as it read before'; 0 by the template 'total and deterministic' (their statements: YtiilndlgfgikbaaTotals.lean).
  GIVEN WITH THE SEED: the statements are not yours to turn. If you find one false, say at which input.
  Laid BY PROGRAM, IN A SANDBOX (cutbox-rows.mjs): the forced cells as the released guide's own fill.sh prints them over the translation 15791629b8624276… (all of the seat's roots in one cut). By AI agents, Wed Nov 11 2026. No macro, syntax, notation, axiom, sorry.
-/
import Derived.Test.YtiilndlgfgikbaaChecked
import GoSem.Claim
import GoSem.ClaimJoined
import GoSem.ClaimMapViews
import Derived.JoinedTies
import Derived.KernelRfl
namespace Go.Proofs.Ytiilndlgfgikbaa
/- THE CELL 'sum', in the pinned program and in every row, IS THE sha256 OF THE DUMP (.gsa) THAT YtiilndlgfgikbaaProg.lean LOADS. Nothing in Lean hashes anything: it is a label: what it is worth is what the hold of that sum in a sandbox is worth. -/
noncomputable def Try.pinned : Pinned := { name := "ytiilndlgfgikbaa", sum := "15791629b8624276dff6f8e24d52fba99ea35ae7a49d0f7f115a3d0435df5b35", checked := Try.checked }
namespace Rows
def none {H : Type} : Left H := { results := [], args := [] }

/-- 'jobberlaw10.BookRuns': WHATEVER THE INPUT: true; the input reads as it did. -/
def bookRunsSpec : ChangeSpec := { name := "bookRuns", fn := fun _ => fun
  | [] => { results := [.lit (.bool true)], args := [] }
  | _ => none }
def bookRunsRow : OpenClaim := { program := "ytiilndlgfgikbaa", sum := "15791629b8624276dff6f8e24d52fba99ea35ae7a49d0f7f115a3d0435df5b35", func := "jobber/jobberlaw10.BookRuns", spec := "bookRuns", inPlace := ["slices.overlaps[*jobber/level.Level]"], unfollowed := true, recurses := true, apart := false }
def BookRunsSaid : Prop := bookRunsRow.holds Try.pinned (OpenSpec.ofChange bookRunsSpec)

/-- ITS FALSE NEIGHBOUR: 'it returns false'. Refute it at one input. -/
def bookRunsWrong : ChangeSpec := { name := "bookRuns", fn := fun _ => fun
  | [] => { results := [.lit (.bool false)], args := [] }
  | _ => none }
def BookRunsWrongFalsely : Prop := bookRunsRow.holds Try.pinned (OpenSpec.ofChange bookRunsWrong)

/-- 'jobberlaw10.BookKinds': WHATEVER THE INPUT: true; the input reads as it did. -/
def bookKindsSpec : ChangeSpec := { name := "bookKinds", fn := fun _ => fun
  | [d1, d2] => { results := [.lit (.bool true)], args := [d1, d2] }
  | _ => none }
def bookKindsRow : OpenClaim := { program := "ytiilndlgfgikbaa", sum := "15791629b8624276dff6f8e24d52fba99ea35ae7a49d0f7f115a3d0435df5b35", func := "jobber/jobberlaw10.BookKinds", spec := "bookKinds", inPlace := ["slices.overlaps[*jobber/level.Level]"], unfollowed := true, recurses := true, apart := false }
def BookKindsSaid : Prop := bookKindsRow.holds Try.pinned (OpenSpec.ofChange bookKindsSpec)

/-- ITS FALSE NEIGHBOUR: 'it returns false'. Refute it at one input. -/
def bookKindsWrong : ChangeSpec := { name := "bookKinds", fn := fun _ => fun
  | [d1, d2] => { results := [.lit (.bool false)], args := [d1, d2] }
  | _ => none }
def BookKindsWrongFalsely : Prop := bookKindsRow.holds Try.pinned (OpenSpec.ofChange bookKindsWrong)

/-- 'jobberlaw10.BookTime': WHATEVER THE INPUT: true; the input reads as it did. -/
def bookTimeSpec : ChangeSpec := { name := "bookTime", fn := fun _ => fun
  | [d1, d2] => { results := [.lit (.bool true)], args := [d1, d2] }
  | _ => none }
def bookTimeRow : OpenClaim := { program := "ytiilndlgfgikbaa", sum := "15791629b8624276dff6f8e24d52fba99ea35ae7a49d0f7f115a3d0435df5b35", func := "jobber/jobberlaw10.BookTime", spec := "bookTime", inPlace := ["slices.overlaps[*jobber/level.Level]"], unfollowed := true, recurses := true, apart := false }
def BookTimeSaid : Prop := bookTimeRow.holds Try.pinned (OpenSpec.ofChange bookTimeSpec)

/-- ITS FALSE NEIGHBOUR: 'it returns false'. Refute it at one input. -/
def bookTimeWrong : ChangeSpec := { name := "bookTime", fn := fun _ => fun
  | [d1, d2] => { results := [.lit (.bool false)], args := [d1, d2] }
  | _ => none }
def BookTimeWrongFalsely : Prop := bookTimeRow.holds Try.pinned (OpenSpec.ofChange bookTimeWrong)

/-- 'jobberlaw10.BookUncrossed': WHATEVER THE INPUT: true; the input reads as it did. -/
def bookUncrossedSpec : ChangeSpec := { name := "bookUncrossed", fn := fun _ => fun
  | [d] => { results := [.lit (.bool true)], args := [d] }
  | _ => none }
def bookUncrossedRow : OpenClaim := { program := "ytiilndlgfgikbaa", sum := "15791629b8624276dff6f8e24d52fba99ea35ae7a49d0f7f115a3d0435df5b35", func := "jobber/jobberlaw10.BookUncrossed", spec := "bookUncrossed", inPlace := ["slices.overlaps[*jobber/level.Level]"], unfollowed := true, recurses := true, apart := false }
def BookUncrossedSaid : Prop := bookUncrossedRow.holds Try.pinned (OpenSpec.ofChange bookUncrossedSpec)

/-- ITS FALSE NEIGHBOUR: 'it returns false'. Refute it at one input. -/
def bookUncrossedWrong : ChangeSpec := { name := "bookUncrossed", fn := fun _ => fun
  | [d] => { results := [.lit (.bool false)], args := [d] }
  | _ => none }
def BookUncrossedWrongFalsely : Prop := bookUncrossedRow.holds Try.pinned (OpenSpec.ofChange bookUncrossedWrong)

/-- 'jobberlaw10.BookCounts': WHATEVER THE INPUT: true; the input reads as it did. -/
def bookCountsSpec : ChangeSpec := { name := "bookCounts", fn := fun _ => fun
  | [d1, d2] => { results := [.lit (.bool true)], args := [d1, d2] }
  | _ => none }
def bookCountsRow : OpenClaim := { program := "ytiilndlgfgikbaa", sum := "15791629b8624276dff6f8e24d52fba99ea35ae7a49d0f7f115a3d0435df5b35", func := "jobber/jobberlaw10.BookCounts", spec := "bookCounts", inPlace := ["slices.overlaps[*jobber/level.Level]"], unfollowed := true, recurses := true, apart := false }
def BookCountsSaid : Prop := bookCountsRow.holds Try.pinned (OpenSpec.ofChange bookCountsSpec)

/-- ITS FALSE NEIGHBOUR: 'it returns false'. Refute it at one input. -/
def bookCountsWrong : ChangeSpec := { name := "bookCounts", fn := fun _ => fun
  | [d1, d2] => { results := [.lit (.bool false)], args := [d1, d2] }
  | _ => none }
def BookCountsWrongFalsely : Prop := bookCountsRow.holds Try.pinned (OpenSpec.ofChange bookCountsWrong)

/-- 'jobberlaw10.BookBest': WHATEVER THE INPUT: true; the input reads as it did. -/
def bookBestSpec : ChangeSpec := { name := "bookBest", fn := fun _ => fun
  | [d1, d2] => { results := [.lit (.bool true)], args := [d1, d2] }
  | _ => none }
def bookBestRow : OpenClaim := { program := "ytiilndlgfgikbaa", sum := "15791629b8624276dff6f8e24d52fba99ea35ae7a49d0f7f115a3d0435df5b35", func := "jobber/jobberlaw10.BookBest", spec := "bookBest", inPlace := ["slices.overlaps[*jobber/level.Level]"], unfollowed := true, recurses := true, apart := false }
def BookBestSaid : Prop := bookBestRow.holds Try.pinned (OpenSpec.ofChange bookBestSpec)

/-- ITS FALSE NEIGHBOUR: 'it returns false'. Refute it at one input. -/
def bookBestWrong : ChangeSpec := { name := "bookBest", fn := fun _ => fun
  | [d1, d2] => { results := [.lit (.bool false)], args := [d1, d2] }
  | _ => none }
def BookBestWrongFalsely : Prop := bookBestRow.holds Try.pinned (OpenSpec.ofChange bookBestWrong)

/-- 'jobberlaw10.BookFok': WHATEVER THE INPUT: true; the input reads as it did. -/
def bookFokSpec : ChangeSpec := { name := "bookFok", fn := fun _ => fun
  | [d1, d2] => { results := [.lit (.bool true)], args := [d1, d2] }
  | _ => none }
def bookFokRow : OpenClaim := { program := "ytiilndlgfgikbaa", sum := "15791629b8624276dff6f8e24d52fba99ea35ae7a49d0f7f115a3d0435df5b35", func := "jobber/jobberlaw10.BookFok", spec := "bookFok", inPlace := ["slices.overlaps[*jobber/level.Level]"], unfollowed := true, recurses := true, apart := false }
def BookFokSaid : Prop := bookFokRow.holds Try.pinned (OpenSpec.ofChange bookFokSpec)

/-- ITS FALSE NEIGHBOUR: 'it returns false'. Refute it at one input. -/
def bookFokWrong : ChangeSpec := { name := "bookFok", fn := fun _ => fun
  | [d1, d2] => { results := [.lit (.bool false)], args := [d1, d2] }
  | _ => none }
def BookFokWrongFalsely : Prop := bookFokRow.holds Try.pinned (OpenSpec.ofChange bookFokWrong)

/-- 'jobberlaw10.BookDepth': WHATEVER THE INPUT: true; the input reads as it did. -/
def bookDepthSpec : ChangeSpec := { name := "bookDepth", fn := fun _ => fun
  | [d] => { results := [.lit (.bool true)], args := [d] }
  | _ => none }
def bookDepthRow : OpenClaim := { program := "ytiilndlgfgikbaa", sum := "15791629b8624276dff6f8e24d52fba99ea35ae7a49d0f7f115a3d0435df5b35", func := "jobber/jobberlaw10.BookDepth", spec := "bookDepth", inPlace := ["slices.overlaps[*jobber/level.Level]"], unfollowed := true, recurses := true, apart := false }
def BookDepthSaid : Prop := bookDepthRow.holds Try.pinned (OpenSpec.ofChange bookDepthSpec)

/-- ITS FALSE NEIGHBOUR: 'it returns false'. Refute it at one input. -/
def bookDepthWrong : ChangeSpec := { name := "bookDepth", fn := fun _ => fun
  | [d] => { results := [.lit (.bool false)], args := [d] }
  | _ => none }
def BookDepthWrongFalsely : Prop := bookDepthRow.holds Try.pinned (OpenSpec.ofChange bookDepthWrong)

/-- 'jobberlaw10.BookBack': WHATEVER THE INPUT: true; the input reads as it did. -/
def bookBackSpec : ChangeSpec := { name := "bookBack", fn := fun _ => fun
  | [d1, d2] => { results := [.lit (.bool true)], args := [d1, d2] }
  | _ => none }
def bookBackRow : OpenClaim := { program := "ytiilndlgfgikbaa", sum := "15791629b8624276dff6f8e24d52fba99ea35ae7a49d0f7f115a3d0435df5b35", func := "jobber/jobberlaw10.BookBack", spec := "bookBack", inPlace := ["slices.overlaps[*jobber/level.Level]"], unfollowed := true, recurses := true, apart := false }
def BookBackSaid : Prop := bookBackRow.holds Try.pinned (OpenSpec.ofChange bookBackSpec)

/-- ITS FALSE NEIGHBOUR: 'it returns false'. Refute it at one input. -/
def bookBackWrong : ChangeSpec := { name := "bookBack", fn := fun _ => fun
  | [d1, d2] => { results := [.lit (.bool false)], args := [d1, d2] }
  | _ => none }
def BookBackWrongFalsely : Prop := bookBackRow.holds Try.pinned (OpenSpec.ofChange bookBackWrong)

/-- 'jobberlaw10.BookIoc': WHATEVER THE INPUT: true; the input reads as it did. -/
def bookIocSpec : ChangeSpec := { name := "bookIoc", fn := fun _ => fun
  | [d1, d2] => { results := [.lit (.bool true)], args := [d1, d2] }
  | _ => none }
def bookIocRow : OpenClaim := { program := "ytiilndlgfgikbaa", sum := "15791629b8624276dff6f8e24d52fba99ea35ae7a49d0f7f115a3d0435df5b35", func := "jobber/jobberlaw10.BookIoc", spec := "bookIoc", inPlace := ["slices.overlaps[*jobber/level.Level]"], unfollowed := true, recurses := true, apart := false }
def BookIocSaid : Prop := bookIocRow.holds Try.pinned (OpenSpec.ofChange bookIocSpec)

/-- ITS FALSE NEIGHBOUR: 'it returns false'. Refute it at one input. -/
def bookIocWrong : ChangeSpec := { name := "bookIoc", fn := fun _ => fun
  | [d1, d2] => { results := [.lit (.bool false)], args := [d1, d2] }
  | _ => none }
def BookIocWrongFalsely : Prop := bookIocRow.holds Try.pinned (OpenSpec.ofChange bookIocWrong)

/- THE SECOND FORM. 'bulk': how many values and letters a reading holds, each counted each time it is reached (what is shared counts as often as it is met; a slice's spare places count too). A statement '..UptoSaid' is the law's where the arguments, and the package variables that the reading takes, are together of bulk at most 1048576: NARROWER than '..Said'. Prove '..Said' where nothing that the law and all that it calls make is longer than what came in: it says more and counts as full. Else prove '..UptoSaid'. A law counts once. -/
mutual
def uptoBulk {H : Type} : DataW H → Nat
  | .lit (.string bytes) => bytes.length + 1
  | .lit _ => 1
  | .nil => 1
  | .ptr d => uptoBulk d + 1
  | .slice elems spare => uptoBulkAll elems + uptoBulkAll spare + 1
  | .agg parts => uptoBulkAll parts + 1
  | .iface _ d => uptoBulk d + 1
  | .map entries => uptoBulkEntries entries + 1
  | .held _ => 1
def uptoBulkAll {H : Type} : List (DataW H) → Nat
  | [] => 0
  | d :: r => uptoBulk d + uptoBulkAll r
def uptoBulkEntries {H : Type} : List (Lit × DataW H) → Nat
  | [] => 0
  | x :: r => uptoBulkEntry x + uptoBulkEntries r
def uptoBulkEntry {H : Type} : Lit × DataW H → Nat
  | (.string bytes, d) => bytes.length + uptoBulk d + 1
  | (_, d) => uptoBulk d + 1
 end
def uptoSmall : (H : Type) → List (DataW H) → Bool := fun _ ds => decide (uptoBulkAll ds ≤ 1048576)
def OpenSpec.upto (s : _root_.Go.ChangeSpec) : _root_.Go.OpenSpec := { _root_.Go.OpenSpec.ofChange s with cond := some uptoSmall }

/-- 'jobberlaw10.BookRuns', WHERE WHAT IT READS IS OF BULK AT MOST 1048576: true; the input reads as it did. -/
def bookRunsUptoRow : OpenClaim := { program := "ytiilndlgfgikbaa", sum := "15791629b8624276dff6f8e24d52fba99ea35ae7a49d0f7f115a3d0435df5b35", func := "jobber/jobberlaw10.BookRuns", spec := "bookRuns", inPlace := ["slices.overlaps[*jobber/level.Level]"], unfollowed := true, recurses := true, apart := false, narrowed := true }
def BookRunsUptoSaid : Prop := bookRunsUptoRow.holds Try.pinned (OpenSpec.upto bookRunsSpec)

/-- 'jobberlaw10.BookKinds', WHERE WHAT IT READS IS OF BULK AT MOST 1048576: true; the input reads as it did. -/
def bookKindsUptoRow : OpenClaim := { program := "ytiilndlgfgikbaa", sum := "15791629b8624276dff6f8e24d52fba99ea35ae7a49d0f7f115a3d0435df5b35", func := "jobber/jobberlaw10.BookKinds", spec := "bookKinds", inPlace := ["slices.overlaps[*jobber/level.Level]"], unfollowed := true, recurses := true, apart := false, narrowed := true }
def BookKindsUptoSaid : Prop := bookKindsUptoRow.holds Try.pinned (OpenSpec.upto bookKindsSpec)

/-- 'jobberlaw10.BookTime', WHERE WHAT IT READS IS OF BULK AT MOST 1048576: true; the input reads as it did. -/
def bookTimeUptoRow : OpenClaim := { program := "ytiilndlgfgikbaa", sum := "15791629b8624276dff6f8e24d52fba99ea35ae7a49d0f7f115a3d0435df5b35", func := "jobber/jobberlaw10.BookTime", spec := "bookTime", inPlace := ["slices.overlaps[*jobber/level.Level]"], unfollowed := true, recurses := true, apart := false, narrowed := true }
def BookTimeUptoSaid : Prop := bookTimeUptoRow.holds Try.pinned (OpenSpec.upto bookTimeSpec)

/-- 'jobberlaw10.BookUncrossed', WHERE WHAT IT READS IS OF BULK AT MOST 1048576: true; the input reads as it did. -/
def bookUncrossedUptoRow : OpenClaim := { program := "ytiilndlgfgikbaa", sum := "15791629b8624276dff6f8e24d52fba99ea35ae7a49d0f7f115a3d0435df5b35", func := "jobber/jobberlaw10.BookUncrossed", spec := "bookUncrossed", inPlace := ["slices.overlaps[*jobber/level.Level]"], unfollowed := true, recurses := true, apart := false, narrowed := true }
def BookUncrossedUptoSaid : Prop := bookUncrossedUptoRow.holds Try.pinned (OpenSpec.upto bookUncrossedSpec)

/-- 'jobberlaw10.BookCounts', WHERE WHAT IT READS IS OF BULK AT MOST 1048576: true; the input reads as it did. -/
def bookCountsUptoRow : OpenClaim := { program := "ytiilndlgfgikbaa", sum := "15791629b8624276dff6f8e24d52fba99ea35ae7a49d0f7f115a3d0435df5b35", func := "jobber/jobberlaw10.BookCounts", spec := "bookCounts", inPlace := ["slices.overlaps[*jobber/level.Level]"], unfollowed := true, recurses := true, apart := false, narrowed := true }
def BookCountsUptoSaid : Prop := bookCountsUptoRow.holds Try.pinned (OpenSpec.upto bookCountsSpec)

/-- 'jobberlaw10.BookBest', WHERE WHAT IT READS IS OF BULK AT MOST 1048576: true; the input reads as it did. -/
def bookBestUptoRow : OpenClaim := { program := "ytiilndlgfgikbaa", sum := "15791629b8624276dff6f8e24d52fba99ea35ae7a49d0f7f115a3d0435df5b35", func := "jobber/jobberlaw10.BookBest", spec := "bookBest", inPlace := ["slices.overlaps[*jobber/level.Level]"], unfollowed := true, recurses := true, apart := false, narrowed := true }
def BookBestUptoSaid : Prop := bookBestUptoRow.holds Try.pinned (OpenSpec.upto bookBestSpec)

/-- 'jobberlaw10.BookFok', WHERE WHAT IT READS IS OF BULK AT MOST 1048576: true; the input reads as it did. -/
def bookFokUptoRow : OpenClaim := { program := "ytiilndlgfgikbaa", sum := "15791629b8624276dff6f8e24d52fba99ea35ae7a49d0f7f115a3d0435df5b35", func := "jobber/jobberlaw10.BookFok", spec := "bookFok", inPlace := ["slices.overlaps[*jobber/level.Level]"], unfollowed := true, recurses := true, apart := false, narrowed := true }
def BookFokUptoSaid : Prop := bookFokUptoRow.holds Try.pinned (OpenSpec.upto bookFokSpec)

/-- 'jobberlaw10.BookDepth', WHERE WHAT IT READS IS OF BULK AT MOST 1048576: true; the input reads as it did. -/
def bookDepthUptoRow : OpenClaim := { program := "ytiilndlgfgikbaa", sum := "15791629b8624276dff6f8e24d52fba99ea35ae7a49d0f7f115a3d0435df5b35", func := "jobber/jobberlaw10.BookDepth", spec := "bookDepth", inPlace := ["slices.overlaps[*jobber/level.Level]"], unfollowed := true, recurses := true, apart := false, narrowed := true }
def BookDepthUptoSaid : Prop := bookDepthUptoRow.holds Try.pinned (OpenSpec.upto bookDepthSpec)

/-- 'jobberlaw10.BookBack', WHERE WHAT IT READS IS OF BULK AT MOST 1048576: true; the input reads as it did. -/
def bookBackUptoRow : OpenClaim := { program := "ytiilndlgfgikbaa", sum := "15791629b8624276dff6f8e24d52fba99ea35ae7a49d0f7f115a3d0435df5b35", func := "jobber/jobberlaw10.BookBack", spec := "bookBack", inPlace := ["slices.overlaps[*jobber/level.Level]"], unfollowed := true, recurses := true, apart := false, narrowed := true }
def BookBackUptoSaid : Prop := bookBackUptoRow.holds Try.pinned (OpenSpec.upto bookBackSpec)

/-- 'jobberlaw10.BookIoc', WHERE WHAT IT READS IS OF BULK AT MOST 1048576: true; the input reads as it did. -/
def bookIocUptoRow : OpenClaim := { program := "ytiilndlgfgikbaa", sum := "15791629b8624276dff6f8e24d52fba99ea35ae7a49d0f7f115a3d0435df5b35", func := "jobber/jobberlaw10.BookIoc", spec := "bookIoc", inPlace := ["slices.overlaps[*jobber/level.Level]"], unfollowed := true, recurses := true, apart := false, narrowed := true }
def BookIocUptoSaid : Prop := bookIocUptoRow.holds Try.pinned (OpenSpec.upto bookIocSpec)

end Rows
end Go.Proofs.Ytiilndlgfgikbaa
