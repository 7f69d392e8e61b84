/-
  No cell of these rows narrows 'for every input' (looked for: loops, veiled, ifaces, maps, wideKeys, modest, calm, conditions, laid).
  DERIVED. THE GIVEN ROWS OF THIS SEAT. 7 by the template 'for every input the law returns true; each argument reads behind the call as it read before'; 0 by the template 'total and deterministic' (their statements: YtaonaifnaecpiaaTotals.lean).
  GIVEN WITH THE SEED: the statements are not yours to turn. If you find one false, say at which input.
  Laid BY PROGRAM, IN A SANDBOX (cutbox-rows.mjs): the forced cells as the released guide's own fill.sh prints them over the translation d43c7beb9dcd068b… (all of the seat's roots in one cut). By AI agents, Wed Nov 11 2026. No macro, syntax, notation, axiom, sorry.
-/
import Derived.Test.YtaonaifnaecpiaaChecked
import GoSem.Claim
import GoSem.ClaimJoined
import GoSem.ClaimMapViews
import Derived.JoinedTies
import Derived.KernelRfl
namespace Go.Proofs.Ytaonaifnaecpiaa
/- THE CELL 'sum', in the pinned program and in every row, IS THE sha256 OF THE DUMP (.gsa) THAT YtaonaifnaecpiaaProg.lean LOADS. Nothing in Lean hashes anything: it is a label: what it is worth is what the hold of that sum in a sandbox is worth. -/
noncomputable def Try.pinned : Pinned := { name := "ytaonaifnaecpiaa", sum := "d43c7beb9dcd068bce487639113955ffab9faa7c5a7d7abe8bb4840980ddb6bf", checked := Try.checked }
namespace Rows
def none {H : Type} : Left H := { results := [], args := [] }

/-- 'dayshiftlaw04.LogFrames': WHATEVER THE INPUT: true; the input reads as it did. -/
def logFramesSpec : ChangeSpec := { name := "logFrames", fn := fun _ => fun
  | [d1, d2, d3] => { results := [.lit (.bool true)], args := [d1, d2, d3] }
  | _ => none }
def logFramesRow : OpenClaim := { program := "ytaonaifnaecpiaa", sum := "d43c7beb9dcd068bce487639113955ffab9faa7c5a7d7abe8bb4840980ddb6bf", func := "dayshift/dayshiftlaw04.LogFrames", spec := "logFrames", unfollowed := true, recurses := true, apart := false }
def LogFramesSaid : Prop := logFramesRow.holds Try.pinned (OpenSpec.ofChange logFramesSpec)

/-- ITS FALSE NEIGHBOUR: 'it returns false'. Refute it at one input. -/
def logFramesWrong : ChangeSpec := { name := "logFrames", fn := fun _ => fun
  | [d1, d2, d3] => { results := [.lit (.bool false)], args := [d1, d2, d3] }
  | _ => none }
def LogFramesWrongFalsely : Prop := logFramesRow.holds Try.pinned (OpenSpec.ofChange logFramesWrong)

/-- 'dayshiftlaw04.LogCut': WHATEVER THE INPUT: true; the input reads as it did. -/
def logCutSpec : ChangeSpec := { name := "logCut", fn := fun _ => fun
  | [d1, d2] => { results := [.lit (.bool true)], args := [d1, d2] }
  | _ => none }
def logCutRow : OpenClaim := { program := "ytaonaifnaecpiaa", sum := "d43c7beb9dcd068bce487639113955ffab9faa7c5a7d7abe8bb4840980ddb6bf", func := "dayshift/dayshiftlaw04.LogCut", spec := "logCut", unfollowed := true, recurses := true, apart := false }
def LogCutSaid : Prop := logCutRow.holds Try.pinned (OpenSpec.ofChange logCutSpec)

/-- ITS FALSE NEIGHBOUR: 'it returns false'. Refute it at one input. -/
def logCutWrong : ChangeSpec := { name := "logCut", fn := fun _ => fun
  | [d1, d2] => { results := [.lit (.bool false)], args := [d1, d2] }
  | _ => none }
def LogCutWrongFalsely : Prop := logCutRow.holds Try.pinned (OpenSpec.ofChange logCutWrong)

/-- 'dayshiftlaw04.LogTurned': WHATEVER THE INPUT: true; the input reads as it did. -/
def logTurnedSpec : ChangeSpec := { name := "logTurned", fn := fun _ => fun
  | [d1, d2] => { results := [.lit (.bool true)], args := [d1, d2] }
  | _ => none }
def logTurnedRow : OpenClaim := { program := "ytaonaifnaecpiaa", sum := "d43c7beb9dcd068bce487639113955ffab9faa7c5a7d7abe8bb4840980ddb6bf", func := "dayshift/dayshiftlaw04.LogTurned", spec := "logTurned", unfollowed := true, recurses := true, apart := false }
def LogTurnedSaid : Prop := logTurnedRow.holds Try.pinned (OpenSpec.ofChange logTurnedSpec)

/-- ITS FALSE NEIGHBOUR: 'it returns false'. Refute it at one input. -/
def logTurnedWrong : ChangeSpec := { name := "logTurned", fn := fun _ => fun
  | [d1, d2] => { results := [.lit (.bool false)], args := [d1, d2] }
  | _ => none }
def LogTurnedWrongFalsely : Prop := logTurnedRow.holds Try.pinned (OpenSpec.ofChange logTurnedWrong)

/-- 'dayshiftlaw04.LogTwo': WHATEVER THE INPUT: true; the input reads as it did. -/
def logTwoSpec : ChangeSpec := { name := "logTwo", fn := fun _ => fun
  | [d1, d2] => { results := [.lit (.bool true)], args := [d1, d2] }
  | _ => none }
def logTwoRow : OpenClaim := { program := "ytaonaifnaecpiaa", sum := "d43c7beb9dcd068bce487639113955ffab9faa7c5a7d7abe8bb4840980ddb6bf", func := "dayshift/dayshiftlaw04.LogTwo", spec := "logTwo", unfollowed := true, recurses := true, apart := false }
def LogTwoSaid : Prop := logTwoRow.holds Try.pinned (OpenSpec.ofChange logTwoSpec)

/-- ITS FALSE NEIGHBOUR: 'it returns false'. Refute it at one input. -/
def logTwoWrong : ChangeSpec := { name := "logTwo", fn := fun _ => fun
  | [d1, d2] => { results := [.lit (.bool false)], args := [d1, d2] }
  | _ => none }
def LogTwoWrongFalsely : Prop := logTwoRow.holds Try.pinned (OpenSpec.ofChange logTwoWrong)

/-- 'dayshiftlaw04.LogKeeps': WHATEVER THE INPUT: true; the input reads as it did. -/
def logKeepsSpec : ChangeSpec := { name := "logKeeps", fn := fun _ => fun
  | [d] => { results := [.lit (.bool true)], args := [d] }
  | _ => none }
def logKeepsRow : OpenClaim := { program := "ytaonaifnaecpiaa", sum := "d43c7beb9dcd068bce487639113955ffab9faa7c5a7d7abe8bb4840980ddb6bf", func := "dayshift/dayshiftlaw04.LogKeeps", spec := "logKeeps", unfollowed := true, recurses := true, apart := false }
def LogKeepsSaid : Prop := logKeepsRow.holds Try.pinned (OpenSpec.ofChange logKeepsSpec)

/-- ITS FALSE NEIGHBOUR: 'it returns false'. Refute it at one input. -/
def logKeepsWrong : ChangeSpec := { name := "logKeeps", fn := fun _ => fun
  | [d] => { results := [.lit (.bool false)], args := [d] }
  | _ => none }
def LogKeepsWrongFalsely : Prop := logKeepsRow.holds Try.pinned (OpenSpec.ofChange logKeepsWrong)

/-- 'dayshiftlaw04.LogNil': WHATEVER THE INPUT: true; the input reads as it did. -/
def logNilSpec : ChangeSpec := { name := "logNil", fn := fun _ => fun
  | [d] => { results := [.lit (.bool true)], args := [d] }
  | _ => none }
def logNilRow : OpenClaim := { program := "ytaonaifnaecpiaa", sum := "d43c7beb9dcd068bce487639113955ffab9faa7c5a7d7abe8bb4840980ddb6bf", func := "dayshift/dayshiftlaw04.LogNil", spec := "logNil", unfollowed := true, recurses := true, apart := false }
def LogNilSaid : Prop := logNilRow.holds Try.pinned (OpenSpec.ofChange logNilSpec)

/-- ITS FALSE NEIGHBOUR: 'it returns false'. Refute it at one input. -/
def logNilWrong : ChangeSpec := { name := "logNil", fn := fun _ => fun
  | [d] => { results := [.lit (.bool false)], args := [d] }
  | _ => none }
def LogNilWrongFalsely : Prop := logNilRow.holds Try.pinned (OpenSpec.ofChange logNilWrong)

/-- 'dayshiftlaw04.LogPlays': WHATEVER THE INPUT: true; the input reads as it did. -/
def logPlaysSpec : ChangeSpec := { name := "logPlays", fn := fun _ => fun
  | [d] => { results := [.lit (.bool true)], args := [d] }
  | _ => none }
def logPlaysRow : OpenClaim := { program := "ytaonaifnaecpiaa", sum := "d43c7beb9dcd068bce487639113955ffab9faa7c5a7d7abe8bb4840980ddb6bf", func := "dayshift/dayshiftlaw04.LogPlays", spec := "logPlays", unfollowed := true, recurses := true, apart := false }
def LogPlaysSaid : Prop := logPlaysRow.holds Try.pinned (OpenSpec.ofChange logPlaysSpec)

/-- ITS FALSE NEIGHBOUR: 'it returns false'. Refute it at one input. -/
def logPlaysWrong : ChangeSpec := { name := "logPlays", fn := fun _ => fun
  | [d] => { results := [.lit (.bool false)], args := [d] }
  | _ => none }
def LogPlaysWrongFalsely : Prop := logPlaysRow.holds Try.pinned (OpenSpec.ofChange logPlaysWrong)

/- THE SECOND FORM. 'bulk': how many values and letters a reading holds, each counted each time it is reached (what is shared counts as often as it is met; a slice's spare places count too). A statement '..UptoSaid' is the law's where the arguments, and the package variables that the reading takes, are together of bulk at most 1048576: NARROWER than '..Said'. Prove '..Said' where nothing that the law and all that it calls make is longer than what came in: it says more and counts as full. Else prove '..UptoSaid'. A law counts once. -/
mutual
def uptoBulk {H : Type} : DataW H → Nat
  | .lit (.string bytes) => bytes.length + 1
  | .lit _ => 1
  | .nil => 1
  | .ptr d => uptoBulk d + 1
  | .slice elems spare => uptoBulkAll elems + uptoBulkAll spare + 1
  | .agg parts => uptoBulkAll parts + 1
  | .iface _ d => uptoBulk d + 1
  | .map entries => uptoBulkEntries entries + 1
  | .held _ => 1
def uptoBulkAll {H : Type} : List (DataW H) → Nat
  | [] => 0
  | d :: r => uptoBulk d + uptoBulkAll r
def uptoBulkEntries {H : Type} : List (Lit × DataW H) → Nat
  | [] => 0
  | x :: r => uptoBulkEntry x + uptoBulkEntries r
def uptoBulkEntry {H : Type} : Lit × DataW H → Nat
  | (.string bytes, d) => bytes.length + uptoBulk d + 1
  | (_, d) => uptoBulk d + 1
 end
def uptoSmall : (H : Type) → List (DataW H) → Bool := fun _ ds => decide (uptoBulkAll ds ≤ 1048576)
def OpenSpec.upto (s : _root_.Go.ChangeSpec) : _root_.Go.OpenSpec := { _root_.Go.OpenSpec.ofChange s with cond := some uptoSmall }

/-- 'dayshiftlaw04.LogFrames', WHERE WHAT IT READS IS OF BULK AT MOST 1048576: true; the input reads as it did. -/
def logFramesUptoRow : OpenClaim := { program := "ytaonaifnaecpiaa", sum := "d43c7beb9dcd068bce487639113955ffab9faa7c5a7d7abe8bb4840980ddb6bf", func := "dayshift/dayshiftlaw04.LogFrames", spec := "logFrames", unfollowed := true, recurses := true, apart := false, narrowed := true }
def LogFramesUptoSaid : Prop := logFramesUptoRow.holds Try.pinned (OpenSpec.upto logFramesSpec)

/-- 'dayshiftlaw04.LogCut', WHERE WHAT IT READS IS OF BULK AT MOST 1048576: true; the input reads as it did. -/
def logCutUptoRow : OpenClaim := { program := "ytaonaifnaecpiaa", sum := "d43c7beb9dcd068bce487639113955ffab9faa7c5a7d7abe8bb4840980ddb6bf", func := "dayshift/dayshiftlaw04.LogCut", spec := "logCut", unfollowed := true, recurses := true, apart := false, narrowed := true }
def LogCutUptoSaid : Prop := logCutUptoRow.holds Try.pinned (OpenSpec.upto logCutSpec)

/-- 'dayshiftlaw04.LogTurned', WHERE WHAT IT READS IS OF BULK AT MOST 1048576: true; the input reads as it did. -/
def logTurnedUptoRow : OpenClaim := { program := "ytaonaifnaecpiaa", sum := "d43c7beb9dcd068bce487639113955ffab9faa7c5a7d7abe8bb4840980ddb6bf", func := "dayshift/dayshiftlaw04.LogTurned", spec := "logTurned", unfollowed := true, recurses := true, apart := false, narrowed := true }
def LogTurnedUptoSaid : Prop := logTurnedUptoRow.holds Try.pinned (OpenSpec.upto logTurnedSpec)

/-- 'dayshiftlaw04.LogTwo', WHERE WHAT IT READS IS OF BULK AT MOST 1048576: true; the input reads as it did. -/
def logTwoUptoRow : OpenClaim := { program := "ytaonaifnaecpiaa", sum := "d43c7beb9dcd068bce487639113955ffab9faa7c5a7d7abe8bb4840980ddb6bf", func := "dayshift/dayshiftlaw04.LogTwo", spec := "logTwo", unfollowed := true, recurses := true, apart := false, narrowed := true }
def LogTwoUptoSaid : Prop := logTwoUptoRow.holds Try.pinned (OpenSpec.upto logTwoSpec)

/-- 'dayshiftlaw04.LogKeeps', WHERE WHAT IT READS IS OF BULK AT MOST 1048576: true; the input reads as it did. -/
def logKeepsUptoRow : OpenClaim := { program := "ytaonaifnaecpiaa", sum := "d43c7beb9dcd068bce487639113955ffab9faa7c5a7d7abe8bb4840980ddb6bf", func := "dayshift/dayshiftlaw04.LogKeeps", spec := "logKeeps", unfollowed := true, recurses := true, apart := false, narrowed := true }
def LogKeepsUptoSaid : Prop := logKeepsUptoRow.holds Try.pinned (OpenSpec.upto logKeepsSpec)

/-- 'dayshiftlaw04.LogNil', WHERE WHAT IT READS IS OF BULK AT MOST 1048576: true; the input reads as it did. -/
def logNilUptoRow : OpenClaim := { program := "ytaonaifnaecpiaa", sum := "d43c7beb9dcd068bce487639113955ffab9faa7c5a7d7abe8bb4840980ddb6bf", func := "dayshift/dayshiftlaw04.LogNil", spec := "logNil", unfollowed := true, recurses := true, apart := false, narrowed := true }
def LogNilUptoSaid : Prop := logNilUptoRow.holds Try.pinned (OpenSpec.upto logNilSpec)

/-- 'dayshiftlaw04.LogPlays', WHERE WHAT IT READS IS OF BULK AT MOST 1048576: true; the input reads as it did. -/
def logPlaysUptoRow : OpenClaim := { program := "ytaonaifnaecpiaa", sum := "d43c7beb9dcd068bce487639113955ffab9faa7c5a7d7abe8bb4840980ddb6bf", func := "dayshift/dayshiftlaw04.LogPlays", spec := "logPlays", unfollowed := true, recurses := true, apart := false, narrowed := true }
def LogPlaysUptoSaid : Prop := logPlaysUptoRow.holds Try.pinned (OpenSpec.upto logPlaysSpec)

end Rows
end Go.Proofs.Ytaonaifnaecpiaa
