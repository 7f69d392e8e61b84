/-
  NARROWER THAN 'FOR EVERY INPUT', by the rows' own cells (each row's printed sentence says how): JobEnds: loops.
  DERIVED. THE GIVEN ROWS OF THIS SEAT. 7 by the template 'for every input the law returns true; each argument reads behind the call as it read before'; 0 by the template 'total and deterministic' (their statements: YtfefbmglimdgjaaTotals.lean).
  GIVEN WITH THE SEED: the statements are not yours to turn. If you find one false, say at which input.
  Laid BY PROGRAM, IN A SANDBOX (cutbox-rows.mjs): the forced cells as the released guide's own fill.sh prints them over the translation 9ff8e627d592c54b… (all of the seat's roots in one cut). By AI agents, Wed Nov 11 2026. No macro, syntax, notation, axiom, sorry.
-/
import Derived.Test.YtfefbmglimdgjaaChecked
import GoSem.Claim
import GoSem.ClaimJoined
import GoSem.ClaimMapViews
import Derived.JoinedTies
import Derived.KernelRfl
namespace Go.Proofs.Ytfefbmglimdgjaa
/- THE CELL 'sum', in the pinned program and in every row, IS THE sha256 OF THE DUMP (.gsa) THAT YtfefbmglimdgjaaProg.lean LOADS. Nothing in Lean hashes anything: it is a label: what it is worth is what the hold of that sum in a sandbox is worth. -/
noncomputable def Try.pinned : Pinned := { name := "ytfefbmglimdgjaa", sum := "9ff8e627d592c54bf9a3a4966b0e79063e77bfe559d0461d94fd724be91e5f1d", checked := Try.checked }
namespace Rows
def none {H : Type} : Left H := { results := [], args := [] }

/-- 'dayshiftlaw17.JobEnds': WHATEVER THE INPUT: true; the input reads as it did. -/
def jobEndsSpec : ChangeSpec := { name := "jobEnds", fn := fun _ => fun
  | [d1, d2, d3, d4, d5] => { results := [.lit (.bool true)], args := [d1, d2, d3, d4, d5] }
  | _ => none }
def jobEndsRow : OpenClaim := { program := "ytfefbmglimdgjaa", sum := "9ff8e627d592c54bf9a3a4966b0e79063e77bfe559d0461d94fd724be91e5f1d", func := "dayshift/dayshiftlaw17.JobEnds", spec := "jobEnds", unfollowed := true, recurses := true, loops := true, apart := false }
def JobEndsSaid : Prop := jobEndsRow.holds Try.pinned (OpenSpec.ofChange jobEndsSpec)

/-- ITS FALSE NEIGHBOUR: 'it returns false'. Refute it at one input. -/
def jobEndsWrong : ChangeSpec := { name := "jobEnds", fn := fun _ => fun
  | [d1, d2, d3, d4, d5] => { results := [.lit (.bool false)], args := [d1, d2, d3, d4, d5] }
  | _ => none }
def JobEndsWrongFalsely : Prop := jobEndsRow.holds Try.pinned (OpenSpec.ofChange jobEndsWrong)

/-- 'dayshiftlaw17.JobTexts': WHATEVER THE INPUT: true; the input reads as it did. -/
def jobTextsSpec : ChangeSpec := { name := "jobTexts", fn := fun _ => fun
  | [d] => { results := [.lit (.bool true)], args := [d] }
  | _ => none }
def jobTextsRow : OpenClaim := { program := "ytfefbmglimdgjaa", sum := "9ff8e627d592c54bf9a3a4966b0e79063e77bfe559d0461d94fd724be91e5f1d", func := "dayshift/dayshiftlaw17.JobTexts", spec := "jobTexts", unfollowed := true, recurses := true, apart := false }
def JobTextsSaid : Prop := jobTextsRow.holds Try.pinned (OpenSpec.ofChange jobTextsSpec)

/-- ITS FALSE NEIGHBOUR: 'it returns false'. Refute it at one input. -/
def jobTextsWrong : ChangeSpec := { name := "jobTexts", fn := fun _ => fun
  | [d] => { results := [.lit (.bool false)], args := [d] }
  | _ => none }
def JobTextsWrongFalsely : Prop := jobTextsRow.holds Try.pinned (OpenSpec.ofChange jobTextsWrong)

/-- 'dayshiftlaw17.JobRuns': WHATEVER THE INPUT: true; the input reads as it did. -/
def jobRunsSpec : ChangeSpec := { name := "jobRuns", fn := fun _ => fun
  | [d1, d2, d3, d4] => { results := [.lit (.bool true)], args := [d1, d2, d3, d4] }
  | _ => none }
def jobRunsRow : OpenClaim := { program := "ytfefbmglimdgjaa", sum := "9ff8e627d592c54bf9a3a4966b0e79063e77bfe559d0461d94fd724be91e5f1d", func := "dayshift/dayshiftlaw17.JobRuns", spec := "jobRuns", unfollowed := true, recurses := true, apart := false }
def JobRunsSaid : Prop := jobRunsRow.holds Try.pinned (OpenSpec.ofChange jobRunsSpec)

/-- ITS FALSE NEIGHBOUR: 'it returns false'. Refute it at one input. -/
def jobRunsWrong : ChangeSpec := { name := "jobRuns", fn := fun _ => fun
  | [d1, d2, d3, d4] => { results := [.lit (.bool false)], args := [d1, d2, d3, d4] }
  | _ => none }
def JobRunsWrongFalsely : Prop := jobRunsRow.holds Try.pinned (OpenSpec.ofChange jobRunsWrong)

/-- 'dayshiftlaw17.JobBack': WHATEVER THE INPUT: true; the input reads as it did. -/
def jobBackSpec : ChangeSpec := { name := "jobBack", fn := fun _ => fun
  | [d1, d2] => { results := [.lit (.bool true)], args := [d1, d2] }
  | _ => none }
def jobBackRow : OpenClaim := { program := "ytfefbmglimdgjaa", sum := "9ff8e627d592c54bf9a3a4966b0e79063e77bfe559d0461d94fd724be91e5f1d", func := "dayshift/dayshiftlaw17.JobBack", spec := "jobBack", unfollowed := true, recurses := true, apart := false }
def JobBackSaid : Prop := jobBackRow.holds Try.pinned (OpenSpec.ofChange jobBackSpec)

/-- ITS FALSE NEIGHBOUR: 'it returns false'. Refute it at one input. -/
def jobBackWrong : ChangeSpec := { name := "jobBack", fn := fun _ => fun
  | [d1, d2] => { results := [.lit (.bool false)], args := [d1, d2] }
  | _ => none }
def JobBackWrongFalsely : Prop := jobBackRow.holds Try.pinned (OpenSpec.ofChange jobBackWrong)

/-- 'dayshiftlaw17.JobForced': WHATEVER THE INPUT: true; the input reads as it did. -/
def jobForcedSpec : ChangeSpec := { name := "jobForced", fn := fun _ => fun
  | [d1, d2] => { results := [.lit (.bool true)], args := [d1, d2] }
  | _ => none }
def jobForcedRow : OpenClaim := { program := "ytfefbmglimdgjaa", sum := "9ff8e627d592c54bf9a3a4966b0e79063e77bfe559d0461d94fd724be91e5f1d", func := "dayshift/dayshiftlaw17.JobForced", spec := "jobForced", unfollowed := true, recurses := true, apart := false }
def JobForcedSaid : Prop := jobForcedRow.holds Try.pinned (OpenSpec.ofChange jobForcedSpec)

/-- ITS FALSE NEIGHBOUR: 'it returns false'. Refute it at one input. -/
def jobForcedWrong : ChangeSpec := { name := "jobForced", fn := fun _ => fun
  | [d1, d2] => { results := [.lit (.bool false)], args := [d1, d2] }
  | _ => none }
def JobForcedWrongFalsely : Prop := jobForcedRow.holds Try.pinned (OpenSpec.ofChange jobForcedWrong)

/-- 'dayshiftlaw17.JobGoes': WHATEVER THE INPUT: true; the input reads as it did. -/
def jobGoesSpec : ChangeSpec := { name := "jobGoes", fn := fun _ => fun
  | [d1, d2, d3, d4] => { results := [.lit (.bool true)], args := [d1, d2, d3, d4] }
  | _ => none }
def jobGoesRow : OpenClaim := { program := "ytfefbmglimdgjaa", sum := "9ff8e627d592c54bf9a3a4966b0e79063e77bfe559d0461d94fd724be91e5f1d", func := "dayshift/dayshiftlaw17.JobGoes", spec := "jobGoes", unfollowed := true, recurses := true, apart := false }
def JobGoesSaid : Prop := jobGoesRow.holds Try.pinned (OpenSpec.ofChange jobGoesSpec)

/-- ITS FALSE NEIGHBOUR: 'it returns false'. Refute it at one input. -/
def jobGoesWrong : ChangeSpec := { name := "jobGoes", fn := fun _ => fun
  | [d1, d2, d3, d4] => { results := [.lit (.bool false)], args := [d1, d2, d3, d4] }
  | _ => none }
def JobGoesWrongFalsely : Prop := jobGoesRow.holds Try.pinned (OpenSpec.ofChange jobGoesWrong)

/-- 'dayshiftlaw17.JobCommands': WHATEVER THE INPUT: true; the input reads as it did. -/
def jobCommandsSpec : ChangeSpec := { name := "jobCommands", fn := fun _ => fun
  | [d1, d2] => { results := [.lit (.bool true)], args := [d1, d2] }
  | _ => none }
def jobCommandsRow : OpenClaim := { program := "ytfefbmglimdgjaa", sum := "9ff8e627d592c54bf9a3a4966b0e79063e77bfe559d0461d94fd724be91e5f1d", func := "dayshift/dayshiftlaw17.JobCommands", spec := "jobCommands", unfollowed := true, recurses := true, apart := false }
def JobCommandsSaid : Prop := jobCommandsRow.holds Try.pinned (OpenSpec.ofChange jobCommandsSpec)

/-- ITS FALSE NEIGHBOUR: 'it returns false'. Refute it at one input. -/
def jobCommandsWrong : ChangeSpec := { name := "jobCommands", fn := fun _ => fun
  | [d1, d2] => { results := [.lit (.bool false)], args := [d1, d2] }
  | _ => none }
def JobCommandsWrongFalsely : Prop := jobCommandsRow.holds Try.pinned (OpenSpec.ofChange jobCommandsWrong)

/- THE SECOND FORM. 'bulk': how many values and letters a reading holds, each counted each time it is reached (what is shared counts as often as it is met; a slice's spare places count too). A statement '..UptoSaid' is the law's where the arguments, and the package variables that the reading takes, are together of bulk at most 1048576: NARROWER than '..Said'. Prove '..Said' where nothing that the law and all that it calls make is longer than what came in: it says more and counts as full. Else prove '..UptoSaid'. A law counts once. -/
mutual
def uptoBulk {H : Type} : DataW H → Nat
  | .lit (.string bytes) => bytes.length + 1
  | .lit _ => 1
  | .nil => 1
  | .ptr d => uptoBulk d + 1
  | .slice elems spare => uptoBulkAll elems + uptoBulkAll spare + 1
  | .agg parts => uptoBulkAll parts + 1
  | .iface _ d => uptoBulk d + 1
  | .map entries => uptoBulkEntries entries + 1
  | .held _ => 1
def uptoBulkAll {H : Type} : List (DataW H) → Nat
  | [] => 0
  | d :: r => uptoBulk d + uptoBulkAll r
def uptoBulkEntries {H : Type} : List (Lit × DataW H) → Nat
  | [] => 0
  | x :: r => uptoBulkEntry x + uptoBulkEntries r
def uptoBulkEntry {H : Type} : Lit × DataW H → Nat
  | (.string bytes, d) => bytes.length + uptoBulk d + 1
  | (_, d) => uptoBulk d + 1
 end
def uptoSmall : (H : Type) → List (DataW H) → Bool := fun _ ds => decide (uptoBulkAll ds ≤ 1048576)
def OpenSpec.upto (s : _root_.Go.ChangeSpec) : _root_.Go.OpenSpec := { _root_.Go.OpenSpec.ofChange s with cond := some uptoSmall }

/-- 'dayshiftlaw17.JobEnds', WHERE WHAT IT READS IS OF BULK AT MOST 1048576: true; the input reads as it did. -/
def jobEndsUptoRow : OpenClaim := { program := "ytfefbmglimdgjaa", sum := "9ff8e627d592c54bf9a3a4966b0e79063e77bfe559d0461d94fd724be91e5f1d", func := "dayshift/dayshiftlaw17.JobEnds", spec := "jobEnds", unfollowed := true, recurses := true, loops := true, apart := false, narrowed := true }
def JobEndsUptoSaid : Prop := jobEndsUptoRow.holds Try.pinned (OpenSpec.upto jobEndsSpec)

/-- 'dayshiftlaw17.JobTexts', WHERE WHAT IT READS IS OF BULK AT MOST 1048576: true; the input reads as it did. -/
def jobTextsUptoRow : OpenClaim := { program := "ytfefbmglimdgjaa", sum := "9ff8e627d592c54bf9a3a4966b0e79063e77bfe559d0461d94fd724be91e5f1d", func := "dayshift/dayshiftlaw17.JobTexts", spec := "jobTexts", unfollowed := true, recurses := true, apart := false, narrowed := true }
def JobTextsUptoSaid : Prop := jobTextsUptoRow.holds Try.pinned (OpenSpec.upto jobTextsSpec)

/-- 'dayshiftlaw17.JobRuns', WHERE WHAT IT READS IS OF BULK AT MOST 1048576: true; the input reads as it did. -/
def jobRunsUptoRow : OpenClaim := { program := "ytfefbmglimdgjaa", sum := "9ff8e627d592c54bf9a3a4966b0e79063e77bfe559d0461d94fd724be91e5f1d", func := "dayshift/dayshiftlaw17.JobRuns", spec := "jobRuns", unfollowed := true, recurses := true, apart := false, narrowed := true }
def JobRunsUptoSaid : Prop := jobRunsUptoRow.holds Try.pinned (OpenSpec.upto jobRunsSpec)

/-- 'dayshiftlaw17.JobBack', WHERE WHAT IT READS IS OF BULK AT MOST 1048576: true; the input reads as it did. -/
def jobBackUptoRow : OpenClaim := { program := "ytfefbmglimdgjaa", sum := "9ff8e627d592c54bf9a3a4966b0e79063e77bfe559d0461d94fd724be91e5f1d", func := "dayshift/dayshiftlaw17.JobBack", spec := "jobBack", unfollowed := true, recurses := true, apart := false, narrowed := true }
def JobBackUptoSaid : Prop := jobBackUptoRow.holds Try.pinned (OpenSpec.upto jobBackSpec)

/-- 'dayshiftlaw17.JobForced', WHERE WHAT IT READS IS OF BULK AT MOST 1048576: true; the input reads as it did. -/
def jobForcedUptoRow : OpenClaim := { program := "ytfefbmglimdgjaa", sum := "9ff8e627d592c54bf9a3a4966b0e79063e77bfe559d0461d94fd724be91e5f1d", func := "dayshift/dayshiftlaw17.JobForced", spec := "jobForced", unfollowed := true, recurses := true, apart := false, narrowed := true }
def JobForcedUptoSaid : Prop := jobForcedUptoRow.holds Try.pinned (OpenSpec.upto jobForcedSpec)

/-- 'dayshiftlaw17.JobGoes', WHERE WHAT IT READS IS OF BULK AT MOST 1048576: true; the input reads as it did. -/
def jobGoesUptoRow : OpenClaim := { program := "ytfefbmglimdgjaa", sum := "9ff8e627d592c54bf9a3a4966b0e79063e77bfe559d0461d94fd724be91e5f1d", func := "dayshift/dayshiftlaw17.JobGoes", spec := "jobGoes", unfollowed := true, recurses := true, apart := false, narrowed := true }
def JobGoesUptoSaid : Prop := jobGoesUptoRow.holds Try.pinned (OpenSpec.upto jobGoesSpec)

/-- 'dayshiftlaw17.JobCommands', WHERE WHAT IT READS IS OF BULK AT MOST 1048576: true; the input reads as it did. -/
def jobCommandsUptoRow : OpenClaim := { program := "ytfefbmglimdgjaa", sum := "9ff8e627d592c54bf9a3a4966b0e79063e77bfe559d0461d94fd724be91e5f1d", func := "dayshift/dayshiftlaw17.JobCommands", spec := "jobCommands", unfollowed := true, recurses := true, apart := false, narrowed := true }
def JobCommandsUptoSaid : Prop := jobCommandsUptoRow.holds Try.pinned (OpenSpec.upto jobCommandsSpec)

end Rows
end Go.Proofs.Ytfefbmglimdgjaa
