/-
  No cell of these rows narrows 'for every input' (looked for: loops, veiled, ifaces, maps, wideKeys, modest, calm, conditions, laid).
  DERIVED. THE GIVEN ROWS OF THIS SEAT. 5 by the template 'for every input the law returns true; each argument reads behind the call as it read before'; 0 by the template 'total and deterministic' (their statements: YtofpkmfjigjlhaaTotals.lean).
  GIVEN WITH THE SEED: the statements are not yours to turn. If you find one false, say at which input.
  Laid BY PROGRAM, IN A SANDBOX (cutbox-rows.mjs): the forced cells as the released guide's own fill.sh prints them over the translation be61a9b344000d5c… (all of the seat's roots in one cut). By AI agents, Wed Nov 11 2026. No macro, syntax, notation, axiom, sorry.
-/
import Derived.Test.YtofpkmfjigjlhaaChecked
import GoSem.Claim
import GoSem.ClaimJoined
import GoSem.ClaimMapViews
import Derived.JoinedTies
import Derived.KernelRfl
namespace Go.Proofs.Ytofpkmfjigjlhaa
/- THE CELL 'sum', in the pinned program and in every row, IS THE sha256 OF THE DUMP (.gsa) THAT YtofpkmfjigjlhaaProg.lean LOADS. Nothing in Lean hashes anything: it is a label: what it is worth is what the hold of that sum in a sandbox is worth. -/
noncomputable def Try.pinned : Pinned := { name := "ytofpkmfjigjlhaa", sum := "be61a9b344000d5cbc0c4714bd36da07dc42f4c7e3760d1c64e920567e019c0f", checked := Try.checked }
namespace Rows
def none {H : Type} : Left H := { results := [], args := [] }

/-- 'dayshiftlaw31.ShipSafe': WHATEVER THE INPUT: true; the input reads as it did. -/
def shipSafeSpec : ChangeSpec := { name := "shipSafe", fn := fun _ => fun
  | [d] => { results := [.lit (.bool true)], args := [d] }
  | _ => none }
def shipSafeRow : OpenClaim := { program := "ytofpkmfjigjlhaa", sum := "be61a9b344000d5cbc0c4714bd36da07dc42f4c7e3760d1c64e920567e019c0f", func := "dayshift/dayshiftlaw31.ShipSafe", spec := "shipSafe", apart := false }
def ShipSafeSaid : Prop := shipSafeRow.holds Try.pinned (OpenSpec.ofChange shipSafeSpec)

/-- ITS FALSE NEIGHBOUR: 'it returns false'. Refute it at one input. -/
def shipSafeWrong : ChangeSpec := { name := "shipSafe", fn := fun _ => fun
  | [d] => { results := [.lit (.bool false)], args := [d] }
  | _ => none }
def ShipSafeWrongFalsely : Prop := shipSafeRow.holds Try.pinned (OpenSpec.ofChange shipSafeWrong)

/-- 'dayshiftlaw31.ShipSame': WHATEVER THE INPUT: true; the input reads as it did. -/
def shipSameSpec : ChangeSpec := { name := "shipSame", fn := fun _ => fun
  | [d] => { results := [.lit (.bool true)], args := [d] }
  | _ => none }
def shipSameRow : OpenClaim := { program := "ytofpkmfjigjlhaa", sum := "be61a9b344000d5cbc0c4714bd36da07dc42f4c7e3760d1c64e920567e019c0f", func := "dayshift/dayshiftlaw31.ShipSame", spec := "shipSame", apart := false }
def ShipSameSaid : Prop := shipSameRow.holds Try.pinned (OpenSpec.ofChange shipSameSpec)

/-- ITS FALSE NEIGHBOUR: 'it returns false'. Refute it at one input. -/
def shipSameWrong : ChangeSpec := { name := "shipSame", fn := fun _ => fun
  | [d] => { results := [.lit (.bool false)], args := [d] }
  | _ => none }
def ShipSameWrongFalsely : Prop := shipSameRow.holds Try.pinned (OpenSpec.ofChange shipSameWrong)

/-- 'dayshiftlaw31.ShipCalm': WHATEVER THE INPUT: true; the input reads as it did. -/
def shipCalmSpec : ChangeSpec := { name := "shipCalm", fn := fun _ => fun
  | [d1, d2] => { results := [.lit (.bool true)], args := [d1, d2] }
  | _ => none }
def shipCalmRow : OpenClaim := { program := "ytofpkmfjigjlhaa", sum := "be61a9b344000d5cbc0c4714bd36da07dc42f4c7e3760d1c64e920567e019c0f", func := "dayshift/dayshiftlaw31.ShipCalm", spec := "shipCalm", apart := false }
def ShipCalmSaid : Prop := shipCalmRow.holds Try.pinned (OpenSpec.ofChange shipCalmSpec)

/-- ITS FALSE NEIGHBOUR: 'it returns false'. Refute it at one input. -/
def shipCalmWrong : ChangeSpec := { name := "shipCalm", fn := fun _ => fun
  | [d1, d2] => { results := [.lit (.bool false)], args := [d1, d2] }
  | _ => none }
def ShipCalmWrongFalsely : Prop := shipCalmRow.holds Try.pinned (OpenSpec.ofChange shipCalmWrong)

/-- 'dayshiftlaw31.ShipPlays': WHATEVER THE INPUT: true; the input reads as it did. -/
def shipPlaysSpec : ChangeSpec := { name := "shipPlays", fn := fun _ => fun
  | [d1, d2] => { results := [.lit (.bool true)], args := [d1, d2] }
  | _ => none }
def shipPlaysRow : OpenClaim := { program := "ytofpkmfjigjlhaa", sum := "be61a9b344000d5cbc0c4714bd36da07dc42f4c7e3760d1c64e920567e019c0f", func := "dayshift/dayshiftlaw31.ShipPlays", spec := "shipPlays", apart := false }
def ShipPlaysSaid : Prop := shipPlaysRow.holds Try.pinned (OpenSpec.ofChange shipPlaysSpec)

/-- ITS FALSE NEIGHBOUR: 'it returns false'. Refute it at one input. -/
def shipPlaysWrong : ChangeSpec := { name := "shipPlays", fn := fun _ => fun
  | [d1, d2] => { results := [.lit (.bool false)], args := [d1, d2] }
  | _ => none }
def ShipPlaysWrongFalsely : Prop := shipPlaysRow.holds Try.pinned (OpenSpec.ofChange shipPlaysWrong)

/-- 'dayshiftlaw31.ShipNil': WHATEVER THE INPUT: true; the input reads as it did. -/
def shipNilSpec : ChangeSpec := { name := "shipNil", fn := fun _ => fun
  | [d1, d2] => { results := [.lit (.bool true)], args := [d1, d2] }
  | _ => none }
def shipNilRow : OpenClaim := { program := "ytofpkmfjigjlhaa", sum := "be61a9b344000d5cbc0c4714bd36da07dc42f4c7e3760d1c64e920567e019c0f", func := "dayshift/dayshiftlaw31.ShipNil", spec := "shipNil", apart := false }
def ShipNilSaid : Prop := shipNilRow.holds Try.pinned (OpenSpec.ofChange shipNilSpec)

/-- ITS FALSE NEIGHBOUR: 'it returns false'. Refute it at one input. -/
def shipNilWrong : ChangeSpec := { name := "shipNil", fn := fun _ => fun
  | [d1, d2] => { results := [.lit (.bool false)], args := [d1, d2] }
  | _ => none }
def ShipNilWrongFalsely : Prop := shipNilRow.holds Try.pinned (OpenSpec.ofChange shipNilWrong)

/- THE SECOND FORM. 'bulk': how many values and letters a reading holds, each counted each time it is reached (what is shared counts as often as it is met; a slice's spare places count too). A statement '..UptoSaid' is the law's where the arguments, and the package variables that the reading takes, are together of bulk at most 1048576: NARROWER than '..Said'. Prove '..Said' where nothing that the law and all that it calls make is longer than what came in: it says more and counts as full. Else prove '..UptoSaid'. A law counts once. -/
mutual
def uptoBulk {H : Type} : DataW H → Nat
  | .lit (.string bytes) => bytes.length + 1
  | .lit _ => 1
  | .nil => 1
  | .ptr d => uptoBulk d + 1
  | .slice elems spare => uptoBulkAll elems + uptoBulkAll spare + 1
  | .agg parts => uptoBulkAll parts + 1
  | .iface _ d => uptoBulk d + 1
  | .map entries => uptoBulkEntries entries + 1
  | .held _ => 1
def uptoBulkAll {H : Type} : List (DataW H) → Nat
  | [] => 0
  | d :: r => uptoBulk d + uptoBulkAll r
def uptoBulkEntries {H : Type} : List (Lit × DataW H) → Nat
  | [] => 0
  | x :: r => uptoBulkEntry x + uptoBulkEntries r
def uptoBulkEntry {H : Type} : Lit × DataW H → Nat
  | (.string bytes, d) => bytes.length + uptoBulk d + 1
  | (_, d) => uptoBulk d + 1
 end
def uptoSmall : (H : Type) → List (DataW H) → Bool := fun _ ds => decide (uptoBulkAll ds ≤ 1048576)
def OpenSpec.upto (s : _root_.Go.ChangeSpec) : _root_.Go.OpenSpec := { _root_.Go.OpenSpec.ofChange s with cond := some uptoSmall }

/-- 'dayshiftlaw31.ShipSafe', WHERE WHAT IT READS IS OF BULK AT MOST 1048576: true; the input reads as it did. -/
def shipSafeUptoRow : OpenClaim := { program := "ytofpkmfjigjlhaa", sum := "be61a9b344000d5cbc0c4714bd36da07dc42f4c7e3760d1c64e920567e019c0f", func := "dayshift/dayshiftlaw31.ShipSafe", spec := "shipSafe", apart := false, narrowed := true }
def ShipSafeUptoSaid : Prop := shipSafeUptoRow.holds Try.pinned (OpenSpec.upto shipSafeSpec)

/-- 'dayshiftlaw31.ShipSame', WHERE WHAT IT READS IS OF BULK AT MOST 1048576: true; the input reads as it did. -/
def shipSameUptoRow : OpenClaim := { program := "ytofpkmfjigjlhaa", sum := "be61a9b344000d5cbc0c4714bd36da07dc42f4c7e3760d1c64e920567e019c0f", func := "dayshift/dayshiftlaw31.ShipSame", spec := "shipSame", apart := false, narrowed := true }
def ShipSameUptoSaid : Prop := shipSameUptoRow.holds Try.pinned (OpenSpec.upto shipSameSpec)

/-- 'dayshiftlaw31.ShipCalm', WHERE WHAT IT READS IS OF BULK AT MOST 1048576: true; the input reads as it did. -/
def shipCalmUptoRow : OpenClaim := { program := "ytofpkmfjigjlhaa", sum := "be61a9b344000d5cbc0c4714bd36da07dc42f4c7e3760d1c64e920567e019c0f", func := "dayshift/dayshiftlaw31.ShipCalm", spec := "shipCalm", apart := false, narrowed := true }
def ShipCalmUptoSaid : Prop := shipCalmUptoRow.holds Try.pinned (OpenSpec.upto shipCalmSpec)

/-- 'dayshiftlaw31.ShipPlays', WHERE WHAT IT READS IS OF BULK AT MOST 1048576: true; the input reads as it did. -/
def shipPlaysUptoRow : OpenClaim := { program := "ytofpkmfjigjlhaa", sum := "be61a9b344000d5cbc0c4714bd36da07dc42f4c7e3760d1c64e920567e019c0f", func := "dayshift/dayshiftlaw31.ShipPlays", spec := "shipPlays", apart := false, narrowed := true }
def ShipPlaysUptoSaid : Prop := shipPlaysUptoRow.holds Try.pinned (OpenSpec.upto shipPlaysSpec)

/-- 'dayshiftlaw31.ShipNil', WHERE WHAT IT READS IS OF BULK AT MOST 1048576: true; the input reads as it did. -/
def shipNilUptoRow : OpenClaim := { program := "ytofpkmfjigjlhaa", sum := "be61a9b344000d5cbc0c4714bd36da07dc42f4c7e3760d1c64e920567e019c0f", func := "dayshift/dayshiftlaw31.ShipNil", spec := "shipNil", apart := false, narrowed := true }
def ShipNilUptoSaid : Prop := shipNilUptoRow.holds Try.pinned (OpenSpec.upto shipNilSpec)

end Rows
end Go.Proofs.Ytofpkmfjigjlhaa
