/-
  No cell of these rows narrows 'for every input' (looked for: loops, veiled, ifaces, maps, wideKeys, modest, calm, conditions, laid).
  DERIVED. THE GIVEN ROWS OF THIS SEAT. 5 by the template 'for every input the law returns true; each argument reads behind the call as it read before'; 0 by the template 'total and deterministic' (their statements: YtokkmkijoenbgaaTotals.lean).
  GIVEN WITH THE SEED: the statements are not yours to turn. If you find one false, say at which input.
  Laid BY PROGRAM, IN A SANDBOX (cutbox-rows.mjs): the forced cells as the released guide's own fill.sh prints them over the translation b48c4504668e0939… (all of the seat's roots in one cut). By AI agents, Wed Nov 11 2026. No macro, syntax, notation, axiom, sorry.
-/
import Derived.Test.YtokkmkijoenbgaaChecked
import GoSem.Claim
import GoSem.ClaimJoined
import GoSem.ClaimMapViews
import Derived.JoinedTies
import Derived.KernelRfl
namespace Go.Proofs.Ytokkmkijoenbgaa
/- THE CELL 'sum', in the pinned program and in every row, IS THE sha256 OF THE DUMP (.gsa) THAT YtokkmkijoenbgaaProg.lean LOADS. Nothing in Lean hashes anything: it is a label: what it is worth is what the hold of that sum in a sandbox is worth. -/
noncomputable def Try.pinned : Pinned := { name := "ytokkmkijoenbgaa", sum := "b48c4504668e0939b9e99adddc3f78e22107c10189409ba5d2697b67ccbba16d", checked := Try.checked }
namespace Rows
def none {H : Type} : Left H := { results := [], args := [] }

/-- 'dayshiftlaw15.WhenNexts': WHATEVER THE INPUT: true; the input reads as it did. -/
def whenNextsSpec : ChangeSpec := { name := "whenNexts", fn := fun _ => fun
  | [d1, d2, d3] => { results := [.lit (.bool true)], args := [d1, d2, d3] }
  | _ => none }
def whenNextsRow : OpenClaim := { program := "ytokkmkijoenbgaa", sum := "b48c4504668e0939b9e99adddc3f78e22107c10189409ba5d2697b67ccbba16d", func := "dayshift/dayshiftlaw15.WhenNexts", spec := "whenNexts", apart := false }
def WhenNextsSaid : Prop := whenNextsRow.holds Try.pinned (OpenSpec.ofChange whenNextsSpec)

/-- ITS FALSE NEIGHBOUR: 'it returns false'. Refute it at one input. -/
def whenNextsWrong : ChangeSpec := { name := "whenNexts", fn := fun _ => fun
  | [d1, d2, d3] => { results := [.lit (.bool false)], args := [d1, d2, d3] }
  | _ => none }
def WhenNextsWrongFalsely : Prop := whenNextsRow.holds Try.pinned (OpenSpec.ofChange whenNextsWrong)

/-- 'dayshiftlaw15.WhenFirst': WHATEVER THE INPUT: true; the input reads as it did. -/
def whenFirstSpec : ChangeSpec := { name := "whenFirst", fn := fun _ => fun
  | [d1, d2, d3, d4] => { results := [.lit (.bool true)], args := [d1, d2, d3, d4] }
  | _ => none }
def whenFirstRow : OpenClaim := { program := "ytokkmkijoenbgaa", sum := "b48c4504668e0939b9e99adddc3f78e22107c10189409ba5d2697b67ccbba16d", func := "dayshift/dayshiftlaw15.WhenFirst", spec := "whenFirst", apart := false }
def WhenFirstSaid : Prop := whenFirstRow.holds Try.pinned (OpenSpec.ofChange whenFirstSpec)

/-- ITS FALSE NEIGHBOUR: 'it returns false'. Refute it at one input. -/
def whenFirstWrong : ChangeSpec := { name := "whenFirst", fn := fun _ => fun
  | [d1, d2, d3, d4] => { results := [.lit (.bool false)], args := [d1, d2, d3, d4] }
  | _ => none }
def WhenFirstWrongFalsely : Prop := whenFirstRow.holds Try.pinned (OpenSpec.ofChange whenFirstWrong)

/-- 'dayshiftlaw15.WhenOpens': WHATEVER THE INPUT: true; the input reads as it did. -/
def whenOpensSpec : ChangeSpec := { name := "whenOpens", fn := fun _ => fun
  | [d1, d2, d3] => { results := [.lit (.bool true)], args := [d1, d2, d3] }
  | _ => none }
def whenOpensRow : OpenClaim := { program := "ytokkmkijoenbgaa", sum := "b48c4504668e0939b9e99adddc3f78e22107c10189409ba5d2697b67ccbba16d", func := "dayshift/dayshiftlaw15.WhenOpens", spec := "whenOpens", apart := false }
def WhenOpensSaid : Prop := whenOpensRow.holds Try.pinned (OpenSpec.ofChange whenOpensSpec)

/-- ITS FALSE NEIGHBOUR: 'it returns false'. Refute it at one input. -/
def whenOpensWrong : ChangeSpec := { name := "whenOpens", fn := fun _ => fun
  | [d1, d2, d3] => { results := [.lit (.bool false)], args := [d1, d2, d3] }
  | _ => none }
def WhenOpensWrongFalsely : Prop := whenOpensRow.holds Try.pinned (OpenSpec.ofChange whenOpensWrong)

/-- 'dayshiftlaw15.WhenOther': WHATEVER THE INPUT: true; the input reads as it did. -/
def whenOtherSpec : ChangeSpec := { name := "whenOther", fn := fun _ => fun
  | [d1, d2, d3] => { results := [.lit (.bool true)], args := [d1, d2, d3] }
  | _ => none }
def whenOtherRow : OpenClaim := { program := "ytokkmkijoenbgaa", sum := "b48c4504668e0939b9e99adddc3f78e22107c10189409ba5d2697b67ccbba16d", func := "dayshift/dayshiftlaw15.WhenOther", spec := "whenOther", apart := false }
def WhenOtherSaid : Prop := whenOtherRow.holds Try.pinned (OpenSpec.ofChange whenOtherSpec)

/-- ITS FALSE NEIGHBOUR: 'it returns false'. Refute it at one input. -/
def whenOtherWrong : ChangeSpec := { name := "whenOther", fn := fun _ => fun
  | [d1, d2, d3] => { results := [.lit (.bool false)], args := [d1, d2, d3] }
  | _ => none }
def WhenOtherWrongFalsely : Prop := whenOtherRow.holds Try.pinned (OpenSpec.ofChange whenOtherWrong)

/-- 'dayshiftlaw15.WhenLeft': WHATEVER THE INPUT: true; the input reads as it did. -/
def whenLeftSpec : ChangeSpec := { name := "whenLeft", fn := fun _ => fun
  | [d1, d2, d3] => { results := [.lit (.bool true)], args := [d1, d2, d3] }
  | _ => none }
def whenLeftRow : OpenClaim := { program := "ytokkmkijoenbgaa", sum := "b48c4504668e0939b9e99adddc3f78e22107c10189409ba5d2697b67ccbba16d", func := "dayshift/dayshiftlaw15.WhenLeft", spec := "whenLeft", apart := false }
def WhenLeftSaid : Prop := whenLeftRow.holds Try.pinned (OpenSpec.ofChange whenLeftSpec)

/-- ITS FALSE NEIGHBOUR: 'it returns false'. Refute it at one input. -/
def whenLeftWrong : ChangeSpec := { name := "whenLeft", fn := fun _ => fun
  | [d1, d2, d3] => { results := [.lit (.bool false)], args := [d1, d2, d3] }
  | _ => none }
def WhenLeftWrongFalsely : Prop := whenLeftRow.holds Try.pinned (OpenSpec.ofChange whenLeftWrong)

/- THE SECOND FORM. 'bulk': how many values and letters a reading holds, each counted each time it is reached (what is shared counts as often as it is met; a slice's spare places count too). A statement '..UptoSaid' is the law's where the arguments, and the package variables that the reading takes, are together of bulk at most 1048576: NARROWER than '..Said'. Prove '..Said' where nothing that the law and all that it calls make is longer than what came in: it says more and counts as full. Else prove '..UptoSaid'. A law counts once. -/
mutual
def uptoBulk {H : Type} : DataW H → Nat
  | .lit (.string bytes) => bytes.length + 1
  | .lit _ => 1
  | .nil => 1
  | .ptr d => uptoBulk d + 1
  | .slice elems spare => uptoBulkAll elems + uptoBulkAll spare + 1
  | .agg parts => uptoBulkAll parts + 1
  | .iface _ d => uptoBulk d + 1
  | .map entries => uptoBulkEntries entries + 1
  | .held _ => 1
def uptoBulkAll {H : Type} : List (DataW H) → Nat
  | [] => 0
  | d :: r => uptoBulk d + uptoBulkAll r
def uptoBulkEntries {H : Type} : List (Lit × DataW H) → Nat
  | [] => 0
  | x :: r => uptoBulkEntry x + uptoBulkEntries r
def uptoBulkEntry {H : Type} : Lit × DataW H → Nat
  | (.string bytes, d) => bytes.length + uptoBulk d + 1
  | (_, d) => uptoBulk d + 1
 end
def uptoSmall : (H : Type) → List (DataW H) → Bool := fun _ ds => decide (uptoBulkAll ds ≤ 1048576)
def OpenSpec.upto (s : _root_.Go.ChangeSpec) : _root_.Go.OpenSpec := { _root_.Go.OpenSpec.ofChange s with cond := some uptoSmall }

/-- 'dayshiftlaw15.WhenNexts', WHERE WHAT IT READS IS OF BULK AT MOST 1048576: true; the input reads as it did. -/
def whenNextsUptoRow : OpenClaim := { program := "ytokkmkijoenbgaa", sum := "b48c4504668e0939b9e99adddc3f78e22107c10189409ba5d2697b67ccbba16d", func := "dayshift/dayshiftlaw15.WhenNexts", spec := "whenNexts", apart := false, narrowed := true }
def WhenNextsUptoSaid : Prop := whenNextsUptoRow.holds Try.pinned (OpenSpec.upto whenNextsSpec)

/-- 'dayshiftlaw15.WhenFirst', WHERE WHAT IT READS IS OF BULK AT MOST 1048576: true; the input reads as it did. -/
def whenFirstUptoRow : OpenClaim := { program := "ytokkmkijoenbgaa", sum := "b48c4504668e0939b9e99adddc3f78e22107c10189409ba5d2697b67ccbba16d", func := "dayshift/dayshiftlaw15.WhenFirst", spec := "whenFirst", apart := false, narrowed := true }
def WhenFirstUptoSaid : Prop := whenFirstUptoRow.holds Try.pinned (OpenSpec.upto whenFirstSpec)

/-- 'dayshiftlaw15.WhenOpens', WHERE WHAT IT READS IS OF BULK AT MOST 1048576: true; the input reads as it did. -/
def whenOpensUptoRow : OpenClaim := { program := "ytokkmkijoenbgaa", sum := "b48c4504668e0939b9e99adddc3f78e22107c10189409ba5d2697b67ccbba16d", func := "dayshift/dayshiftlaw15.WhenOpens", spec := "whenOpens", apart := false, narrowed := true }
def WhenOpensUptoSaid : Prop := whenOpensUptoRow.holds Try.pinned (OpenSpec.upto whenOpensSpec)

/-- 'dayshiftlaw15.WhenOther', WHERE WHAT IT READS IS OF BULK AT MOST 1048576: true; the input reads as it did. -/
def whenOtherUptoRow : OpenClaim := { program := "ytokkmkijoenbgaa", sum := "b48c4504668e0939b9e99adddc3f78e22107c10189409ba5d2697b67ccbba16d", func := "dayshift/dayshiftlaw15.WhenOther", spec := "whenOther", apart := false, narrowed := true }
def WhenOtherUptoSaid : Prop := whenOtherUptoRow.holds Try.pinned (OpenSpec.upto whenOtherSpec)

/-- 'dayshiftlaw15.WhenLeft', WHERE WHAT IT READS IS OF BULK AT MOST 1048576: true; the input reads as it did. -/
def whenLeftUptoRow : OpenClaim := { program := "ytokkmkijoenbgaa", sum := "b48c4504668e0939b9e99adddc3f78e22107c10189409ba5d2697b67ccbba16d", func := "dayshift/dayshiftlaw15.WhenLeft", spec := "whenLeft", apart := false, narrowed := true }
def WhenLeftUptoSaid : Prop := whenLeftUptoRow.holds Try.pinned (OpenSpec.upto whenLeftSpec)

end Rows
end Go.Proofs.Ytokkmkijoenbgaa
