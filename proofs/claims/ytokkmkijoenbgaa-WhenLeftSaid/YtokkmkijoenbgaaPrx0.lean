/- Functions of the translation as plain Lean functions, with proofs that the calls come to just these answers; written by a program of this session over the kit's printer. No conditions beside those that stand in each theorem. -/
import Derived.Test.YtokkmkijoenbgaaProg
import Derived.Below
import Derived.Deep.Draws
import Derived.Deep.AppendLies
import Derived.Maps.AppendAt
import Derived.OwnWalk
import Derived.Laws.BytesArg
import Derived.Laws.MakeOwn
import Derived.Laws.OwnMore
import Derived.Deep.OwnRows
import Derived.Tactics
import Derived.Lib.ConvBytes
import Derived.Laws.Slices
import Derived.WalkKit
import Derived.KernelRfl
import Derived.RowKit3
import Derived.Deep.LoopGhost
import Derived.Deep.QuietTactic
import Derived.BigQuiet
import Derived.WideLaws
import Derived.Deep.DeepCutAuto
import Derived.Deep.CutBlock
import Derived.Deep.RegionHeld3
import Derived.Laws.Rows
import Derived.Lib.AppendStr
import Derived.ArgAppend
import Derived.Laws.IdiomCopy
import Derived.OrdersHeld
import Derived.Laws.BitsLemmas
import Derived.RowKit
import Derived.Test.YtokkmkijoenbgaaWWords
import Derived.Test.YtokkmkijoenbgaaWLast
import Derived.Test.YtokkmkijoenbgaaWTab
import Derived.Test.YtokkmkijoenbgaaWFour
import Derived.Test.YtokkmkijoenbgaaWQPut
import Derived.Test.YtokkmkijoenbgaaWApart
import Derived.Test.YtokkmkijoenbgaaWArr
import Derived.Test.YtokkmkijoenbgaaWZeros
import Derived.Test.YtokkmkijoenbgaaWFoot
import Derived.Test.YtokkmkijoenbgaaWKept
import Derived.Test.YtokkmkijoenbgaaWShare
import Derived.Test.YtokkmkijoenbgaaWN
import Derived.Test.YtokkmkijoenbgaaWFootNe
import Derived.Test.YtokkmkijoenbgaaWAt
import Derived.Test.YtokkmkijoenbgaaWEqStruct
import Derived.Test.YtokkmkijoenbgaaWRepsOne
import Derived.Test.YtokkmkijoenbgaaWInv
import Derived.Test.YtokkmkijoenbgaaWInvWords
import Derived.Test.YtokkmkijoenbgaaWGuard
import Derived.Test.YtokkmkijoenbgaaWNEv
import Derived.Test.YtokkmkijoenbgaaWMore
namespace Go.Proofs.Ytokkmkijoenbgaa.Pr
open Go.RowKit Go.Proofs.YtokkmkijoenbgaaW.PrintWords Go.Proofs.YtokkmkijoenbgaaW.PrintLast Go.Proofs.YtokkmkijoenbgaaW.PrintMore
attribute [local go_sem] max2_int min2_int max_two min_two max_three min_three max_four min_four   -- for this text's walks alone
set_option linter.unusedVariables false
set_option linter.unusedSimpArgs false



def errW : Option Int → Value
  | none => .nilIface
  | some c => .iface 0 (.int .i64 c)
theorem errW_none : errW none = .nilIface := rfl
theorem errW_some (c : Int) : errW (some c) = .iface 0 (.int .i64 c) := rfl

-- the values' own types

end Go.Proofs.Ytokkmkijoenbgaa.Pr
