/- Functions of the translation as plain Lean functions, with proofs that the calls come to just these answers; written by a program of this session over the kit's printer. No conditions beside those that stand in each theorem. -/
import Derived.Test.YtklpcmfigfigcaaProg
import Derived.Below
import Derived.Deep.Draws
import Derived.Deep.AppendLies
import Derived.Maps.AppendAt
import Derived.OwnWalk
import Derived.Laws.BytesArg
import Derived.Laws.MakeOwn
import Derived.Laws.OwnMore
import Derived.Deep.OwnRows
import Derived.Tactics
import Derived.Lib.ConvBytes
import Derived.Laws.Slices
import Derived.WalkKit
import Derived.KernelRfl
import Derived.RowKit3
import Derived.Deep.LoopGhost
import Derived.Deep.QuietTactic
import Derived.BigQuiet
import Derived.WideLaws
import Derived.Deep.DeepCutAuto
import Derived.Deep.CutBlock
import Derived.Deep.RegionHeld3
import Derived.Laws.Rows
import Derived.Lib.AppendStr
import Derived.ArgAppend
import Derived.Laws.IdiomCopy
import Derived.OrdersHeld
import Derived.Laws.BitsLemmas
import Derived.RowKit
import Derived.Test.YtklpcmfigfigcaaWWords
import Derived.Test.YtklpcmfigfigcaaWLast
import Derived.Test.YtklpcmfigfigcaaWTab
import Derived.Test.YtklpcmfigfigcaaWFour
import Derived.Test.YtklpcmfigfigcaaWQPut
import Derived.Test.YtklpcmfigfigcaaWApart
import Derived.Test.YtklpcmfigfigcaaWArr
import Derived.Test.YtklpcmfigfigcaaWZeros
import Derived.Test.YtklpcmfigfigcaaWFoot
import Derived.Test.YtklpcmfigfigcaaWKept
import Derived.Test.YtklpcmfigfigcaaWShare
import Derived.Test.YtklpcmfigfigcaaWN
import Derived.Test.YtklpcmfigfigcaaWFootNe
import Derived.Test.YtklpcmfigfigcaaWAt
import Derived.Test.YtklpcmfigfigcaaWEqStruct
import Derived.Test.YtklpcmfigfigcaaWRepsOne
import Derived.Test.YtklpcmfigfigcaaWInv
import Derived.Test.YtklpcmfigfigcaaWInvWords
import Derived.Test.YtklpcmfigfigcaaWGuard
import Derived.Test.YtklpcmfigfigcaaWNEv
import Derived.Test.YtklpcmfigfigcaaWMore
namespace Go.Proofs.Ytklpcmfigfigcaa.Pk
open Go.RowKit Go.Proofs.YtklpcmfigfigcaaW.PrintWords Go.Proofs.YtklpcmfigfigcaaW.PrintLast Go.Proofs.YtklpcmfigfigcaaW.PrintMore
attribute [local go_sem] max2_int min2_int max_two min_two max_three min_three max_four min_four   -- for this text's walks alone
set_option linter.unusedVariables false
set_option linter.unusedSimpArgs false



def errW : Option Int → Value
  | none => .nilIface
  | some c => .iface 0 (.int .i64 c)
theorem errW_none : errW none = .nilIface := rfl
theorem errW_some (c : Int) : errW (some c) = .iface 0 (.int .i64 c) := rfl

-- the values' own types

end Go.Proofs.Ytklpcmfigfigcaa.Pk
