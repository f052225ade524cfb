-- Text of this claim, written by a program.
import Derived.Test.YtlklehliapbgeaaProg
import Derived.Below
import Derived.Deep.Draws
import Derived.Deep.AppendLies
import Derived.Maps.AppendAt
import Derived.OwnWalk
import Derived.Laws.BytesArg
import Derived.Laws.MakeOwn
import Derived.Laws.OwnMore
import Derived.Deep.OwnRows
import Derived.Tactics
import Derived.Lib.ConvBytes
import Derived.Laws.Slices
import Derived.WalkKit
import Derived.KernelRfl
import Derived.RowKit3
import Derived.Deep.LoopGhost
import Derived.Deep.QuietTactic
import Derived.BigQuiet
import Derived.WideLaws
import Derived.Deep.DeepCutAuto
import Derived.Deep.CutBlock
import Derived.Deep.RegionHeld3
import Derived.Laws.Rows
import Derived.Lib.AppendStr
import Derived.ArgAppend
import Derived.Laws.IdiomCopy
import Derived.OrdersHeld
import Derived.Laws.BitsLemmas
import Derived.RowKit
import Derived.Test.YtlklehliapbgeaaLevGive
import Derived.Test.YtlklehliapbgeaaLevRefG
import Derived.Test.YtlklehliapbgeaaWWords
import Derived.Test.YtlklehliapbgeaaWLast
import Derived.Test.YtlklehliapbgeaaWTab
import Derived.Test.YtlklehliapbgeaaWFour
import Derived.Test.YtlklehliapbgeaaWQPut
import Derived.Test.YtlklehliapbgeaaWApart
import Derived.Test.YtlklehliapbgeaaWArr
import Derived.Test.YtlklehliapbgeaaWZeros
import Derived.Test.YtlklehliapbgeaaWFoot
import Derived.Test.YtlklehliapbgeaaWKept
import Derived.Test.YtlklehliapbgeaaWShare
import Derived.Test.YtlklehliapbgeaaWN
import Derived.Test.YtlklehliapbgeaaWFootNe
import Derived.Test.YtlklehliapbgeaaWAt
import Derived.Test.YtlklehliapbgeaaWEqStruct
import Derived.Test.YtlklehliapbgeaaWRepsOne
import Derived.Test.YtlklehliapbgeaaWInv
import Derived.Test.YtlklehliapbgeaaWInvWords
import Derived.Test.YtlklehliapbgeaaWGuard
import Derived.Test.YtlklehliapbgeaaWNEv
import Derived.Test.YtlklehliapbgeaaWMore
namespace Go.Proofs.Ytlklehliapbgeaa.PLevelsTell
open Go.RowKit Go.Proofs.YtlklehliapbgeaaW.PrintWords Go.Proofs.YtlklehliapbgeaaW.PrintLast Go.Proofs.YtlklehliapbgeaaW.PrintMore
attribute [local go_sem] max2_int min2_int max_two min_two max_three min_three max_four min_four   -- for this text's walks alone
set_option linter.unusedVariables false
set_option linter.unusedSimpArgs false



def errW : Option Int → Value
  | none => .nilIface
  | some c => .iface 0 (.int .i64 c)
theorem errW_none : errW none = .nilIface := rfl
theorem errW_some (c : Int) : errW (some c) = .iface 0 (.int .i64 c) := rfl

-- the values' own types

end Go.Proofs.Ytlklehliapbgeaa.PLevelsTell
