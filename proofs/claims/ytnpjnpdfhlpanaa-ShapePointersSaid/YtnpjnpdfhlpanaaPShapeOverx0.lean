-- PRINTED BY print.sh 35421559b90ae4d0a3588c463048766b98c2df88dd9212a6774a882060cdf62d: not written by this session
import Derived.Test.YtnpjnpdfhlpanaaProg
import Derived.Below
import Derived.Deep.Draws
import Derived.Deep.AppendLies
import Derived.Maps.AppendAt
import Derived.OwnWalk
import Derived.Laws.BytesArg
import Derived.Laws.MakeOwn
import Derived.Laws.OwnMore
import Derived.Deep.OwnRows
import Derived.Tactics
import Derived.Lib.ConvBytes
import Derived.Laws.Slices
import Derived.WalkKit
import Derived.KernelRfl
import Derived.RowKit3
import Derived.Deep.LoopGhost
import Derived.Deep.QuietTactic
import Derived.BigQuiet
import Derived.WideLaws
import Derived.Deep.DeepCutAuto
import Derived.Deep.CutBlock
import Derived.Deep.RegionHeld3
import Derived.Laws.Rows
import Derived.Lib.AppendStr
import Derived.ArgAppend
import Derived.Laws.IdiomCopy
import Derived.OrdersHeld
import Derived.Laws.BitsLemmas
import Derived.RowKit
import Derived.Test.YtnpjnpdfhlpanaaWWords
import Derived.Test.YtnpjnpdfhlpanaaWLast
import Derived.Test.YtnpjnpdfhlpanaaWTab
import Derived.Test.YtnpjnpdfhlpanaaWFour
import Derived.Test.YtnpjnpdfhlpanaaWQPut
import Derived.Test.YtnpjnpdfhlpanaaWApart
import Derived.Test.YtnpjnpdfhlpanaaWArr
import Derived.Test.YtnpjnpdfhlpanaaWZeros
import Derived.Test.YtnpjnpdfhlpanaaWFoot
import Derived.Test.YtnpjnpdfhlpanaaWKept
import Derived.Test.YtnpjnpdfhlpanaaWShare
import Derived.Test.YtnpjnpdfhlpanaaWN
import Derived.Test.YtnpjnpdfhlpanaaWFootNe
import Derived.Test.YtnpjnpdfhlpanaaWAt
import Derived.Test.YtnpjnpdfhlpanaaWEqStruct
import Derived.Test.YtnpjnpdfhlpanaaWRepsOne
import Derived.Test.YtnpjnpdfhlpanaaWInv
import Derived.Test.YtnpjnpdfhlpanaaWInvWords
import Derived.Test.YtnpjnpdfhlpanaaWGuard
import Derived.Test.YtnpjnpdfhlpanaaWNEv
import Derived.Test.YtnpjnpdfhlpanaaWMore
namespace Go.Proofs.Ytnpjnpdfhlpanaa.PShapeOver
open Go.RowKit Go.Proofs.YtnpjnpdfhlpanaaW.PrintWords Go.Proofs.YtnpjnpdfhlpanaaW.PrintLast Go.Proofs.YtnpjnpdfhlpanaaW.PrintMore
attribute [local go_sem] max2_int min2_int max_two min_two max_three min_three max_four min_four   -- for this text's walks alone
set_option linter.unusedVariables false
set_option linter.unusedSimpArgs false



def errW : Option Int → Value
  | none => .nilIface
  | some c => .iface 0 (.int .i64 c)
theorem errW_none : errW none = .nilIface := rfl
theorem errW_some (c : Int) : errW (some c) = .iface 0 (.int .i64 c) := rfl

-- the values' own types

end Go.Proofs.Ytnpjnpdfhlpanaa.PShapeOver
