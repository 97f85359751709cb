-- PRINTED BY print.sh 35421559b90ae4d0a3588c463048766b98c2df88dd9212a6774a882060cdf62d: not written by this session
import Derived.Test.YtkfmenmnbhenoaaDoorProg
import Derived.Below
import Derived.Deep.Draws
import Derived.Deep.AppendLies
import Derived.Maps.AppendAt
import Derived.OwnWalk
import Derived.Laws.BytesArg
import Derived.Laws.MakeOwn
import Derived.Laws.OwnMore
import Derived.Deep.OwnRows
import Derived.Tactics
import Derived.Lib.ConvBytes
import Derived.Laws.Slices
import Derived.WalkKit
import Derived.KernelRfl
import Derived.RowKit3
import Derived.Deep.LoopGhost
import Derived.Deep.QuietTactic
import Derived.BigQuiet
import Derived.WideLaws
import Derived.Deep.DeepCutAuto
import Derived.Deep.CutBlock
import Derived.Deep.RegionHeld3
import Derived.Laws.Rows
import Derived.Lib.AppendStr
import Derived.ArgAppend
import Derived.Laws.IdiomCopy
import Derived.OrdersHeld
import Derived.Laws.BitsLemmas
import Derived.RowKit
import Derived.Test.YtkfmenmnbhenoaaDoorWWords
import Derived.Test.YtkfmenmnbhenoaaDoorWLast
import Derived.Test.YtkfmenmnbhenoaaDoorWTab
import Derived.Test.YtkfmenmnbhenoaaDoorWFour
import Derived.Test.YtkfmenmnbhenoaaDoorWQPut
import Derived.Test.YtkfmenmnbhenoaaDoorWApart
import Derived.Test.YtkfmenmnbhenoaaDoorWArr
import Derived.Test.YtkfmenmnbhenoaaDoorWZeros
import Derived.Test.YtkfmenmnbhenoaaDoorWFoot
import Derived.Test.YtkfmenmnbhenoaaDoorWKept
import Derived.Test.YtkfmenmnbhenoaaDoorWShare
import Derived.Test.YtkfmenmnbhenoaaDoorWN
import Derived.Test.YtkfmenmnbhenoaaDoorWFootNe
import Derived.Test.YtkfmenmnbhenoaaDoorWAt
import Derived.Test.YtkfmenmnbhenoaaDoorWEqStruct
import Derived.Test.YtkfmenmnbhenoaaDoorWRepsOne
import Derived.Test.YtkfmenmnbhenoaaDoorWInv
import Derived.Test.YtkfmenmnbhenoaaDoorWInvWords
import Derived.Test.YtkfmenmnbhenoaaDoorWGuard
import Derived.Test.YtkfmenmnbhenoaaDoorWNEv
import Derived.Test.YtkfmenmnbhenoaaDoorWMore
namespace Go.Proofs.YtkfmenmnbhenoaaDoor.PWordUnpacks
open Go.RowKit Go.Proofs.YtkfmenmnbhenoaaDoorW.PrintWords Go.Proofs.YtkfmenmnbhenoaaDoorW.PrintLast Go.Proofs.YtkfmenmnbhenoaaDoorW.PrintMore
attribute [local go_sem] max2_int min2_int max_two min_two max_three min_three max_four min_four   -- for this text's walks alone
set_option linter.unusedVariables false
set_option linter.unusedSimpArgs false



def errW : Option Int → Value
  | none => .nilIface
  | some c => .iface 0 (.int .i64 c)
theorem errW_none : errW none = .nilIface := rfl
theorem errW_some (c : Int) : errW (some c) = .iface 0 (.int .i64 c) := rfl

-- the values' own types

end Go.Proofs.YtkfmenmnbhenoaaDoor.PWordUnpacks
