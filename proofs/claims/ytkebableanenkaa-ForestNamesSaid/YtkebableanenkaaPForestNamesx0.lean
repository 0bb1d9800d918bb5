-- PRINTED BY print.sh 35421559b90ae4d0a3588c463048766b98c2df88dd9212a6774a882060cdf62d: not written by this session
import Derived.Test.YtkebableanenkaaProg
import Derived.Below
import Derived.Deep.Draws
import Derived.Deep.AppendLies
import Derived.Maps.AppendAt
import Derived.OwnWalk
import Derived.Laws.BytesArg
import Derived.Laws.MakeOwn
import Derived.Laws.OwnMore
import Derived.Deep.OwnRows
import Derived.Tactics
import Derived.Lib.ConvBytes
import Derived.Laws.Slices
import Derived.WalkKit
import Derived.KernelRfl
import Derived.RowKit3
import Derived.Deep.LoopGhost
import Derived.Deep.QuietTactic
import Derived.BigQuiet
import Derived.WideLaws
import Derived.Deep.DeepCutAuto
import Derived.Deep.CutBlock
import Derived.Deep.RegionHeld3
import Derived.Laws.Rows
import Derived.Lib.AppendStr
import Derived.ArgAppend
import Derived.Laws.IdiomCopy
import Derived.OrdersHeld
import Derived.Laws.BitsLemmas
import Derived.RowKit
import Derived.Test.YtkebableanenkaaWWords
import Derived.Test.YtkebableanenkaaWLast
import Derived.Test.YtkebableanenkaaWTab
import Derived.Test.YtkebableanenkaaWFour
import Derived.Test.YtkebableanenkaaWQPut
import Derived.Test.YtkebableanenkaaWApart
import Derived.Test.YtkebableanenkaaWArr
import Derived.Test.YtkebableanenkaaWZeros
import Derived.Test.YtkebableanenkaaWFoot
import Derived.Test.YtkebableanenkaaWKept
import Derived.Test.YtkebableanenkaaWShare
import Derived.Test.YtkebableanenkaaWN
import Derived.Test.YtkebableanenkaaWFootNe
import Derived.Test.YtkebableanenkaaWAt
import Derived.Test.YtkebableanenkaaWEqStruct
import Derived.Test.YtkebableanenkaaWRepsOne
import Derived.Test.YtkebableanenkaaWInv
import Derived.Test.YtkebableanenkaaWInvWords
import Derived.Test.YtkebableanenkaaWGuard
import Derived.Test.YtkebableanenkaaWNEv
import Derived.Test.YtkebableanenkaaWMore
namespace Go.Proofs.Ytkebableanenkaa.PForestNames
open Go.RowKit Go.Proofs.YtkebableanenkaaW.PrintWords Go.Proofs.YtkebableanenkaaW.PrintLast Go.Proofs.YtkebableanenkaaW.PrintMore
attribute [local go_sem] max2_int min2_int max_two min_two max_three min_three max_four min_four   -- for this text's walks alone
set_option linter.unusedVariables false
set_option linter.unusedSimpArgs false



def errW : Option Int → Value
  | none => .nilIface
  | some c => .iface 0 (.int .i64 c)
theorem errW_none : errW none = .nilIface := rfl
theorem errW_some (c : Int) : errW (some c) = .iface 0 (.int .i64 c) := rfl

-- the values' own types

end Go.Proofs.Ytkebableanenkaa.PForestNames
