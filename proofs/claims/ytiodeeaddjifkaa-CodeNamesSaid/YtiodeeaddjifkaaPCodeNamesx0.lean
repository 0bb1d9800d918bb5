-- PRINTED BY print.sh 35421559b90ae4d0a3588c463048766b98c2df88dd9212a6774a882060cdf62d: not written by this session
import Derived.Test.YtiodeeaddjifkaaProg
import Derived.Below
import Derived.Deep.Draws
import Derived.Deep.AppendLies
import Derived.Maps.AppendAt
import Derived.OwnWalk
import Derived.Laws.BytesArg
import Derived.Laws.MakeOwn
import Derived.Laws.OwnMore
import Derived.Deep.OwnRows
import Derived.Tactics
import Derived.Lib.ConvBytes
import Derived.Laws.Slices
import Derived.WalkKit
import Derived.KernelRfl
import Derived.RowKit3
import Derived.Deep.LoopGhost
import Derived.Deep.QuietTactic
import Derived.BigQuiet
import Derived.WideLaws
import Derived.Deep.DeepCutAuto
import Derived.Deep.CutBlock
import Derived.Deep.RegionHeld3
import Derived.Laws.Rows
import Derived.Lib.AppendStr
import Derived.ArgAppend
import Derived.Laws.IdiomCopy
import Derived.OrdersHeld
import Derived.Laws.BitsLemmas
import Derived.RowKit
import Derived.Test.YtiodeeaddjifkaaWWords
import Derived.Test.YtiodeeaddjifkaaWLast
import Derived.Test.YtiodeeaddjifkaaWTab
import Derived.Test.YtiodeeaddjifkaaWFour
import Derived.Test.YtiodeeaddjifkaaWQPut
import Derived.Test.YtiodeeaddjifkaaWApart
import Derived.Test.YtiodeeaddjifkaaWArr
import Derived.Test.YtiodeeaddjifkaaWZeros
import Derived.Test.YtiodeeaddjifkaaWFoot
import Derived.Test.YtiodeeaddjifkaaWKept
import Derived.Test.YtiodeeaddjifkaaWShare
import Derived.Test.YtiodeeaddjifkaaWN
import Derived.Test.YtiodeeaddjifkaaWFootNe
import Derived.Test.YtiodeeaddjifkaaWAt
import Derived.Test.YtiodeeaddjifkaaWEqStruct
import Derived.Test.YtiodeeaddjifkaaWRepsOne
import Derived.Test.YtiodeeaddjifkaaWInv
import Derived.Test.YtiodeeaddjifkaaWInvWords
import Derived.Test.YtiodeeaddjifkaaWGuard
import Derived.Test.YtiodeeaddjifkaaWNEv
import Derived.Test.YtiodeeaddjifkaaWMore
namespace Go.Proofs.Ytiodeeaddjifkaa.PCodeNames
open Go.RowKit Go.Proofs.YtiodeeaddjifkaaW.PrintWords Go.Proofs.YtiodeeaddjifkaaW.PrintLast Go.Proofs.YtiodeeaddjifkaaW.PrintMore
attribute [local go_sem] max2_int min2_int max_two min_two max_three min_three max_four min_four   -- for this text's walks alone
set_option linter.unusedVariables false
set_option linter.unusedSimpArgs false



def errW : Option Int → Value
  | none => .nilIface
  | some c => .iface 0 (.int .i64 c)
theorem errW_none : errW none = .nilIface := rfl
theorem errW_some (c : Int) : errW (some c) = .iface 0 (.int .i64 c) := rfl

-- the values' own types

end Go.Proofs.Ytiodeeaddjifkaa.PCodeNames
