-- WRITTEN BY A PROGRAM OF THIS SESSION (wip/tools/myprint.py, over the kit's print); Lean checks it.
import Derived.Test.YtloflodbcdlmpaaDoorQallx0
import Derived.Test.YtloflodbcdlmpaaDoorQallx1
import Derived.Test.YtloflodbcdlmpaaDoorTxA
import Derived.Test.YtloflodbcdlmpaaDoorQallx4
import Derived.Test.YtloflodbcdlmpaaDoorWWords
import Derived.Test.YtloflodbcdlmpaaDoorWLast
import Derived.Test.YtloflodbcdlmpaaDoorWTab
import Derived.Test.YtloflodbcdlmpaaDoorWFour
import Derived.Test.YtloflodbcdlmpaaDoorWQPut
import Derived.Test.YtloflodbcdlmpaaDoorWApart
import Derived.Test.YtloflodbcdlmpaaDoorWArr
import Derived.Test.YtloflodbcdlmpaaDoorWZeros
import Derived.Test.YtloflodbcdlmpaaDoorWFoot
import Derived.Test.YtloflodbcdlmpaaDoorWKept
import Derived.Test.YtloflodbcdlmpaaDoorWShare
import Derived.Test.YtloflodbcdlmpaaDoorWN
import Derived.Test.YtloflodbcdlmpaaDoorWFootNe
import Derived.Test.YtloflodbcdlmpaaDoorWAt
import Derived.Test.YtloflodbcdlmpaaDoorWEqStruct
import Derived.Test.YtloflodbcdlmpaaDoorWRepsOne
import Derived.Test.YtloflodbcdlmpaaDoorWInv
import Derived.Test.YtloflodbcdlmpaaDoorWInvWords
import Derived.Test.YtloflodbcdlmpaaDoorWGuard
import Derived.Test.YtloflodbcdlmpaaDoorWNEv
import Derived.Test.YtloflodbcdlmpaaDoorWMore
namespace Go.Proofs.YtloflodbcdlmpaaDoor.Qall
open Go.RowKit Go.Proofs.YtloflodbcdlmpaaDoorW.PrintWords Go.Proofs.YtloflodbcdlmpaaDoorW.PrintLast Go.Proofs.YtloflodbcdlmpaaDoorW.PrintMore
attribute [local go_sem] max2_int min2_int max_two min_two max_three min_three max_four min_four   -- for this text's walks alone
set_option linter.unusedVariables false
set_option linter.unusedSimpArgs false



/-! #### struct type 60 -/
theorem szm_0_ : (⟨#[]⟩ : ByteArray).size = 0 := rfl
theorem szm_1_ : (⟨#[108]⟩ : ByteArray).size = 1 := rfl
end Go.Proofs.YtloflodbcdlmpaaDoor.Qall
