-- WRITTEN BY A PROGRAM OF THIS SESSION (wip/tools/myprint.py, over the kit's print); Lean checks it.
import Derived.Test.YtkjckdgknbfaiaaQallx0
import Derived.Test.YtkjckdgknbfaiaaQallx1
import Derived.Test.YtkjckdgknbfaiaaQallx2
import Derived.Test.YtkjckdgknbfaiaaQallx3
import Derived.Test.YtkjckdgknbfaiaaQallx4
import Derived.Test.YtkjckdgknbfaiaaQallx5
import Derived.Test.YtkjckdgknbfaiaaQallx6
import Derived.Test.YtkjckdgknbfaiaaQallx7
import Derived.Test.YtkjckdgknbfaiaaQallx8
import Derived.Test.YtkjckdgknbfaiaaQallx9
import Derived.Test.YtkjckdgknbfaiaaQallx10
import Derived.Test.YtkjckdgknbfaiaaQallx11
namespace Go.Proofs.Ytkjckdgknbfaiaa.Qall
open Go.RowKit Go.Proofs.YtkjckdgknbfaiaaW.PrintWords Go.Proofs.YtkjckdgknbfaiaaW.PrintLast Go.Proofs.YtkjckdgknbfaiaaW.PrintMore
attribute [local go_sem] max2_int min2_int max_two min_two max_three min_three max_four min_four   -- for this text's walks alone
set_option linter.unusedVariables false
set_option linter.unusedSimpArgs false

end Go.Proofs.Ytkjckdgknbfaiaa.Qall
