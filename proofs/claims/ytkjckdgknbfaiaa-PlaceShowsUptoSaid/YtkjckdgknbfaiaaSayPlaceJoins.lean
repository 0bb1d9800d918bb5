/- What is left to prove of the law PlaceJoins: its printed function answers true. Conditions: none but the types and the bulk that the statement names. -/

import Derived.Test.YtkjckdgknbfaiaaQallx10
namespace Go.Proofs.Ytkjckdgknbfaiaa.Qall
open Go.RowKit Go.Proofs.YtkjckdgknbfaiaaW.PrintWords Go.Proofs.YtkjckdgknbfaiaaW.PrintLast Go.Proofs.YtkjckdgknbfaiaaW.PrintMore
def PlaceJoins.Upto : Prop := ∀ (x0 : ByteArray), (x0.size + 1) ≤ 1048576 → ∃ k, dowellaw02_PlaceJoins.f k x0 = some true
end Go.Proofs.Ytkjckdgknbfaiaa.Qall
