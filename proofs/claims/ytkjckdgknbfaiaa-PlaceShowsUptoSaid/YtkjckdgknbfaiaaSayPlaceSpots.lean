/- What is left to prove of the law PlaceSpots: its printed function answers true. Conditions: none but the types and the bulk that the statement names. -/

import Derived.Test.YtkjckdgknbfaiaaQallx6
namespace Go.Proofs.Ytkjckdgknbfaiaa.Qall
open Go.RowKit Go.Proofs.YtkjckdgknbfaiaaW.PrintWords Go.Proofs.YtkjckdgknbfaiaaW.PrintLast Go.Proofs.YtkjckdgknbfaiaaW.PrintMore
def PlaceSpots.Upto : Prop := ∀ (x0 : ByteArray) (x1 : Int), (x0.size + 1) + 1 ≤ 1048576 → ((Lit.int .i64 x1).wf = true) → ∃ k, dowellaw02_PlaceSpots.f k x0 x1 = some true
end Go.Proofs.Ytkjckdgknbfaiaa.Qall
