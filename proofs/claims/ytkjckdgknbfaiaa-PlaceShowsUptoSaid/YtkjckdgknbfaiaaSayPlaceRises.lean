/- What is left to prove of the law PlaceRises: its printed function answers true. Conditions: none but the types and the bulk that the statement names. -/

import Derived.Test.YtkjckdgknbfaiaaQallx11
namespace Go.Proofs.Ytkjckdgknbfaiaa.Qall
open Go.RowKit Go.Proofs.YtkjckdgknbfaiaaW.PrintWords Go.Proofs.YtkjckdgknbfaiaaW.PrintLast Go.Proofs.YtkjckdgknbfaiaaW.PrintMore
def PlaceRises.Upto : Prop := ∀ (x0 : ByteArray) (x1 : Int) (x2 : Int), (x0.size + 1) + 1 + 1 ≤ 1048576 → ((Lit.int .i64 x1).wf = true) → ((Lit.int .i64 x2).wf = true) → ∃ k, dowellaw02_PlaceRises.f k x0 x1 x2 = some true
end Go.Proofs.Ytkjckdgknbfaiaa.Qall
