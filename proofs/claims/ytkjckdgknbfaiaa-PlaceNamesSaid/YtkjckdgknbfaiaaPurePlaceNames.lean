/- The closed law PlaceNames answers true: its one pure statement. No conditions. -/
import Derived.Test.YtkjckdgknbfaiaaPPlaceNamesx1
namespace Go.Proofs.Ytkjckdgknbfaiaa.Pure
open Go.RowKit Go.Proofs.Ytkjckdgknbfaiaa.PPlaceNames Go.Proofs.YtkjckdgknbfaiaaW.PrintWords Go.Proofs.YtkjckdgknbfaiaaW.PrintLast

/-- YOURS: dowellaw02_PlaceNames.f  = some true
What it reaches (each with k first where it has rounds; `.mono`: more rounds tell the same; `.l0`, ..: its loops, with `.mono_l`): dowellaw02_PlaceNames.f -/
theorem PlaceNames : dowellaw02_PlaceNames.Pure := by
  rfl

end Go.Proofs.Ytkjckdgknbfaiaa.Pure
