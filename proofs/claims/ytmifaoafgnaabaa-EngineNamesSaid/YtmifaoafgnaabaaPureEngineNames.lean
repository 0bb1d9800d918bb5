/- The closed law EngineNames answers true: its one pure statement. No conditions. -/
import Derived.Test.YtmifaoafgnaabaaPEngineNamesx1
namespace Go.Proofs.Ytmifaoafgnaabaa.Pure
open Go.RowKit Go.Proofs.Ytmifaoafgnaabaa.PEngineNames Go.Proofs.YtmifaoafgnaabaaW.PrintWords Go.Proofs.YtmifaoafgnaabaaW.PrintLast

/-- YOURS: dowellaw21_EngineNames.f  = some true
What it reaches (each with k first where it has rounds; `.mono`: more rounds tell the same; `.l0`, ..: its loops, with `.mono_l`): dowellaw21_EngineNames.f -/
theorem EngineNames : dowellaw21_EngineNames.Pure := by
  rfl

end Go.Proofs.Ytmifaoafgnaabaa.Pure
