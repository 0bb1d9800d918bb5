/- The closed law ForestNames answers true: its one pure statement. No conditions. -/
import Derived.Test.YtkebableanenkaaPForestNamesx1
namespace Go.Proofs.Ytkebableanenkaa.Pure
open Go.RowKit Go.Proofs.Ytkebableanenkaa.PForestNames Go.Proofs.YtkebableanenkaaW.PrintWords Go.Proofs.YtkebableanenkaaW.PrintLast

/-- YOURS: dowellaw12_ForestNames.f  = some true
What it reaches (each with k first where it has rounds; `.mono`: more rounds tell the same; `.l0`, ..: its loops, with `.mono_l`): dowellaw12_ForestNames.f -/
theorem ForestNames : dowellaw12_ForestNames.Pure := by
  rfl

end Go.Proofs.Ytkebableanenkaa.Pure
