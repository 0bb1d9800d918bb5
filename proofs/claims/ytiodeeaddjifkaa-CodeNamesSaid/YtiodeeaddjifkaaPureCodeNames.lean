/- The closed law CodeNames answers true: its one pure statement. No conditions. -/
import Derived.Test.YtiodeeaddjifkaaPCodeNamesx1
namespace Go.Proofs.Ytiodeeaddjifkaa.Pure
open Go.RowKit Go.Proofs.Ytiodeeaddjifkaa.PCodeNames Go.Proofs.YtiodeeaddjifkaaW.PrintWords Go.Proofs.YtiodeeaddjifkaaW.PrintLast

/-- YOURS: dowellaw19_CodeNames.f  = some true
What it reaches (each with k first where it has rounds; `.mono`: more rounds tell the same; `.l0`, ..: its loops, with `.mono_l`): dowellaw19_CodeNames.f -/
theorem CodeNames : dowellaw19_CodeNames.Pure := by
  rfl

end Go.Proofs.Ytiodeeaddjifkaa.Pure
