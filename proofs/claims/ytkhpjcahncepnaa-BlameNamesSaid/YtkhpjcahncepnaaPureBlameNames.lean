/- The closed law BlameNames answers true: its one pure statement. No conditions. -/
import Derived.Test.YtkhpjcahncepnaaPBlameNamesx1
namespace Go.Proofs.Ytkhpjcahncepnaa.Pure
open Go.RowKit Go.Proofs.Ytkhpjcahncepnaa.PBlameNames Go.Proofs.YtkhpjcahncepnaaW.PrintWords Go.Proofs.YtkhpjcahncepnaaW.PrintLast

/-- YOURS: dowellaw15_BlameNames.f  = some true
What it reaches (each with k first where it has rounds; `.mono`: more rounds tell the same; `.l0`, ..: its loops, with `.mono_l`): dowellaw15_BlameNames.f -/
theorem BlameNames : dowellaw15_BlameNames.Pure := by
  rfl

end Go.Proofs.Ytkhpjcahncepnaa.Pure
