/- The closed law ReportNames answers true: its one pure statement. No conditions. -/
import Derived.Test.YtloflodbcdlmpaaPReportNamesx1
namespace Go.Proofs.Ytloflodbcdlmpaa.Pure
open Go.RowKit Go.Proofs.Ytloflodbcdlmpaa.PReportNames Go.Proofs.YtloflodbcdlmpaaW.PrintWords Go.Proofs.YtloflodbcdlmpaaW.PrintLast

/-- YOURS: dowellaw28_ReportNames.f  = some true
What it reaches (each with k first where it has rounds; `.mono`: more rounds tell the same; `.l0`, ..: its loops, with `.mono_l`): dowellaw28_ReportNames.f -/
theorem ReportNames : dowellaw28_ReportNames.Pure := by
  rfl

end Go.Proofs.Ytloflodbcdlmpaa.Pure
