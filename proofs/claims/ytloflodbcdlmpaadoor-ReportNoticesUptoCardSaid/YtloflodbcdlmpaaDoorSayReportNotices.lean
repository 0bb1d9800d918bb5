/- What is left to prove of the law ReportNotices: its printed function answers true. Conditions: none but the types and the bulk that the statement names. -/

import Derived.Test.YtloflodbcdlmpaaDoorQallx9
namespace Go.Proofs.YtloflodbcdlmpaaDoor.Qall
open Go.RowKit Go.Proofs.YtloflodbcdlmpaaDoorW.PrintWords Go.Proofs.YtloflodbcdlmpaaDoorW.PrintLast Go.Proofs.YtloflodbcdlmpaaDoorW.PrintMore
structure S34 where
  f0 : Int
  f1 : Int
def k34 : Kd S34 := Kd.iso (Kd.pair (Kd.int .i64) (Kd.int .i64)) (fun x : S34 => (x.f0, x.f1))
theorem k34_open {w : World} {x : S34} {cs : List Value} (h : k34.K w x cs) : cs = [.int .i64 x.f0, .int .i64 x.f1] := by
  obtain ⟨_, _, rfl, rfl, rfl⟩ := h
  exact rfl
def ReportNotices.Upto : Prop := ∀ (x0 : ByteArray) (x1 : ByteArray) (x2 : S34), (x0.size + 1) + (x1.size + 1) + (1 + (1) + 1) ≤ 1048576 → (((Lit.int .i64 x2.f0).wf = true) ∧ ((Lit.int .i64 x2.f1).wf = true)) → ∃ k, dowellaw28_ReportNotices.f k x0 x1 x2.f0 x2.f1 = some true
end Go.Proofs.YtloflodbcdlmpaaDoor.Qall
