/- What a law's statement gives of a list of nodes that it takes: its length, its numbers. -/
import Derived.Test.YtkebableanenkaaQallx2
namespace Go.Proofs.Ytkebableanenkaa.Lend
open Go.RowKit Go.Proofs.Ytkebableanenkaa.Qall Go.Proofs.YtkebableanenkaaW.PrintWords Go.Proofs.YtkebableanenkaaW.PrintLast Go.Proofs.YtkebableanenkaaW.PrintMore
theorem len_sum (l : List S34) : l.length ≤ (l.map (fun y => ((y.f0.size + 1) + (1 + (1 + (1))) + 1))).sum := by
  induction l with
  | nil => exact Nat.le_refl _
  | cons x l ih => simp only [List.length_cons, List.map_cons, List.sum_cons]; omega
theorem name_sum (l : List S34) : ∀ x ∈ l, x.f0.size ≤ (l.map (fun y => ((y.f0.size + 1) + (1 + (1 + (1))) + 1))).sum := by
  induction l with
  | nil => intro x hx; cases hx
  | cons z l ih =>
    intro x hx
    simp only [List.map_cons, List.sum_cons]
    rcases List.mem_cons.1 hx with rfl | hx
    · omega
    · have := ih x hx; omega
theorem wf_le {i : Int} (h : (Lit.int .i64 i).wf = true) : i ≤ 9223372036854775807 := by
  have h2 : -9223372036854775808 ≤ i ∧ i ≤ 9223372036854775807 := by simp [Lit.wf, IntKind.min, IntKind.max, IntKind.signed, IntKind.bits] at h; exact h
  exact h2.2
theorem wf_ge {i : Int} (h : (Lit.int .i64 i).wf = true) : -9223372036854775808 ≤ i := by
  have h2 : -9223372036854775808 ≤ i ∧ i ≤ 9223372036854775807 := by simp [Lit.wf, IntKind.min, IntKind.max, IntKind.signed, IntKind.bits] at h; exact h
  exact h2.1
end Go.Proofs.Ytkebableanenkaa.Lend
