/- What a law's statement gives of a list of nodes that it takes: its length, its numbers. || dowelbook.KeptSpans of a list that was lent and left alone answers true. Conditions: a list of at most 2^21 nodes. || What was lent, as a row of its holder's own; a block that was just made. -/
import Derived.Test.YtkebableanenkaaDoorQallx2
import Derived.Test.YtkebableanenkaaDoorLendX
import Derived.Test.YtkebableanenkaaDoorQallx10
namespace Go.Proofs.YtkebableanenkaaDoor.Lend
open Go.RowKit Go.Proofs.YtkebableanenkaaDoor.Qall Go.Proofs.YtkebableanenkaaDoorW.PrintWords Go.Proofs.YtkebableanenkaaDoorW.PrintLast Go.Proofs.YtkebableanenkaaDoorW.PrintMore
theorem len_sum (l : List S37) : l.length ≤ (l.map (fun y => ((y.f0.size + 1) + (1 + (1 + (1))) + 1))).sum := by
  induction l with
  | nil => exact Nat.le_refl _
  | cons x l ih => simp only [List.length_cons, List.map_cons, List.sum_cons]; omega
theorem name_sum (l : List S37) : ∀ x ∈ l, x.f0.size ≤ (l.map (fun y => ((y.f0.size + 1) + (1 + (1 + (1))) + 1))).sum := by
  induction l with
  | nil => intro x hx; cases hx
  | cons z l ih =>
    intro x hx
    simp only [List.map_cons, List.sum_cons]
    rcases List.mem_cons.1 hx with rfl | hx
    · omega
    · have := ih x hx; omega
theorem wf_le {i : Int} (h : (Lit.int .i64 i).wf = true) : i ≤ 9223372036854775807 := by
  have h2 : -9223372036854775808 ≤ i ∧ i ≤ 9223372036854775807 := by simp [Lit.wf, IntKind.min, IntKind.max, IntKind.signed, IntKind.bits] at h; exact h
  exact h2.2
theorem wf_ge {i : Int} (h : (Lit.int .i64 i).wf = true) : -9223372036854775808 ≤ i := by
  have h2 : -9223372036854775808 ≤ i ∧ i ≤ 9223372036854775807 := by simp [Lit.wf, IntKind.min, IntKind.max, IntKind.signed, IntKind.bits] at h; exact h
  exact h2.1
end Go.Proofs.YtkebableanenkaaDoor.Lend
namespace Go.Proofs.YtkebableanenkaaDoor.Lend
open Go.RowKit Go.Proofs.YtkebableanenkaaDoor.Qall Go.Proofs.YtkebableanenkaaDoorW.PrintWords Go.Proofs.YtkebableanenkaaDoorW.PrintLast Go.Proofs.YtkebableanenkaaDoorW.PrintMore
set_option linter.unusedSimpArgs false
set_option linter.unusedVariables false
theorem wrap_of {i : Int} (h0 : -9223372036854775808 ≤ i) (h1 : i ≤ 9223372036854775807) : wrap64 i = i := by
  unfold wrap64
  omega
theorem spans_l0 (l : List S37) (hn : l.length ≤ 2097152) : ∀ d i, i + d = l.length → ∃ k, dowelbook_Spans.l0 k l l (i : Int) = some true
  | 0, i, h => ⟨1, by rw [dowelbook_Spans.l0, if_neg (by omega)]⟩
  | d + 1, i, h => by
    obtain ⟨k, hk⟩ := spans_l0 l hn d (i + 1) (by omega)
    refine ⟨k + 1, ?_⟩
    rw [dowelbook_Spans.l0, if_pos (by omega), if_pos (by omega), if_pos (by omega), if_neg (by simp), wrap_of (by omega) (by omega)]
    exact hk
theorem spans_self (l : List S37) (hn : l.length ≤ 2097152) : ∃ k, dowelbook_Spans.f k l l = some true := by
  obtain ⟨k, hk⟩ := spans_l0 l hn l.length 0 (by omega)
  refine ⟨k, ?_⟩
  unfold dowelbook_Spans.f
  rw [if_pos rfl]
  exact hk
end Go.Proofs.YtkebableanenkaaDoor.Lend
namespace Go.Proofs.YtkebableanenkaaDoor.Free
open Go.RowKit Go.Proofs.YtkebableanenkaaDoor.Qall Go.Proofs.YtkebableanenkaaDoorW.PrintWords Go.Proofs.YtkebableanenkaaDoorW.PrintLast Go.Proofs.YtkebableanenkaaDoorW.PrintMore
set_option linter.unusedSimpArgs false
set_option linter.unusedVariables false
theorem heap_new (W : World) (o : Obj) : (W.alloc o).heap[W.heap.size]? = some o := Array.getElem?_push_size
theorem heap_new1 (W : World) (o p : Obj) : ((W.alloc p).alloc o).heap[W.heap.size + 1]? = some o := by
  have := heap_new (W.alloc p) o
  rw [World.size_alloc] at this
  exact this
/-- What was lent, as a row of its holder's own. -/
theorem own_R (W : World) (base g cap : Nat) (cur : Array Value) (l : List S37) (hg : W.heap[g]? = some (.cells cur 37 (0, 0))) (hb : base ≤ g) (hcap : l.length + 2 ≤ cap) (hmax : cap ≤ maxLen) (hs : cur.size = cap * 4) (ht : cur.toList.take ((l.length + 2) * 4) = Lend.cellsOf (l ++ Lend.lent)) :
    Kd.R k37 37 W base (fun _ => True) (.slice (some ⟨g, 0, none⟩) l.length cap) l := by
  refine Lend.R_of W base (fun _ => True) g cap cur l hg hb trivial (by omega) hmax hs ?_
  have h1 := congrArg (List.take (l.length * 4)) ht
  rw [List.take_take, Nat.min_eq_left (by omega), Lend.cellsOf_append, List.take_left' (Lend.cellsOf_length l)] at h1
  exact h1
end Go.Proofs.YtkebableanenkaaDoor.Free
