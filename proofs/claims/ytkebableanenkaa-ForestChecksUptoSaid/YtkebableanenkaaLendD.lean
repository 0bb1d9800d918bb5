/- What was lent, as a row of its holder's own; a block that was just made. -/
import Derived.Test.YtkebableanenkaaLendC
import Derived.Test.YtkebableanenkaaArg
namespace Go.Proofs.Ytkebableanenkaa.Free
open Go.RowKit Go.Proofs.Ytkebableanenkaa.Qall Go.Proofs.YtkebableanenkaaW.PrintWords Go.Proofs.YtkebableanenkaaW.PrintLast Go.Proofs.YtkebableanenkaaW.PrintMore
set_option linter.unusedSimpArgs false
set_option linter.unusedVariables false
theorem heap_new (W : World) (o : Obj) : (W.alloc o).heap[W.heap.size]? = some o := Array.getElem?_push_size
theorem heap_new1 (W : World) (o p : Obj) : ((W.alloc p).alloc o).heap[W.heap.size + 1]? = some o := by
  have := heap_new (W.alloc p) o
  rw [World.size_alloc] at this
  exact this
/-- What was lent, as a row of its holder's own. -/
theorem own_R (W : World) (base g cap : Nat) (cur : Array Value) (l : List S34) (hg : W.heap[g]? = some (.cells cur 34 (0, 0))) (hb : base ≤ g) (hcap : l.length + 2 ≤ cap) (hmax : cap ≤ maxLen) (hs : cur.size = cap * 4) (ht : cur.toList.take ((l.length + 2) * 4) = Lend.cellsOf (l ++ Lend.lent)) :
    Kd.R k34 34 W base (fun _ => True) (.slice (some ⟨g, 0, none⟩) l.length cap) l := by
  refine Lend.R_of W base (fun _ => True) g cap cur l hg hb trivial (by omega) hmax hs ?_
  have h1 := congrArg (List.take (l.length * 4)) ht
  rw [List.take_take, Nat.min_eq_left (by omega), Lend.cellsOf_append, List.take_left' (Lend.cellsOf_length l)] at h1
  exact h1
end Go.Proofs.Ytkebableanenkaa.Free
