/- What a law's statement gives of a list of nodes that it takes: its length, its numbers. || dowelbook.KeptSpans of a list that was lent and left alone answers true. Conditions: a list of at most 2^21 nodes. || What was lent, as a row of its holder's own; a block that was just made. -/
import Derived.Test.YtloflodbcdlmpaaDoorQallx2
import Derived.Test.YtloflodbcdlmpaaDoorLendX
import Derived.Test.YtloflodbcdlmpaaDoorKept
namespace Go.Proofs.YtloflodbcdlmpaaDoor.Lend
open Go.RowKit Go.Proofs.YtloflodbcdlmpaaDoor.Qall Go.Proofs.YtloflodbcdlmpaaDoorW.PrintWords Go.Proofs.YtloflodbcdlmpaaDoorW.PrintLast Go.Proofs.YtloflodbcdlmpaaDoorW.PrintMore
theorem len_sum (l : List S60) : l.length ≤ (l.map (fun y => ((y.f0.size + 1) + (1 + (1 + (1))) + 1))).sum := by
  induction l with
  | nil => exact Nat.le_refl _
  | cons x l ih => simp only [List.length_cons, List.map_cons, List.sum_cons]; omega
theorem name_sum (l : List S60) : ∀ x ∈ l, x.f0.size ≤ (l.map (fun y => ((y.f0.size + 1) + (1 + (1 + (1))) + 1))).sum := by
  induction l with
  | nil => intro x hx; cases hx
  | cons z l ih =>
    intro x hx
    simp only [List.map_cons, List.sum_cons]
    rcases List.mem_cons.1 hx with rfl | hx
    · omega
    · have := ih x hx; omega
theorem wf_le {i : Int} (h : (Lit.int .i64 i).wf = true) : i ≤ 9223372036854775807 := by
  have h2 : -9223372036854775808 ≤ i ∧ i ≤ 9223372036854775807 := by simp [Lit.wf, IntKind.min, IntKind.max, IntKind.signed, IntKind.bits] at h; exact h
  exact h2.2
theorem wf_ge {i : Int} (h : (Lit.int .i64 i).wf = true) : -9223372036854775808 ≤ i := by
  have h2 : -9223372036854775808 ≤ i ∧ i ≤ 9223372036854775807 := by simp [Lit.wf, IntKind.min, IntKind.max, IntKind.signed, IntKind.bits] at h; exact h
  exact h2.1
end Go.Proofs.YtloflodbcdlmpaaDoor.Lend
namespace Go.Proofs.YtloflodbcdlmpaaDoor.Lend
open Go.RowKit Go.Proofs.YtloflodbcdlmpaaDoor.Qall Go.Proofs.YtloflodbcdlmpaaDoorW.PrintWords Go.Proofs.YtloflodbcdlmpaaDoorW.PrintLast Go.Proofs.YtloflodbcdlmpaaDoorW.PrintMore
set_option linter.unusedSimpArgs false
set_option linter.unusedVariables false
theorem wrap_of {i : Int} (h0 : -9223372036854775808 ≤ i) (h1 : i ≤ 9223372036854775807) : wrap64 i = i := by
  unfold wrap64
  omega
theorem spans_l0 (l : List S60) (hn : l.length ≤ 2097152) : ∀ d i, i + d = l.length → ∃ k, dowelbook_Spans.l0 k l l (i : Int) = some true
  | 0, i, h => ⟨1, by rw [dowelbook_Spans.l0, if_neg (by omega)]⟩
  | d + 1, i, h => by
    obtain ⟨k, hk⟩ := spans_l0 l hn d (i + 1) (by omega)
    refine ⟨k + 1, ?_⟩
    rw [dowelbook_Spans.l0, if_pos (by omega), if_pos (by omega), if_pos (by omega), if_neg (by simp), wrap_of (by omega) (by omega)]
    exact hk
theorem spans_self (l : List S60) (hn : l.length ≤ 2097152) : ∃ k, dowelbook_Spans.f k l l = some true := by
  obtain ⟨k, hk⟩ := spans_l0 l hn l.length 0 (by omega)
  refine ⟨k, ?_⟩
  unfold dowelbook_Spans.f
  rw [if_pos rfl]
  exact hk
theorem rd_lent (l : List S60) (j : Nat) (hj : j < 2) : rd_T60 (l ++ lent) ((l.length + j : Nat) : Int) = lent.getD j z60 := by
  unfold rd_T60
  rw [Int.toNat_natCast, List.getD_eq_getElem?_getD, List.getElem?_append_right (by omega), Nat.add_sub_cancel_left, ← List.getD_eq_getElem?_getD]
theorem kept_self (l : List S60) (hn : l.length ≤ 2097152) : ∃ k, kept_.f k l (l ++ lent) l = some true := by
  obtain ⟨k, hk⟩ := spans_self l hn
  refine ⟨k, ?_⟩
  have hL : (l ++ lent).length = l.length + 2 := by rw [List.length_append]; rfl
  have ht : (l ++ lent).take ((l.length : Int) + 2).toNat = l ++ lent := List.take_of_length_le (by omega)
  have r0 := rd_lent l 0 (by omega)
  have r1 := rd_lent l 1 (by omega)
  rw [Nat.add_zero] at r0
  have e1 : ((l.length + 1 : Nat) : Int) = (l.length : Int) + 1 := by omega
  rw [e1] at r1
  have m1 : dowelbook_spansMark.f 77 = some (⟨#[]⟩, 0, 0, -78) := by decide +kernel
  have m2 : dowelbook_spansMore.f 77 = some (⟨#[]⟩, 0, 0, -100077) := by decide +kernel
  unfold kept_.f
  rw [wrap_of (i := (l.length : Int) + 2) (by omega) (by omega), wrap_of (i := (l.length : Int) + 1) (by omega) (by omega), if_pos (by omega), if_pos (by omega), Option.bind_some, hk, Option.bind_some, if_pos rfl, if_pos (by omega), ht, if_pos (by omega), m1, Option.bind_some, r0, if_pos (by decide +kernel), if_pos (by omega), if_pos (by omega), m2, Option.bind_some, r1]
  exact congrArg some (by decide +kernel)
theorem kept (l : List S60) (hn : l.length ≤ 2097152) (A : Option Addr) (c0 g cap : Nat) (cur : Array Value) (w : World) (hC : Kd.C k60 w A l.length l) (hc0 : l.length ≤ c0) (hg : w.heap[g]? = some (.cells cur 60 (0, 0))) (hcap : l.length + 2 ≤ cap) (hmax : cap ≤ maxLen) (hs : cur.size = cap * 4) (ht : cur.toList.take ((l.length + 2) * 4) = cellsOf (l ++ lent)) :
    Calls Tryd.prog 13 #[.slice (some ⟨g, 0, none⟩) l.length cap, .slice A l.length c0] w fun e w' => e = .returned (.bool true) ∧ Below w.heap.size w w' := by
  obtain ⟨k, hk⟩ := kept_self l hn
  have hL : (l ++ lent).length = l.length + 2 := by rw [List.length_append]; rfl
  have hR := R_of w 0 (fun _ => True) g cap cur (l ++ lent) hg (Nat.zero_le _) trivial (by omega) hmax hs (by rw [hL]; exact ht)
  have ht2 : cur.toList.take (l.length * 4) = cellsOf l := by
    have h1 := congrArg (List.take (l.length * 4)) ht
    rw [List.take_take, Nat.min_eq_left (by omega), cellsOf_append, List.take_left' (cellsOf_length l)] at h1
    exact h1
  have hR2 := R_of w 0 (fun _ => True) g cap cur l hg (Nat.zero_le _) trivial (by omega) hmax hs ht2
  exact kept_.calls k _ cap l (l ++ lent) _ c0 l true w (Kd.R_reads' hR2).2.2 (by omega) (Kd.R_reads' hR).2.2 (by omega) hC hc0 hk rfl
end Go.Proofs.YtloflodbcdlmpaaDoor.Lend
namespace Go.Proofs.YtloflodbcdlmpaaDoor.Free
open Go.RowKit Go.Proofs.YtloflodbcdlmpaaDoor.Qall Go.Proofs.YtloflodbcdlmpaaDoorW.PrintWords Go.Proofs.YtloflodbcdlmpaaDoorW.PrintLast Go.Proofs.YtloflodbcdlmpaaDoorW.PrintMore
set_option linter.unusedSimpArgs false
set_option linter.unusedVariables false
theorem heap_new (W : World) (o : Obj) : (W.alloc o).heap[W.heap.size]? = some o := Array.getElem?_push_size
theorem heap_new1 (W : World) (o p : Obj) : ((W.alloc p).alloc o).heap[W.heap.size + 1]? = some o := by
  have := heap_new (W.alloc p) o
  rw [World.size_alloc] at this
  exact this
/-- What was lent, as a row of its holder's own. -/
theorem own_R (W : World) (base g cap : Nat) (cur : Array Value) (l : List S60) (hg : W.heap[g]? = some (.cells cur 60 (0, 0))) (hb : base ≤ g) (hcap : l.length + 2 ≤ cap) (hmax : cap ≤ maxLen) (hs : cur.size = cap * 4) (ht : cur.toList.take ((l.length + 2) * 4) = Lend.cellsOf (l ++ Lend.lent)) :
    Kd.R k60 60 W base (fun _ => True) (.slice (some ⟨g, 0, none⟩) l.length cap) l := by
  refine Lend.R_of W base (fun _ => True) g cap cur l hg hb trivial (by omega) hmax hs ?_
  have h1 := congrArg (List.take (l.length * 4)) ht
  rw [List.take_take, Nat.min_eq_left (by omega), Lend.cellsOf_append, List.take_left' (Lend.cellsOf_length l)] at h1
  exact h1
end Go.Proofs.YtloflodbcdlmpaaDoor.Free
