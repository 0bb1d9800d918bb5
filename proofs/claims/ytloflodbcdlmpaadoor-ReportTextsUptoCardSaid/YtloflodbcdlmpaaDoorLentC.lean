/- dowellaw28.lent: an outcome whose forest is lent: what its room holds behind it. -/
import Derived.Test.YtloflodbcdlmpaaDoorTxA
import Derived.Test.YtloflodbcdlmpaaDoorLendY
namespace Go.Proofs.YtloflodbcdlmpaaDoor.Rp
open Go.RowKit Go.Proofs.YtloflodbcdlmpaaDoor.Qall Go.Proofs.YtloflodbcdlmpaaDoor.Chk Go.Proofs.YtloflodbcdlmpaaDoor.Tx Go.Proofs.YtloflodbcdlmpaaDoorW.PrintWords Go.Proofs.YtloflodbcdlmpaaDoorW.PrintLast Go.Proofs.YtloflodbcdlmpaaDoorW.PrintMore
set_option linter.unusedSimpArgs false
set_option linter.unusedVariables false
theorem put4 {X : World} {g : Nat} {x0 x1 x2 x3 y0 y1 y2 y3 : Value} {t : TypeId} (h : X.heap[g]? = some (.cells #[x0, x1, x2, x3] t (0, 0))) : ((((X.setCell ⟨g, 0, none⟩ y0).setCell ⟨g, 1, none⟩ y1).setCell ⟨g, 2, none⟩ y2).setCell ⟨g, 3, none⟩ y3).heap[g]? = some (.cells #[y0, y1, y2, y3] t (0, 0)) :=
  heap_setCell_same _ _ _ _ _ _ (heap_setCell_same _ _ _ _ _ _ (heap_setCell_same _ _ _ _ _ _ (heap_setCell_same _ _ _ _ _ _ h)))
theorem heap_n1 (W : World) (o p : Obj) : ((W.alloc p).alloc o).heap[W.heap.size + 1]? = some o := by
  have := Array.getElem?_push_size (xs := (W.alloc p).heap) (x := o)
  rw [World.size_alloc] at this
  exact this
theorem heap_n2 (W : World) (o p q : Obj) : (((W.alloc p).alloc q).alloc o).heap[W.heap.size + 1 + 1]? = some o := by
  have := Array.getElem?_push_size (xs := ((W.alloc p).alloc q).heap) (x := o)
  rw [World.size_alloc, World.size_alloc] at this
  exact this
set_option maxRecDepth 100000 in
set_option maxHeartbeats 4000000 in
theorem lent_calls (k e : Int) (l : ByteArray) (f : List S60) (hn : f.length ≤ 2097152) (A : Option Addr) (c0 : Nat) (w : World) (hC : Kd.C k60 w A f.length f) (hc0 : f.length ≤ c0) :
    Calls Tryd.prog 10 #[.agg #[.int .i64 k, .int .i64 e, .string l, .slice A f.length c0]] w fun e' w' => ∃ g cap cur, w.heap.size ≤ g ∧ e' = .returned (.agg #[.int .i64 k, .int .i64 e, .string l, .slice (some ⟨g, 0, none⟩) f.length cap]) ∧ f.length + 2 ≤ cap ∧ cap ≤ maxLen ∧ w'.heap[g]? = some (.cells cur 60 (0, 0)) ∧ cur.size = cap * 4 ∧ cur.toList.take ((f.length + 2) * 4) = Lend.cellsOf (f ++ Lend.lent) ∧ Below w.heap.size w w' := by
  have hu := Tryd.underlying24
  have HC := Aside0.mk hC
  clear hC
  go_enter Tryd.func10, Tryd.ntmps10
  go_wp2_with fail
  go_at_call 23
  have hb0 := (((Below.refl w.heap.size w).alloc (Nat.le_refl _) (.cells #[.int .i64 k, .int .i64 e, .string l, .slice A f.length c0] 24)).alloc (by simp) (.cells #[.int .i64 0, .int .i64 0, .string ⟨#[]⟩, .slice none 0 0] 24)).alloc (by simp; omega) (.cells #[.int .i64 k, .int .i64 e, .string l, .slice A f.length c0] 24)
  refine (Lend.lend f A c0 _ (Kd.C_below HC.out hb0) hn).mono ?_
  rintro e_ w4 ⟨g, cap, cur, hg, rfl, hcap, hmax, hcur, hcs, htake, hb⟩
  have g1 := Aside0.mk ((hb.block (w.heap.size + 1) (by rw [World.size_alloc, World.size_alloc, World.size_alloc]; omega)).trans (blk_alloc (heap_n1 _ _ _) _))
  have g2 := Aside0.mk ((hb.block (w.heap.size + 1 + 1) (by rw [World.size_alloc, World.size_alloc, World.size_alloc]; omega)).trans (heap_n2 _ _ _ _))
  have HB := Aside0.mk (hb0.trans (hb.mono hb0.size))
  have HG := Aside0.mk hg
  have HCU := Aside0.mk hcur
  have k0 := (blk_cell g1.out 0).trans rfl
  have k1 := (blk_cell g1.out 1).trans rfl
  have k2 := (blk_cell g1.out 2).trans rfl
  have k3 := (blk_cell g1.out 3).trans rfl
  have z0 := blk_frozen g1.out 0
  have z1 := blk_frozen g1.out 1
  have z2 := blk_frozen g1.out 2
  have z3 := blk_frozen g1.out 3
  have m0 := (blk_cell g2.out 0).trans rfl
  have m1 := (blk_cell g2.out 1).trans rfl
  have m2 := (blk_cell g2.out 2).trans rfl
  have m3 := (blk_cell g2.out 3).trans rfl
  have y0 := blk_frozen g2.out 0
  have y1 := blk_frozen g2.out 1
  have y2 := blk_frozen g2.out 2
  have y3 := blk_frozen g2.out 3
  clear hb hb0 hg hcur
  go_wp2_with fail
  have hs : (((w.alloc (.cells #[.int .i64 k, .int .i64 e, .string l, .slice A f.length c0] 24)).alloc (.cells #[.int .i64 0, .int .i64 0, .string ⟨#[]⟩, .slice none 0 0] 24)).alloc (.cells #[.int .i64 k, .int .i64 e, .string l, .slice A f.length c0] 24)).heap.size = w.heap.size + 1 + 1 + 1 := by simp
  have hgt := HG.out
  rw [hs] at hgt
  refine bodyPost_ret (results_cell_row rfl _ _ (w.heap.size + 1) 24 #[.int .i64 k, .int .i64 e, .string l, .slice (some ⟨g, 0, none⟩) f.length cap] (0, 0) _ rfl (put4 ((Below.heap_setCell _ ⟨w.heap.size + 1 + 1, 3, none⟩ _ _ (show w.heap.size + 1 ≠ w.heap.size + 1 + 1 by omega)).trans g1.out)) hu rfl (by kernel_rfl)) rfl ?_
  refine ⟨g, cap, cur, by omega, by first | rfl | (simp; done), hcap, hmax, ?_, hcs, htake, ?_⟩
  · have hne1 : g ≠ w.heap.size + 1 := by omega
    have hne2 : g ≠ w.heap.size + 1 + 1 := by omega
    exact (Below.heap_setCell _ ⟨w.heap.size + 1, 3, none⟩ _ g hne1).trans ((Below.heap_setCell _ ⟨w.heap.size + 1, 2, none⟩ _ g hne1).trans ((Below.heap_setCell _ ⟨w.heap.size + 1, 1, none⟩ _ g hne1).trans ((Below.heap_setCell _ ⟨w.heap.size + 1, 0, none⟩ _ g hne1).trans ((Below.heap_setCell _ ⟨w.heap.size + 1 + 1, 3, none⟩ _ g hne2).trans HCU.out))))
  · have h1 : w.heap.size ≤ w.heap.size + 1 := Nat.le_succ _
    exact ((((HB.out.setCell (p := ⟨w.heap.size + 1 + 1, 3, none⟩) (show w.heap.size ≤ w.heap.size + 1 + 1 by omega) _).setCell (p := ⟨w.heap.size + 1, 0, none⟩) h1 _).setCell (p := ⟨w.heap.size + 1, 1, none⟩) h1 _).setCell (p := ⟨w.heap.size + 1, 2, none⟩) h1 _).setCell (p := ⟨w.heap.size + 1, 3, none⟩) h1 _
end Go.Proofs.YtloflodbcdlmpaaDoor.Rp
