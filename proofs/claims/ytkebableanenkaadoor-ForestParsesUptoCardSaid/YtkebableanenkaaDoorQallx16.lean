-- WRITTEN BY A PROGRAM OF THIS SESSION (wip/tools/myprint.py, over the kit's print); Lean checks it.
import Derived.Test.YtkebableanenkaaDoorQallx0
import Derived.Test.YtkebableanenkaaDoorQallx15
namespace Go.Proofs.YtkebableanenkaaDoor.Qall
open Go.RowKit Go.Proofs.YtkebableanenkaaDoorW.PrintWords Go.Proofs.YtkebableanenkaaDoorW.PrintLast Go.Proofs.YtkebableanenkaaDoorW.PrintMore
attribute [local go_sem] max2_int min2_int max_two min_two max_three min_three max_four min_four   -- for this text's walks alone
set_option linter.unusedVariables false
set_option linter.unusedSimpArgs false

/-! ### dowelref12_Parse: function 11 -/
mutual
def dowelref12_Parse.l0 : Nat → ByteArray → List (S37) → List Int → List Int → Int → Option ((List (S37)) × Int × Int)
  | 0, _, _, _, _, _ => none
  | k + 1, x0, x4, x5, x6, x7 => if x7 < (x0.size : Int) then (dowelref12_Parse.l1 k x0 x4 x5 x6 x7 x7) else (some (x4, 0, 0))
def dowelref12_Parse.j2 : Nat → ByteArray → List (S37) → List Int → List Int → Int → Int → Option ((List (S37)) × Int × Int)
  | 0, _, _, _, _, _, _ => none
  | k + 1, x0, x4, x5, x6, x7, x8 => if x8 < (x0.size : Int) then (if 0 ≤ x7 then (if x7 ≤ x8 then (if x8 ≤ (x0.size : Int) then ((dowelref12_line.f k (x0.extract (x7 : Int).toNat (x8 : Int).toNat)).bind fun bt299 => (dowelref12_Parse.j3 k x0 x4 x5 x6 x7 x8 bt299.1 bt299.2.2.2.2.2 bt299.2.1 bt299.2.2.1 bt299.2.2.2.1 bt299.2.2.2.2.1)) else (none)) else (none)) else (none)) else (dowelref12_Parse.j3 k x0 x4 x5 x6 x7 x8 0 false (⟨#[]⟩ : ByteArray) 0 0 0)
def dowelref12_Parse.j3 : Nat → ByteArray → List (S37) → List Int → List Int → Int → Int → Int → Bool → ByteArray → Int → Int → Int → Option ((List (S37)) × Int × Int)
  | 0, _, _, _, _, _, _, _, _, _, _, _, _ => none
  | k + 1, x0, x4, x5, x6, x7, x8, x9, x11, x299000, x299001, x299002, x299003 => if x11 = true then (if x9 > (x5.length : Int) then (dowelref12_Parse.j4 k x0 x4 x5 x6 x7 x8 x9 true x299000 x299001 x299002 x299003) else (dowelref12_Parse.j4 k x0 x4 x5 x6 x7 x8 x9 (decide (x299002 < x299001)) x299000 x299001 x299002 x299003)) else (dowelref12_Parse.j4 k x0 x4 x5 x6 x7 x8 x9 true x299000 x299001 x299002 x299003)
def dowelref12_Parse.j4 : Nat → ByteArray → List (S37) → List Int → List Int → Int → Int → Int → Bool → ByteArray → Int → Int → Int → Option ((List (S37)) × Int × Int)
  | 0, _, _, _, _, _, _, _, _, _, _, _, _ => none
  | k + 1, x0, x4, x5, x6, x7, x8, x9, x63, x299000, x299001, x299002, x299003 => if x63 = true then (some (([] : List (S37)), x7, 120)) else (if x6.length < 17592186044416 then ((some (x6 ++ [0] : List Int)).bind fun y305 => (if 0 ≤ x9 then (if x9 < (y305.length : Int) then (if x9 > 0 then (if 0 ≤ (wrap64 (x9 - 1)) then (if (wrap64 (x9 - 1)) < (x5.length : Int) then (if 0 ≤ (rd x5 (wrap64 (x9 - 1))) then (if (rd x5 (wrap64 (x9 - 1))) < (x4.length : Int) then (if x299001 < ((rd_T37 x4 (rd x5 (wrap64 (x9 - 1)))).f1) then (some (([] : List (S37)), x7, 120)) else (if x299002 > ((rd_T37 x4 (rd x5 (wrap64 (x9 - 1)))).f2) then (some (([] : List (S37)), x7, 120)) else (dowelref12_Parse.j5 k x0 x4 x5 y305 x7 x8 x9 (rd y305 x9) x299000 x299001 x299002 x299003))) else (none)) else (none)) else (none)) else (none)) else (dowelref12_Parse.j5 k x0 x4 x5 y305 x7 x8 x9 (rd y305 x9) x299000 x299001 x299002 x299003)) else (none)) else (none))) else (none))
def dowelref12_Parse.j5 : Nat → ByteArray → List (S37) → List Int → List Int → Int → Int → Int → Int → ByteArray → Int → Int → Int → Option ((List (S37)) × Int × Int)
  | 0, _, _, _, _, _, _, _, _, _, _, _, _ => none
  | k + 1, x0, x4, x5, x6, x7, x8, x9, x12, x299000, x299001, x299002, x299003 => if x299001 < x12 then (some (([] : List (S37)), x7, 120)) else (if x9 > 0 then (if 0 ≤ (wrap64 (x9 - 1)) then (if (wrap64 (x9 - 1)) < (x5.length : Int) then (if 0 ≤ (rd x5 (wrap64 (x9 - 1))) then (if (rd x5 (wrap64 (x9 - 1))) < (x4.length : Int) then ((some (x4.set ((rd x5 (wrap64 (x9 - 1))) : Int).toNat (⟨(rd_T37 x4 (rd x5 (wrap64 (x9 - 1)))).f0, (rd_T37 x4 (rd x5 (wrap64 (x9 - 1)))).f1, (rd_T37 x4 (rd x5 (wrap64 (x9 - 1)))).f2, wrap64 (((rd_T37 x4 (rd x5 (wrap64 (x9 - 1)))).f3) + 1)⟩ : S37) : List (S37))).bind fun y314 => (if 0 ≤ x9 then (if x9 ≤ (x6.length : Int) then ((some (x6.take (x9 : Int).toNat : List Int)).bind fun y315 => (if y315.length < 17592186044416 then (if x9 ≤ (x5.length : Int) then ((some (x5.take (x9 : Int).toNat : List Int)).bind fun y321 => (if y321.length < 17592186044416 then (if y314.length < 3518437208883 then (dowelref12_Parse.l0 k x0 (y314 ++ [(⟨x299000, x299001, x299002, x299003⟩ : S37)]) (y321 ++ [(x4.length : Int)]) (y315 ++ [x299002]) (wrap64 (x8 + 1))) else (none)) else (none))) else (none)) else (none))) else (none)) else (none))) else (none)) else (none)) else (none)) else (none)) else (if 0 ≤ x9 then (if x9 ≤ (x6.length : Int) then ((some (x6.take (x9 : Int).toNat : List Int)).bind fun y330 => (if y330.length < 17592186044416 then (if x9 ≤ (x5.length : Int) then ((some (x5.take (x9 : Int).toNat : List Int)).bind fun y336 => (if y336.length < 17592186044416 then (if x4.length < 3518437208883 then (dowelref12_Parse.l0 k x0 (x4 ++ [(⟨x299000, x299001, x299002, x299003⟩ : S37)]) (y336 ++ [(x4.length : Int)]) (y330 ++ [x299002]) (wrap64 (x8 + 1))) else (none)) else (none))) else (none)) else (none))) else (none)) else (none)))
def dowelref12_Parse.l1 : Nat → ByteArray → List (S37) → List Int → List Int → Int → Int → Option ((List (S37)) × Int × Int)
  | 0, _, _, _, _, _, _ => none
  | k + 1, x0, x4, x5, x6, x7, x8 => if x8 < (x0.size : Int) then (if 0 ≤ x8 then (if (bt x0 x8) = 10 then (dowelref12_Parse.j2 k x0 x4 x5 x6 x7 x8) else (dowelref12_Parse.l1 k x0 x4 x5 x6 x7 (wrap64 (x8 + 1)))) else (none)) else (dowelref12_Parse.j2 k x0 x4 x5 x6 x7 x8)
end
def dowelref12_Parse.f (k : Nat) (a0 : ByteArray) : Option ((List (S37)) × Int × Int) := if (a0.size : Int) > 4194304 then (some (([] : List (S37)), 0, 1)) else (dowelref12_Parse.l0 k a0 ([] : List (S37)) ([] : List Int) ([] : List Int) 0)
theorem dowelref12_Parse.mono_l : ∀ k, (∀ y0 y1 y2 y3 y4, LeO (dowelref12_Parse.l0 k y0 y1 y2 y3 y4) (dowelref12_Parse.l0 (k + 1) y0 y1 y2 y3 y4)) ∧ (∀ y0 y1 y2 y3 y4 y5, LeO (dowelref12_Parse.j2 k y0 y1 y2 y3 y4 y5) (dowelref12_Parse.j2 (k + 1) y0 y1 y2 y3 y4 y5)) ∧ (∀ y0 y1 y2 y3 y4 y5 y6 y7 y8 y9 y10 y11, LeO (dowelref12_Parse.j3 k y0 y1 y2 y3 y4 y5 y6 y7 y8 y9 y10 y11) (dowelref12_Parse.j3 (k + 1) y0 y1 y2 y3 y4 y5 y6 y7 y8 y9 y10 y11)) ∧ (∀ y0 y1 y2 y3 y4 y5 y6 y7 y8 y9 y10 y11, LeO (dowelref12_Parse.j4 k y0 y1 y2 y3 y4 y5 y6 y7 y8 y9 y10 y11) (dowelref12_Parse.j4 (k + 1) y0 y1 y2 y3 y4 y5 y6 y7 y8 y9 y10 y11)) ∧ (∀ y0 y1 y2 y3 y4 y5 y6 y7 y8 y9 y10 y11, LeO (dowelref12_Parse.j5 k y0 y1 y2 y3 y4 y5 y6 y7 y8 y9 y10 y11) (dowelref12_Parse.j5 (k + 1) y0 y1 y2 y3 y4 y5 y6 y7 y8 y9 y10 y11)) ∧ (∀ y0 y1 y2 y3 y4 y5, LeO (dowelref12_Parse.l1 k y0 y1 y2 y3 y4 y5) (dowelref12_Parse.l1 (k + 1) y0 y1 y2 y3 y4 y5))
  | 0 => ⟨fun _ _ _ _ _ r h => by simp [dowelref12_Parse.l0] at h, fun _ _ _ _ _ _ r h => by simp [dowelref12_Parse.j2] at h, fun _ _ _ _ _ _ _ _ _ _ _ _ r h => by simp [dowelref12_Parse.j3] at h, fun _ _ _ _ _ _ _ _ _ _ _ _ r h => by simp [dowelref12_Parse.j4] at h, fun _ _ _ _ _ _ _ _ _ _ _ _ r h => by simp [dowelref12_Parse.j5] at h, fun _ _ _ _ _ _ r h => by simp [dowelref12_Parse.l1] at h⟩
  | k + 1 => by
    obtain ⟨ih0, ih1, ih2, ih3, ih4, ih5⟩ := dowelref12_Parse.mono_l k
    refine ⟨?_, ?_, ?_, ?_, ?_, ?_⟩
    · intro y0 y1 y2 y3 y4
      unfold dowelref12_Parse.l0
      repeat' first
      | (with_reducible exact ih0 _ _ _ _ _)
      | (with_reducible exact ih1 _ _ _ _ _ _)
      | (with_reducible exact ih2 _ _ _ _ _ _ _ _ _ _ _ _)
      | (with_reducible exact ih3 _ _ _ _ _ _ _ _ _ _ _ _)
      | (with_reducible exact ih4 _ _ _ _ _ _ _ _ _ _ _ _)
      | (with_reducible exact ih5 _ _ _ _ _ _)
      | (with_reducible exact dowelref12_line.mono _ _)
      | (with_reducible exact LeO.refl _)
      | (with_reducible exact LeO.none _)
      | (with_reducible refine LeO.ite ?_ ?_)
      | (with_reducible refine LeO.bind ?_ (fun _ => ?_))
      | exact ih0 _ _ _ _ _
      | exact ih1 _ _ _ _ _ _
      | exact ih2 _ _ _ _ _ _ _ _ _ _ _ _
      | exact ih3 _ _ _ _ _ _ _ _ _ _ _ _
      | exact ih4 _ _ _ _ _ _ _ _ _ _ _ _
      | exact ih5 _ _ _ _ _ _
      | exact dowelref12_line.mono _ _
      | exact LeO.none _
      | refine LeO.ite ?_ ?_
      | refine LeO.bind ?_ (fun _ => ?_)
    · intro y0 y1 y2 y3 y4 y5
      unfold dowelref12_Parse.j2
      repeat' first
      | (with_reducible exact ih0 _ _ _ _ _)
      | (with_reducible exact ih1 _ _ _ _ _ _)
      | (with_reducible exact ih2 _ _ _ _ _ _ _ _ _ _ _ _)
      | (with_reducible exact ih3 _ _ _ _ _ _ _ _ _ _ _ _)
      | (with_reducible exact ih4 _ _ _ _ _ _ _ _ _ _ _ _)
      | (with_reducible exact ih5 _ _ _ _ _ _)
      | (with_reducible exact dowelref12_line.mono _ _)
      | (with_reducible exact LeO.refl _)
      | (with_reducible exact LeO.none _)
      | (with_reducible refine LeO.ite ?_ ?_)
      | (with_reducible refine LeO.bind ?_ (fun _ => ?_))
      | exact ih0 _ _ _ _ _
      | exact ih1 _ _ _ _ _ _
      | exact ih2 _ _ _ _ _ _ _ _ _ _ _ _
      | exact ih3 _ _ _ _ _ _ _ _ _ _ _ _
      | exact ih4 _ _ _ _ _ _ _ _ _ _ _ _
      | exact ih5 _ _ _ _ _ _
      | exact dowelref12_line.mono _ _
      | exact LeO.none _
      | refine LeO.ite ?_ ?_
      | refine LeO.bind ?_ (fun _ => ?_)
    · intro y0 y1 y2 y3 y4 y5 y6 y7 y8 y9 y10 y11
      unfold dowelref12_Parse.j3
      repeat' first
      | (with_reducible exact ih0 _ _ _ _ _)
      | (with_reducible exact ih1 _ _ _ _ _ _)
      | (with_reducible exact ih2 _ _ _ _ _ _ _ _ _ _ _ _)
      | (with_reducible exact ih3 _ _ _ _ _ _ _ _ _ _ _ _)
      | (with_reducible exact ih4 _ _ _ _ _ _ _ _ _ _ _ _)
      | (with_reducible exact ih5 _ _ _ _ _ _)
      | (with_reducible exact dowelref12_line.mono _ _)
      | (with_reducible exact LeO.refl _)
      | (with_reducible exact LeO.none _)
      | (with_reducible refine LeO.ite ?_ ?_)
      | (with_reducible refine LeO.bind ?_ (fun _ => ?_))
      | exact ih0 _ _ _ _ _
      | exact ih1 _ _ _ _ _ _
      | exact ih2 _ _ _ _ _ _ _ _ _ _ _ _
      | exact ih3 _ _ _ _ _ _ _ _ _ _ _ _
      | exact ih4 _ _ _ _ _ _ _ _ _ _ _ _
      | exact ih5 _ _ _ _ _ _
      | exact dowelref12_line.mono _ _
      | exact LeO.none _
      | refine LeO.ite ?_ ?_
      | refine LeO.bind ?_ (fun _ => ?_)
    · intro y0 y1 y2 y3 y4 y5 y6 y7 y8 y9 y10 y11
      unfold dowelref12_Parse.j4
      repeat' first
      | (with_reducible exact ih0 _ _ _ _ _)
      | (with_reducible exact ih1 _ _ _ _ _ _)
      | (with_reducible exact ih2 _ _ _ _ _ _ _ _ _ _ _ _)
      | (with_reducible exact ih3 _ _ _ _ _ _ _ _ _ _ _ _)
      | (with_reducible exact ih4 _ _ _ _ _ _ _ _ _ _ _ _)
      | (with_reducible exact ih5 _ _ _ _ _ _)
      | (with_reducible exact dowelref12_line.mono _ _)
      | (with_reducible exact LeO.refl _)
      | (with_reducible exact LeO.none _)
      | (with_reducible refine LeO.ite ?_ ?_)
      | (with_reducible refine LeO.bind ?_ (fun _ => ?_))
      | exact ih0 _ _ _ _ _
      | exact ih1 _ _ _ _ _ _
      | exact ih2 _ _ _ _ _ _ _ _ _ _ _ _
      | exact ih3 _ _ _ _ _ _ _ _ _ _ _ _
      | exact ih4 _ _ _ _ _ _ _ _ _ _ _ _
      | exact ih5 _ _ _ _ _ _
      | exact dowelref12_line.mono _ _
      | exact LeO.none _
      | refine LeO.ite ?_ ?_
      | refine LeO.bind ?_ (fun _ => ?_)
    · intro y0 y1 y2 y3 y4 y5 y6 y7 y8 y9 y10 y11
      unfold dowelref12_Parse.j5
      repeat' first
      | (with_reducible exact ih0 _ _ _ _ _)
      | (with_reducible exact ih1 _ _ _ _ _ _)
      | (with_reducible exact ih2 _ _ _ _ _ _ _ _ _ _ _ _)
      | (with_reducible exact ih3 _ _ _ _ _ _ _ _ _ _ _ _)
      | (with_reducible exact ih4 _ _ _ _ _ _ _ _ _ _ _ _)
      | (with_reducible exact ih5 _ _ _ _ _ _)
      | (with_reducible exact dowelref12_line.mono _ _)
      | (with_reducible exact LeO.refl _)
      | (with_reducible exact LeO.none _)
      | (with_reducible refine LeO.ite ?_ ?_)
      | (with_reducible refine LeO.bind ?_ (fun _ => ?_))
      | exact ih0 _ _ _ _ _
      | exact ih1 _ _ _ _ _ _
      | exact ih2 _ _ _ _ _ _ _ _ _ _ _ _
      | exact ih3 _ _ _ _ _ _ _ _ _ _ _ _
      | exact ih4 _ _ _ _ _ _ _ _ _ _ _ _
      | exact ih5 _ _ _ _ _ _
      | exact dowelref12_line.mono _ _
      | exact LeO.none _
      | refine LeO.ite ?_ ?_
      | refine LeO.bind ?_ (fun _ => ?_)
    · intro y0 y1 y2 y3 y4 y5
      unfold dowelref12_Parse.l1
      repeat' first
      | (with_reducible exact ih0 _ _ _ _ _)
      | (with_reducible exact ih1 _ _ _ _ _ _)
      | (with_reducible exact ih2 _ _ _ _ _ _ _ _ _ _ _ _)
      | (with_reducible exact ih3 _ _ _ _ _ _ _ _ _ _ _ _)
      | (with_reducible exact ih4 _ _ _ _ _ _ _ _ _ _ _ _)
      | (with_reducible exact ih5 _ _ _ _ _ _)
      | (with_reducible exact dowelref12_line.mono _ _)
      | (with_reducible exact LeO.refl _)
      | (with_reducible exact LeO.none _)
      | (with_reducible refine LeO.ite ?_ ?_)
      | (with_reducible refine LeO.bind ?_ (fun _ => ?_))
      | exact ih0 _ _ _ _ _
      | exact ih1 _ _ _ _ _ _
      | exact ih2 _ _ _ _ _ _ _ _ _ _ _ _
      | exact ih3 _ _ _ _ _ _ _ _ _ _ _ _
      | exact ih4 _ _ _ _ _ _ _ _ _ _ _ _
      | exact ih5 _ _ _ _ _ _
      | exact dowelref12_line.mono _ _
      | exact LeO.none _
      | refine LeO.ite ?_ ?_
      | refine LeO.bind ?_ (fun _ => ?_)
theorem dowelref12_Parse.mono : ∀ a0 k, LeO (dowelref12_Parse.f k a0) (dowelref12_Parse.f (k + 1) a0) := by
  intro a0 k
  obtain ⟨ih0, ih1, ih2, ih3, ih4, ih5⟩ := dowelref12_Parse.mono_l k
  unfold dowelref12_Parse.f
  repeat' first
      | (with_reducible exact ih0 _ _ _ _ _)
      | (with_reducible exact ih1 _ _ _ _ _ _)
      | (with_reducible exact ih2 _ _ _ _ _ _ _ _ _ _ _ _)
      | (with_reducible exact ih3 _ _ _ _ _ _ _ _ _ _ _ _)
      | (with_reducible exact ih4 _ _ _ _ _ _ _ _ _ _ _ _)
      | (with_reducible exact ih5 _ _ _ _ _ _)
      | (with_reducible exact dowelref12_line.mono _ _)
      | (with_reducible exact LeO.refl _)
      | (with_reducible exact LeO.none _)
      | (with_reducible refine LeO.ite ?_ ?_)
      | (with_reducible refine LeO.bind ?_ (fun _ => ?_))
      | exact ih0 _ _ _ _ _
      | exact ih1 _ _ _ _ _ _
      | exact ih2 _ _ _ _ _ _ _ _ _ _ _ _
      | exact ih3 _ _ _ _ _ _ _ _ _ _ _ _
      | exact ih4 _ _ _ _ _ _ _ _ _ _ _ _
      | exact ih5 _ _ _ _ _ _
      | exact dowelref12_line.mono _ _
      | exact LeO.none _
      | refine LeO.ite ?_ ?_
      | refine LeO.bind ?_ (fun _ => ?_)
def dowelref12_Parse.T26 : Bool × List (List Nat × List Nat) := (true, [([], []), ([], []), ([0, 1], [0, 1]), ([], []), ([3], [3]), ([4], [4]), ([2, 5], [2, 5]), ([6, 6, 0, 1, 2, 3, 4, 5, 6], [0, 6])])
def dowelref12_Parse.B26 : List Nat := [0, 0, 3, 0, 8, 24, 63, 127]
theorem dowelref12_Parse.tab26 : rtab .any (opsOf Tryd.f11 26) = dowelref12_Parse.T26 := by kernel_rfl
theorem dowelref12_Parse.bits26 : waitsOk dowelref12_Parse.T26.2 dowelref12_Parse.B26 = true := by kernel_rfl
set_option maxHeartbeats 8000000 in
set_option maxRecDepth 100000 in
theorem dowelref12_Parse.calls (k : Nat) (a0 : ByteArray) (r1 : List (S37)) (r2 : Int) (r3 : Int) (w : World) (h : dowelref12_Parse.f k a0 = some (r1, r2, r3)) :
    Calls Tryd.prog 11 #[.string a0] w fun e w' => ∃ v0_ : Value, e = .returned (.tuple #[v0_, .agg #[.int .i64 r2, .int .i64 r3]]) ∧ Kd.R k37 37 w' w.heap.size (fun _ => True) v0_ r1 ∧ Below w.heap.size w w' := by
  have hu29 := Tryd.underlying29
  have hu37 := Tryd.underlying37
  have HB := Aside0.mk (Below.refl w.heap.size w)
  have H : (if (a0.size : Int) > 4194304 then (some (([] : List (S37)), 0, 1)) else (dowelref12_Parse.l0 k a0 ([] : List (S37)) ([] : List Int) ([] : List Int) 0)) = some (r1, r2, r3) := h
  clear h
  by_cases c2 : (a0.size : Int) > 4194304
  · rw [if_pos c2] at H
    have c2b0 : decide (4194304 < (a0.size : Int)) = true := decide_eq_true c2
    have c2b1 : decide (4194304 < a0.size) = true := decide_eq_true (by omega)
    clear c2
    simp only [Option.some.injEq, Prod.mk.injEq] at H
    obtain ⟨rfl, rfl, rfl⟩ := H
    go_enter Tryd.func11, Tryd.ntmps11
    go_wp2_with (first | ((with_reducible refine gate_dst (N := 3) rfl ?_); (try (refine gate_guard (by rfl) ?_; dsimp only)); refine box_event ?hg (N := 3) ?hd (cs := #[.int .i64 0, .int .i64 0]) (t := 29) ?hr ?_; (case hd => rfl); (case hg => rfl); (case hr => first | (go_simp; done) | (go_simp; rfl)); intro gb297 hg w3 hbox hb; have n0_ := Aside0.mk (below_step (by repeat (first | (with_reducible first | exact HB.out | apply below_alloc | apply pw_below_drewN | apply below_drew1) | exact HB.out)) hb); have n1_ := Aside0.mk (hbox); have n2_ := Aside0.mk ((by rw [hg]; exact (below_size (by repeat (first | (with_reducible first | exact HB.out | apply below_alloc | apply pw_below_drewN | apply below_drew1) | exact HB.out))) : w.heap.size ≤ gb297)); have n3_ := Aside0.mk ((by rw [hg]; exact (below_size (by repeat (first | (with_reducible first | exact HB.out | apply below_alloc | apply pw_below_drewN | apply below_drew1) | exact HB.out))) : w.heap.size ≤ gb297)); clear HB; have HB := n0_; have BK297 := n1_; have GW297 := n2_; have GE297 := n3_; clear n0_ n1_ n2_ n3_; clear hb hbox hg; have hcz4_0 : w3.cell? ⟨gb297, 0, none⟩ = some (.int .i64 0) := (blk_cell BK297.out 0).trans rfl; have hcz4_1 : w3.cell? ⟨gb297, 1, none⟩ = some (.int .i64 0) := (blk_cell BK297.out 1).trans rfl; have hfz4_0 := blk_frozen BK297.out 0; have hfz4_1 := blk_frozen BK297.out 1))
    refine bodyPost_ret (results_tc rfl _ _ gb297 29 #[.int .i64 0, .int .i64 1] (0, 0) _ rfl (by (with_reducible repeat (first | refine blk_drewN ?_ _ | refine blk_drew ?_ | refine blk_alloc ?_ _)); refine blk_put (cs := #[.int .i64 0, .int .i64 0]) ?_ 1 _ rfl; (with_reducible repeat (first | refine blk_drewN ?_ _ | refine blk_drew ?_ | refine blk_alloc ?_ _)); refine blk_put (cs := #[.int .i64 0, .int .i64 0]) ?_ 0 _ rfl; (with_reducible repeat (first | refine blk_drewN ?_ _ | refine blk_drew ?_ | refine blk_alloc ?_ _)); exact BK297.out) Tryd.underlying29 rfl (by kernel_rfl)) rfl ?_
    exact ⟨_, by first | rfl | (simp [errW_none, errW_some] <;> rfl) | (simp [*, errW_none, errW_some] <;> rfl), by first | exact Kd.R_nil _ _ _ _ _ | exact Kd.N_nil _ _ _ _ _ | exact Kd.V_nil _ _ _ _ _ | exact Kd.Q_nil _ _ _ _ _ | exact Kd.S_nil _ _ _ _ _, by repeat (first | (with_reducible first | exact HB.out | apply below_alloc | apply pw_below_drewN | apply below_drew1 | refine below_set ?_ GE297.out) | exact HB.out)⟩
  · rw [if_neg c2] at H
    have c2b0 : decide (4194304 < (a0.size : Int)) = false := decide_eq_false c2
    have c2b1 : decide (4194304 < a0.size) = false := decide_eq_false (by omega)
    clear c2
    have H' := Aside0.mk H
    clear H
    go_enter Tryd.func11, Tryd.ntmps11
    go_wp2_with (first | ((with_reducible refine gate_dst (N := 3) rfl ?_); (try (refine gate_guard (by rfl) ?_; dsimp only)); refine box_event ?hg (N := 3) ?hd (cs := #[.int .i64 0, .int .i64 0]) (t := 29) ?hr ?_; (case hd => rfl); (case hg => rfl); (case hr => first | (go_simp; done) | (go_simp; rfl)); intro gb297 hg w5 hbox hb; have n0_ := Aside0.mk (below_step (by repeat (first | (with_reducible first | exact HB.out | apply below_alloc | apply pw_below_drewN | apply below_drew1) | exact HB.out)) hb); have n1_ := Aside0.mk (hbox); have n2_ := Aside0.mk ((by rw [hg]; exact (below_size (by repeat (first | (with_reducible first | exact HB.out | apply below_alloc | apply pw_below_drewN | apply below_drew1) | exact HB.out))) : w.heap.size ≤ gb297)); have n3_ := Aside0.mk ((by rw [hg]; exact (below_size (by repeat (first | (with_reducible first | exact HB.out | apply below_alloc | apply pw_below_drewN | apply below_drew1) | exact HB.out))) : w.heap.size ≤ gb297)); clear HB; have HB := n0_; have BK297 := n1_; have GW297 := n2_; have GE297 := n3_; clear n0_ n1_ n2_ n3_; clear hb hbox hg))
    go_loopg [4, 5, 6, 7] k (fun kq v4 v5 v6 v7 w' => ∃ (x4_1 : List (S37)) (x5_1 : List Int) (x6_1 : List Int) (x7_1 : Int) (x298000_1 : Int) (x298001_1 : Int), v7 = .int .i64 x7_1 ∧ Aside0 (dowelref12_Parse.l0 kq a0 x4_1 x5_1 x6_1 x7_1 = some (r1, r2, r3)) ∧ Aside0 (kq ≤ k) ∧ Aside0 (Kd.R k37 37 w' w.heap.size (fun _ => True) v4 x4_1) ∧ Aside0 (Kd.R (Kd.int .i64) 3 w' w.heap.size (fun k_ => some k_ ≠ (v6 : Value).ownBlock) v5 x5_1) ∧ Aside0 (Kd.R (Kd.int .i64) 3 w' w.heap.size (fun k_ => some k_ ≠ (v5 : Value).ownBlock) v6 x6_1) ∧ Aside0 (w'.heap[gb297]? = some (.cells #[.int .i64 x298000_1, .int .i64 x298001_1] 29 (0, 0))) ∧ Aside0 (Below w.heap.size w w'))
    case atStart => exact ⟨(([] : List (S37))), (([] : List Int)), (([] : List Int)), (0), (0), (0), (by first | rfl | (simp; done) | (simp [*]; done)), H', ⟨Nat.le_refl _⟩, ⟨by first | exact Kd.R_nil _ _ _ _ _ | exact Kd.N_nil _ _ _ _ _ | exact Kd.V_nil _ _ _ _ _ | exact Kd.Q_nil _ _ _ _ _ | exact Kd.S_nil _ _ _ _ _⟩, ⟨by first | exact Kd.R_nil _ _ _ _ _ | exact Kd.N_nil _ _ _ _ _ | exact Kd.V_nil _ _ _ _ _ | exact Kd.Q_nil _ _ _ _ _ | exact Kd.S_nil _ _ _ _ _⟩, ⟨by first | exact Kd.R_nil _ _ _ _ _ | exact Kd.N_nil _ _ _ _ _ | exact Kd.V_nil _ _ _ _ _ | exact Kd.Q_nil _ _ _ _ _ | exact Kd.S_nil _ _ _ _ _⟩, ⟨by (with_reducible repeat (first | refine blk_drewN ?_ _ | refine blk_drew ?_ | refine blk_alloc ?_ _)); exact BK297.out⟩, ⟨by repeat (first | (with_reducible first | exact HB.out | apply below_alloc | apply pw_below_drewN | apply below_drew1 | refine below_set ?_ GE297.out) | exact HB.out)⟩⟩
    case round =>
      clear H'
      try clear c1
      try clear c2
      try clear c2b0
      try clear c2b1
      try clear p2
      try clear hcz4_0
      try clear hcz4_1
      try clear hfz4_0
      try clear hfz4_1
      obtain ⟨x4_1, x5_1, x6_1, x7_1, x298000_1, x298001_1, rfl, HA, HK1, HO_4, HO_5, HO_6, BK297, HB⟩ := hrel
      cases gk with
      | zero => exact absurd HA.out (by simp [dowelref12_Parse.l0])
      | succ k1 =>
        have H := HA.out
        clear HA
        simp only [dowelref12_Parse.l0] at H
        by_cases c6 : x7_1 < (a0.size : Int)
        · rw [if_pos c6] at H
          have c6b0 : decide (x7_1 < (a0.size : Int)) = true := decide_eq_true c6
          clear c6
          have HC7 := Aside0.mk H
          clear H
          go_upto_block 2 with (fail)
          go_cut [8] (fun v8 wc => ∃ (kq : Nat) (x8_6 : Int), v8 = .int .i64 x8_6 ∧ Aside0 (dowelref12_Parse.j2 kq a0 x4_1 x5_1 x6_1 x7_1 x8_6 = some (r1, r2, r3)) ∧ Aside0 (kq ≤ k1) ∧ Aside0 (Kd.R k37 37 wc w.heap.size (fun _ => True) u4 x4_1) ∧ Aside0 (Kd.R (Kd.int .i64) 3 wc w.heap.size (fun k_ => some k_ ≠ (u6 : Value).ownBlock) u5 x5_1) ∧ Aside0 (Kd.R (Kd.int .i64) 3 wc w.heap.size (fun k_ => some k_ ≠ (u5 : Value).ownBlock) u6 x6_1) ∧ Aside0 (wc.heap[gb297]? = some (.cells #[.int .i64 x298000_1, .int .i64 x298001_1] 29 (0, 0))) ∧ Aside0 (Below w.heap.size w wc))
          case first =>
            have H := HC7.out
            clear HC7
            have H' := Aside0.mk H
            clear H
            go_wp2
            go_loopg [8] k1 (fun kq v8 w' => ∃ (x8_2 : Int), v8 = .int .i64 x8_2 ∧ Aside0 (dowelref12_Parse.l1 kq a0 x4_1 x5_1 x6_1 x7_1 x8_2 = some (r1, r2, r3)) ∧ Aside0 (kq ≤ k1) ∧ Aside0 (Kd.R k37 37 w' w.heap.size (fun _ => True) u4 x4_1) ∧ Aside0 (Kd.R (Kd.int .i64) 3 w' w.heap.size (fun k_ => some k_ ≠ (u6 : Value).ownBlock) u5 x5_1) ∧ Aside0 (Kd.R (Kd.int .i64) 3 w' w.heap.size (fun k_ => some k_ ≠ (u5 : Value).ownBlock) u6 x6_1) ∧ Aside0 (w'.heap[gb297]? = some (.cells #[.int .i64 x298000_1, .int .i64 x298001_1] 29 (0, 0))) ∧ Aside0 (Below w.heap.size w w'))
            case atStart => exact ⟨(x7_1), (by first | rfl | (simp; done) | (simp [*]; done)), H', ⟨Nat.le_refl _⟩, ⟨by (with_reducible repeat (first | apply Kd.R_alloc | apply Kd.R_drewN | apply Kd.R_drew)); exact HO_4.out⟩, ⟨by (with_reducible repeat (first | apply Kd.R_alloc | apply Kd.R_drewN | apply Kd.R_drew)); exact HO_5.out⟩, ⟨by (with_reducible repeat (first | apply Kd.R_alloc | apply Kd.R_drewN | apply Kd.R_drew)); exact HO_6.out⟩, ⟨by (with_reducible repeat (first | refine blk_drewN ?_ _ | refine blk_drew ?_ | refine blk_alloc ?_ _)); exact BK297.out⟩, ⟨by repeat (first | (with_reducible first | exact HB.out | apply below_alloc | apply pw_below_drewN | apply below_drew1 | refine below_set ?_ GE297.out) | exact HB.out)⟩⟩
            case round =>
              clear H'
              try clear c1
              try clear c2
              try clear c2b0
              try clear c2b1
              try clear p2
              try clear c6
              try clear c6b0
              try clear hcz4_0
              try clear hcz4_1
              try clear hfz4_0
              try clear hfz4_1
              try clear p2
              obtain ⟨x8_2, rfl, HA, HK2, HO_4, HO_5, HO_6, BK297, HB⟩ := hrel
              cases gk with
              | zero => exact absurd HA.out (by simp [dowelref12_Parse.l1])
              | succ k2 =>
                have H := HA.out
                clear HA
                simp only [dowelref12_Parse.l1] at H
                by_cases c8 : x8_2 < (a0.size : Int)
                · rw [if_pos c8] at H
                  have c8b0 : decide (x8_2 < (a0.size : Int)) = true := decide_eq_true c8
                  clear c8
                  (first | rw [c8b0] | (simp only [i64_w, i32_w]; rw [c8b0]) | skip)
                  by_cases c9 : 0 ≤ x8_2
                  · rw [if_pos c9] at H
                    have c9b0 : decide (0 ≤ x8_2) = true := decide_eq_true c9
                    clear c9
                    by_cases c11 : (bt a0 x8_2) = 10
                    · rw [if_pos c11] at H
                      have c11b0 : ((bt a0 x8_2) == 10) = true := beq_iff_eq.mpr c11
                      have c11b1 : ((bt a0 x8_2) != 10) = false := bne_eq_false_iff_eq.mpr c11
                      clear c11
                      have H' := Aside0.mk H
                      clear H
                      have p10 : 0 ≤ (x8_2 : Int) := of_decide_eq_true (by first | (with_reducible assumption) | assumption)
                      have q10 : x8_2 < (a0.size : Int) := of_decide_eq_true (by first | (with_reducible assumption) | assumption)
                      have hx10 := bt_at a0 x8_2
                      replace p10 := eq_true p10
                      replace q10 := eq_true q10
                      go_wp2
                      go_meet
                      case rel => exact ⟨_, (x8_2), (by first | rfl | (simp; done) | (simp [*]; done)), H', ⟨by have := HK1.out; have := HK2.out; first | omega | exact Nat.le_refl _⟩, ⟨by (with_reducible repeat (first | apply Kd.R_alloc | apply Kd.R_drewN | apply Kd.R_drew)); exact HO_4.out⟩, ⟨by (with_reducible repeat (first | apply Kd.R_alloc | apply Kd.R_drewN | apply Kd.R_drew)); exact HO_5.out⟩, ⟨by (with_reducible repeat (first | apply Kd.R_alloc | apply Kd.R_drewN | apply Kd.R_drew)); exact HO_6.out⟩, ⟨by (with_reducible repeat (first | refine blk_drewN ?_ _ | refine blk_drew ?_ | refine blk_alloc ?_ _)); exact BK297.out⟩, ⟨by repeat (first | (with_reducible first | exact HB.out | apply below_alloc | apply pw_below_drewN | apply below_drew1 | refine below_set ?_ GE297.out) | exact HB.out)⟩⟩
                    · rw [if_neg c11] at H
                      have c11b0 : ((bt a0 x8_2) == 10) = false := beq_eq_false_iff_ne.mpr c11
                      have c11b1 : ((bt a0 x8_2) != 10) = true := bne_iff_ne.mpr c11
                      have H' := Aside0.mk H
                      clear H
                      have p10 : 0 ≤ (x8_2 : Int) := of_decide_eq_true (by first | (with_reducible assumption) | assumption)
                      have q10 : x8_2 < (a0.size : Int) := of_decide_eq_true (by first | (with_reducible assumption) | assumption)
                      have hx10 := bt_at a0 x8_2
                      replace p10 := eq_true p10
                      replace q10 := eq_true q10
                      go_wp2
                      go_roundg k2
                      case measure => have := HK1.out; have := HK2.out; omega
                      case rel => exact ⟨(wrap64 (x8_2 + 1)), (by first | rfl | (simp; done) | (simp [*]; done)), H', ⟨by have := HK1.out; have := HK2.out; omega⟩, ⟨by (with_reducible repeat (first | apply Kd.R_alloc | apply Kd.R_drewN | apply Kd.R_drew)); exact HO_4.out⟩, ⟨by (with_reducible repeat (first | apply Kd.R_alloc | apply Kd.R_drewN | apply Kd.R_drew)); exact HO_5.out⟩, ⟨by (with_reducible repeat (first | apply Kd.R_alloc | apply Kd.R_drewN | apply Kd.R_drew)); exact HO_6.out⟩, ⟨by (with_reducible repeat (first | refine blk_drewN ?_ _ | refine blk_drew ?_ | refine blk_alloc ?_ _)); exact BK297.out⟩, ⟨by repeat (first | (with_reducible first | exact HB.out | apply below_alloc | apply pw_below_drewN | apply below_drew1 | refine below_set ?_ GE297.out) | exact HB.out)⟩⟩
                  · rw [if_neg c9] at H
                    exact absurd H (by simp)
                · rw [if_neg c8] at H
                  have c8b0 : decide (x8_2 < (a0.size : Int)) = false := decide_eq_false c8
                  clear c8
                  (first | rw [c8b0] | (simp only [i64_w, i32_w]; rw [c8b0]) | skip)
                  have H' := Aside0.mk H
                  clear H
                  go_wp2
                  go_meet
                  case rel => exact ⟨_, (x8_2), (by first | rfl | (simp; done) | (simp [*]; done)), H', ⟨by have := HK1.out; have := HK2.out; first | omega | exact Nat.le_refl _⟩, ⟨by (with_reducible repeat (first | apply Kd.R_alloc | apply Kd.R_drewN | apply Kd.R_drew)); exact HO_4.out⟩, ⟨by (with_reducible repeat (first | apply Kd.R_alloc | apply Kd.R_drewN | apply Kd.R_drew)); exact HO_5.out⟩, ⟨by (with_reducible repeat (first | apply Kd.R_alloc | apply Kd.R_drewN | apply Kd.R_drew)); exact HO_6.out⟩, ⟨by (with_reducible repeat (first | refine blk_drewN ?_ _ | refine blk_drew ?_ | refine blk_alloc ?_ _)); exact BK297.out⟩, ⟨by repeat (first | (with_reducible first | exact HB.out | apply below_alloc | apply pw_below_drewN | apply below_drew1 | refine below_set ?_ GE297.out) | exact HB.out)⟩⟩
          case rest =>
            clear HC7
            try clear c1
            try clear p1
            try clear q1
            try clear hx1
            try clear c2
            try clear c2b0
            try clear c2b1
            try clear p2
            try clear c6
            try clear c6b0
            try clear p6
            try clear c8
            try clear c8b0
            try clear c9
            try clear c9b0
            try clear p10
            try clear q10
            try clear hx10
            try clear c11
            try clear c11b0
            try clear c11b1
            try clear hcz4_0
            try clear hcz4_1
            try clear hfz4_0
            try clear hfz4_1
            try clear p10
            try clear p2
            try clear q10
            obtain ⟨kq, x8_6, rfl, HA, HJ6, HO_4, HO_5, HO_6, BK297, HB⟩ := hcut
            cases kq with
            | zero => exact absurd HA.out (by simp [dowelref12_Parse.j2])
            | succ kj6 =>
              have H := HA.out
              clear HA
              simp only [dowelref12_Parse.j2] at H
              have HC12 := Aside0.mk H
              clear H
              go_upto_if 39 with (first | ((with_reducible refine gate_dst (N := 10) rfl ?_); (try (refine gate_guard (by rfl) ?_; dsimp only)); refine box_event ?hg (N := 10) ?hd (cs := #[.string (⟨#[]⟩ : ByteArray), .int .i64 0, .int .i64 0, .int .i64 0]) (t := 37) ?hr ?_; (case hd => rfl); (case hg => rfl); (case hr => first | (go_simp; done) | (go_simp; rfl)); intro gb298 hg w13 hbox hb; have n0_ := Aside0.mk (Kd.R_below (Kd.R_elderB (by (with_reducible repeat (first | apply Kd.R_alloc | apply Kd.R_drewN | apply Kd.R_drew)); exact HO_4.out) gb298 (Nat.le_of_eq hg.symm)) hb); have n1_ := Aside0.mk (Kd.R_below (by (with_reducible repeat (first | apply Kd.R_alloc | apply Kd.R_drewN | apply Kd.R_drew)); exact HO_5.out) hb); have n2_ := Aside0.mk (Kd.R_below (by (with_reducible repeat (first | apply Kd.R_alloc | apply Kd.R_drewN | apply Kd.R_drew)); exact HO_6.out) hb); have n3_ := Aside0.mk (blk_below (g := gb297) (o := .cells #[.int .i64 x298000_1, .int .i64 x298001_1] 29 (0, 0)) (by (with_reducible repeat (first | refine blk_drewN ?_ _ | refine blk_drew ?_ | refine blk_alloc ?_ _)); exact BK297.out) hb); have n4_ := Aside0.mk (below_step (by repeat (first | (with_reducible first | exact HB.out | apply below_alloc | apply pw_below_drewN | apply below_drew1 | refine below_set ?_ GE297.out) | exact HB.out)) hb); have n5_ := Aside0.mk (hbox); have n6_ := Aside0.mk ((by rw [hg]; exact (below_size (by repeat (first | (with_reducible first | exact HB.out | apply below_alloc | apply pw_below_drewN | apply below_drew1 | refine below_set ?_ GE297.out) | exact HB.out))) : w.heap.size ≤ gb298)); have n7_ := Aside0.mk ((by rw [hg]; exact (below_size (by repeat (first | (with_reducible first | exact HB.out | apply below_alloc | apply pw_below_drewN | apply below_drew1 | refine below_set ?_ GE297.out) | exact HB.out))) : w.heap.size ≤ gb298)); have n8_ := Aside0.mk ((by rw [hg]; exact Nat.ne_of_lt (blk_lt (g := gb297) (o := .cells #[.int .i64 x298000_1, .int .i64 x298001_1] 29 (0, 0)) (by (with_reducible repeat (first | refine blk_drewN ?_ _ | refine blk_drew ?_ | refine blk_alloc ?_ _)); exact BK297.out)) : gb297 ≠ gb298)); have n9_ := Aside0.mk ((by rw [hg]; exact Nat.ne_of_gt (blk_lt (g := gb297) (o := .cells #[.int .i64 x298000_1, .int .i64 x298001_1] 29 (0, 0)) (by (with_reducible repeat (first | refine blk_drewN ?_ _ | refine blk_drew ?_ | refine blk_alloc ?_ _)); exact BK297.out)) : gb298 ≠ gb297)); clear HO_4; clear HO_5; clear HO_6; clear BK297; clear HB; have HO_4 := n0_; have HO_5 := n1_; have HO_6 := n2_; have BK297 := n3_; have HB := n4_; have BK298 := n5_; have GW298 := n6_; have GE298 := n7_; have NB297_298 := n8_; have NB298_297 := n9_; clear n0_ n1_ n2_ n3_ n4_ n5_ n6_ n7_ n8_ n9_; clear hb hbox hg; have hnb14 := NB298_297.out; have hnc14 := NB297_298.out; have hcz15_0 : w13.cell? ⟨gb298, 0, none⟩ = some (.string (⟨#[]⟩ : ByteArray)) := (blk_cell BK298.out 0).trans rfl; have hcz15_1 : w13.cell? ⟨gb298, 1, none⟩ = some (.int .i64 0) := (blk_cell BK298.out 1).trans rfl; have hcz15_2 : w13.cell? ⟨gb298, 2, none⟩ = some (.int .i64 0) := (blk_cell BK298.out 2).trans rfl; have hcz15_3 : w13.cell? ⟨gb298, 3, none⟩ = some (.int .i64 0) := (blk_cell BK298.out 3).trans rfl; have hfz15_0 := blk_frozen BK298.out 0; have hfz15_1 := blk_frozen BK298.out 1; have hfz15_2 := blk_frozen BK298.out 2; have hfz15_3 := blk_frozen BK298.out 3))
              (try simp only [Act.put, List.setIfInBounds_toArray, List.set_cons_zero, List.set_cons_succ])
              go_cut [9, 11] (fun v9 v11 wc => ∃ (kq : Nat) (x9_11 : Int) (x11_11 : Bool) (x299000_11 : ByteArray) (x299001_11 : Int) (x299002_11 : Int) (x299003_11 : Int), v9 = .int .i64 x9_11 ∧ v11 = .bool x11_11 ∧ Aside0 (dowelref12_Parse.j3 kq a0 x4_1 x5_1 x6_1 x7_1 x8_6 x9_11 x11_11 x299000_11 x299001_11 x299002_11 x299003_11 = some (r1, r2, r3)) ∧ Aside0 (kq ≤ kj6) ∧ Aside0 (Kd.R k37 37 wc w.heap.size (fun k_ => k_ ≠ gb298) u4 x4_1) ∧ Aside0 (Kd.R (Kd.int .i64) 3 wc w.heap.size (fun k_ => some k_ ≠ (u6 : Value).ownBlock) u5 x5_1) ∧ Aside0 (Kd.R (Kd.int .i64) 3 wc w.heap.size (fun k_ => some k_ ≠ (u5 : Value).ownBlock) u6 x6_1) ∧ Aside0 (wc.heap[gb297]? = some (.cells #[.int .i64 x298000_1, .int .i64 x298001_1] 29 (0, 0))) ∧ Aside0 (wc.heap[gb298]? = some (.cells #[.string x299000_11, .int .i64 x299001_11, .int .i64 x299002_11, .int .i64 x299003_11] 37 (0, 0))) ∧ Aside0 (Below w.heap.size w wc))
              case first =>
                have H := HC12.out
                clear HC12
                by_cases c16 : x8_6 < (a0.size : Int)
                · rw [if_pos c16] at H
                  have c16b0 : decide (x8_6 < (a0.size : Int)) = true := decide_eq_true c16
                  clear c16
                  (first | rw [c16b0] | (simp only [i64_w, i32_w]; rw [c16b0]) | skip)
                  by_cases c17 : 0 ≤ x7_1
                  · rw [if_pos c17] at H
                    have c17b0 := eq_true c17
                    have c17b1 : decide (0 ≤ x7_1) = true := decide_eq_true c17
                    clear c17
                    by_cases c18 : x7_1 ≤ x8_6
                    · rw [if_pos c18] at H
                      have c18b0 := eq_true c18
                      have c18b1 : decide (x7_1 ≤ x8_6) = true := decide_eq_true c18
                      clear c18
                      by_cases c19 : x8_6 ≤ (a0.size : Int)
                      · rw [if_pos c19] at H
                        have c19b0 := eq_true c19
                        have c19b1 : decide (x8_6 ≤ (a0.size : Int)) = true := decide_eq_true c19
                        clear c19
                        replace H := Option.bind_eq_some_iff.mp H
                        obtain ⟨⟨t299, t300, t301, t302, t303, t304⟩, A200, H⟩ := H
                        replace H : (dowelref12_Parse.j3 kj6 a0 x4_1 x5_1 x6_1 x7_1 x8_6 t299 t304 t300 t301 t302 t303) = some (r1, r2, r3) := H
                        have A20 := Aside0.mk A200
                        clear A200
                        have H' := Aside0.mk H
                        clear H
                        go_wp2_with (first | ((with_reducible refine gate_callee (f := 30) rfl ?_); refine goesL_ (some 45) rfl rfl Tryd.func30 (by kernel_rfl) rfl #[.string (a0.extract (x7_1 : Int).toNat (x8_6 : Int).toNat)] rfl (by (try simp only [List.map_toArray, List.map_cons, List.map_nil]); first | done | rfl | (simp only [List.length_drop, List.length_take]; rfl)) ?_; (with_reducible refine (dowelref12_line.calls kj6 (a0.extract (x7_1 : Int).toNat (x8_6 : Int).toNat) t299 t300 t301 t302 t303 t304 _ A20.out).mono ?_); rintro e w21 ⟨rfl, hb⟩; refine ⟨_, rfl, ?_⟩; have n0_ := Aside0.mk (Kd.R_below (by (with_reducible repeat (first | apply Kd.R_alloc | apply Kd.R_drewN | apply Kd.R_drew)); exact (Kd.R_mono (Kd.R_far (p := ⟨gb298, 3, none⟩) (Kd.R_far (p := ⟨gb298, 2, none⟩) (Kd.R_far (p := ⟨gb298, 1, none⟩) (Kd.R_far (p := ⟨gb298, 0, none⟩) (Kd.R_mono HO_4.out (fun k_ hk => (⟨hk, hk.2⟩ : _ ∧ k_ ≠ gb298))) (fun _ hk => hk.2) (.string (⟨#[]⟩ : ByteArray))) (fun _ hk => hk.2) (.int .i64 0)) (fun _ hk => hk.2) (.int .i64 0)) (fun _ hk => hk.2) (.int .i64 0)) (fun _ h_ => h_.1))) hb); have n1_ := Aside0.mk (Kd.R_below (by (with_reducible repeat (first | apply Kd.R_alloc | apply Kd.R_drewN | apply Kd.R_drew)); exact (Kd.R_mono (Kd.R_far (p := ⟨gb298, 3, none⟩) (Kd.R_far (p := ⟨gb298, 2, none⟩) (Kd.R_far (p := ⟨gb298, 1, none⟩) (Kd.R_far (p := ⟨gb298, 0, none⟩) (Kd.R_types HO_5.out BK298.out (by decide)) (fun _ hk => hk.2) (.string (⟨#[]⟩ : ByteArray))) (fun _ hk => hk.2) (.int .i64 0)) (fun _ hk => hk.2) (.int .i64 0)) (fun _ hk => hk.2) (.int .i64 0)) (fun _ h_ => h_.1))) hb); have n2_ := Aside0.mk (Kd.R_below (by (with_reducible repeat (first | apply Kd.R_alloc | apply Kd.R_drewN | apply Kd.R_drew)); exact (Kd.R_mono (Kd.R_far (p := ⟨gb298, 3, none⟩) (Kd.R_far (p := ⟨gb298, 2, none⟩) (Kd.R_far (p := ⟨gb298, 1, none⟩) (Kd.R_far (p := ⟨gb298, 0, none⟩) (Kd.R_types HO_6.out BK298.out (by decide)) (fun _ hk => hk.2) (.string (⟨#[]⟩ : ByteArray))) (fun _ hk => hk.2) (.int .i64 0)) (fun _ hk => hk.2) (.int .i64 0)) (fun _ hk => hk.2) (.int .i64 0)) (fun _ h_ => h_.1))) hb); have n3_ := Aside0.mk (blk_below (g := gb297) (o := .cells #[.int .i64 x298000_1, .int .i64 x298001_1] 29 (0, 0)) (by (with_reducible repeat (first | refine blk_drewN ?_ _ | refine blk_drew ?_ | refine blk_alloc ?_ _)); refine blk_far ?_ NB297_298.out _; (with_reducible repeat (first | refine blk_drewN ?_ _ | refine blk_drew ?_ | refine blk_alloc ?_ _)); refine blk_far ?_ NB297_298.out _; (with_reducible repeat (first | refine blk_drewN ?_ _ | refine blk_drew ?_ | refine blk_alloc ?_ _)); refine blk_far ?_ NB297_298.out _; (with_reducible repeat (first | refine blk_drewN ?_ _ | refine blk_drew ?_ | refine blk_alloc ?_ _)); refine blk_far ?_ NB297_298.out _; (with_reducible repeat (first | refine blk_drewN ?_ _ | refine blk_drew ?_ | refine blk_alloc ?_ _)); exact BK297.out) hb); have n4_ := Aside0.mk (blk_below (g := gb298) (o := .cells #[.string (⟨#[]⟩ : ByteArray), .int .i64 0, .int .i64 0, .int .i64 0] 37 (0, 0)) (by (with_reducible repeat (first | refine blk_drewN ?_ _ | refine blk_drew ?_ | refine blk_alloc ?_ _)); refine blk_put (cs := #[.string (⟨#[]⟩ : ByteArray), .int .i64 0, .int .i64 0, .int .i64 0]) ?_ 3 _ rfl; (with_reducible repeat (first | refine blk_drewN ?_ _ | refine blk_drew ?_ | refine blk_alloc ?_ _)); refine blk_put (cs := #[.string (⟨#[]⟩ : ByteArray), .int .i64 0, .int .i64 0, .int .i64 0]) ?_ 2 _ rfl; (with_reducible repeat (first | refine blk_drewN ?_ _ | refine blk_drew ?_ | refine blk_alloc ?_ _)); refine blk_put (cs := #[.string (⟨#[]⟩ : ByteArray), .int .i64 0, .int .i64 0, .int .i64 0]) ?_ 1 _ rfl; (with_reducible repeat (first | refine blk_drewN ?_ _ | refine blk_drew ?_ | refine blk_alloc ?_ _)); refine blk_put (cs := #[.string (⟨#[]⟩ : ByteArray), .int .i64 0, .int .i64 0, .int .i64 0]) ?_ 0 _ rfl; (with_reducible repeat (first | refine blk_drewN ?_ _ | refine blk_drew ?_ | refine blk_alloc ?_ _)); exact BK298.out) hb); have n5_ := Aside0.mk (below_step (by repeat (first | (with_reducible first | exact HB.out | apply below_alloc | apply pw_below_drewN | apply below_drew1 | refine below_set ?_ GE297.out | refine below_set ?_ GE298.out) | exact HB.out)) hb); clear HO_4; clear HO_5; clear HO_6; clear BK297; clear BK298; clear HB; have HO_4 := n0_; have HO_5 := n1_; have HO_6 := n2_; have BK297 := n3_; have BK298 := n4_; have HB := n5_; clear n0_ n1_ n2_ n3_ n4_ n5_; (try clear hb); (try clear hb2); (try clear hk); (try clear hi); have hnb22 := NB298_297.out; have hnc22 := NB297_298.out; have hcz23_0 : w21.cell? ⟨gb298, 0, none⟩ = some (.string (⟨#[]⟩ : ByteArray)) := (blk_cell BK298.out 0).trans rfl; have hcz23_1 : w21.cell? ⟨gb298, 1, none⟩ = some (.int .i64 0) := (blk_cell BK298.out 1).trans rfl; have hcz23_2 : w21.cell? ⟨gb298, 2, none⟩ = some (.int .i64 0) := (blk_cell BK298.out 2).trans rfl; have hcz23_3 : w21.cell? ⟨gb298, 3, none⟩ = some (.int .i64 0) := (blk_cell BK298.out 3).trans rfl; have hfz23_0 := blk_frozen BK298.out 0; have hfz23_1 := blk_frozen BK298.out 1; have hfz23_2 := blk_frozen BK298.out 2; have hfz23_3 := blk_frozen BK298.out 3))
                        go_meet
                        case rel => exact ⟨_, (t299), (t304), (t300), (t301), (t302), (t303), (by first | rfl | (simp; done) | (simp [*]; done)), (by first | rfl | (simp; done) | (simp [*]; done)), H', ⟨by have := HK1.out; have := HJ6.out; first | omega | exact Nat.le_refl _⟩, ⟨by (with_reducible repeat (first | apply Kd.R_alloc | apply Kd.R_drewN | apply Kd.R_drew)); exact Kd.R_mono (Kd.R_far (p := ⟨gb298, 3, none⟩) (Kd.R_far (p := ⟨gb298, 2, none⟩) (Kd.R_far (p := ⟨gb298, 1, none⟩) (Kd.R_far (p := ⟨gb298, 0, none⟩) (Kd.R_mono HO_4.out (fun k_ hk => (⟨hk, hk.2⟩ : _ ∧ k_ ≠ gb298))) (fun _ hk => hk.2) (.string t300)) (fun _ hk => hk.2) (.int .i64 t301)) (fun _ hk => hk.2) (.int .i64 t302)) (fun _ hk => hk.2) (.int .i64 t303)) (fun _ hk => hk.1.2)⟩, ⟨by (with_reducible repeat (first | apply Kd.R_alloc | apply Kd.R_drewN | apply Kd.R_drew)); exact Kd.R_mono (Kd.R_far (p := ⟨gb298, 3, none⟩) (Kd.R_far (p := ⟨gb298, 2, none⟩) (Kd.R_far (p := ⟨gb298, 1, none⟩) (Kd.R_far (p := ⟨gb298, 0, none⟩) (Kd.R_types HO_5.out BK298.out (by decide)) (fun _ hk => hk.2) (.string t300)) (fun _ hk => hk.2) (.int .i64 t301)) (fun _ hk => hk.2) (.int .i64 t302)) (fun _ hk => hk.2) (.int .i64 t303)) (fun _ hk => hk.1)⟩, ⟨by (with_reducible repeat (first | apply Kd.R_alloc | apply Kd.R_drewN | apply Kd.R_drew)); exact Kd.R_mono (Kd.R_far (p := ⟨gb298, 3, none⟩) (Kd.R_far (p := ⟨gb298, 2, none⟩) (Kd.R_far (p := ⟨gb298, 1, none⟩) (Kd.R_far (p := ⟨gb298, 0, none⟩) (Kd.R_types HO_6.out BK298.out (by decide)) (fun _ hk => hk.2) (.string t300)) (fun _ hk => hk.2) (.int .i64 t301)) (fun _ hk => hk.2) (.int .i64 t302)) (fun _ hk => hk.2) (.int .i64 t303)) (fun _ hk => hk.1)⟩, ⟨by (with_reducible repeat (first | refine blk_drewN ?_ _ | refine blk_drew ?_ | refine blk_alloc ?_ _)); refine blk_far ?_ NB297_298.out _; (with_reducible repeat (first | refine blk_drewN ?_ _ | refine blk_drew ?_ | refine blk_alloc ?_ _)); refine blk_far ?_ NB297_298.out _; (with_reducible repeat (first | refine blk_drewN ?_ _ | refine blk_drew ?_ | refine blk_alloc ?_ _)); refine blk_far ?_ NB297_298.out _; (with_reducible repeat (first | refine blk_drewN ?_ _ | refine blk_drew ?_ | refine blk_alloc ?_ _)); refine blk_far ?_ NB297_298.out _; (with_reducible repeat (first | refine blk_drewN ?_ _ | refine blk_drew ?_ | refine blk_alloc ?_ _)); exact BK297.out⟩, ⟨by (with_reducible repeat (first | refine blk_drewN ?_ _ | refine blk_drew ?_ | refine blk_alloc ?_ _)); refine blk_put (cs := #[.string t300, .int .i64 t301, .int .i64 t302, .int .i64 0]) ?_ 3 _ rfl; (with_reducible repeat (first | refine blk_drewN ?_ _ | refine blk_drew ?_ | refine blk_alloc ?_ _)); refine blk_put (cs := #[.string t300, .int .i64 t301, .int .i64 0, .int .i64 0]) ?_ 2 _ rfl; (with_reducible repeat (first | refine blk_drewN ?_ _ | refine blk_drew ?_ | refine blk_alloc ?_ _)); refine blk_put (cs := #[.string t300, .int .i64 0, .int .i64 0, .int .i64 0]) ?_ 1 _ rfl; (with_reducible repeat (first | refine blk_drewN ?_ _ | refine blk_drew ?_ | refine blk_alloc ?_ _)); refine blk_put (cs := #[.string (⟨#[]⟩ : ByteArray), .int .i64 0, .int .i64 0, .int .i64 0]) ?_ 0 _ rfl; (with_reducible repeat (first | refine blk_drewN ?_ _ | refine blk_drew ?_ | refine blk_alloc ?_ _)); exact BK298.out⟩, ⟨by repeat (first | (with_reducible first | exact HB.out | apply below_alloc | apply pw_below_drewN | apply below_drew1 | refine below_set ?_ GE297.out | refine below_set ?_ GE298.out) | exact HB.out)⟩⟩
                      · rw [if_neg c19] at H
                        exact absurd H (by simp)
                    · rw [if_neg c18] at H
                      exact absurd H (by simp)
                  · rw [if_neg c17] at H
                    exact absurd H (by simp)
                · rw [if_neg c16] at H
                  have c16b0 : decide (x8_6 < (a0.size : Int)) = false := decide_eq_false c16
                  clear c16
                  (first | rw [c16b0] | (simp only [i64_w, i32_w]; rw [c16b0]) | skip)
                  have H' := Aside0.mk H
                  clear H
                  go_wp2
                  go_meet
                  case rel => exact ⟨_, (0), (false), ((⟨#[]⟩ : ByteArray)), (0), (0), (0), (by first | rfl | (simp; done) | (simp [*]; done)), (by first | rfl | (simp; done) | (simp [*]; done)), H', ⟨by have := HK1.out; have := HJ6.out; first | omega | exact Nat.le_refl _⟩, ⟨by (with_reducible repeat (first | apply Kd.R_alloc | apply Kd.R_drewN | apply Kd.R_drew)); exact Kd.R_mono (Kd.R_far (p := ⟨gb298, 3, none⟩) (Kd.R_far (p := ⟨gb298, 2, none⟩) (Kd.R_far (p := ⟨gb298, 1, none⟩) (Kd.R_far (p := ⟨gb298, 0, none⟩) (Kd.R_mono HO_4.out (fun k_ hk => (⟨hk, hk.2⟩ : _ ∧ k_ ≠ gb298))) (fun _ hk => hk.2) (.string (⟨#[]⟩ : ByteArray))) (fun _ hk => hk.2) (.int .i64 0)) (fun _ hk => hk.2) (.int .i64 0)) (fun _ hk => hk.2) (.int .i64 0)) (fun _ hk => hk.1.2)⟩, ⟨by (with_reducible repeat (first | apply Kd.R_alloc | apply Kd.R_drewN | apply Kd.R_drew)); exact Kd.R_mono (Kd.R_far (p := ⟨gb298, 3, none⟩) (Kd.R_far (p := ⟨gb298, 2, none⟩) (Kd.R_far (p := ⟨gb298, 1, none⟩) (Kd.R_far (p := ⟨gb298, 0, none⟩) (Kd.R_types HO_5.out BK298.out (by decide)) (fun _ hk => hk.2) (.string (⟨#[]⟩ : ByteArray))) (fun _ hk => hk.2) (.int .i64 0)) (fun _ hk => hk.2) (.int .i64 0)) (fun _ hk => hk.2) (.int .i64 0)) (fun _ hk => hk.1)⟩, ⟨by (with_reducible repeat (first | apply Kd.R_alloc | apply Kd.R_drewN | apply Kd.R_drew)); exact Kd.R_mono (Kd.R_far (p := ⟨gb298, 3, none⟩) (Kd.R_far (p := ⟨gb298, 2, none⟩) (Kd.R_far (p := ⟨gb298, 1, none⟩) (Kd.R_far (p := ⟨gb298, 0, none⟩) (Kd.R_types HO_6.out BK298.out (by decide)) (fun _ hk => hk.2) (.string (⟨#[]⟩ : ByteArray))) (fun _ hk => hk.2) (.int .i64 0)) (fun _ hk => hk.2) (.int .i64 0)) (fun _ hk => hk.2) (.int .i64 0)) (fun _ hk => hk.1)⟩, ⟨by (with_reducible repeat (first | refine blk_drewN ?_ _ | refine blk_drew ?_ | refine blk_alloc ?_ _)); refine blk_far ?_ NB297_298.out _; (with_reducible repeat (first | refine blk_drewN ?_ _ | refine blk_drew ?_ | refine blk_alloc ?_ _)); refine blk_far ?_ NB297_298.out _; (with_reducible repeat (first | refine blk_drewN ?_ _ | refine blk_drew ?_ | refine blk_alloc ?_ _)); refine blk_far ?_ NB297_298.out _; (with_reducible repeat (first | refine blk_drewN ?_ _ | refine blk_drew ?_ | refine blk_alloc ?_ _)); refine blk_far ?_ NB297_298.out _; (with_reducible repeat (first | refine blk_drewN ?_ _ | refine blk_drew ?_ | refine blk_alloc ?_ _)); exact BK297.out⟩, ⟨by (with_reducible repeat (first | refine blk_drewN ?_ _ | refine blk_drew ?_ | refine blk_alloc ?_ _)); refine blk_put (cs := #[.string (⟨#[]⟩ : ByteArray), .int .i64 0, .int .i64 0, .int .i64 0]) ?_ 3 _ rfl; (with_reducible repeat (first | refine blk_drewN ?_ _ | refine blk_drew ?_ | refine blk_alloc ?_ _)); refine blk_put (cs := #[.string (⟨#[]⟩ : ByteArray), .int .i64 0, .int .i64 0, .int .i64 0]) ?_ 2 _ rfl; (with_reducible repeat (first | refine blk_drewN ?_ _ | refine blk_drew ?_ | refine blk_alloc ?_ _)); refine blk_put (cs := #[.string (⟨#[]⟩ : ByteArray), .int .i64 0, .int .i64 0, .int .i64 0]) ?_ 1 _ rfl; (with_reducible repeat (first | refine blk_drewN ?_ _ | refine blk_drew ?_ | refine blk_alloc ?_ _)); refine blk_put (cs := #[.string (⟨#[]⟩ : ByteArray), .int .i64 0, .int .i64 0, .int .i64 0]) ?_ 0 _ rfl; (with_reducible repeat (first | refine blk_drewN ?_ _ | refine blk_drew ?_ | refine blk_alloc ?_ _)); exact BK298.out⟩, ⟨by repeat (first | (with_reducible first | exact HB.out | apply below_alloc | apply pw_below_drewN | apply below_drew1 | refine below_set ?_ GE297.out | refine below_set ?_ GE298.out) | exact HB.out)⟩⟩
              case rest =>
                clear HC12
                try clear c1
                try clear p1
                try clear q1
                try clear hx1
                try clear c2
                try clear c2b0
                try clear c2b1
                try clear p2
                try clear c3
                try clear c6
                try clear c6b0
                try clear p6
                try clear c8
                try clear c8b0
                try clear c9
                try clear c9b0
                try clear p10
                try clear q10
                try clear hx10
                try clear c11
                try clear c11b0
                try clear c11b1
                try clear c14
                try clear c16
                try clear c16b0
                try clear c17
                try clear c17b0
                try clear c17b1
                try clear c18
                try clear c18b0
                try clear c18b1
                try clear c19
                try clear c19b0
                try clear c19b1
                try clear c22
                try clear hcz15_0
                try clear hcz15_1
                try clear hcz15_2
                try clear hcz15_3
                try clear hcz23_0
                try clear hcz23_1
                try clear hcz23_2
                try clear hcz23_3
                try clear hcz4_0
                try clear hcz4_1
                try clear hfz15_0
                try clear hfz15_1
                try clear hfz15_2
                try clear hfz15_3
                try clear hfz23_0
                try clear hfz23_1
                try clear hfz23_2
                try clear hfz23_3
                try clear hfz4_0
                try clear hfz4_1
                try clear p1
                try clear p10
                try clear p2
                try clear p6
                try clear q1
                try clear q10
                obtain ⟨kq, x9_11, x11_11, x299000_11, x299001_11, x299002_11, x299003_11, rfl, rfl, HA, HJ11, HO_4, HO_5, HO_6, BK297, BK298, HB⟩ := hcut
                cases kq with
                | zero => exact absurd HA.out (by simp [dowelref12_Parse.j3])
                | succ kj11 =>
                  have H := HA.out
                  clear HA
                  simp only [dowelref12_Parse.j3] at H
                  have HC24 := Aside0.mk H
                  clear H
                  go_upto_region 14 with (fail)
                  go_cut [63] (fun v63 wc => ∃ (kq : Nat) (x63_23 : Bool), v63 = .bool x63_23 ∧ Aside0 (dowelref12_Parse.j4 kq a0 x4_1 x5_1 x6_1 x7_1 x8_6 x9_11 x63_23 x299000_11 x299001_11 x299002_11 x299003_11 = some (r1, r2, r3)) ∧ Aside0 (kq ≤ kj11) ∧ Aside0 (Kd.R k37 37 wc w.heap.size (fun k_ => k_ ≠ gb298) u4 x4_1) ∧ Aside0 (Kd.R (Kd.int .i64) 3 wc w.heap.size (fun k_ => some k_ ≠ (u6 : Value).ownBlock) u5 x5_1) ∧ Aside0 (Kd.R (Kd.int .i64) 3 wc w.heap.size (fun k_ => some k_ ≠ (u5 : Value).ownBlock) u6 x6_1) ∧ Aside0 (wc.heap[gb297]? = some (.cells #[.int .i64 x298000_1, .int .i64 x298001_1] 29 (0, 0))) ∧ Aside0 (wc.heap[gb298]? = some (.cells #[.string x299000_11, .int .i64 x299001_11, .int .i64 x299002_11, .int .i64 x299003_11] 37 (0, 0))) ∧ Aside0 (Below w.heap.size w wc))
                  case first =>
                    have H := HC24.out
                    clear HC24
                    by_cases c25 : x11_11 = true
                    · subst c25
                      have H1 : (if x9_11 > (x5_1.length : Int) then (dowelref12_Parse.j4 kj11 a0 x4_1 x5_1 x6_1 x7_1 x8_6 x9_11 true x299000_11 x299001_11 x299002_11 x299003_11) else (dowelref12_Parse.j4 kj11 a0 x4_1 x5_1 x6_1 x7_1 x8_6 x9_11 (decide (x299002_11 < x299001_11)) x299000_11 x299001_11 x299002_11 x299003_11)) = some (r1, r2, r3) := by rw [if_pos rfl] at H; exact H
                      clear H
                      have H := H1
                      clear H1
                      by_cases c26 : x9_11 > (x5_1.length : Int)
                      · rw [if_pos c26] at H
                        have c26b0 : decide ((x5_1.length : Int) < x9_11) = true := decide_eq_true c26
                        clear c26
                        (first | rw [c26b0] | (simp only [i64_w, i32_w]; rw [c26b0]) | skip)
                        have H' := Aside0.mk H
                        clear H
                        obtain ⟨Ao27, co27, eo27⟩ := Kd.R_slice HO_5.out
                        subst eo27
                        go_wp2
                        go_meet
                        case rel => exact ⟨_, (true), (by first | rfl | (simp; done) | (simp [*]; done)), H', ⟨by have := HK1.out; have := HJ6.out; have := HJ11.out; first | omega | exact Nat.le_refl _⟩, ⟨by (with_reducible repeat (first | apply Kd.R_alloc | apply Kd.R_drewN | apply Kd.R_drew)); exact HO_4.out⟩, ⟨by (with_reducible repeat (first | apply Kd.R_alloc | apply Kd.R_drewN | apply Kd.R_drew)); exact HO_5.out⟩, ⟨by (with_reducible repeat (first | apply Kd.R_alloc | apply Kd.R_drewN | apply Kd.R_drew)); exact HO_6.out⟩, ⟨by (with_reducible repeat (first | refine blk_drewN ?_ _ | refine blk_drew ?_ | refine blk_alloc ?_ _)); exact BK297.out⟩, ⟨by (with_reducible repeat (first | refine blk_drewN ?_ _ | refine blk_drew ?_ | refine blk_alloc ?_ _)); exact BK298.out⟩, ⟨by repeat (first | (with_reducible first | exact HB.out | apply below_alloc | apply pw_below_drewN | apply below_drew1 | refine below_set ?_ GE297.out | refine below_set ?_ GE298.out) | exact HB.out)⟩⟩
                      · rw [if_neg c26] at H
                        have c26b0 : decide ((x5_1.length : Int) < x9_11) = false := decide_eq_false c26
                        clear c26
                        (first | rw [c26b0] | (simp only [i64_w, i32_w]; rw [c26b0]) | skip)
                        have H' := Aside0.mk H
                        clear H
                        obtain ⟨Ao28, co28, eo28⟩ := Kd.R_slice HO_5.out
                        subst eo28
                        have hnb29 := NB298_297.out
                        have hnc29 := NB297_298.out
                        have hcz30_0 : wc.cell? ⟨gb298, 0, none⟩ = some (.string x299000_11) := (blk_cell BK298.out 0).trans rfl
                        have hcz30_1 : wc.cell? ⟨gb298, 1, none⟩ = some (.int .i64 x299001_11) := (blk_cell BK298.out 1).trans rfl
                        have hcz30_2 : wc.cell? ⟨gb298, 2, none⟩ = some (.int .i64 x299002_11) := (blk_cell BK298.out 2).trans rfl
                        have hcz30_3 : wc.cell? ⟨gb298, 3, none⟩ = some (.int .i64 x299003_11) := (blk_cell BK298.out 3).trans rfl
                        have hfz30_0 := blk_frozen BK298.out 0
                        have hfz30_1 := blk_frozen BK298.out 1
                        have hfz30_2 := blk_frozen BK298.out 2
                        have hfz30_3 := blk_frozen BK298.out 3
                        go_wp2
                        go_meet
                        case rel => exact ⟨_, (decide (x299002_11 < x299001_11)), (by first | rfl | (simp; done) | (simp [*]; done)), H', ⟨by have := HK1.out; have := HJ6.out; have := HJ11.out; first | omega | exact Nat.le_refl _⟩, ⟨by (with_reducible repeat (first | apply Kd.R_alloc | apply Kd.R_drewN | apply Kd.R_drew)); exact HO_4.out⟩, ⟨by (with_reducible repeat (first | apply Kd.R_alloc | apply Kd.R_drewN | apply Kd.R_drew)); exact HO_5.out⟩, ⟨by (with_reducible repeat (first | apply Kd.R_alloc | apply Kd.R_drewN | apply Kd.R_drew)); exact HO_6.out⟩, ⟨by (with_reducible repeat (first | refine blk_drewN ?_ _ | refine blk_drew ?_ | refine blk_alloc ?_ _)); exact BK297.out⟩, ⟨by (with_reducible repeat (first | refine blk_drewN ?_ _ | refine blk_drew ?_ | refine blk_alloc ?_ _)); exact BK298.out⟩, ⟨by repeat (first | (with_reducible first | exact HB.out | apply below_alloc | apply pw_below_drewN | apply below_drew1 | refine below_set ?_ GE297.out | refine below_set ?_ GE298.out) | exact HB.out)⟩⟩
                    · replace c25 := Bool.eq_false_iff.mpr c25
                      subst c25
                      have H1 : (dowelref12_Parse.j4 kj11 a0 x4_1 x5_1 x6_1 x7_1 x8_6 x9_11 true x299000_11 x299001_11 x299002_11 x299003_11) = some (r1, r2, r3) := by rw [if_neg (show ¬ (false = true) by decide)] at H; exact H
                      clear H
                      have H := H1
                      clear H1
                      have H' := Aside0.mk H
                      clear H
                      go_wp2
                      go_meet
                      case rel => exact ⟨_, (true), (by first | rfl | (simp; done) | (simp [*]; done)), H', ⟨by have := HK1.out; have := HJ6.out; have := HJ11.out; first | omega | exact Nat.le_refl _⟩, ⟨by (with_reducible repeat (first | apply Kd.R_alloc | apply Kd.R_drewN | apply Kd.R_drew)); exact HO_4.out⟩, ⟨by (with_reducible repeat (first | apply Kd.R_alloc | apply Kd.R_drewN | apply Kd.R_drew)); exact HO_5.out⟩, ⟨by (with_reducible repeat (first | apply Kd.R_alloc | apply Kd.R_drewN | apply Kd.R_drew)); exact HO_6.out⟩, ⟨by (with_reducible repeat (first | refine blk_drewN ?_ _ | refine blk_drew ?_ | refine blk_alloc ?_ _)); exact BK297.out⟩, ⟨by (with_reducible repeat (first | refine blk_drewN ?_ _ | refine blk_drew ?_ | refine blk_alloc ?_ _)); exact BK298.out⟩, ⟨by repeat (first | (with_reducible first | exact HB.out | apply below_alloc | apply pw_below_drewN | apply below_drew1 | refine below_set ?_ GE297.out | refine below_set ?_ GE298.out) | exact HB.out)⟩⟩
                  case rest =>
                    clear HC24
                    try clear c1
                    try clear p1
                    try clear q1
                    try clear hx1
                    try clear c2
                    try clear c2b0
                    try clear c2b1
                    try clear p2
                    try clear c3
                    try clear c6
                    try clear c6b0
                    try clear p6
                    try clear c8
                    try clear c8b0
                    try clear c9
                    try clear c9b0
                    try clear p10
                    try clear q10
                    try clear hx10
                    try clear c11
                    try clear c11b0
                    try clear c11b1
                    try clear c14
                    try clear c16
                    try clear c16b0
                    try clear c17
                    try clear c17b0
                    try clear c17b1
                    try clear c18
                    try clear c18b0
                    try clear c18b1
                    try clear c19
                    try clear c19b0
                    try clear c19b1
                    try clear c22
                    try clear c25
                    try clear c26
                    try clear c26b0
                    try clear c29
                    try clear c30
                    try clear hcz15_0
                    try clear hcz15_1
                    try clear hcz15_2
                    try clear hcz15_3
                    try clear hcz23_0
                    try clear hcz23_1
                    try clear hcz23_2
                    try clear hcz23_3
                    try clear hcz30_0
                    try clear hcz30_1
                    try clear hcz30_2
                    try clear hcz30_3
                    try clear hcz4_0
                    try clear hcz4_1
                    try clear hfz15_0
                    try clear hfz15_1
                    try clear hfz15_2
                    try clear hfz15_3
                    try clear hfz23_0
                    try clear hfz23_1
                    try clear hfz23_2
                    try clear hfz23_3
                    try clear hfz30_0
                    try clear hfz30_1
                    try clear hfz30_2
                    try clear hfz30_3
                    try clear hfz4_0
                    try clear hfz4_1
                    try clear p1
                    try clear p10
                    try clear p2
                    try clear p6
                    try clear q1
                    try clear q10
                    obtain ⟨kq, x63_23, rfl, HA, HJ23, HO_4, HO_5, HO_6, BK297, BK298, HB⟩ := hcut
                    cases kq with
                    | zero => exact absurd HA.out (by simp [dowelref12_Parse.j4])
                    | succ kj23 =>
                      have H := HA.out
                      clear HA
                      simp only [dowelref12_Parse.j4] at H
                      by_cases c31 : x63_23 = true
                      · subst c31
                        have H1 : (some (([] : List (S37)), x7_1, 120)) = some (r1, r2, r3) := by rw [if_pos rfl] at H; exact H
                        clear H
                        have H := H1
                        clear H1
                        simp only [Option.some.injEq, Prod.mk.injEq] at H
                        obtain ⟨rfl, rfl, rfl⟩ := H
                        have hnb32 := NB297_298.out
                        have hnc32 := NB298_297.out
                        have hcz33_0 : wc.cell? ⟨gb297, 0, none⟩ = some (.int .i64 x298000_1) := (blk_cell BK297.out 0).trans rfl
                        have hcz33_1 : wc.cell? ⟨gb297, 1, none⟩ = some (.int .i64 x298001_1) := (blk_cell BK297.out 1).trans rfl
                        have hfz33_0 := blk_frozen BK297.out 0
                        have hfz33_1 := blk_frozen BK297.out 1
                        go_wp2
                        refine bodyPost_ret (results_tc rfl _ _ gb297 29 #[.int .i64 x7_1, .int .i64 120] (0, 0) _ rfl (by (with_reducible repeat (first | refine blk_drewN ?_ _ | refine blk_drew ?_ | refine blk_alloc ?_ _)); refine blk_put (cs := #[.int .i64 x7_1, .int .i64 x298001_1]) ?_ 1 _ rfl; (with_reducible repeat (first | refine blk_drewN ?_ _ | refine blk_drew ?_ | refine blk_alloc ?_ _)); refine blk_put (cs := #[.int .i64 x298000_1, .int .i64 x298001_1]) ?_ 0 _ rfl; (with_reducible repeat (first | refine blk_drewN ?_ _ | refine blk_drew ?_ | refine blk_alloc ?_ _)); exact BK297.out) Tryd.underlying29 rfl (by kernel_rfl)) rfl ?_
                        exact ⟨_, by first | rfl | (simp [errW_none, errW_some] <;> rfl) | (simp [*, errW_none, errW_some] <;> rfl), by first | exact Kd.R_nil _ _ _ _ _ | exact Kd.N_nil _ _ _ _ _ | exact Kd.V_nil _ _ _ _ _ | exact Kd.Q_nil _ _ _ _ _ | exact Kd.S_nil _ _ _ _ _, by repeat (first | (with_reducible first | exact HB.out | apply below_alloc | apply pw_below_drewN | apply below_drew1 | refine below_set ?_ GE297.out | refine below_set ?_ GE298.out) | exact HB.out)⟩
                      · replace c31 := Bool.eq_false_iff.mpr c31
                        subst c31
                        have H1 : (if x6_1.length < 17592186044416 then ((some (x6_1 ++ [0] : List Int)).bind fun y305 => (if 0 ≤ x9_11 then (if x9_11 < (y305.length : Int) then (if x9_11 > 0 then (if 0 ≤ (wrap64 (x9_11 - 1)) then (if (wrap64 (x9_11 - 1)) < (x5_1.length : Int) then (if 0 ≤ (rd x5_1 (wrap64 (x9_11 - 1))) then (if (rd x5_1 (wrap64 (x9_11 - 1))) < (x4_1.length : Int) then (if x299001_11 < ((rd_T37 x4_1 (rd x5_1 (wrap64 (x9_11 - 1)))).f1) then (some (([] : List (S37)), x7_1, 120)) else (if x299002_11 > ((rd_T37 x4_1 (rd x5_1 (wrap64 (x9_11 - 1)))).f2) then (some (([] : List (S37)), x7_1, 120)) else (dowelref12_Parse.j5 kj23 a0 x4_1 x5_1 y305 x7_1 x8_6 x9_11 (rd y305 x9_11) x299000_11 x299001_11 x299002_11 x299003_11))) else (none)) else (none)) else (none)) else (none)) else (dowelref12_Parse.j5 kj23 a0 x4_1 x5_1 y305 x7_1 x8_6 x9_11 (rd y305 x9_11) x299000_11 x299001_11 x299002_11 x299003_11)) else (none)) else (none))) else (none)) = some (r1, r2, r3) := by rw [if_neg (show ¬ (false = true) by decide)] at H; exact H
                        clear H
                        have H := H1
                        clear H1
                        by_cases c34 : x6_1.length < 17592186044416
                        · rw [if_pos c34] at H
                          have LMc34 := Aside0.mk c34
                          clear c34
                          obtain ⟨y305, hy305⟩ : ∃ y_ : List Int, y_ = (x6_1 ++ [0]) := ⟨_, rfl⟩
                          replace H : (if 0 ≤ x9_11 then (if x9_11 < (y305.length : Int) then (if x9_11 > 0 then (if 0 ≤ (wrap64 (x9_11 - 1)) then (if (wrap64 (x9_11 - 1)) < (x5_1.length : Int) then (if 0 ≤ (rd x5_1 (wrap64 (x9_11 - 1))) then (if (rd x5_1 (wrap64 (x9_11 - 1))) < (x4_1.length : Int) then (if x299001_11 < ((rd_T37 x4_1 (rd x5_1 (wrap64 (x9_11 - 1)))).f1) then (some (([] : List (S37)), x7_1, 120)) else (if x299002_11 > ((rd_T37 x4_1 (rd x5_1 (wrap64 (x9_11 - 1)))).f2) then (some (([] : List (S37)), x7_1, 120)) else (dowelref12_Parse.j5 kj23 a0 x4_1 x5_1 y305 x7_1 x8_6 x9_11 (rd y305 x9_11) x299000_11 x299001_11 x299002_11 x299003_11))) else (none)) else (none)) else (none)) else (none)) else (dowelref12_Parse.j5 kj23 a0 x4_1 x5_1 y305 x7_1 x8_6 x9_11 (rd y305 x9_11) x299000_11 x299001_11 x299002_11 x299003_11)) else (none)) else (none)) = some (r1, r2, r3) := by first | (rw [hy305]; with_reducible exact H) | (have H2_ := (Option.bind_some _ _).symm.trans H; rw [hy305]; with_reducible exact H2_) | (have H2_ := (Option.bind_some _ _).symm.trans H; with_reducible exact H2_) | with_reducible exact H | (rw [hy305]; exact H) | exact H
                          have Ny305 := Aside0.mk hy305
                          clear hy305
                          by_cases c35 : 0 ≤ x9_11
                          · rw [if_pos c35] at H
                            have c35b0 : decide (0 ≤ x9_11) = true := decide_eq_true c35
                            clear c35
                            by_cases c36 : x9_11 < (y305.length : Int)
                            · rw [if_pos c36] at H
                              have c36b0 : decide (x9_11 < (y305.length : Int)) = true := decide_eq_true c36
                              clear c36
                              have HC37 := Aside0.mk H
                              clear H
                              go_upto_if 74 with (first | ((with_reducible refine gate_builtin (b := .append) (xs := #[.tmp 66, .tmp 67]) rfl ?_); (try (refine gate_guard (by rfl) ?_; dsimp only)); at_builtin; refine Kd.R_append (Kd.int .i64) (w0 := w) w.heap.size rfl (.tmp 66) (.tmp 67) 49 3 (.int .i64 0) 8 rfl Tryd.underlying49 info3 rfl (by decide) (by omega) u6 x6_1 0 [.int .i64 0] (fun k_ => some k_ ≠ (u5 : Value).ownBlock) (fun _ => False) rfl rfl ?aP (fun _ hk => hk.elim) ?aF ?aO ?aB ?aS ?aL ?_; (case aP => exact rfl); (case aB => exact (by repeat (first | (with_reducible first | exact HB.out | apply below_alloc | apply pw_below_drewN | apply below_drew1 | refine below_set ?_ GE297.out | refine below_set ?_ GE298.out) | exact HB.out))); (case aF => exact (fun k_ hk => Kd.fresh' (Kd.R_lt (by (with_reducible repeat (first | apply Kd.R_alloc | apply Kd.R_drewN | apply Kd.R_drew)); exact HO_5.out)) k_ hk)); (case aO => exact (by (with_reducible repeat (first | apply Kd.R_alloc | apply Kd.R_drewN | apply Kd.R_drew)); exact HO_6.out)); (case aS => exact (below_size (by repeat (first | (with_reducible first | exact HB.out | apply below_alloc | apply pw_below_drewN | apply below_drew1 | refine below_set ?_ GE297.out | refine below_set ?_ GE298.out) | exact HB.out)))); (case aL => have := LMc34.out; omega); intro v306 w38 ho hb hg hat; rw [← Ny305.out] at ho; have n0_ := Aside0.mk (Kd.R_over' (by (with_reducible repeat (first | apply Kd.R_alloc | apply Kd.R_drewN | apply Kd.R_drew)); exact HO_4.out) (Kd.R_typed (by (with_reducible repeat (first | apply Kd.R_alloc | apply Kd.R_drewN | apply Kd.R_drew)); exact HO_6.out)) (by decide) hg); have n1_ := Aside0.mk (Kd.R_after (ok := (fun _ => True)) (by (with_reducible repeat (first | apply Kd.R_alloc | apply Kd.R_drewN | apply Kd.R_drew)); exact Kd.R_mono HO_5.out (fun _ hk => ⟨trivial, hk⟩)) hg hat); have n2_ := Aside0.mk (blk_grown (g := gb297) (o := .cells #[.int .i64 x298000_1, .int .i64 x298001_1] 29 (0, 0)) (by (with_reducible repeat (first | refine blk_drewN ?_ _ | refine blk_drew ?_ | refine blk_alloc ?_ _)); exact BK297.out) hg (Kd.R_ne HO_6.out BK297.out (by decide))); have n3_ := Aside0.mk (blk_grown (g := gb298) (o := .cells #[.string x299000_11, .int .i64 x299001_11, .int .i64 x299002_11, .int .i64 x299003_11] 37 (0, 0)) (by (with_reducible repeat (first | refine blk_drewN ?_ _ | refine blk_drew ?_ | refine blk_alloc ?_ _)); exact BK298.out) hg (Kd.R_ne HO_6.out BK298.out (by decide))); have n4_ := Aside0.mk (hb); have n5_ := Aside0.mk (ho); clear HO_4; clear HO_5; clear BK297; clear BK298; clear HB; clear HO_6; have HO_4 := n0_; have HO_5 := n1_; have BK297 := n2_; have BK298 := n3_; have HB := n4_; have HO307 := n5_; clear n0_ n1_ n2_ n3_ n4_ n5_; clear ho hb hg hat; obtain ⟨Ao39, co39, eo39⟩ := Kd.R_slice HO307.out; subst eo39; have p308 : 0 ≤ (x9_11 : Int) := of_decide_eq_true (by first | (with_reducible assumption) | assumption); have q308 : x9_11 < (y305.length : Int) := of_decide_eq_true (by first | (with_reducible assumption) | assumption); obtain ⟨ad308, e308, hx308_0⟩ := Kd.at_int (Kd.R_reads' HO307.out).2.2 x9_11 p308 q308; cases e308; replace p308 := eq_true p308; replace q308 := eq_true q308))
                              (try simp only [Act.put, List.setIfInBounds_toArray, List.set_cons_zero, List.set_cons_succ])
                              go_cut [] (fun wc => ∃ (kq : Nat) (x298000_36 : Int) (x298001_36 : Int), Aside0 (dowelref12_Parse.j5 kq a0 x4_1 x5_1 y305 x7_1 x8_6 x9_11 (rd y305 x9_11) x299000_11 x299001_11 x299002_11 x299003_11 = some (r1, r2, r3)) ∧ Aside0 (kq ≤ kj23) ∧ Aside0 (Kd.R k37 37 wc w.heap.size (fun k_ => k_ ≠ gb298) u4 x4_1) ∧ Aside0 (Kd.R (Kd.int .i64) 3 wc w.heap.size (fun k_ => some k_ ≠ ((.slice (some ad308) y305.length co39) : Value).ownBlock) u5 x5_1) ∧ Aside0 (Kd.R (Kd.int .i64) 3 wc w.heap.size (fun k_ => some k_ ≠ (u5 : Value).ownBlock) (.slice (some ad308) y305.length co39) y305) ∧ Aside0 (wc.heap[gb297]? = some (.cells #[.int .i64 x298000_36, .int .i64 x298001_36] 29 (0, 0))) ∧ Aside0 (wc.heap[gb298]? = some (.cells #[.string x299000_11, .int .i64 x299001_11, .int .i64 x299002_11, .int .i64 x299003_11] 37 (0, 0))) ∧ Aside0 (Below w.heap.size w wc))
                              case first =>
                                have H := HC37.out
                                clear HC37
                                by_cases c40 : x9_11 > 0
                                · rw [if_pos c40] at H
                                  have c40b0 : decide (0 < x9_11) = true := decide_eq_true c40
                                  clear c40
                                  (first | rw [c40b0] | (simp only [i64_w, i32_w]; rw [c40b0]) | skip)
                                  obtain ⟨ji41, hji41⟩ : ∃ j_ : Int, (wrap64 (x9_11 - 1)) = j_ := ⟨_, rfl⟩
                                  replace H : (if 0 ≤ (ji41) then (if (ji41) < (x5_1.length : Int) then (if 0 ≤ (rd x5_1 (ji41)) then (if (rd x5_1 (ji41)) < (x4_1.length : Int) then (if x299001_11 < ((rd_T37 x4_1 (rd x5_1 (ji41))).f1) then (some (([] : List (S37)), x7_1, 120)) else (if x299002_11 > ((rd_T37 x4_1 (rd x5_1 (ji41))).f2) then (some (([] : List (S37)), x7_1, 120)) else (dowelref12_Parse.j5 kj23 a0 x4_1 x5_1 y305 x7_1 x8_6 x9_11 (rd y305 x9_11) x299000_11 x299001_11 x299002_11 x299003_11))) else (none)) else (none)) else (none)) else (none)) = some (r1, r2, r3) := by first | (rw [hji41] at H; exact H) | (simp only [hji41] at H ⊢; exact H)
                                  have hji41w : (IntKind.i64.wrap (x9_11 - 1)) = ji41 := (i64_w _).trans hji41
                                  by_cases c42 : 0 ≤ (ji41)
                                  · rw [if_pos c42] at H
                                    have c42b0 : decide (0 ≤ (ji41)) = true := decide_eq_true c42
                                    clear c42
                                    by_cases c43 : (ji41) < (x5_1.length : Int)
                                    · rw [if_pos c43] at H
                                      have c43b0 : decide ((ji41) < (x5_1.length : Int)) = true := decide_eq_true c43
                                      clear c43
                                      by_cases c44 : 0 ≤ (rd x5_1 (ji41))
                                      · rw [if_pos c44] at H
                                        have c44b0 : decide (0 ≤ (rd x5_1 (ji41))) = true := decide_eq_true c44
                                        clear c44
                                        by_cases c45 : (rd x5_1 (ji41)) < (x4_1.length : Int)
                                        · rw [if_pos c45] at H
                                          have c45b0 : decide ((rd x5_1 (ji41)) < (x4_1.length : Int)) = true := decide_eq_true c45
                                          clear c45
                                          by_cases c46 : x299001_11 < ((rd_T37 x4_1 (rd x5_1 (ji41))).f1)
                                          · rw [if_pos c46] at H
                                            have c46b0 : decide (x299001_11 < ((rd_T37 x4_1 (rd x5_1 (ji41))).f1)) = true := decide_eq_true c46
                                            clear c46
                                            simp only [Option.some.injEq, Prod.mk.injEq] at H
                                            obtain ⟨rfl, rfl, rfl⟩ := H
                                            obtain ⟨Ao47, co47, eo47⟩ := Kd.R_slice HO_5.out
                                            subst eo47
                                            have p309 : 0 ≤ ((ji41) : Int) := of_decide_eq_true (by first | (with_reducible assumption) | assumption)
                                            have q309 : (ji41) < (x5_1.length : Int) := of_decide_eq_true (by first | (with_reducible assumption) | assumption)
                                            obtain ⟨ad309, e309, hx309_0⟩ := Kd.at_int (Kd.R_reads' HO_5.out).2.2 (ji41) p309 q309
                                            cases e309
                                            replace p309 := eq_true p309
                                            replace q309 := eq_true q309
                                            obtain ⟨Ao48, co48, eo48⟩ := Kd.R_slice HO_4.out
                                            subst eo48
                                            have p310 : 0 ≤ ((rd x5_1 (ji41)) : Int) := of_decide_eq_true (by first | (with_reducible assumption) | assumption)
                                            have q310 : (rd x5_1 (ji41)) < (x4_1.length : Int) := of_decide_eq_true (by first | (with_reducible assumption) | assumption)
                                            obtain ⟨ad310, e310, hx310_0, hx310_1, hx310_2, hx310_3⟩ := at_T37 (Kd.R_reads' HO_4.out).2.2 (rd x5_1 (ji41)) p310 q310
                                            cases e310
                                            replace p310 := eq_true p310
                                            replace q310 := eq_true q310
                                            go_wp2_with (first | ((with_reducible refine gate_dst (N := 13) rfl ?_); (try (refine gate_guard (by rfl) ?_; dsimp only)); refine box_event ?hg (N := 13) ?hd (cs := #[.string (⟨#[]⟩ : ByteArray), .int .i64 0, .int .i64 0, .int .i64 0]) (t := 37) ?hr ?_; (case hd => rfl); (case hg => rfl); (case hr => first | (go_simp; done) | (go_simp; rfl)); intro gb311 hg w49 hbox hb; have n0_ := Aside0.mk (Kd.R_below (Kd.R_elderB (by (with_reducible repeat (first | apply Kd.R_alloc | apply Kd.R_drewN | apply Kd.R_drew)); exact HO_4.out) gb311 (Nat.le_of_eq hg.symm)) hb); have n1_ := Aside0.mk (Kd.R_below (by (with_reducible repeat (first | apply Kd.R_alloc | apply Kd.R_drewN | apply Kd.R_drew)); exact HO_5.out) hb); have n2_ := Aside0.mk (Kd.R_below (by (with_reducible repeat (first | apply Kd.R_alloc | apply Kd.R_drewN | apply Kd.R_drew)); exact HO307.out) hb); have n3_ := Aside0.mk (blk_below (g := gb297) (o := .cells #[.int .i64 x298000_1, .int .i64 x298001_1] 29 (0, 0)) (by (with_reducible repeat (first | refine blk_drewN ?_ _ | refine blk_drew ?_ | refine blk_alloc ?_ _)); exact BK297.out) hb); have n4_ := Aside0.mk (blk_below (g := gb298) (o := .cells #[.string x299000_11, .int .i64 x299001_11, .int .i64 x299002_11, .int .i64 x299003_11] 37 (0, 0)) (by (with_reducible repeat (first | refine blk_drewN ?_ _ | refine blk_drew ?_ | refine blk_alloc ?_ _)); exact BK298.out) hb); have n5_ := Aside0.mk (below_step (by repeat (first | (with_reducible first | exact HB.out | apply below_alloc | apply pw_below_drewN | apply below_drew1 | refine below_set ?_ GE297.out | refine below_set ?_ GE298.out) | exact HB.out)) hb); have n6_ := Aside0.mk (hbox); have n7_ := Aside0.mk ((by rw [hg]; exact (below_size (by repeat (first | (with_reducible first | exact HB.out | apply below_alloc | apply pw_below_drewN | apply below_drew1 | refine below_set ?_ GE297.out | refine below_set ?_ GE298.out) | exact HB.out))) : w.heap.size ≤ gb311)); have n8_ := Aside0.mk ((by rw [hg]; exact (below_size (by repeat (first | (with_reducible first | exact HB.out | apply below_alloc | apply pw_below_drewN | apply below_drew1 | refine below_set ?_ GE297.out | refine below_set ?_ GE298.out) | exact HB.out))) : w.heap.size ≤ gb311)); have n9_ := Aside0.mk ((by rw [hg]; exact Nat.ne_of_lt (blk_lt (g := gb297) (o := .cells #[.int .i64 x298000_1, .int .i64 x298001_1] 29 (0, 0)) (by (with_reducible repeat (first | refine blk_drewN ?_ _ | refine blk_drew ?_ | refine blk_alloc ?_ _)); exact BK297.out)) : gb297 ≠ gb311)); have n10_ := Aside0.mk ((by rw [hg]; exact Nat.ne_of_gt (blk_lt (g := gb297) (o := .cells #[.int .i64 x298000_1, .int .i64 x298001_1] 29 (0, 0)) (by (with_reducible repeat (first | refine blk_drewN ?_ _ | refine blk_drew ?_ | refine blk_alloc ?_ _)); exact BK297.out)) : gb311 ≠ gb297)); have n11_ := Aside0.mk ((by rw [hg]; exact Nat.ne_of_lt (blk_lt (g := gb298) (o := .cells #[.string x299000_11, .int .i64 x299001_11, .int .i64 x299002_11, .int .i64 x299003_11] 37 (0, 0)) (by (with_reducible repeat (first | refine blk_drewN ?_ _ | refine blk_drew ?_ | refine blk_alloc ?_ _)); exact BK298.out)) : gb298 ≠ gb311)); have n12_ := Aside0.mk ((by rw [hg]; exact Nat.ne_of_gt (blk_lt (g := gb298) (o := .cells #[.string x299000_11, .int .i64 x299001_11, .int .i64 x299002_11, .int .i64 x299003_11] 37 (0, 0)) (by (with_reducible repeat (first | refine blk_drewN ?_ _ | refine blk_drew ?_ | refine blk_alloc ?_ _)); exact BK298.out)) : gb311 ≠ gb298)); clear HO_4; clear HO_5; clear HO307; clear BK297; clear BK298; clear HB; have HO_4 := n0_; have HO_5 := n1_; have HO307 := n2_; have BK297 := n3_; have BK298 := n4_; have HB := n5_; have BK311 := n6_; have GW311 := n7_; have GE311 := n8_; have NB297_311 := n9_; have NB311_297 := n10_; have NB298_311 := n11_; have NB311_298 := n12_; clear n0_ n1_ n2_ n3_ n4_ n5_ n6_ n7_ n8_ n9_ n10_ n11_ n12_; clear hb hbox hg; have hnb50 := NB311_297.out; have hnc50 := NB297_311.out; have hnb51 := NB311_298.out; have hnc51 := NB298_311.out; have hcz52_0 : w49.cell? ⟨gb311, 0, none⟩ = some (.string (⟨#[]⟩ : ByteArray)) := (blk_cell BK311.out 0).trans rfl; have hcz52_1 : w49.cell? ⟨gb311, 1, none⟩ = some (.int .i64 0) := (blk_cell BK311.out 1).trans rfl; have hcz52_2 : w49.cell? ⟨gb311, 2, none⟩ = some (.int .i64 0) := (blk_cell BK311.out 2).trans rfl; have hcz52_3 : w49.cell? ⟨gb311, 3, none⟩ = some (.int .i64 0) := (blk_cell BK311.out 3).trans rfl; have hfz52_0 := blk_frozen BK311.out 0; have hfz52_1 := blk_frozen BK311.out 1; have hfz52_2 := blk_frozen BK311.out 2; have hfz52_3 := blk_frozen BK311.out 3; have hnb53 := NB298_297.out; have hnc53 := NB297_298.out; have hcz54_0 : w49.cell? ⟨gb298, 0, none⟩ = some (.string x299000_11) := (blk_cell BK298.out 0).trans rfl; have hcz54_1 : w49.cell? ⟨gb298, 1, none⟩ = some (.int .i64 x299001_11) := (blk_cell BK298.out 1).trans rfl; have hcz54_2 : w49.cell? ⟨gb298, 2, none⟩ = some (.int .i64 x299002_11) := (blk_cell BK298.out 2).trans rfl; have hcz54_3 : w49.cell? ⟨gb298, 3, none⟩ = some (.int .i64 x299003_11) := (blk_cell BK298.out 3).trans rfl; have hfz54_0 := blk_frozen BK298.out 0; have hfz54_1 := blk_frozen BK298.out 1; have hfz54_2 := blk_frozen BK298.out 2; have hfz54_3 := blk_frozen BK298.out 3; have hcz55_0 : w49.cell? ⟨gb297, 0, none⟩ = some (.int .i64 x298000_1) := (blk_cell BK297.out 0).trans rfl; have hcz55_1 : w49.cell? ⟨gb297, 1, none⟩ = some (.int .i64 x298001_1) := (blk_cell BK297.out 1).trans rfl; have hfz55_0 := blk_frozen BK297.out 0; have hfz55_1 := blk_frozen BK297.out 1))
                                            refine bodyPost_ret (results_tc rfl _ _ gb297 29 #[.int .i64 x7_1, .int .i64 120] (0, 0) _ rfl (by (with_reducible repeat (first | refine blk_drewN ?_ _ | refine blk_drew ?_ | refine blk_alloc ?_ _)); refine blk_put (cs := #[.int .i64 x7_1, .int .i64 x298001_1]) ?_ 1 _ rfl; (with_reducible repeat (first | refine blk_drewN ?_ _ | refine blk_drew ?_ | refine blk_alloc ?_ _)); refine blk_put (cs := #[.int .i64 x298000_1, .int .i64 x298001_1]) ?_ 0 _ rfl; (with_reducible repeat (first | refine blk_drewN ?_ _ | refine blk_drew ?_ | refine blk_alloc ?_ _)); refine blk_far ?_ NB297_311.out _; (with_reducible repeat (first | refine blk_drewN ?_ _ | refine blk_drew ?_ | refine blk_alloc ?_ _)); refine blk_far ?_ NB297_311.out _; (with_reducible repeat (first | refine blk_drewN ?_ _ | refine blk_drew ?_ | refine blk_alloc ?_ _)); refine blk_far ?_ NB297_311.out _; (with_reducible repeat (first | refine blk_drewN ?_ _ | refine blk_drew ?_ | refine blk_alloc ?_ _)); refine blk_far ?_ NB297_311.out _; (with_reducible repeat (first | refine blk_drewN ?_ _ | refine blk_drew ?_ | refine blk_alloc ?_ _)); exact BK297.out) Tryd.underlying29 rfl (by kernel_rfl)) rfl ?_
                                            exact ⟨_, by first | rfl | (simp [errW_none, errW_some] <;> rfl) | (simp only [← hji41]; first | rfl | (simp [errW_none, errW_some] <;> rfl)) | (simp [*, errW_none, errW_some] <;> rfl), by first | exact Kd.R_nil _ _ _ _ _ | exact Kd.N_nil _ _ _ _ _ | exact Kd.V_nil _ _ _ _ _ | exact Kd.Q_nil _ _ _ _ _ | exact Kd.S_nil _ _ _ _ _, by repeat (first | (with_reducible first | exact HB.out | apply below_alloc | apply pw_below_drewN | apply below_drew1 | refine below_set ?_ GE297.out | refine below_set ?_ GE298.out | refine below_set ?_ GE311.out) | exact HB.out)⟩
                                          · rw [if_neg c46] at H
                                            have c46b0 : decide (x299001_11 < ((rd_T37 x4_1 (rd x5_1 (ji41))).f1)) = false := decide_eq_false c46
                                            clear c46
                                            by_cases c56 : x299002_11 > ((rd_T37 x4_1 (rd x5_1 (ji41))).f2)
                                            · rw [if_pos c56] at H
                                              have c56b0 : decide (((rd_T37 x4_1 (rd x5_1 (ji41))).f2) < x299002_11) = true := decide_eq_true c56
                                              clear c56
                                              simp only [Option.some.injEq, Prod.mk.injEq] at H
                                              obtain ⟨rfl, rfl, rfl⟩ := H
                                              obtain ⟨Ao57, co57, eo57⟩ := Kd.R_slice HO_5.out
                                              subst eo57
                                              have p309 : 0 ≤ ((ji41) : Int) := of_decide_eq_true (by first | (with_reducible assumption) | assumption)
                                              have q309 : (ji41) < (x5_1.length : Int) := of_decide_eq_true (by first | (with_reducible assumption) | assumption)
                                              obtain ⟨ad309, e309, hx309_0⟩ := Kd.at_int (Kd.R_reads' HO_5.out).2.2 (ji41) p309 q309
                                              cases e309
                                              replace p309 := eq_true p309
                                              replace q309 := eq_true q309
                                              obtain ⟨Ao58, co58, eo58⟩ := Kd.R_slice HO_4.out
                                              subst eo58
                                              have p310 : 0 ≤ ((rd x5_1 (ji41)) : Int) := of_decide_eq_true (by first | (with_reducible assumption) | assumption)
                                              have q310 : (rd x5_1 (ji41)) < (x4_1.length : Int) := of_decide_eq_true (by first | (with_reducible assumption) | assumption)
                                              obtain ⟨ad310, e310, hx310_0, hx310_1, hx310_2, hx310_3⟩ := at_T37 (Kd.R_reads' HO_4.out).2.2 (rd x5_1 (ji41)) p310 q310
                                              cases e310
                                              replace p310 := eq_true p310
                                              replace q310 := eq_true q310
                                              go_wp2_with (first | ((with_reducible refine gate_dst (N := 13) rfl ?_); (try (refine gate_guard (by rfl) ?_; dsimp only)); refine box_event ?hg (N := 13) ?hd (cs := #[.string (⟨#[]⟩ : ByteArray), .int .i64 0, .int .i64 0, .int .i64 0]) (t := 37) ?hr ?_; (case hd => rfl); (case hg => rfl); (case hr => first | (go_simp; done) | (go_simp; rfl)); intro gb311 hg w59 hbox hb; have n0_ := Aside0.mk (Kd.R_below (Kd.R_elderB (by (with_reducible repeat (first | apply Kd.R_alloc | apply Kd.R_drewN | apply Kd.R_drew)); exact HO_4.out) gb311 (Nat.le_of_eq hg.symm)) hb); have n1_ := Aside0.mk (Kd.R_below (by (with_reducible repeat (first | apply Kd.R_alloc | apply Kd.R_drewN | apply Kd.R_drew)); exact HO_5.out) hb); have n2_ := Aside0.mk (Kd.R_below (by (with_reducible repeat (first | apply Kd.R_alloc | apply Kd.R_drewN | apply Kd.R_drew)); exact HO307.out) hb); have n3_ := Aside0.mk (blk_below (g := gb297) (o := .cells #[.int .i64 x298000_1, .int .i64 x298001_1] 29 (0, 0)) (by (with_reducible repeat (first | refine blk_drewN ?_ _ | refine blk_drew ?_ | refine blk_alloc ?_ _)); exact BK297.out) hb); have n4_ := Aside0.mk (blk_below (g := gb298) (o := .cells #[.string x299000_11, .int .i64 x299001_11, .int .i64 x299002_11, .int .i64 x299003_11] 37 (0, 0)) (by (with_reducible repeat (first | refine blk_drewN ?_ _ | refine blk_drew ?_ | refine blk_alloc ?_ _)); exact BK298.out) hb); have n5_ := Aside0.mk (below_step (by repeat (first | (with_reducible first | exact HB.out | apply below_alloc | apply pw_below_drewN | apply below_drew1 | refine below_set ?_ GE297.out | refine below_set ?_ GE298.out) | exact HB.out)) hb); have n6_ := Aside0.mk (hbox); have n7_ := Aside0.mk ((by rw [hg]; exact (below_size (by repeat (first | (with_reducible first | exact HB.out | apply below_alloc | apply pw_below_drewN | apply below_drew1 | refine below_set ?_ GE297.out | refine below_set ?_ GE298.out) | exact HB.out))) : w.heap.size ≤ gb311)); have n8_ := Aside0.mk ((by rw [hg]; exact (below_size (by repeat (first | (with_reducible first | exact HB.out | apply below_alloc | apply pw_below_drewN | apply below_drew1 | refine below_set ?_ GE297.out | refine below_set ?_ GE298.out) | exact HB.out))) : w.heap.size ≤ gb311)); have n9_ := Aside0.mk ((by rw [hg]; exact Nat.ne_of_lt (blk_lt (g := gb297) (o := .cells #[.int .i64 x298000_1, .int .i64 x298001_1] 29 (0, 0)) (by (with_reducible repeat (first | refine blk_drewN ?_ _ | refine blk_drew ?_ | refine blk_alloc ?_ _)); exact BK297.out)) : gb297 ≠ gb311)); have n10_ := Aside0.mk ((by rw [hg]; exact Nat.ne_of_gt (blk_lt (g := gb297) (o := .cells #[.int .i64 x298000_1, .int .i64 x298001_1] 29 (0, 0)) (by (with_reducible repeat (first | refine blk_drewN ?_ _ | refine blk_drew ?_ | refine blk_alloc ?_ _)); exact BK297.out)) : gb311 ≠ gb297)); have n11_ := Aside0.mk ((by rw [hg]; exact Nat.ne_of_lt (blk_lt (g := gb298) (o := .cells #[.string x299000_11, .int .i64 x299001_11, .int .i64 x299002_11, .int .i64 x299003_11] 37 (0, 0)) (by (with_reducible repeat (first | refine blk_drewN ?_ _ | refine blk_drew ?_ | refine blk_alloc ?_ _)); exact BK298.out)) : gb298 ≠ gb311)); have n12_ := Aside0.mk ((by rw [hg]; exact Nat.ne_of_gt (blk_lt (g := gb298) (o := .cells #[.string x299000_11, .int .i64 x299001_11, .int .i64 x299002_11, .int .i64 x299003_11] 37 (0, 0)) (by (with_reducible repeat (first | refine blk_drewN ?_ _ | refine blk_drew ?_ | refine blk_alloc ?_ _)); exact BK298.out)) : gb311 ≠ gb298)); clear HO_4; clear HO_5; clear HO307; clear BK297; clear BK298; clear HB; have HO_4 := n0_; have HO_5 := n1_; have HO307 := n2_; have BK297 := n3_; have BK298 := n4_; have HB := n5_; have BK311 := n6_; have GW311 := n7_; have GE311 := n8_; have NB297_311 := n9_; have NB311_297 := n10_; have NB298_311 := n11_; have NB311_298 := n12_; clear n0_ n1_ n2_ n3_ n4_ n5_ n6_ n7_ n8_ n9_ n10_ n11_ n12_; clear hb hbox hg; have hnb60 := NB311_297.out; have hnc60 := NB297_311.out; have hnb61 := NB311_298.out; have hnc61 := NB298_311.out; have hcz62_0 : w59.cell? ⟨gb311, 0, none⟩ = some (.string (⟨#[]⟩ : ByteArray)) := (blk_cell BK311.out 0).trans rfl; have hcz62_1 : w59.cell? ⟨gb311, 1, none⟩ = some (.int .i64 0) := (blk_cell BK311.out 1).trans rfl; have hcz62_2 : w59.cell? ⟨gb311, 2, none⟩ = some (.int .i64 0) := (blk_cell BK311.out 2).trans rfl; have hcz62_3 : w59.cell? ⟨gb311, 3, none⟩ = some (.int .i64 0) := (blk_cell BK311.out 3).trans rfl; have hfz62_0 := blk_frozen BK311.out 0; have hfz62_1 := blk_frozen BK311.out 1; have hfz62_2 := blk_frozen BK311.out 2; have hfz62_3 := blk_frozen BK311.out 3; have hnb63 := NB298_297.out; have hnc63 := NB297_298.out; have hcz64_0 : w59.cell? ⟨gb298, 0, none⟩ = some (.string x299000_11) := (blk_cell BK298.out 0).trans rfl; have hcz64_1 : w59.cell? ⟨gb298, 1, none⟩ = some (.int .i64 x299001_11) := (blk_cell BK298.out 1).trans rfl; have hcz64_2 : w59.cell? ⟨gb298, 2, none⟩ = some (.int .i64 x299002_11) := (blk_cell BK298.out 2).trans rfl; have hcz64_3 : w59.cell? ⟨gb298, 3, none⟩ = some (.int .i64 x299003_11) := (blk_cell BK298.out 3).trans rfl; have hfz64_0 := blk_frozen BK298.out 0; have hfz64_1 := blk_frozen BK298.out 1; have hfz64_2 := blk_frozen BK298.out 2; have hfz64_3 := blk_frozen BK298.out 3; have hcz65_0 : w59.cell? ⟨gb297, 0, none⟩ = some (.int .i64 x298000_1) := (blk_cell BK297.out 0).trans rfl; have hcz65_1 : w59.cell? ⟨gb297, 1, none⟩ = some (.int .i64 x298001_1) := (blk_cell BK297.out 1).trans rfl; have hfz65_0 := blk_frozen BK297.out 0; have hfz65_1 := blk_frozen BK297.out 1))
                                              refine bodyPost_ret (results_tc rfl _ _ gb297 29 #[.int .i64 x7_1, .int .i64 120] (0, 0) _ rfl (by (with_reducible repeat (first | refine blk_drewN ?_ _ | refine blk_drew ?_ | refine blk_alloc ?_ _)); refine blk_put (cs := #[.int .i64 x7_1, .int .i64 x298001_1]) ?_ 1 _ rfl; (with_reducible repeat (first | refine blk_drewN ?_ _ | refine blk_drew ?_ | refine blk_alloc ?_ _)); refine blk_put (cs := #[.int .i64 x298000_1, .int .i64 x298001_1]) ?_ 0 _ rfl; (with_reducible repeat (first | refine blk_drewN ?_ _ | refine blk_drew ?_ | refine blk_alloc ?_ _)); refine blk_far ?_ NB297_311.out _; (with_reducible repeat (first | refine blk_drewN ?_ _ | refine blk_drew ?_ | refine blk_alloc ?_ _)); refine blk_far ?_ NB297_311.out _; (with_reducible repeat (first | refine blk_drewN ?_ _ | refine blk_drew ?_ | refine blk_alloc ?_ _)); refine blk_far ?_ NB297_311.out _; (with_reducible repeat (first | refine blk_drewN ?_ _ | refine blk_drew ?_ | refine blk_alloc ?_ _)); refine blk_far ?_ NB297_311.out _; (with_reducible repeat (first | refine blk_drewN ?_ _ | refine blk_drew ?_ | refine blk_alloc ?_ _)); exact BK297.out) Tryd.underlying29 rfl (by kernel_rfl)) rfl ?_
                                              exact ⟨_, by first | rfl | (simp [errW_none, errW_some] <;> rfl) | (simp only [← hji41]; first | rfl | (simp [errW_none, errW_some] <;> rfl)) | (simp [*, errW_none, errW_some] <;> rfl), by first | exact Kd.R_nil _ _ _ _ _ | exact Kd.N_nil _ _ _ _ _ | exact Kd.V_nil _ _ _ _ _ | exact Kd.Q_nil _ _ _ _ _ | exact Kd.S_nil _ _ _ _ _, by repeat (first | (with_reducible first | exact HB.out | apply below_alloc | apply pw_below_drewN | apply below_drew1 | refine below_set ?_ GE297.out | refine below_set ?_ GE298.out | refine below_set ?_ GE311.out) | exact HB.out)⟩
                                            · rw [if_neg c56] at H
                                              have c56b0 : decide (((rd_T37 x4_1 (rd x5_1 (ji41))).f2) < x299002_11) = false := decide_eq_false c56
                                              clear c56
                                              have H' := Aside0.mk H
                                              clear H
                                              obtain ⟨Ao66, co66, eo66⟩ := Kd.R_slice HO_5.out
                                              subst eo66
                                              have p309 : 0 ≤ ((ji41) : Int) := of_decide_eq_true (by first | (with_reducible assumption) | assumption)
                                              have q309 : (ji41) < (x5_1.length : Int) := of_decide_eq_true (by first | (with_reducible assumption) | assumption)
                                              obtain ⟨ad309, e309, hx309_0⟩ := Kd.at_int (Kd.R_reads' HO_5.out).2.2 (ji41) p309 q309
                                              cases e309
                                              replace p309 := eq_true p309
                                              replace q309 := eq_true q309
                                              obtain ⟨Ao67, co67, eo67⟩ := Kd.R_slice HO_4.out
                                              subst eo67
                                              have p310 : 0 ≤ ((rd x5_1 (ji41)) : Int) := of_decide_eq_true (by first | (with_reducible assumption) | assumption)
                                              have q310 : (rd x5_1 (ji41)) < (x4_1.length : Int) := of_decide_eq_true (by first | (with_reducible assumption) | assumption)
                                              obtain ⟨ad310, e310, hx310_0, hx310_1, hx310_2, hx310_3⟩ := at_T37 (Kd.R_reads' HO_4.out).2.2 (rd x5_1 (ji41)) p310 q310
                                              cases e310
                                              replace p310 := eq_true p310
                                              replace q310 := eq_true q310
                                              go_wp2_with (first | ((with_reducible refine gate_dst (N := 13) rfl ?_); (try (refine gate_guard (by rfl) ?_; dsimp only)); refine box_event ?hg (N := 13) ?hd (cs := #[.string (⟨#[]⟩ : ByteArray), .int .i64 0, .int .i64 0, .int .i64 0]) (t := 37) ?hr ?_; (case hd => rfl); (case hg => rfl); (case hr => first | (go_simp; done) | (go_simp; rfl)); intro gb311 hg w68 hbox hb; have n0_ := Aside0.mk (Kd.R_below (Kd.R_elderB (by (with_reducible repeat (first | apply Kd.R_alloc | apply Kd.R_drewN | apply Kd.R_drew)); exact HO_4.out) gb311 (Nat.le_of_eq hg.symm)) hb); have n1_ := Aside0.mk (Kd.R_below (by (with_reducible repeat (first | apply Kd.R_alloc | apply Kd.R_drewN | apply Kd.R_drew)); exact HO_5.out) hb); have n2_ := Aside0.mk (Kd.R_below (by (with_reducible repeat (first | apply Kd.R_alloc | apply Kd.R_drewN | apply Kd.R_drew)); exact HO307.out) hb); have n3_ := Aside0.mk (blk_below (g := gb297) (o := .cells #[.int .i64 x298000_1, .int .i64 x298001_1] 29 (0, 0)) (by (with_reducible repeat (first | refine blk_drewN ?_ _ | refine blk_drew ?_ | refine blk_alloc ?_ _)); exact BK297.out) hb); have n4_ := Aside0.mk (blk_below (g := gb298) (o := .cells #[.string x299000_11, .int .i64 x299001_11, .int .i64 x299002_11, .int .i64 x299003_11] 37 (0, 0)) (by (with_reducible repeat (first | refine blk_drewN ?_ _ | refine blk_drew ?_ | refine blk_alloc ?_ _)); exact BK298.out) hb); have n5_ := Aside0.mk (below_step (by repeat (first | (with_reducible first | exact HB.out | apply below_alloc | apply pw_below_drewN | apply below_drew1 | refine below_set ?_ GE297.out | refine below_set ?_ GE298.out) | exact HB.out)) hb); have n6_ := Aside0.mk (hbox); have n7_ := Aside0.mk ((by rw [hg]; exact (below_size (by repeat (first | (with_reducible first | exact HB.out | apply below_alloc | apply pw_below_drewN | apply below_drew1 | refine below_set ?_ GE297.out | refine below_set ?_ GE298.out) | exact HB.out))) : w.heap.size ≤ gb311)); have n8_ := Aside0.mk ((by rw [hg]; exact (below_size (by repeat (first | (with_reducible first | exact HB.out | apply below_alloc | apply pw_below_drewN | apply below_drew1 | refine below_set ?_ GE297.out | refine below_set ?_ GE298.out) | exact HB.out))) : w.heap.size ≤ gb311)); have n9_ := Aside0.mk ((by rw [hg]; exact Nat.ne_of_lt (blk_lt (g := gb297) (o := .cells #[.int .i64 x298000_1, .int .i64 x298001_1] 29 (0, 0)) (by (with_reducible repeat (first | refine blk_drewN ?_ _ | refine blk_drew ?_ | refine blk_alloc ?_ _)); exact BK297.out)) : gb297 ≠ gb311)); have n10_ := Aside0.mk ((by rw [hg]; exact Nat.ne_of_gt (blk_lt (g := gb297) (o := .cells #[.int .i64 x298000_1, .int .i64 x298001_1] 29 (0, 0)) (by (with_reducible repeat (first | refine blk_drewN ?_ _ | refine blk_drew ?_ | refine blk_alloc ?_ _)); exact BK297.out)) : gb311 ≠ gb297)); have n11_ := Aside0.mk ((by rw [hg]; exact Nat.ne_of_lt (blk_lt (g := gb298) (o := .cells #[.string x299000_11, .int .i64 x299001_11, .int .i64 x299002_11, .int .i64 x299003_11] 37 (0, 0)) (by (with_reducible repeat (first | refine blk_drewN ?_ _ | refine blk_drew ?_ | refine blk_alloc ?_ _)); exact BK298.out)) : gb298 ≠ gb311)); have n12_ := Aside0.mk ((by rw [hg]; exact Nat.ne_of_gt (blk_lt (g := gb298) (o := .cells #[.string x299000_11, .int .i64 x299001_11, .int .i64 x299002_11, .int .i64 x299003_11] 37 (0, 0)) (by (with_reducible repeat (first | refine blk_drewN ?_ _ | refine blk_drew ?_ | refine blk_alloc ?_ _)); exact BK298.out)) : gb311 ≠ gb298)); clear HO_4; clear HO_5; clear HO307; clear BK297; clear BK298; clear HB; have HO_4 := n0_; have HO_5 := n1_; have HO307 := n2_; have BK297 := n3_; have BK298 := n4_; have HB := n5_; have BK311 := n6_; have GW311 := n7_; have GE311 := n8_; have NB297_311 := n9_; have NB311_297 := n10_; have NB298_311 := n11_; have NB311_298 := n12_; clear n0_ n1_ n2_ n3_ n4_ n5_ n6_ n7_ n8_ n9_ n10_ n11_ n12_; clear hb hbox hg; have hnb69 := NB311_297.out; have hnc69 := NB297_311.out; have hnb70 := NB311_298.out; have hnc70 := NB298_311.out; have hcz71_0 : w68.cell? ⟨gb311, 0, none⟩ = some (.string (⟨#[]⟩ : ByteArray)) := (blk_cell BK311.out 0).trans rfl; have hcz71_1 : w68.cell? ⟨gb311, 1, none⟩ = some (.int .i64 0) := (blk_cell BK311.out 1).trans rfl; have hcz71_2 : w68.cell? ⟨gb311, 2, none⟩ = some (.int .i64 0) := (blk_cell BK311.out 2).trans rfl; have hcz71_3 : w68.cell? ⟨gb311, 3, none⟩ = some (.int .i64 0) := (blk_cell BK311.out 3).trans rfl; have hfz71_0 := blk_frozen BK311.out 0; have hfz71_1 := blk_frozen BK311.out 1; have hfz71_2 := blk_frozen BK311.out 2; have hfz71_3 := blk_frozen BK311.out 3; have hnb72 := NB298_297.out; have hnc72 := NB297_298.out; have hcz73_0 : w68.cell? ⟨gb298, 0, none⟩ = some (.string x299000_11) := (blk_cell BK298.out 0).trans rfl; have hcz73_1 : w68.cell? ⟨gb298, 1, none⟩ = some (.int .i64 x299001_11) := (blk_cell BK298.out 1).trans rfl; have hcz73_2 : w68.cell? ⟨gb298, 2, none⟩ = some (.int .i64 x299002_11) := (blk_cell BK298.out 2).trans rfl; have hcz73_3 : w68.cell? ⟨gb298, 3, none⟩ = some (.int .i64 x299003_11) := (blk_cell BK298.out 3).trans rfl; have hfz73_0 := blk_frozen BK298.out 0; have hfz73_1 := blk_frozen BK298.out 1; have hfz73_2 := blk_frozen BK298.out 2; have hfz73_3 := blk_frozen BK298.out 3))
                                              go_meet
                                              case rel => exact ⟨_, (x298000_1), (x298001_1), H', ⟨by have := HK1.out; have := HJ6.out; have := HJ11.out; have := HJ23.out; first | omega | exact Nat.le_refl _⟩, ⟨by (with_reducible repeat (first | apply Kd.R_alloc | apply Kd.R_drewN | apply Kd.R_drew)); exact Kd.R_mono (Kd.R_far (p := ⟨gb311, 3, none⟩) (Kd.R_far (p := ⟨gb311, 2, none⟩) (Kd.R_far (p := ⟨gb311, 1, none⟩) (Kd.R_far (p := ⟨gb311, 0, none⟩) (Kd.R_mono HO_4.out (fun k_ hk => (⟨hk, hk.2⟩ : _ ∧ k_ ≠ gb311))) (fun _ hk => hk.2) (.string ((rd_T37 x4_1 (rd x5_1 (ji41))).f0))) (fun _ hk => hk.2) (.int .i64 ((rd_T37 x4_1 (rd x5_1 (ji41))).f1))) (fun _ hk => hk.2) (.int .i64 ((rd_T37 x4_1 (rd x5_1 (ji41))).f2))) (fun _ hk => hk.2) (.int .i64 ((rd_T37 x4_1 (rd x5_1 (ji41))).f3))) (fun _ hk => hk.1.1)⟩, ⟨by (with_reducible repeat (first | apply Kd.R_alloc | apply Kd.R_drewN | apply Kd.R_drew)); exact Kd.R_mono (Kd.R_far (p := ⟨gb311, 3, none⟩) (Kd.R_far (p := ⟨gb311, 2, none⟩) (Kd.R_far (p := ⟨gb311, 1, none⟩) (Kd.R_far (p := ⟨gb311, 0, none⟩) (Kd.R_types HO_5.out BK311.out (by decide)) (fun _ hk => hk.2) (.string ((rd_T37 x4_1 (rd x5_1 (ji41))).f0))) (fun _ hk => hk.2) (.int .i64 ((rd_T37 x4_1 (rd x5_1 (ji41))).f1))) (fun _ hk => hk.2) (.int .i64 ((rd_T37 x4_1 (rd x5_1 (ji41))).f2))) (fun _ hk => hk.2) (.int .i64 ((rd_T37 x4_1 (rd x5_1 (ji41))).f3))) (fun _ hk => hk.1.2)⟩, ⟨by (with_reducible repeat (first | apply Kd.R_alloc | apply Kd.R_drewN | apply Kd.R_drew)); exact Kd.R_mono (Kd.R_far (p := ⟨gb311, 3, none⟩) (Kd.R_far (p := ⟨gb311, 2, none⟩) (Kd.R_far (p := ⟨gb311, 1, none⟩) (Kd.R_far (p := ⟨gb311, 0, none⟩) (Kd.R_types HO307.out BK311.out (by decide)) (fun _ hk => hk.2) (.string ((rd_T37 x4_1 (rd x5_1 (ji41))).f0))) (fun _ hk => hk.2) (.int .i64 ((rd_T37 x4_1 (rd x5_1 (ji41))).f1))) (fun _ hk => hk.2) (.int .i64 ((rd_T37 x4_1 (rd x5_1 (ji41))).f2))) (fun _ hk => hk.2) (.int .i64 ((rd_T37 x4_1 (rd x5_1 (ji41))).f3))) (fun _ hk => hk.1)⟩, ⟨by (with_reducible repeat (first | refine blk_drewN ?_ _ | refine blk_drew ?_ | refine blk_alloc ?_ _)); refine blk_far ?_ NB297_311.out _; (with_reducible repeat (first | refine blk_drewN ?_ _ | refine blk_drew ?_ | refine blk_alloc ?_ _)); refine blk_far ?_ NB297_311.out _; (with_reducible repeat (first | refine blk_drewN ?_ _ | refine blk_drew ?_ | refine blk_alloc ?_ _)); refine blk_far ?_ NB297_311.out _; (with_reducible repeat (first | refine blk_drewN ?_ _ | refine blk_drew ?_ | refine blk_alloc ?_ _)); refine blk_far ?_ NB297_311.out _; (with_reducible repeat (first | refine blk_drewN ?_ _ | refine blk_drew ?_ | refine blk_alloc ?_ _)); exact BK297.out⟩, ⟨by (with_reducible repeat (first | refine blk_drewN ?_ _ | refine blk_drew ?_ | refine blk_alloc ?_ _)); refine blk_far ?_ NB298_311.out _; (with_reducible repeat (first | refine blk_drewN ?_ _ | refine blk_drew ?_ | refine blk_alloc ?_ _)); refine blk_far ?_ NB298_311.out _; (with_reducible repeat (first | refine blk_drewN ?_ _ | refine blk_drew ?_ | refine blk_alloc ?_ _)); refine blk_far ?_ NB298_311.out _; (with_reducible repeat (first | refine blk_drewN ?_ _ | refine blk_drew ?_ | refine blk_alloc ?_ _)); refine blk_far ?_ NB298_311.out _; (with_reducible repeat (first | refine blk_drewN ?_ _ | refine blk_drew ?_ | refine blk_alloc ?_ _)); exact BK298.out⟩, ⟨by repeat (first | (with_reducible first | exact HB.out | apply below_alloc | apply pw_below_drewN | apply below_drew1 | refine below_set ?_ GE297.out | refine below_set ?_ GE298.out | refine below_set ?_ GE311.out) | exact HB.out)⟩⟩
                                        · rw [if_neg c45] at H
                                          exact absurd H (by simp)
                                      · rw [if_neg c44] at H
                                        exact absurd H (by simp)
                                    · rw [if_neg c43] at H
                                      exact absurd H (by simp)
                                  · rw [if_neg c42] at H
                                    exact absurd H (by simp)
                                · rw [if_neg c40] at H
                                  have c40b0 : decide (0 < x9_11) = false := decide_eq_false c40
                                  clear c40
                                  (first | rw [c40b0] | (simp only [i64_w, i32_w]; rw [c40b0]) | skip)
                                  have H' := Aside0.mk H
                                  clear H
                                  go_wp2
                                  go_meet
                                  case rel => exact ⟨_, (x298000_1), (x298001_1), H', ⟨by have := HK1.out; have := HJ6.out; have := HJ11.out; have := HJ23.out; first | omega | exact Nat.le_refl _⟩, ⟨by (with_reducible repeat (first | apply Kd.R_alloc | apply Kd.R_drewN | apply Kd.R_drew)); exact HO_4.out⟩, ⟨by (with_reducible repeat (first | apply Kd.R_alloc | apply Kd.R_drewN | apply Kd.R_drew)); exact Kd.R_mono HO_5.out (fun _ hk => hk.2)⟩, ⟨by (with_reducible repeat (first | apply Kd.R_alloc | apply Kd.R_drewN | apply Kd.R_drew)); exact HO307.out⟩, ⟨by (with_reducible repeat (first | refine blk_drewN ?_ _ | refine blk_drew ?_ | refine blk_alloc ?_ _)); exact BK297.out⟩, ⟨by (with_reducible repeat (first | refine blk_drewN ?_ _ | refine blk_drew ?_ | refine blk_alloc ?_ _)); exact BK298.out⟩, ⟨by repeat (first | (with_reducible first | exact HB.out | apply below_alloc | apply pw_below_drewN | apply below_drew1 | refine below_set ?_ GE297.out | refine below_set ?_ GE298.out) | exact HB.out)⟩⟩
                              case rest =>
                                clear HC37
                                try clear c1
                                try clear p1
                                try clear q1
                                try clear hx1
                                try clear c2
                                try clear c2b0
                                try clear c2b1
                                try clear p2
                                try clear c3
                                try clear p3
                                try clear q3
                                try clear hx3
                                try clear c4
                                try clear c5
                                try clear c6
                                try clear c6b0
                                try clear p6
                                try clear c7
                                try clear c8
                                try clear c8b0
                                try clear c9
                                try clear c9b0
                                try clear p10
                                try clear q10
                                try clear hx10
                                try clear c11
                                try clear c11b0
                                try clear c11b1
                                try clear c14
                                try clear c16
                                try clear c16b0
                                try clear c17
                                try clear c17b0
                                try clear c17b1
                                try clear c18
                                try clear c18b0
                                try clear c18b1
                                try clear c19
                                try clear c19b0
                                try clear c19b1
                                try clear c22
                                try clear c25
                                try clear c26
                                try clear c26b0
                                try clear c29
                                try clear c30
                                try clear p30
                                try clear q30
                                try clear hx30
                                try clear c31
                                try clear p31
                                try clear q31
                                try clear hx31
                                try clear c32
                                try clear c34
                                try clear c35
                                try clear c35b0
                                try clear c36
                                try clear c36b0
                                try clear c40
                                try clear c40b0
                                try clear c42
                                try clear c42b0
                                try clear c43
                                try clear c43b0
                                try clear c44
                                try clear c44b0
                                try clear c45
                                try clear c45b0
                                try clear c46
                                try clear c46b0
                                try clear c50
                                try clear c51
                                try clear c53
                                try clear c56
                                try clear c56b0
                                try clear c60
                                try clear c61
                                try clear c63
                                try clear p64
                                try clear c69
                                try clear c70
                                try clear c72
                                try clear hcz15_0
                                try clear hcz15_1
                                try clear hcz15_2
                                try clear hcz15_3
                                try clear hcz23_0
                                try clear hcz23_1
                                try clear hcz23_2
                                try clear hcz23_3
                                try clear hcz30_0
                                try clear hcz30_1
                                try clear hcz30_2
                                try clear hcz30_3
                                try clear hcz33_0
                                try clear hcz33_1
                                try clear hcz4_0
                                try clear hcz4_1
                                try clear hcz52_0
                                try clear hcz52_1
                                try clear hcz52_2
                                try clear hcz52_3
                                try clear hcz54_0
                                try clear hcz54_1
                                try clear hcz54_2
                                try clear hcz54_3
                                try clear hcz55_0
                                try clear hcz55_1
                                try clear hcz62_0
                                try clear hcz62_1
                                try clear hcz62_2
                                try clear hcz62_3
                                try clear hcz64_0
                                try clear hcz64_1
                                try clear hcz64_2
                                try clear hcz64_3
                                try clear hcz65_0
                                try clear hcz65_1
                                try clear hcz71_0
                                try clear hcz71_1
                                try clear hcz71_2
                                try clear hcz71_3
                                try clear hcz73_0
                                try clear hcz73_1
                                try clear hcz73_2
                                try clear hcz73_3
                                try clear hfz15_0
                                try clear hfz15_1
                                try clear hfz15_2
                                try clear hfz15_3
                                try clear hfz23_0
                                try clear hfz23_1
                                try clear hfz23_2
                                try clear hfz23_3
                                try clear hfz30_0
                                try clear hfz30_1
                                try clear hfz30_2
                                try clear hfz30_3
                                try clear hfz33_0
                                try clear hfz33_1
                                try clear hfz4_0
                                try clear hfz4_1
                                try clear hfz52_0
                                try clear hfz52_1
                                try clear hfz52_2
                                try clear hfz52_3
                                try clear hfz54_0
                                try clear hfz54_1
                                try clear hfz54_2
                                try clear hfz54_3
                                try clear hfz55_0
                                try clear hfz55_1
                                try clear hfz62_0
                                try clear hfz62_1
                                try clear hfz62_2
                                try clear hfz62_3
                                try clear hfz64_0
                                try clear hfz64_1
                                try clear hfz64_2
                                try clear hfz64_3
                                try clear hfz65_0
                                try clear hfz65_1
                                try clear hfz71_0
                                try clear hfz71_1
                                try clear hfz71_2
                                try clear hfz71_3
                                try clear hfz73_0
                                try clear hfz73_1
                                try clear hfz73_2
                                try clear hfz73_3
                                try clear hx308_0
                                try clear hx309_0
                                try clear hx310_0
                                try clear hx310_1
                                try clear hx310_2
                                try clear hx310_3
                                try clear p1
                                try clear p10
                                try clear p2
                                try clear p308
                                try clear p309
                                try clear p310
                                try clear p6
                                try clear q1
                                try clear q10
                                try clear q308
                                try clear q309
                                try clear q310
                                obtain ⟨kq, x298000_36, x298001_36, HA, HJ36, HO_4, HO_5, HO_6, BK297, BK298, HB⟩ := hcut
                                cases kq with
                                | zero => exact absurd HA.out (by simp [dowelref12_Parse.j5])
                                | succ kj36 =>
                                  have H := HA.out
                                  clear HA
                                  simp only [dowelref12_Parse.j5] at H
                                  by_cases c74 : x299001_11 < (rd y305 x9_11)
                                  · rw [if_pos c74] at H
                                    have c74b0 : decide (x299001_11 < (rd y305 x9_11)) = true := decide_eq_true c74
                                    clear c74
                                    simp only [Option.some.injEq, Prod.mk.injEq] at H
                                    obtain ⟨rfl, rfl, rfl⟩ := H
                                    have hnb75 := NB298_297.out
                                    have hnc75 := NB297_298.out
                                    have hcz76_0 : wc.cell? ⟨gb298, 0, none⟩ = some (.string x299000_11) := (blk_cell BK298.out 0).trans rfl
                                    have hcz76_1 : wc.cell? ⟨gb298, 1, none⟩ = some (.int .i64 x299001_11) := (blk_cell BK298.out 1).trans rfl
                                    have hcz76_2 : wc.cell? ⟨gb298, 2, none⟩ = some (.int .i64 x299002_11) := (blk_cell BK298.out 2).trans rfl
                                    have hcz76_3 : wc.cell? ⟨gb298, 3, none⟩ = some (.int .i64 x299003_11) := (blk_cell BK298.out 3).trans rfl
                                    have hfz76_0 := blk_frozen BK298.out 0
                                    have hfz76_1 := blk_frozen BK298.out 1
                                    have hfz76_2 := blk_frozen BK298.out 2
                                    have hfz76_3 := blk_frozen BK298.out 3
                                    have hcz77_0 : wc.cell? ⟨gb297, 0, none⟩ = some (.int .i64 x298000_36) := (blk_cell BK297.out 0).trans rfl
                                    have hcz77_1 : wc.cell? ⟨gb297, 1, none⟩ = some (.int .i64 x298001_36) := (blk_cell BK297.out 1).trans rfl
                                    have hfz77_0 := blk_frozen BK297.out 0
                                    have hfz77_1 := blk_frozen BK297.out 1
                                    go_wp2
                                    refine bodyPost_ret (results_tc rfl _ _ gb297 29 #[.int .i64 x7_1, .int .i64 120] (0, 0) _ rfl (by (with_reducible repeat (first | refine blk_drewN ?_ _ | refine blk_drew ?_ | refine blk_alloc ?_ _)); refine blk_put (cs := #[.int .i64 x7_1, .int .i64 x298001_36]) ?_ 1 _ rfl; (with_reducible repeat (first | refine blk_drewN ?_ _ | refine blk_drew ?_ | refine blk_alloc ?_ _)); refine blk_put (cs := #[.int .i64 x298000_36, .int .i64 x298001_36]) ?_ 0 _ rfl; (with_reducible repeat (first | refine blk_drewN ?_ _ | refine blk_drew ?_ | refine blk_alloc ?_ _)); exact BK297.out) Tryd.underlying29 rfl (by kernel_rfl)) rfl ?_
                                    exact ⟨_, by first | rfl | (simp [errW_none, errW_some] <;> rfl) | (simp [*, errW_none, errW_some] <;> rfl), by first | exact Kd.R_nil _ _ _ _ _ | exact Kd.N_nil _ _ _ _ _ | exact Kd.V_nil _ _ _ _ _ | exact Kd.Q_nil _ _ _ _ _ | exact Kd.S_nil _ _ _ _ _, by repeat (first | (with_reducible first | exact HB.out | apply below_alloc | apply pw_below_drewN | apply below_drew1 | refine below_set ?_ GE297.out | refine below_set ?_ GE298.out) | exact HB.out)⟩
                                  · rw [if_neg c74] at H
                                    have c74b0 : decide (x299001_11 < (rd y305 x9_11)) = false := decide_eq_false c74
                                    clear c74
                                    by_cases c78 : x9_11 > 0
                                    · rw [if_pos c78] at H
                                      have c78b0 : decide (0 < x9_11) = true := decide_eq_true c78
                                      clear c78
                                      obtain ⟨ji79, hji79⟩ : ∃ j_ : Int, (wrap64 (x9_11 - 1)) = j_ := ⟨_, rfl⟩
                                      replace H : (if 0 ≤ (ji79) then (if (ji79) < (x5_1.length : Int) then (if 0 ≤ (rd x5_1 (ji79)) then (if (rd x5_1 (ji79)) < (x4_1.length : Int) then ((some (x4_1.set ((rd x5_1 (ji79)) : Int).toNat (⟨(rd_T37 x4_1 (rd x5_1 (ji79))).f0, (rd_T37 x4_1 (rd x5_1 (ji79))).f1, (rd_T37 x4_1 (rd x5_1 (ji79))).f2, wrap64 (((rd_T37 x4_1 (rd x5_1 (ji79))).f3) + 1)⟩ : S37) : List (S37))).bind fun y314 => (if 0 ≤ x9_11 then (if x9_11 ≤ (y305.length : Int) then ((some (y305.take (x9_11 : Int).toNat : List Int)).bind fun y315 => (if y315.length < 17592186044416 then (if x9_11 ≤ (x5_1.length : Int) then ((some (x5_1.take (x9_11 : Int).toNat : List Int)).bind fun y321 => (if y321.length < 17592186044416 then (if y314.length < 3518437208883 then (dowelref12_Parse.l0 kj36 a0 (y314 ++ [(⟨x299000_11, x299001_11, x299002_11, x299003_11⟩ : S37)]) (y321 ++ [(x4_1.length : Int)]) (y315 ++ [x299002_11]) (wrap64 (x8_6 + 1))) else (none)) else (none))) else (none)) else (none))) else (none)) else (none))) else (none)) else (none)) else (none)) else (none)) = some (r1, r2, r3) := by first | (rw [hji79] at H; exact H) | (simp only [hji79] at H ⊢; exact H)
                                      have hji79w : (IntKind.i64.wrap (x9_11 - 1)) = ji79 := (i64_w _).trans hji79
                                      by_cases c80 : 0 ≤ (ji79)
                                      · rw [if_pos c80] at H
                                        have c80b0 : decide (0 ≤ (ji79)) = true := decide_eq_true c80
                                        clear c80
                                        by_cases c81 : (ji79) < (x5_1.length : Int)
                                        · rw [if_pos c81] at H
                                          have c81b0 : decide ((ji79) < (x5_1.length : Int)) = true := decide_eq_true c81
                                          clear c81
                                          by_cases c82 : 0 ≤ (rd x5_1 (ji79))
                                          · rw [if_pos c82] at H
                                            have c82b0 : decide (0 ≤ (rd x5_1 (ji79))) = true := decide_eq_true c82
                                            clear c82
                                            by_cases c83 : (rd x5_1 (ji79)) < (x4_1.length : Int)
                                            · rw [if_pos c83] at H
                                              have c83b0 : decide ((rd x5_1 (ji79)) < (x4_1.length : Int)) = true := decide_eq_true c83
                                              clear c83
                                              obtain ⟨y314, hy314⟩ : ∃ y_ : List (S37), y_ = (x4_1.set ((rd x5_1 (ji79)) : Int).toNat (⟨(rd_T37 x4_1 (rd x5_1 (ji79))).f0, (rd_T37 x4_1 (rd x5_1 (ji79))).f1, (rd_T37 x4_1 (rd x5_1 (ji79))).f2, wrap64 (((rd_T37 x4_1 (rd x5_1 (ji79))).f3) + 1)⟩ : S37)) := ⟨_, rfl⟩
                                              replace H : (if 0 ≤ x9_11 then (if x9_11 ≤ (y305.length : Int) then ((some (y305.take (x9_11 : Int).toNat : List Int)).bind fun y315 => (if y315.length < 17592186044416 then (if x9_11 ≤ (x5_1.length : Int) then ((some (x5_1.take (x9_11 : Int).toNat : List Int)).bind fun y321 => (if y321.length < 17592186044416 then (if y314.length < 3518437208883 then (dowelref12_Parse.l0 kj36 a0 (y314 ++ [(⟨x299000_11, x299001_11, x299002_11, x299003_11⟩ : S37)]) (y321 ++ [(x4_1.length : Int)]) (y315 ++ [x299002_11]) (wrap64 (x8_6 + 1))) else (none)) else (none))) else (none)) else (none))) else (none)) else (none)) = some (r1, r2, r3) := by first | (rw [hy314]; with_reducible exact H) | (have H2_ := (Option.bind_some _ _).symm.trans H; rw [hy314]; with_reducible exact H2_) | (have H2_ := (Option.bind_some _ _).symm.trans H; with_reducible exact H2_) | with_reducible exact H | (rw [hy314]; exact H) | exact H
                                              have Ny314 := Aside0.mk hy314
                                              clear hy314
                                              by_cases c85 : 0 ≤ x9_11
                                              · rw [if_pos c85] at H
                                                have c85b0 := eq_true c85
                                                have c85b1 : decide (0 ≤ x9_11) = true := decide_eq_true c85
                                                clear c85
                                                by_cases c86 : x9_11 ≤ (y305.length : Int)
                                                · rw [if_pos c86] at H
                                                  have c86b0 := eq_true c86
                                                  have c86b1 : decide (x9_11 ≤ (y305.length : Int)) = true := decide_eq_true c86
                                                  clear c86
                                                  obtain ⟨y315, hy315⟩ : ∃ y_ : List Int, y_ = (y305.take (x9_11 : Int).toNat) := ⟨_, rfl⟩
                                                  replace H : (if y315.length < 17592186044416 then (if x9_11 ≤ (x5_1.length : Int) then ((some (x5_1.take (x9_11 : Int).toNat : List Int)).bind fun y321 => (if y321.length < 17592186044416 then (if y314.length < 3518437208883 then (dowelref12_Parse.l0 kj36 a0 (y314 ++ [(⟨x299000_11, x299001_11, x299002_11, x299003_11⟩ : S37)]) (y321 ++ [(x4_1.length : Int)]) (y315 ++ [x299002_11]) (wrap64 (x8_6 + 1))) else (none)) else (none))) else (none)) else (none)) = some (r1, r2, r3) := by first | (rw [hy315]; with_reducible exact H) | (have H2_ := (Option.bind_some _ _).symm.trans H; rw [hy315]; with_reducible exact H2_) | (have H2_ := (Option.bind_some _ _).symm.trans H; with_reducible exact H2_) | with_reducible exact H | (rw [hy315]; exact H) | exact H
                                                  have Ny315 := Aside0.mk hy315
                                                  clear hy315
                                                  by_cases c87 : y315.length < 17592186044416
                                                  · rw [if_pos c87] at H
                                                    have LMc87 := Aside0.mk c87
                                                    clear c87
                                                    obtain ⟨y318, hy318⟩ : ∃ y_ : List Int, y_ = (y315 ++ [x299002_11]) := ⟨_, rfl⟩
                                                    replace H : (if x9_11 ≤ (x5_1.length : Int) then ((some (x5_1.take (x9_11 : Int).toNat : List Int)).bind fun y321 => (if y321.length < 17592186044416 then (if y314.length < 3518437208883 then (dowelref12_Parse.l0 kj36 a0 (y314 ++ [(⟨x299000_11, x299001_11, x299002_11, x299003_11⟩ : S37)]) (y321 ++ [(x4_1.length : Int)]) y318 (wrap64 (x8_6 + 1))) else (none)) else (none))) else (none)) = some (r1, r2, r3) := by first | (rw [hy318]; with_reducible exact H) | (have H2_ := (Option.bind_some _ _).symm.trans H; rw [hy318]; with_reducible exact H2_) | (have H2_ := (Option.bind_some _ _).symm.trans H; with_reducible exact H2_) | with_reducible exact H | (rw [hy318]; exact H) | exact H
                                                    have Ny318 := Aside0.mk hy318
                                                    clear hy318
                                                    by_cases c88 : x9_11 ≤ (x5_1.length : Int)
                                                    · rw [if_pos c88] at H
                                                      have c88b0 := eq_true c88
                                                      have c88b1 : decide (x9_11 ≤ (x5_1.length : Int)) = true := decide_eq_true c88
                                                      clear c88
                                                      obtain ⟨y321, hy321⟩ : ∃ y_ : List Int, y_ = (x5_1.take (x9_11 : Int).toNat) := ⟨_, rfl⟩
                                                      replace H : (if y321.length < 17592186044416 then (if y314.length < 3518437208883 then (dowelref12_Parse.l0 kj36 a0 (y314 ++ [(⟨x299000_11, x299001_11, x299002_11, x299003_11⟩ : S37)]) (y321 ++ [(x4_1.length : Int)]) y318 (wrap64 (x8_6 + 1))) else (none)) else (none)) = some (r1, r2, r3) := by first | (rw [hy321]; with_reducible exact H) | (have H2_ := (Option.bind_some _ _).symm.trans H; rw [hy321]; with_reducible exact H2_) | (have H2_ := (Option.bind_some _ _).symm.trans H; with_reducible exact H2_) | with_reducible exact H | (rw [hy321]; exact H) | exact H
                                                      have Ny321 := Aside0.mk hy321
                                                      clear hy321
                                                      by_cases c89 : y321.length < 17592186044416
                                                      · rw [if_pos c89] at H
                                                        have LMc89 := Aside0.mk c89
                                                        clear c89
                                                        obtain ⟨y324, hy324⟩ : ∃ y_ : List Int, y_ = (y321 ++ [(x4_1.length : Int)]) := ⟨_, rfl⟩
                                                        replace H : (if y314.length < 3518437208883 then (dowelref12_Parse.l0 kj36 a0 (y314 ++ [(⟨x299000_11, x299001_11, x299002_11, x299003_11⟩ : S37)]) y324 y318 (wrap64 (x8_6 + 1))) else (none)) = some (r1, r2, r3) := by first | (rw [hy324]; with_reducible exact H) | (have H2_ := (Option.bind_some _ _).symm.trans H; rw [hy324]; with_reducible exact H2_) | (have H2_ := (Option.bind_some _ _).symm.trans H; with_reducible exact H2_) | with_reducible exact H | (rw [hy324]; exact H) | exact H
                                                        have Ny324 := Aside0.mk hy324
                                                        clear hy324
                                                        by_cases c90 : y314.length < 3518437208883
                                                        · rw [if_pos c90] at H
                                                          have LMc90 := Aside0.mk c90
                                                          clear c90
                                                          obtain ⟨y327, hy327⟩ : ∃ y_ : List (S37), y_ = (y314 ++ [(⟨x299000_11, x299001_11, x299002_11, x299003_11⟩ : S37)]) := ⟨_, rfl⟩
                                                          replace H : (dowelref12_Parse.l0 kj36 a0 y327 y324 y318 (wrap64 (x8_6 + 1))) = some (r1, r2, r3) := by first | (rw [hy327]; with_reducible exact H) | (have H2_ := (Option.bind_some _ _).symm.trans H; rw [hy327]; with_reducible exact H2_) | (have H2_ := (Option.bind_some _ _).symm.trans H; with_reducible exact H2_) | with_reducible exact H | (rw [hy327]; exact H) | exact H
                                                          have Ny327 := Aside0.mk hy327
                                                          clear hy327
                                                          have H' := Aside0.mk H
                                                          clear H
                                                          have hnb91 := NB298_297.out
                                                          have hnc91 := NB297_298.out
                                                          have hcz92_0 : wc.cell? ⟨gb298, 0, none⟩ = some (.string x299000_11) := (blk_cell BK298.out 0).trans rfl
                                                          have hcz92_1 : wc.cell? ⟨gb298, 1, none⟩ = some (.int .i64 x299001_11) := (blk_cell BK298.out 1).trans rfl
                                                          have hcz92_2 : wc.cell? ⟨gb298, 2, none⟩ = some (.int .i64 x299002_11) := (blk_cell BK298.out 2).trans rfl
                                                          have hcz92_3 : wc.cell? ⟨gb298, 3, none⟩ = some (.int .i64 x299003_11) := (blk_cell BK298.out 3).trans rfl
                                                          have hfz92_0 := blk_frozen BK298.out 0
                                                          have hfz92_1 := blk_frozen BK298.out 1
                                                          have hfz92_2 := blk_frozen BK298.out 2
                                                          have hfz92_3 := blk_frozen BK298.out 3
                                                          obtain ⟨Ao93, co93, eo93⟩ := Kd.R_slice HO_5.out
                                                          subst eo93
                                                          have p312 : 0 ≤ ((ji79) : Int) := of_decide_eq_true (by first | (with_reducible assumption) | assumption)
                                                          have q312 : (ji79) < (x5_1.length : Int) := of_decide_eq_true (by first | (with_reducible assumption) | assumption)
                                                          obtain ⟨ad312, e312, hx312_0⟩ := Kd.at_int (Kd.R_reads' HO_5.out).2.2 (ji79) p312 q312
                                                          cases e312
                                                          replace p312 := eq_true p312
                                                          replace q312 := eq_true q312
                                                          obtain ⟨Ao94, co94, eo94⟩ := Kd.R_slice HO_4.out
                                                          subst eo94
                                                          have p313 : 0 ≤ ((rd x5_1 (ji79)) : Int) := of_decide_eq_true (by first | (with_reducible assumption) | assumption)
                                                          have q313 : (rd x5_1 (ji79)) < (x4_1.length : Int) := of_decide_eq_true (by first | (with_reducible assumption) | assumption)
                                                          obtain ⟨ad313, e313, hx313_0, hx313_1, hx313_2, hx313_3⟩ := at_T37 (Kd.R_reads' HO_4.out).2.2 (rd x5_1 (ji79)) p313 q313
                                                          cases e313
                                                          replace p313 := eq_true p313
                                                          replace q313 := eq_true q313
                                                          have p84 : 0 ≤ ((rd x5_1 (ji79)) : Int) := of_decide_eq_true (by first | (with_reducible assumption) | assumption)
                                                          have q84 : ((rd x5_1 (ji79)) : Int) < ((x4_1.length : Int) : Int) := of_decide_eq_true (by first | (with_reducible assumption) | assumption)
                                                          obtain ⟨go84, co84, eo84, gb84, gl84, cl84, HG84⟩ := Kd.R_form HO_4.out (by omega)
                                                          (first | cases eo84 | (injection eo84 with ea_ en_ ec_; (first | subst ea_ | (injection ea_ with ea_; subst ea_)); subst ec_; clear en_))
                                                          have GB84 := Aside0.mk gb84
                                                          have GG84 := Aside0.mk HG84
                                                          clear gb84 gl84 HG84
                                                          (first | simp only [add_plain] at hx313_0 | skip)
                                                          (first | simp only [add_plain] at hx313_1 | skip)
                                                          (first | simp only [add_plain] at hx313_2 | skip)
                                                          (first | simp only [add_plain] at hx313_3 | skip)
                                                          obtain ⟨ce84, hcl84, hM84, hcc84, hfr84⟩ := Kd.R_elem HO_4.out z37 ((rd x5_1 (ji79)) : Int) p84 q84
                                                          obtain rfl := k37_openM hM84
                                                          have hx84_0 : wc.cell? ⟨go84, ((rd x5_1 (ji79)) : Int).toNat * 4, none⟩ = some (.string ((rd_T37 x4_1 (rd x5_1 (ji79))).f0)) := hcc84 0 _ rfl
                                                          have hx84_1 : wc.cell? ⟨go84, ((rd x5_1 (ji79)) : Int).toNat * 4 + 1, none⟩ = some (.int .i64 ((rd_T37 x4_1 (rd x5_1 (ji79))).f1)) := hcc84 1 _ rfl
                                                          have hx84_2 : wc.cell? ⟨go84, ((rd x5_1 (ji79)) : Int).toNat * 4 + 2, none⟩ = some (.int .i64 ((rd_T37 x4_1 (rd x5_1 (ji79))).f2)) := hcc84 2 _ rfl
                                                          have hx84_3 : wc.cell? ⟨go84, ((rd x5_1 (ji79)) : Int).toNat * 4 + 3, none⟩ = some (.int .i64 ((rd_T37 x4_1 (rd x5_1 (ji79))).f3)) := hcc84 3 _ rfl
                                                          have hf84_0 : wc.frozen? ⟨go84, ((rd x5_1 (ji79)) : Int).toNat * 4, none⟩ = false := hfr84 0
                                                          have hf84_1 : wc.frozen? ⟨go84, ((rd x5_1 (ji79)) : Int).toNat * 4 + 1, none⟩ = false := hfr84 1
                                                          have hf84_2 : wc.frozen? ⟨go84, ((rd x5_1 (ji79)) : Int).toNat * 4 + 2, none⟩ = false := hfr84 2
                                                          have hf84_3 : wc.frozen? ⟨go84, ((rd x5_1 (ji79)) : Int).toNat * 4 + 3, none⟩ = false := hfr84 3
                                                          clear hcl84 hcc84 hfr84 hM84
                                                          replace p84 := eq_true p84
                                                          replace q84 := eq_true q84
                                                          have HX95 := Aside0.mk (show Kd.R k37 37 wc w.heap.size (fun k_ => k_ ≠ gb298) (.slice (some ⟨go84, 0, none⟩) x4_1.length co94) x4_1 from (by (with_reducible repeat (first | apply Kd.R_alloc | apply Kd.R_drewN | apply Kd.R_drew)); exact HO_4.out))
                                                          obtain ⟨ce95, hcl95, hM95, hcc95, hfr95⟩ := Kd.R_elem HX95.out z37 ((rd x5_1 (ji79)) : Int) (of_decide_eq_true (by first | (with_reducible assumption) | assumption)) (by have h_ : ((rd x5_1 (ji79)) : Int) < ((x4_1.length : Int) : Int) := of_decide_eq_true (by first | (with_reducible assumption) | assumption); first | exact h_ | (have e_ := (Kd.R_reads' HO_4.out).1; omega) | simpa using h_)
                                                          obtain rfl := k37_openM hM95
                                                          have HP95 := Kd.R_seg HX95.out ((rd x5_1 (ji79)) : Int) (of_decide_eq_true (by first | (with_reducible assumption) | assumption)) (by have h_ : ((rd x5_1 (ji79)) : Int) < ((x4_1.length : Int) : Int) := of_decide_eq_true (by first | (with_reducible assumption) | assumption); first | exact h_ | (have e_ := (Kd.R_reads' HO_4.out).1; omega) | simpa using h_) (seg := [.int .i64 (wrap64 (((rd_T37 x4_1 (rd x5_1 (ji79))).f3) + 1))]) (j := 3) hcl95 hcc95 (show 4 ≤ 4 from by decide) (x' := (⟨(rd_T37 x4_1 (rd x5_1 (ji79))).f0, (rd_T37 x4_1 (rd x5_1 (ji79))).f1, (rd_T37 x4_1 (rd x5_1 (ji79))).f2, wrap64 (((rd_T37 x4_1 (rd x5_1 (ji79))).f3) + 1)⟩ : S37)) (k37_mkM _ _ _ (⟨(rd_T37 x4_1 (rd x5_1 (ji79))).f0, (rd_T37 x4_1 (rd x5_1 (ji79))).f1, (rd_T37 x4_1 (rd x5_1 (ji79))).f2, wrap64 (((rd_T37 x4_1 (rd x5_1 (ji79))).f3) + 1)⟩ : S37) ) (fun _ hk => hk)
                                                          have hx95_3 := hcc95 3 _ rfl
                                                          (try simp only [show (k37).sz = 4 from rfl, Nat.mul_one, Nat.add_zero] at hx95_3)
                                                          have hf95_3 := hfr95 3
                                                          (try simp only [show (k37).sz = 4 from rfl, Nat.mul_one, Nat.add_zero] at hf95_3)
                                                          clear hcl95 hcc95 hfr95 hM95
                                                          try go_wp2_with (first | ((with_reducible refine gate_store (t := 3) (p := 116) rfl ?_); refine store_event (t := 3) (p := 116) (v := ?vo_w96) (w1 := (wc.setCell ⟨go84, ((rd x5_1 (ji79)) : Int).toNat * 4 + 3, none⟩ (.int .i64 (wrap64 (((rd_T37 x4_1 (rd x5_1 (ji79))).f3) + 1))))) ?hg ?ho ?hn ?hr ?_; (case ho => rfl); (case hg => rfl); (case hn => rfl); (case hr => first | (go_simp; done) | (go_simp; rfl)); intro w96 hw; have hg : wc.grownBy w96 (some go84) := (by rw [hw]; exact HP95.2); have hp_ : Kd.R k37 37 w96 w.heap.size (fun k_ => k_ ≠ gb298) (.slice (some ⟨go84, 0, none⟩) x4_1.length co94) y314 := (by rw [hw, Ny314.out]; exact HP95.1); clear HP95; have n0_ := Aside0.mk (hp_); have n1_ := Aside0.mk (Kd.R_over' (v := (.slice (some ⟨go84, 0, none⟩) x4_1.length co94)) (by (with_reducible repeat (first | apply Kd.R_alloc | apply Kd.R_drewN | apply Kd.R_drew)); exact HO_5.out) (Kd.R_typed HO_4.out) (by decide) hg); have n2_ := Aside0.mk (Kd.R_over' (v := (.slice (some ⟨go84, 0, none⟩) x4_1.length co94)) (by (with_reducible repeat (first | apply Kd.R_alloc | apply Kd.R_drewN | apply Kd.R_drew)); exact HO_6.out) (Kd.R_typed HO_4.out) (by decide) hg); have n3_ := Aside0.mk (blk_grown (g := gb297) (o := .cells #[.int .i64 x298000_36, .int .i64 x298001_36] 29 (0, 0)) (by (with_reducible repeat (first | refine blk_drewN ?_ _ | refine blk_drew ?_ | refine blk_alloc ?_ _)); exact BK297.out) hg (Kd.R_ne HO_4.out BK297.out (by decide))); have n4_ := Aside0.mk (blk_grown (g := gb298) (o := .cells #[.string x299000_11, .int .i64 x299001_11, .int .i64 x299002_11, .int .i64 x299003_11] 37 (0, 0)) (by (with_reducible repeat (first | refine blk_drewN ?_ _ | refine blk_drew ?_ | refine blk_alloc ?_ _)); exact BK298.out) hg (Kd.R_away HO_4.out (fun _ hk => hk))); have n5_ := Aside0.mk ((by rw [hw]; exact below_set (HB.out) GB84.out : Below w.heap.size w w96)); clear HO_4; clear HO_5; clear HO_6; clear BK297; clear BK298; clear HB; have HO_4 := n0_; have HO_5 := n1_; have HO_6 := n2_; have BK297 := n3_; have BK298 := n4_; have HB := n5_; clear n0_ n1_ n2_ n3_ n4_ n5_; clear hg hw hp_))
                                                          have n0_ := Aside0.mk (Kd.R_drew HO_4.out)
                                                          have n1_ := Aside0.mk (Kd.R_drew HO_5.out)
                                                          have n2_ := Aside0.mk (Kd.R_drew HO_6.out)
                                                          have n3_ := Aside0.mk (blk_drew BK297.out)
                                                          have n4_ := Aside0.mk (blk_drew BK298.out)
                                                          have n5_ := Aside0.mk (below_drew1 HB.out)
                                                          clear HO_4
                                                          clear HO_5
                                                          clear HO_6
                                                          clear BK297
                                                          clear BK298
                                                          clear HB
                                                          have HO_4 := n0_
                                                          have HO_5 := n1_
                                                          have HO_6 := n2_
                                                          have BK297 := n3_
                                                          have BK298 := n4_
                                                          have HB := n5_
                                                          clear n0_ n1_ n2_ n3_ n4_ n5_
                                                          have q98 : (x9_11 : Int) ≤ ((y305.length : Int) : Int) := of_decide_eq_true (by first | (with_reducible assumption) | assumption)
                                                          obtain ⟨i098, hi098, _, hsz98, _⟩ := info_parts info3
                                                          have hcut98 := cut_to (P := Tryd.prog) 49 3 .i64 Tryd.underlying49 hi098 (some ad308) y305.length co39 x9_11 (of_decide_eq_true (by first | (with_reducible assumption) | assumption)) q98 (Kd.R_reads' HO_6.out).2.1
                                                          have hr98 := Kd.R_take (m := (x9_11 : Int).toNat) HO_6.out (by omega)
                                                          have hy98 : y315.length = (x9_11 : Int).toNat := (by rw [Ny315.out, List.length_take]; omega)
                                                          rw [← Ny315.out] at hr98
                                                          rw [← hy98] at hr98 hcut98
                                                          clear hy98 hi098 hsz98 HO_6
                                                          have HO317 := Aside0.mk hr98
                                                          clear hr98
                                                          replace q98 := eq_true q98
                                                          refine start_ (n := 8) (S := fun w' => w'.cell? ⟨gb298, 0, none⟩ = some (.string x299000_11) ∧ w'.cell? ⟨gb298, 1, none⟩ = some (.int .i64 x299001_11) ∧ w'.cell? ⟨gb298, 2, none⟩ = some (.int .i64 x299002_11) ∧ w'.cell? ⟨gb298, 3, none⟩ = some (.int .i64 x299003_11)) (ds := []) #[false, false, false, false, false, false, false, false] (by kernel_rfl) rfl rfl ⟨(blk_cell BK298.out 0).trans rfl, (blk_cell BK298.out 1).trans rfl, (blk_cell BK298.out 2).trans rfl, (blk_cell BK298.out 3).trans rfl⟩ (fun hHeld => ?_); refine with_tabW dowelref12_Parse.tab26 dowelref12_Parse.bits26 (fun HT_ HW_ => ?_)
                                                          generalize w96.drew = w97 at HO_4 HO_5 HO_6 BK297 BK298 HB HO317 hHeld ⊢
                                                          refine pure_ (i := 0) (N := some 117) (v := ?_) (a' := ?_) #[true, false, false, false, false, false, false, false] rfl rfl (any_of HT_.out (by kernel_rfl)) (fun _ _ _ h => h) (Or.inl ⟨by rfl, ?_⟩) ?_ ?_
                                                          rotate_left
                                                          · intro w'
                                                            go_simp
                                                            first | with_reducible rfl | (rw [if_neg (by intro hl_; simp only [ByteArray.size_append, ByteArray.size_extract, szl_0_, szl_1_, szl_2_, szl_3_, szl_4_, szl_5_, szl_6_] at *; omega)])
                                                          rotate_left
                                                          · simp only [Act.put, List.setIfInBounds_toArray, List.set_cons_zero, List.set_cons_succ, i64_w, i32_w]
                                                            rfl
                                                          refine pure_ (i := 1) (N := some 118) (v := ?_) (a' := ?_) #[true, true, false, false, false, false, false, false] rfl rfl (any_of HT_.out (by kernel_rfl)) (fun _ _ _ h => h) (Or.inl ⟨by rfl, ?_⟩) ?_ ?_
                                                          rotate_left
                                                          · intro w'
                                                            go_simp
                                                            first | with_reducible rfl | (rw [if_neg (by intro hl_; simp only [ByteArray.size_append, ByteArray.size_extract, szl_0_, szl_1_, szl_2_, szl_3_, szl_4_, szl_5_, szl_6_] at *; omega)])
                                                          rotate_left
                                                          · simp only [Act.put, List.setIfInBounds_toArray, List.set_cons_zero, List.set_cons_succ, i64_w, i32_w]
                                                            rfl
                                                          refine pure_ (i := 2) (N := some 119) (v := ?_) (a' := ?_) #[true, true, true, false, false, false, false, false] rfl rfl (any_of HT_.out (by kernel_rfl)) (fun _ _ _ h => h) (Or.inl ⟨by rfl, ?_⟩) ?_ ?_
                                                          rotate_left
                                                          · intro w'
                                                            go_simp
                                                            first | with_reducible rfl | (rw [if_neg (by intro hl_; simp only [ByteArray.size_append, ByteArray.size_extract, szl_0_, szl_1_, szl_2_, szl_3_, szl_4_, szl_5_, szl_6_] at *; omega)])
                                                          rotate_left
                                                          · simp only [Act.put, List.setIfInBounds_toArray, List.set_cons_zero, List.set_cons_succ, i64_w, i32_w]
                                                            rfl
                                                          refine pure_ (i := 3) (N := some 120) (v := ?_) (a' := ?_) #[true, true, true, true, false, false, false, false] rfl rfl (any_of HT_.out (by kernel_rfl)) (fun _ _ _ h => h) (Or.inl ⟨by rfl, ?_⟩) ?_ ?_
                                                          rotate_left
                                                          · intro w'
                                                            go_simp
                                                            first | with_reducible rfl | (rw [if_neg (by intro hl_; simp only [ByteArray.size_append, ByteArray.size_extract, szl_0_, szl_1_, szl_2_, szl_3_, szl_4_, szl_5_, szl_6_] at *; omega)])
                                                          rotate_left
                                                          · simp only [Act.put, List.setIfInBounds_toArray, List.set_cons_zero, List.set_cons_succ, i64_w, i32_w]
                                                            rfl
                                                          refine take_ (i := 4) (N := some 121) (v := ?_) (a' := ?_) #[true, true, true, true, true, false, false, false] rfl rfl (take_ofW HT_.out HW_.out (by kernel_rfl)) (fun _ _ _ h => h) (Or.inl ⟨by rfl, ?_⟩) hHeld ?_ ?_
                                                          rotate_left
                                                          · rintro w' ⟨s0, s1, s2, s3⟩
                                                            go_simp
                                                            first | with_reducible rfl | (rw [if_neg (by intro hl_; simp only [ByteArray.size_append, ByteArray.size_extract, szl_0_, szl_1_, szl_2_, szl_3_, szl_4_, szl_5_, szl_6_] at *; omega)])
                                                          rotate_left
                                                          · simp only [Act.put, List.setIfInBounds_toArray, List.set_cons_zero, List.set_cons_succ, i64_w, i32_w]
                                                            rfl
                                                          refine one_ (i := 5) (N := some 122) #[true, true, true, true, true, true, false, false] rfl rfl (one_of HT_.out (by kernel_rfl)) (by decide) (fun K hK => ?_)
                                                          refine value_ (w1 := ?_) (v := ?_) (by rfl) rfl ?_ ?_
                                                          rotate_left 2
                                                          · go_simp
                                                            constructor
                                                            · rfl
                                                            · rfl
                                                          refine hK.out _ _ ⟨(blk_cell (blk_alloc BK298.out _) 0).trans rfl, (blk_cell (blk_alloc BK298.out _) 1).trans rfl, (blk_cell (blk_alloc BK298.out _) 2).trans rfl, (blk_cell (blk_alloc BK298.out _) 3).trans rfl⟩ (fun hHeld => ?_)
                                                          clear hK K
                                                          refine norm_ (a' := ?_) ?_ ?_
                                                          rotate_left
                                                          · show Act.put _ (some 122) _ = _
                                                            simp only [Act.put, List.setIfInBounds_toArray, List.set_cons_zero, List.set_cons_succ, i64_w, i32_w]
                                                            rfl
                                                          refine one_ (i := 6) (N := some 123) #[true, true, true, true, true, true, true, false] rfl rfl (one_of HT_.out (by kernel_rfl)) (by decide) (fun K hK => ?_)
                                                          refine Kd.R_append_step (Kd.int .i64) (w0 := w) w.heap.size (by rfl) (.tmp 119) (.tmp 122) 49 3 (.int .i64 0) 8 rfl Tryd.underlying49 info3 rfl (by decide) (by omega) (.slice (some ad308) y315.length co39) y315 x299002_11 [.int .i64 x299002_11] (fun k_ => some k_ ≠ (.slice (some ad312) x5_1.length co93 : Value).ownBlock) (fun _ => False) rfl rfl ?aP (fun _ hk => hk.elim) ?aF ?aO ?aB ?aS ?aL ?_
                                                          (case aP => exact rfl)
                                                          (case aB => exact (by repeat (first | (with_reducible first | exact HB.out | apply below_alloc | apply pw_below_drewN | apply below_drew1 | refine below_set ?_ GE297.out | refine below_set ?_ GE298.out) | exact HB.out)))
                                                          (case aF => exact (fun k_ hk => Kd.fresh' (Kd.R_lt (by (with_reducible repeat (first | apply Kd.R_alloc | apply Kd.R_drewN | apply Kd.R_drew)); exact HO_5.out)) k_ hk))
                                                          (case aO => exact (by (with_reducible repeat (first | apply Kd.R_alloc | apply Kd.R_drewN | apply Kd.R_drew)); exact HO317.out))
                                                          (case aS => exact (below_size (by repeat (first | (with_reducible first | exact HB.out | apply below_alloc | apply pw_below_drewN | apply below_drew1 | refine below_set ?_ GE297.out | refine below_set ?_ GE298.out) | exact HB.out))))
                                                          (case aL => have := LMc87.out; omega)
                                                          intro v319 w99 ho hb hg hat
                                                          rw [← Ny318.out] at ho
                                                          have n0_ := Aside0.mk (Kd.R_over' (by (with_reducible repeat (first | apply Kd.R_alloc | apply Kd.R_drewN | apply Kd.R_drew)); exact HO_4.out) (Kd.R_typed (by (with_reducible repeat (first | apply Kd.R_alloc | apply Kd.R_drewN | apply Kd.R_drew)); exact HO317.out)) (by decide) hg)
                                                          have n1_ := Aside0.mk (Kd.R_after (ok := (fun _ => True)) (by (with_reducible repeat (first | apply Kd.R_alloc | apply Kd.R_drewN | apply Kd.R_drew)); exact Kd.R_mono HO_5.out (fun _ hk => ⟨trivial, hk⟩)) hg hat)
                                                          have n2_ := Aside0.mk (blk_grown (g := gb297) (o := .cells #[.int .i64 x298000_36, .int .i64 x298001_36] 29 (0, 0)) (by (with_reducible repeat (first | refine blk_drewN ?_ _ | refine blk_drew ?_ | refine blk_alloc ?_ _)); exact BK297.out) hg (Kd.R_ne HO317.out BK297.out (by decide)))
                                                          have n3_ := Aside0.mk (blk_grown (g := gb298) (o := .cells #[.string x299000_11, .int .i64 x299001_11, .int .i64 x299002_11, .int .i64 x299003_11] 37 (0, 0)) (by (with_reducible repeat (first | refine blk_drewN ?_ _ | refine blk_drew ?_ | refine blk_alloc ?_ _)); exact BK298.out) hg (Kd.R_ne HO317.out BK298.out (by decide)))
                                                          have n4_ := Aside0.mk (hb)
                                                          have n5_ := Aside0.mk (ho)
                                                          clear HO_4
                                                          clear HO_5
                                                          clear BK297
                                                          clear BK298
                                                          clear HB
                                                          clear HO317
                                                          have HO_4 := n0_
                                                          have HO_5 := n1_
                                                          have BK297 := n2_
                                                          have BK298 := n3_
                                                          have HB := n4_
                                                          have HO320 := n5_
                                                          clear n0_ n1_ n2_ n3_ n4_ n5_
                                                          clear ho hb hg hat
                                                          refine hK.out _ _ ⟨(blk_cell BK298.out 0).trans rfl, (blk_cell BK298.out 1).trans rfl, (blk_cell BK298.out 2).trans rfl, (blk_cell BK298.out 3).trans rfl⟩ (fun hHeld => ?_)
                                                          clear hK K
                                                          refine norm_ (a' := ?_) ?_ ?_
                                                          rotate_left
                                                          · show Act.put _ (some 123) _ = _
                                                            simp only [Act.put, List.setIfInBounds_toArray, List.set_cons_zero, List.set_cons_succ, i64_w, i32_w]
                                                            rfl
                                                          refine pure_ (i := 7) (N := some 6) (v := ?_) (a' := ?_) #[true, true, true, true, true, true, true, true] rfl rfl (any_of HT_.out (by kernel_rfl)) (fun _ _ _ h => h) (Or.inl ⟨by rfl, ?_⟩) ?_ ?_
                                                          rotate_left
                                                          · intro w'
                                                            go_simp
                                                            first | with_reducible rfl | (rw [if_neg (by intro hl_; simp only [ByteArray.size_append, ByteArray.size_extract, szl_0_, szl_1_, szl_2_, szl_3_, szl_4_, szl_5_, szl_6_] at *; omega)])
                                                          rotate_left
                                                          · simp only [Act.put, List.setIfInBounds_toArray, List.set_cons_zero, List.set_cons_succ, i64_w, i32_w]
                                                            rfl
                                                          refine done_ (done_of HT_.out (by kernel_rfl)) ?_
                                                          have q100 : (x9_11 : Int) ≤ ((x5_1.length : Int) : Int) := of_decide_eq_true (by first | (with_reducible assumption) | assumption)
                                                          obtain ⟨i0100, hi0100, _, hsz100, _⟩ := info_parts info3
                                                          have hcut100 := cut_to (P := Tryd.prog) 49 3 .i64 Tryd.underlying49 hi0100 (some ad312) x5_1.length co93 x9_11 (of_decide_eq_true (by first | (with_reducible assumption) | assumption)) q100 (Kd.R_reads' HO_5.out).2.1
                                                          have hr100 := Kd.R_take (m := (x9_11 : Int).toNat) HO_5.out (by omega)
                                                          have hy100 : y321.length = (x9_11 : Int).toNat := (by rw [Ny321.out, List.length_take]; omega)
                                                          rw [← Ny321.out] at hr100
                                                          rw [← hy100] at hr100 hcut100
                                                          clear hy100 hi0100 hsz100 HO_5
                                                          have HO323 := Aside0.mk hr100
                                                          clear hr100
                                                          replace q100 := eq_true q100
                                                          try go_wp2_with (first | ((with_reducible refine gate_builtin (b := .append) (xs := #[.tmp 126, .tmp 129]) rfl ?_); (try (refine gate_guard (by rfl) ?_; dsimp only)); at_builtin; refine Kd.R_append (Kd.int .i64) (w0 := w) w.heap.size rfl (.tmp 126) (.tmp 129) 49 3 (.int .i64 0) 8 rfl Tryd.underlying49 info3 rfl (by decide) (by omega) (.slice (some ad312) y321.length co93) y321 (x4_1.length : Int) [.int .i64 (x4_1.length : Int)] (fun k_ => some k_ ≠ (v319 : Value).ownBlock) (fun _ => False) rfl rfl ?aP (fun _ hk => hk.elim) ?aF ?aO ?aB ?aS ?aL ?_; (case aP => exact rfl); (case aB => exact (by repeat (first | (with_reducible first | exact HB.out | apply below_alloc | apply pw_below_drewN | apply below_drew1 | refine below_set ?_ GE297.out | refine below_set ?_ GE298.out) | exact HB.out))); (case aF => exact (fun k_ hk => Kd.fresh' (Kd.R_lt (by (with_reducible repeat (first | apply Kd.R_alloc | apply Kd.R_drewN | apply Kd.R_drew)); exact HO320.out)) k_ hk)); (case aO => exact (by (with_reducible repeat (first | apply Kd.R_alloc | apply Kd.R_drewN | apply Kd.R_drew)); exact Kd.R_mono HO323.out (fun _ hk => hk.2))); (case aS => exact (below_size (by repeat (first | (with_reducible first | exact HB.out | apply below_alloc | apply pw_below_drewN | apply below_drew1 | refine below_set ?_ GE297.out | refine below_set ?_ GE298.out) | exact HB.out)))); (case aL => have := LMc89.out; omega); intro v325 w101 ho hb hg hat; rw [← Ny324.out] at ho; have n0_ := Aside0.mk (Kd.R_over' (by (with_reducible repeat (first | apply Kd.R_alloc | apply Kd.R_drewN | apply Kd.R_drew)); exact HO_4.out) (Kd.R_typed (by (with_reducible repeat (first | apply Kd.R_alloc | apply Kd.R_drewN | apply Kd.R_drew)); exact HO323.out)) (by decide) hg); have n1_ := Aside0.mk (blk_grown (g := gb297) (o := .cells #[.int .i64 x298000_36, .int .i64 x298001_36] 29 (0, 0)) (by (with_reducible repeat (first | refine blk_drewN ?_ _ | refine blk_drew ?_ | refine blk_alloc ?_ _)); exact BK297.out) hg (Kd.R_ne HO323.out BK297.out (by decide))); have n2_ := Aside0.mk (blk_grown (g := gb298) (o := .cells #[.string x299000_11, .int .i64 x299001_11, .int .i64 x299002_11, .int .i64 x299003_11] 37 (0, 0)) (by (with_reducible repeat (first | refine blk_drewN ?_ _ | refine blk_drew ?_ | refine blk_alloc ?_ _)); exact BK298.out) hg (Kd.R_ne HO323.out BK298.out (by decide))); have n3_ := Aside0.mk (Kd.R_after (ok := (fun _ => True)) (by (with_reducible repeat (first | apply Kd.R_alloc | apply Kd.R_drewN | apply Kd.R_drew)); exact Kd.R_mono HO320.out (fun _ hk => ⟨trivial, hk⟩)) hg hat); have n4_ := Aside0.mk (hb); have n5_ := Aside0.mk (ho); clear HO_4; clear BK297; clear BK298; clear HO320; clear HB; clear HO323; have HO_4 := n0_; have BK297 := n1_; have BK298 := n2_; have HO320 := n3_; have HB := n4_; have HO326 := n5_; clear n0_ n1_ n2_ n3_ n4_ n5_; clear ho hb hg hat; have hcz102_0 : w101.cell? ⟨gb298, 0, none⟩ = some (.string x299000_11) := (blk_cell BK298.out 0).trans rfl; have hcz102_1 : w101.cell? ⟨gb298, 1, none⟩ = some (.int .i64 x299001_11) := (blk_cell BK298.out 1).trans rfl; have hcz102_2 : w101.cell? ⟨gb298, 2, none⟩ = some (.int .i64 x299002_11) := (blk_cell BK298.out 2).trans rfl; have hcz102_3 : w101.cell? ⟨gb298, 3, none⟩ = some (.int .i64 x299003_11) := (blk_cell BK298.out 3).trans rfl; have hfz102_0 := blk_frozen BK298.out 0; have hfz102_1 := blk_frozen BK298.out 1; have hfz102_2 := blk_frozen BK298.out 2; have hfz102_3 := blk_frozen BK298.out 3) | ((with_reducible refine gate_builtin (b := .append) (xs := #[.tmp 131, .tmp 133]) rfl ?_); (try (refine gate_guard (by rfl) ?_; dsimp only)); at_builtin; refine Kd.R_append k37 (w0 := w) w.heap.size rfl (.tmp 131) (.tmp 133) 22 37 (.agg #[(.string ⟨#[]⟩), (.int .i64 0), (.int .i64 0), (.int .i64 0)]) 40 rfl Tryd.underlying22 info37 rfl (by decide) (by omega) (.slice (some ⟨go84, 0, none⟩) x4_1.length co94) y314 (⟨x299000_11, x299001_11, x299002_11, x299003_11⟩ : S37) [.string x299000_11, .int .i64 x299001_11, .int .i64 x299002_11, .int .i64 x299003_11] (fun k_ => k_ ≠ gb298) (fun _ => False) rfl rfl ?aP (fun _ hk => hk.elim) ?aF ?aO ?aB ?aS ?aL ?_; (case aP => exact k37_mkM _ _ _ (⟨x299000_11, x299001_11, x299002_11, x299003_11⟩ : S37)); (case aB => exact (by repeat (first | (with_reducible first | exact HB.out | apply below_alloc | apply pw_below_drewN | apply below_drew1 | refine below_set ?_ GE297.out | refine below_set ?_ GE298.out) | exact HB.out))); (case aF => exact (fun k_ hk => Kd.freshB (g := gb298) (o := .cells #[.string x299000_11, .int .i64 x299001_11, .int .i64 x299002_11, .int .i64 x299003_11] 37 (0, 0)) (by (with_reducible repeat (first | refine blk_drewN ?_ _ | refine blk_drew ?_ | refine blk_alloc ?_ _)); exact BK298.out) k_ hk)); (case aO => exact (by (with_reducible repeat (first | apply Kd.R_alloc | apply Kd.R_drewN | apply Kd.R_drew)); exact HO_4.out)); (case aS => exact (below_size (by repeat (first | (with_reducible first | exact HB.out | apply below_alloc | apply pw_below_drewN | apply below_drew1 | refine below_set ?_ GE297.out | refine below_set ?_ GE298.out) | exact HB.out)))); (case aL => have := LMc90.out; omega); intro v328 w103 ho hb hg hat; rw [← Ny327.out] at ho; have n0_ := Aside0.mk (blk_grown (g := gb297) (o := .cells #[.int .i64 x298000_36, .int .i64 x298001_36] 29 (0, 0)) (by (with_reducible repeat (first | refine blk_drewN ?_ _ | refine blk_drew ?_ | refine blk_alloc ?_ _)); exact BK297.out) hg (Kd.R_ne HO_4.out BK297.out (by decide))); have n1_ := Aside0.mk (blk_grown (g := gb298) (o := .cells #[.string x299000_11, .int .i64 x299001_11, .int .i64 x299002_11, .int .i64 x299003_11] 37 (0, 0)) (by (with_reducible repeat (first | refine blk_drewN ?_ _ | refine blk_drew ?_ | refine blk_alloc ?_ _)); exact BK298.out) hg (Kd.R_away HO_4.out (fun _ hk => hk))); have n2_ := Aside0.mk (Kd.R_over' (by (with_reducible repeat (first | apply Kd.R_alloc | apply Kd.R_drewN | apply Kd.R_drew)); exact HO320.out) (Kd.R_typed (by (with_reducible repeat (first | apply Kd.R_alloc | apply Kd.R_drewN | apply Kd.R_drew)); exact HO_4.out)) (by decide) hg); have n3_ := Aside0.mk (Kd.R_over' (by (with_reducible repeat (first | apply Kd.R_alloc | apply Kd.R_drewN | apply Kd.R_drew)); exact HO326.out) (Kd.R_typed (by (with_reducible repeat (first | apply Kd.R_alloc | apply Kd.R_drewN | apply Kd.R_drew)); exact HO_4.out)) (by decide) hg); have n4_ := Aside0.mk (hb); have n5_ := Aside0.mk (ho); clear BK297; clear BK298; clear HO320; clear HO326; clear HB; clear HO_4; have BK297 := n0_; have BK298 := n1_; have HO320 := n2_; have HO326 := n3_; have HB := n4_; have HO329 := n5_; clear n0_ n1_ n2_ n3_ n4_ n5_; clear ho hb hg hat))
                                                          go_roundg kj36
                                                          case measure => have := HK1.out; have := HJ6.out; have := HJ11.out; have := HJ23.out; have := HJ36.out; omega
                                                          case rel => exact ⟨(y327), (y324), (y318), (wrap64 (x8_6 + 1)), (x298000_36), (x298001_36), (by first | rfl | (simp; done) | (simp [*]; done)), H', ⟨by have := HK1.out; have := HJ6.out; have := HJ11.out; have := HJ23.out; have := HJ36.out; omega⟩, ⟨by (with_reducible repeat (first | apply Kd.R_alloc | apply Kd.R_drewN | apply Kd.R_drew)); exact Kd.R_mono HO329.out (fun _ hk => trivial)⟩, ⟨by (with_reducible repeat (first | apply Kd.R_alloc | apply Kd.R_drewN | apply Kd.R_drew)); exact HO326.out⟩, ⟨by (with_reducible repeat (first | apply Kd.R_alloc | apply Kd.R_drewN | apply Kd.R_drew)); exact Kd.R_mono HO320.out (fun _ hk => hk.2)⟩, ⟨by (with_reducible repeat (first | refine blk_drewN ?_ _ | refine blk_drew ?_ | refine blk_alloc ?_ _)); exact BK297.out⟩, ⟨by repeat (first | (with_reducible first | exact HB.out | apply below_alloc | apply pw_below_drewN | apply below_drew1 | refine below_set ?_ GE297.out | refine below_set ?_ GE298.out) | exact HB.out)⟩⟩
                                                        · rw [if_neg c90] at H
                                                          exact absurd H (by simp)
                                                      · rw [if_neg c89] at H
                                                        exact absurd H (by simp)
                                                    · rw [if_neg c88] at H
                                                      exact absurd H (by simp)
                                                  · rw [if_neg c87] at H
                                                    exact absurd H (by simp)
                                                · rw [if_neg c86] at H
                                                  exact absurd H (by simp)
                                              · rw [if_neg c85] at H
                                                exact absurd H (by simp)
                                            · rw [if_neg c83] at H
                                              exact absurd H (by simp)
                                          · rw [if_neg c82] at H
                                            exact absurd H (by simp)
                                        · rw [if_neg c81] at H
                                          exact absurd H (by simp)
                                      · rw [if_neg c80] at H
                                        exact absurd H (by simp)
                                    · rw [if_neg c78] at H
                                      have c78b0 : decide (0 < x9_11) = false := decide_eq_false c78
                                      clear c78
                                      by_cases c104 : 0 ≤ x9_11
                                      · rw [if_pos c104] at H
                                        have c104b0 := eq_true c104
                                        have c104b1 : decide (0 ≤ x9_11) = true := decide_eq_true c104
                                        clear c104
                                        by_cases c105 : x9_11 ≤ (y305.length : Int)
                                        · rw [if_pos c105] at H
                                          have c105b0 := eq_true c105
                                          have c105b1 : decide (x9_11 ≤ (y305.length : Int)) = true := decide_eq_true c105
                                          clear c105
                                          obtain ⟨y330, hy330⟩ : ∃ y_ : List Int, y_ = (y305.take (x9_11 : Int).toNat) := ⟨_, rfl⟩
                                          replace H : (if y330.length < 17592186044416 then (if x9_11 ≤ (x5_1.length : Int) then ((some (x5_1.take (x9_11 : Int).toNat : List Int)).bind fun y336 => (if y336.length < 17592186044416 then (if x4_1.length < 3518437208883 then (dowelref12_Parse.l0 kj36 a0 (x4_1 ++ [(⟨x299000_11, x299001_11, x299002_11, x299003_11⟩ : S37)]) (y336 ++ [(x4_1.length : Int)]) (y330 ++ [x299002_11]) (wrap64 (x8_6 + 1))) else (none)) else (none))) else (none)) else (none)) = some (r1, r2, r3) := by first | (rw [hy330]; with_reducible exact H) | (have H2_ := (Option.bind_some _ _).symm.trans H; rw [hy330]; with_reducible exact H2_) | (have H2_ := (Option.bind_some _ _).symm.trans H; with_reducible exact H2_) | with_reducible exact H | (rw [hy330]; exact H) | exact H
                                          have Ny330 := Aside0.mk hy330
                                          clear hy330
                                          by_cases c106 : y330.length < 17592186044416
                                          · rw [if_pos c106] at H
                                            have LMc106 := Aside0.mk c106
                                            clear c106
                                            obtain ⟨y333, hy333⟩ : ∃ y_ : List Int, y_ = (y330 ++ [x299002_11]) := ⟨_, rfl⟩
                                            replace H : (if x9_11 ≤ (x5_1.length : Int) then ((some (x5_1.take (x9_11 : Int).toNat : List Int)).bind fun y336 => (if y336.length < 17592186044416 then (if x4_1.length < 3518437208883 then (dowelref12_Parse.l0 kj36 a0 (x4_1 ++ [(⟨x299000_11, x299001_11, x299002_11, x299003_11⟩ : S37)]) (y336 ++ [(x4_1.length : Int)]) y333 (wrap64 (x8_6 + 1))) else (none)) else (none))) else (none)) = some (r1, r2, r3) := by first | (rw [hy333]; with_reducible exact H) | (have H2_ := (Option.bind_some _ _).symm.trans H; rw [hy333]; with_reducible exact H2_) | (have H2_ := (Option.bind_some _ _).symm.trans H; with_reducible exact H2_) | with_reducible exact H | (rw [hy333]; exact H) | exact H
                                            have Ny333 := Aside0.mk hy333
                                            clear hy333
                                            by_cases c107 : x9_11 ≤ (x5_1.length : Int)
                                            · rw [if_pos c107] at H
                                              have c107b0 := eq_true c107
                                              have c107b1 : decide (x9_11 ≤ (x5_1.length : Int)) = true := decide_eq_true c107
                                              clear c107
                                              obtain ⟨y336, hy336⟩ : ∃ y_ : List Int, y_ = (x5_1.take (x9_11 : Int).toNat) := ⟨_, rfl⟩
                                              replace H : (if y336.length < 17592186044416 then (if x4_1.length < 3518437208883 then (dowelref12_Parse.l0 kj36 a0 (x4_1 ++ [(⟨x299000_11, x299001_11, x299002_11, x299003_11⟩ : S37)]) (y336 ++ [(x4_1.length : Int)]) y333 (wrap64 (x8_6 + 1))) else (none)) else (none)) = some (r1, r2, r3) := by first | (rw [hy336]; with_reducible exact H) | (have H2_ := (Option.bind_some _ _).symm.trans H; rw [hy336]; with_reducible exact H2_) | (have H2_ := (Option.bind_some _ _).symm.trans H; with_reducible exact H2_) | with_reducible exact H | (rw [hy336]; exact H) | exact H
                                              have Ny336 := Aside0.mk hy336
                                              clear hy336
                                              by_cases c108 : y336.length < 17592186044416
                                              · rw [if_pos c108] at H
                                                have LMc108 := Aside0.mk c108
                                                clear c108
                                                obtain ⟨y339, hy339⟩ : ∃ y_ : List Int, y_ = (y336 ++ [(x4_1.length : Int)]) := ⟨_, rfl⟩
                                                replace H : (if x4_1.length < 3518437208883 then (dowelref12_Parse.l0 kj36 a0 (x4_1 ++ [(⟨x299000_11, x299001_11, x299002_11, x299003_11⟩ : S37)]) y339 y333 (wrap64 (x8_6 + 1))) else (none)) = some (r1, r2, r3) := by first | (rw [hy339]; with_reducible exact H) | (have H2_ := (Option.bind_some _ _).symm.trans H; rw [hy339]; with_reducible exact H2_) | (have H2_ := (Option.bind_some _ _).symm.trans H; with_reducible exact H2_) | with_reducible exact H | (rw [hy339]; exact H) | exact H
                                                have Ny339 := Aside0.mk hy339
                                                clear hy339
                                                by_cases c109 : x4_1.length < 3518437208883
                                                · rw [if_pos c109] at H
                                                  have LMc109 := Aside0.mk c109
                                                  clear c109
                                                  obtain ⟨y342, hy342⟩ : ∃ y_ : List (S37), y_ = (x4_1 ++ [(⟨x299000_11, x299001_11, x299002_11, x299003_11⟩ : S37)]) := ⟨_, rfl⟩
                                                  replace H : (dowelref12_Parse.l0 kj36 a0 y342 y339 y333 (wrap64 (x8_6 + 1))) = some (r1, r2, r3) := by first | (rw [hy342]; with_reducible exact H) | (have H2_ := (Option.bind_some _ _).symm.trans H; rw [hy342]; with_reducible exact H2_) | (have H2_ := (Option.bind_some _ _).symm.trans H; with_reducible exact H2_) | with_reducible exact H | (rw [hy342]; exact H) | exact H
                                                  have Ny342 := Aside0.mk hy342
                                                  clear hy342
                                                  have H' := Aside0.mk H
                                                  clear H
                                                  have hnb110 := NB298_297.out
                                                  have hnc110 := NB297_298.out
                                                  have hcz111_0 : wc.cell? ⟨gb298, 0, none⟩ = some (.string x299000_11) := (blk_cell BK298.out 0).trans rfl
                                                  have hcz111_1 : wc.cell? ⟨gb298, 1, none⟩ = some (.int .i64 x299001_11) := (blk_cell BK298.out 1).trans rfl
                                                  have hcz111_2 : wc.cell? ⟨gb298, 2, none⟩ = some (.int .i64 x299002_11) := (blk_cell BK298.out 2).trans rfl
                                                  have hcz111_3 : wc.cell? ⟨gb298, 3, none⟩ = some (.int .i64 x299003_11) := (blk_cell BK298.out 3).trans rfl
                                                  have hfz111_0 := blk_frozen BK298.out 0
                                                  have hfz111_1 := blk_frozen BK298.out 1
                                                  have hfz111_2 := blk_frozen BK298.out 2
                                                  have hfz111_3 := blk_frozen BK298.out 3
                                                  try go_wp2
                                                  have n0_ := Aside0.mk (Kd.R_drew HO_4.out)
                                                  have n1_ := Aside0.mk (Kd.R_drew HO_5.out)
                                                  have n2_ := Aside0.mk (Kd.R_drew HO_6.out)
                                                  have n3_ := Aside0.mk (blk_drew BK297.out)
                                                  have n4_ := Aside0.mk (blk_drew BK298.out)
                                                  have n5_ := Aside0.mk (below_drew1 HB.out)
                                                  clear HO_4
                                                  clear HO_5
                                                  clear HO_6
                                                  clear BK297
                                                  clear BK298
                                                  clear HB
                                                  have HO_4 := n0_
                                                  have HO_5 := n1_
                                                  have HO_6 := n2_
                                                  have BK297 := n3_
                                                  have BK298 := n4_
                                                  have HB := n5_
                                                  clear n0_ n1_ n2_ n3_ n4_ n5_
                                                  have q113 : (x9_11 : Int) ≤ ((y305.length : Int) : Int) := of_decide_eq_true (by first | (with_reducible assumption) | assumption)
                                                  obtain ⟨i0113, hi0113, _, hsz113, _⟩ := info_parts info3
                                                  have hcut113 := cut_to (P := Tryd.prog) 49 3 .i64 Tryd.underlying49 hi0113 (some ad308) y305.length co39 x9_11 (of_decide_eq_true (by first | (with_reducible assumption) | assumption)) q113 (Kd.R_reads' HO_6.out).2.1
                                                  have hr113 := Kd.R_take (m := (x9_11 : Int).toNat) HO_6.out (by omega)
                                                  have hy113 : y330.length = (x9_11 : Int).toNat := (by rw [Ny330.out, List.length_take]; omega)
                                                  rw [← Ny330.out] at hr113
                                                  rw [← hy113] at hr113 hcut113
                                                  clear hy113 hi0113 hsz113 HO_6
                                                  have HO332 := Aside0.mk hr113
                                                  clear hr113
                                                  replace q113 := eq_true q113
                                                  refine start_ (n := 8) (S := fun w' => w'.cell? ⟨gb298, 0, none⟩ = some (.string x299000_11) ∧ w'.cell? ⟨gb298, 1, none⟩ = some (.int .i64 x299001_11) ∧ w'.cell? ⟨gb298, 2, none⟩ = some (.int .i64 x299002_11) ∧ w'.cell? ⟨gb298, 3, none⟩ = some (.int .i64 x299003_11)) (ds := []) #[false, false, false, false, false, false, false, false] (by kernel_rfl) rfl rfl ⟨(blk_cell BK298.out 0).trans rfl, (blk_cell BK298.out 1).trans rfl, (blk_cell BK298.out 2).trans rfl, (blk_cell BK298.out 3).trans rfl⟩ (fun hHeld => ?_); refine with_tabW dowelref12_Parse.tab26 dowelref12_Parse.bits26 (fun HT_ HW_ => ?_)
                                                  generalize wc.drew = w112 at HO_4 HO_5 HO_6 BK297 BK298 HB HO332 hHeld ⊢
                                                  refine pure_ (i := 0) (N := some 117) (v := ?_) (a' := ?_) #[true, false, false, false, false, false, false, false] rfl rfl (any_of HT_.out (by kernel_rfl)) (fun _ _ _ h => h) (Or.inl ⟨by rfl, ?_⟩) ?_ ?_
                                                  rotate_left
                                                  · intro w'
                                                    go_simp
                                                    first | with_reducible rfl | (rw [if_neg (by intro hl_; simp only [ByteArray.size_append, ByteArray.size_extract, szl_0_, szl_1_, szl_2_, szl_3_, szl_4_, szl_5_, szl_6_] at *; omega)])
                                                  rotate_left
                                                  · simp only [Act.put, List.setIfInBounds_toArray, List.set_cons_zero, List.set_cons_succ, i64_w, i32_w]
                                                    rfl
                                                  refine pure_ (i := 1) (N := some 118) (v := ?_) (a' := ?_) #[true, true, false, false, false, false, false, false] rfl rfl (any_of HT_.out (by kernel_rfl)) (fun _ _ _ h => h) (Or.inl ⟨by rfl, ?_⟩) ?_ ?_
                                                  rotate_left
                                                  · intro w'
                                                    go_simp
                                                    first | with_reducible rfl | (rw [if_neg (by intro hl_; simp only [ByteArray.size_append, ByteArray.size_extract, szl_0_, szl_1_, szl_2_, szl_3_, szl_4_, szl_5_, szl_6_] at *; omega)])
                                                  rotate_left
                                                  · simp only [Act.put, List.setIfInBounds_toArray, List.set_cons_zero, List.set_cons_succ, i64_w, i32_w]
                                                    rfl
                                                  refine pure_ (i := 2) (N := some 119) (v := ?_) (a' := ?_) #[true, true, true, false, false, false, false, false] rfl rfl (any_of HT_.out (by kernel_rfl)) (fun _ _ _ h => h) (Or.inl ⟨by rfl, ?_⟩) ?_ ?_
                                                  rotate_left
                                                  · intro w'
                                                    go_simp
                                                    first | with_reducible rfl | (rw [if_neg (by intro hl_; simp only [ByteArray.size_append, ByteArray.size_extract, szl_0_, szl_1_, szl_2_, szl_3_, szl_4_, szl_5_, szl_6_] at *; omega)])
                                                  rotate_left
                                                  · simp only [Act.put, List.setIfInBounds_toArray, List.set_cons_zero, List.set_cons_succ, i64_w, i32_w]
                                                    rfl
                                                  refine pure_ (i := 3) (N := some 120) (v := ?_) (a' := ?_) #[true, true, true, true, false, false, false, false] rfl rfl (any_of HT_.out (by kernel_rfl)) (fun _ _ _ h => h) (Or.inl ⟨by rfl, ?_⟩) ?_ ?_
                                                  rotate_left
                                                  · intro w'
                                                    go_simp
                                                    first | with_reducible rfl | (rw [if_neg (by intro hl_; simp only [ByteArray.size_append, ByteArray.size_extract, szl_0_, szl_1_, szl_2_, szl_3_, szl_4_, szl_5_, szl_6_] at *; omega)])
                                                  rotate_left
                                                  · simp only [Act.put, List.setIfInBounds_toArray, List.set_cons_zero, List.set_cons_succ, i64_w, i32_w]
                                                    rfl
                                                  refine take_ (i := 4) (N := some 121) (v := ?_) (a' := ?_) #[true, true, true, true, true, false, false, false] rfl rfl (take_ofW HT_.out HW_.out (by kernel_rfl)) (fun _ _ _ h => h) (Or.inl ⟨by rfl, ?_⟩) hHeld ?_ ?_
                                                  rotate_left
                                                  · rintro w' ⟨s0, s1, s2, s3⟩
                                                    go_simp
                                                    first | with_reducible rfl | (rw [if_neg (by intro hl_; simp only [ByteArray.size_append, ByteArray.size_extract, szl_0_, szl_1_, szl_2_, szl_3_, szl_4_, szl_5_, szl_6_] at *; omega)])
                                                  rotate_left
                                                  · simp only [Act.put, List.setIfInBounds_toArray, List.set_cons_zero, List.set_cons_succ, i64_w, i32_w]
                                                    rfl
                                                  refine one_ (i := 5) (N := some 122) #[true, true, true, true, true, true, false, false] rfl rfl (one_of HT_.out (by kernel_rfl)) (by decide) (fun K hK => ?_)
                                                  refine value_ (w1 := ?_) (v := ?_) (by rfl) rfl ?_ ?_
                                                  rotate_left 2
                                                  · go_simp
                                                    constructor
                                                    · rfl
                                                    · rfl
                                                  refine hK.out _ _ ⟨(blk_cell (blk_alloc BK298.out _) 0).trans rfl, (blk_cell (blk_alloc BK298.out _) 1).trans rfl, (blk_cell (blk_alloc BK298.out _) 2).trans rfl, (blk_cell (blk_alloc BK298.out _) 3).trans rfl⟩ (fun hHeld => ?_)
                                                  clear hK K
                                                  refine norm_ (a' := ?_) ?_ ?_
                                                  rotate_left
                                                  · show Act.put _ (some 122) _ = _
                                                    simp only [Act.put, List.setIfInBounds_toArray, List.set_cons_zero, List.set_cons_succ, i64_w, i32_w]
                                                    rfl
                                                  refine one_ (i := 6) (N := some 123) #[true, true, true, true, true, true, true, false] rfl rfl (one_of HT_.out (by kernel_rfl)) (by decide) (fun K hK => ?_)
                                                  refine Kd.R_append_step (Kd.int .i64) (w0 := w) w.heap.size (by rfl) (.tmp 119) (.tmp 122) 49 3 (.int .i64 0) 8 rfl Tryd.underlying49 info3 rfl (by decide) (by omega) (.slice (some ad308) y330.length co39) y330 x299002_11 [.int .i64 x299002_11] (fun k_ => some k_ ≠ (u5 : Value).ownBlock) (fun _ => False) rfl rfl ?aP (fun _ hk => hk.elim) ?aF ?aO ?aB ?aS ?aL ?_
                                                  (case aP => exact rfl)
                                                  (case aB => exact (by repeat (first | (with_reducible first | exact HB.out | apply below_alloc | apply pw_below_drewN | apply below_drew1 | refine below_set ?_ GE297.out | refine below_set ?_ GE298.out) | exact HB.out)))
                                                  (case aF => exact (fun k_ hk => Kd.fresh' (Kd.R_lt (by (with_reducible repeat (first | apply Kd.R_alloc | apply Kd.R_drewN | apply Kd.R_drew)); exact HO_5.out)) k_ hk))
                                                  (case aO => exact (by (with_reducible repeat (first | apply Kd.R_alloc | apply Kd.R_drewN | apply Kd.R_drew)); exact HO332.out))
                                                  (case aS => exact (below_size (by repeat (first | (with_reducible first | exact HB.out | apply below_alloc | apply pw_below_drewN | apply below_drew1 | refine below_set ?_ GE297.out | refine below_set ?_ GE298.out) | exact HB.out))))
                                                  (case aL => have := LMc106.out; omega)
                                                  intro v334 w114 ho hb hg hat
                                                  rw [← Ny333.out] at ho
                                                  have n0_ := Aside0.mk (Kd.R_over' (by (with_reducible repeat (first | apply Kd.R_alloc | apply Kd.R_drewN | apply Kd.R_drew)); exact HO_4.out) (Kd.R_typed (by (with_reducible repeat (first | apply Kd.R_alloc | apply Kd.R_drewN | apply Kd.R_drew)); exact HO332.out)) (by decide) hg)
                                                  have n1_ := Aside0.mk (Kd.R_after (ok := (fun _ => True)) (by (with_reducible repeat (first | apply Kd.R_alloc | apply Kd.R_drewN | apply Kd.R_drew)); exact Kd.R_mono HO_5.out (fun _ hk => ⟨trivial, hk⟩)) hg hat)
                                                  have n2_ := Aside0.mk (blk_grown (g := gb297) (o := .cells #[.int .i64 x298000_36, .int .i64 x298001_36] 29 (0, 0)) (by (with_reducible repeat (first | refine blk_drewN ?_ _ | refine blk_drew ?_ | refine blk_alloc ?_ _)); exact BK297.out) hg (Kd.R_ne HO332.out BK297.out (by decide)))
                                                  have n3_ := Aside0.mk (blk_grown (g := gb298) (o := .cells #[.string x299000_11, .int .i64 x299001_11, .int .i64 x299002_11, .int .i64 x299003_11] 37 (0, 0)) (by (with_reducible repeat (first | refine blk_drewN ?_ _ | refine blk_drew ?_ | refine blk_alloc ?_ _)); exact BK298.out) hg (Kd.R_ne HO332.out BK298.out (by decide)))
                                                  have n4_ := Aside0.mk (hb)
                                                  have n5_ := Aside0.mk (ho)
                                                  clear HO_4
                                                  clear HO_5
                                                  clear BK297
                                                  clear BK298
                                                  clear HB
                                                  clear HO332
                                                  have HO_4 := n0_
                                                  have HO_5 := n1_
                                                  have BK297 := n2_
                                                  have BK298 := n3_
                                                  have HB := n4_
                                                  have HO335 := n5_
                                                  clear n0_ n1_ n2_ n3_ n4_ n5_
                                                  clear ho hb hg hat
                                                  refine hK.out _ _ ⟨(blk_cell BK298.out 0).trans rfl, (blk_cell BK298.out 1).trans rfl, (blk_cell BK298.out 2).trans rfl, (blk_cell BK298.out 3).trans rfl⟩ (fun hHeld => ?_)
                                                  clear hK K
                                                  refine norm_ (a' := ?_) ?_ ?_
                                                  rotate_left
                                                  · show Act.put _ (some 123) _ = _
                                                    simp only [Act.put, List.setIfInBounds_toArray, List.set_cons_zero, List.set_cons_succ, i64_w, i32_w]
                                                    rfl
                                                  refine pure_ (i := 7) (N := some 6) (v := ?_) (a' := ?_) #[true, true, true, true, true, true, true, true] rfl rfl (any_of HT_.out (by kernel_rfl)) (fun _ _ _ h => h) (Or.inl ⟨by rfl, ?_⟩) ?_ ?_
                                                  rotate_left
                                                  · intro w'
                                                    go_simp
                                                    first | with_reducible rfl | (rw [if_neg (by intro hl_; simp only [ByteArray.size_append, ByteArray.size_extract, szl_0_, szl_1_, szl_2_, szl_3_, szl_4_, szl_5_, szl_6_] at *; omega)])
                                                  rotate_left
                                                  · simp only [Act.put, List.setIfInBounds_toArray, List.set_cons_zero, List.set_cons_succ, i64_w, i32_w]
                                                    rfl
                                                  refine done_ (done_of HT_.out (by kernel_rfl)) ?_
                                                  obtain ⟨Ao115, co115, eo115⟩ := Kd.R_slice HO_5.out
                                                  subst eo115
                                                  have q116 : (x9_11 : Int) ≤ ((x5_1.length : Int) : Int) := of_decide_eq_true (by first | (with_reducible assumption) | assumption)
                                                  obtain ⟨i0116, hi0116, _, hsz116, _⟩ := info_parts info3
                                                  have hcut116 := cut_to (P := Tryd.prog) 49 3 .i64 Tryd.underlying49 hi0116 Ao115 x5_1.length co115 x9_11 (of_decide_eq_true (by first | (with_reducible assumption) | assumption)) q116 (Kd.R_reads' HO_5.out).2.1
                                                  have hr116 := Kd.R_take (m := (x9_11 : Int).toNat) HO_5.out (by omega)
                                                  have hy116 : y336.length = (x9_11 : Int).toNat := (by rw [Ny336.out, List.length_take]; omega)
                                                  rw [← Ny336.out] at hr116
                                                  rw [← hy116] at hr116 hcut116
                                                  clear hy116 hi0116 hsz116 HO_5
                                                  have HO338 := Aside0.mk hr116
                                                  clear hr116
                                                  replace q116 := eq_true q116
                                                  obtain ⟨Ao117, co117, eo117⟩ := Kd.R_slice HO_4.out
                                                  subst eo117
                                                  try go_wp2_with (first | ((with_reducible refine gate_builtin (b := .append) (xs := #[.tmp 126, .tmp 129]) rfl ?_); (try (refine gate_guard (by rfl) ?_; dsimp only)); at_builtin; refine Kd.R_append (Kd.int .i64) (w0 := w) w.heap.size rfl (.tmp 126) (.tmp 129) 49 3 (.int .i64 0) 8 rfl Tryd.underlying49 info3 rfl (by decide) (by omega) (.slice Ao115 y336.length co115) y336 (x4_1.length : Int) [.int .i64 (x4_1.length : Int)] (fun k_ => some k_ ≠ (v334 : Value).ownBlock) (fun _ => False) rfl rfl ?aP (fun _ hk => hk.elim) ?aF ?aO ?aB ?aS ?aL ?_; (case aP => exact rfl); (case aB => exact (by repeat (first | (with_reducible first | exact HB.out | apply below_alloc | apply pw_below_drewN | apply below_drew1 | refine below_set ?_ GE297.out | refine below_set ?_ GE298.out) | exact HB.out))); (case aF => exact (fun k_ hk => Kd.fresh' (Kd.R_lt (by (with_reducible repeat (first | apply Kd.R_alloc | apply Kd.R_drewN | apply Kd.R_drew)); exact HO335.out)) k_ hk)); (case aO => exact (by (with_reducible repeat (first | apply Kd.R_alloc | apply Kd.R_drewN | apply Kd.R_drew)); exact Kd.R_mono HO338.out (fun _ hk => by first | exact hk.2 | (have h_ := hk.2; cases Ao115 <;> exact h_)))); (case aS => exact (below_size (by repeat (first | (with_reducible first | exact HB.out | apply below_alloc | apply pw_below_drewN | apply below_drew1 | refine below_set ?_ GE297.out | refine below_set ?_ GE298.out) | exact HB.out)))); (case aL => have := LMc108.out; omega); intro v340 w118 ho hb hg hat; rw [← Ny339.out] at ho; have n0_ := Aside0.mk (Kd.R_over' (by (with_reducible repeat (first | apply Kd.R_alloc | apply Kd.R_drewN | apply Kd.R_drew)); exact HO_4.out) (Kd.R_typed (by (with_reducible repeat (first | apply Kd.R_alloc | apply Kd.R_drewN | apply Kd.R_drew)); exact HO338.out)) (by decide) hg); have n1_ := Aside0.mk (blk_grown (g := gb297) (o := .cells #[.int .i64 x298000_36, .int .i64 x298001_36] 29 (0, 0)) (by (with_reducible repeat (first | refine blk_drewN ?_ _ | refine blk_drew ?_ | refine blk_alloc ?_ _)); exact BK297.out) hg (Kd.R_ne HO338.out BK297.out (by decide))); have n2_ := Aside0.mk (blk_grown (g := gb298) (o := .cells #[.string x299000_11, .int .i64 x299001_11, .int .i64 x299002_11, .int .i64 x299003_11] 37 (0, 0)) (by (with_reducible repeat (first | refine blk_drewN ?_ _ | refine blk_drew ?_ | refine blk_alloc ?_ _)); exact BK298.out) hg (Kd.R_ne HO338.out BK298.out (by decide))); have n3_ := Aside0.mk (Kd.R_after (ok := (fun _ => True)) (by (with_reducible repeat (first | apply Kd.R_alloc | apply Kd.R_drewN | apply Kd.R_drew)); exact Kd.R_mono HO335.out (fun _ hk => ⟨trivial, by first | exact hk | (cases Ao115 <;> exact hk)⟩)) hg hat); have n4_ := Aside0.mk (hb); have n5_ := Aside0.mk (ho); clear HO_4; clear BK297; clear BK298; clear HO335; clear HB; clear HO338; have HO_4 := n0_; have BK297 := n1_; have BK298 := n2_; have HO335 := n3_; have HB := n4_; have HO341 := n5_; clear n0_ n1_ n2_ n3_ n4_ n5_; clear ho hb hg hat; have hcz119_0 : w118.cell? ⟨gb298, 0, none⟩ = some (.string x299000_11) := (blk_cell BK298.out 0).trans rfl; have hcz119_1 : w118.cell? ⟨gb298, 1, none⟩ = some (.int .i64 x299001_11) := (blk_cell BK298.out 1).trans rfl; have hcz119_2 : w118.cell? ⟨gb298, 2, none⟩ = some (.int .i64 x299002_11) := (blk_cell BK298.out 2).trans rfl; have hcz119_3 : w118.cell? ⟨gb298, 3, none⟩ = some (.int .i64 x299003_11) := (blk_cell BK298.out 3).trans rfl; have hfz119_0 := blk_frozen BK298.out 0; have hfz119_1 := blk_frozen BK298.out 1; have hfz119_2 := blk_frozen BK298.out 2; have hfz119_3 := blk_frozen BK298.out 3) | ((with_reducible refine gate_builtin (b := .append) (xs := #[.tmp 131, .tmp 133]) rfl ?_); (try (refine gate_guard (by rfl) ?_; dsimp only)); at_builtin; refine Kd.R_append k37 (w0 := w) w.heap.size rfl (.tmp 131) (.tmp 133) 22 37 (.agg #[(.string ⟨#[]⟩), (.int .i64 0), (.int .i64 0), (.int .i64 0)]) 40 rfl Tryd.underlying22 info37 rfl (by decide) (by omega) (.slice Ao117 x4_1.length co117) x4_1 (⟨x299000_11, x299001_11, x299002_11, x299003_11⟩ : S37) [.string x299000_11, .int .i64 x299001_11, .int .i64 x299002_11, .int .i64 x299003_11] (fun k_ => k_ ≠ gb298) (fun _ => False) rfl rfl ?aP (fun _ hk => hk.elim) ?aF ?aO ?aB ?aS ?aL ?_; (case aP => exact k37_mkM _ _ _ (⟨x299000_11, x299001_11, x299002_11, x299003_11⟩ : S37)); (case aB => exact (by repeat (first | (with_reducible first | exact HB.out | apply below_alloc | apply pw_below_drewN | apply below_drew1 | refine below_set ?_ GE297.out | refine below_set ?_ GE298.out) | exact HB.out))); (case aF => exact (fun k_ hk => Kd.freshB (g := gb298) (o := .cells #[.string x299000_11, .int .i64 x299001_11, .int .i64 x299002_11, .int .i64 x299003_11] 37 (0, 0)) (by (with_reducible repeat (first | refine blk_drewN ?_ _ | refine blk_drew ?_ | refine blk_alloc ?_ _)); exact BK298.out) k_ hk)); (case aO => exact (by (with_reducible repeat (first | apply Kd.R_alloc | apply Kd.R_drewN | apply Kd.R_drew)); exact HO_4.out)); (case aS => exact (below_size (by repeat (first | (with_reducible first | exact HB.out | apply below_alloc | apply pw_below_drewN | apply below_drew1 | refine below_set ?_ GE297.out | refine below_set ?_ GE298.out) | exact HB.out)))); (case aL => have := LMc109.out; omega); intro v343 w120 ho hb hg hat; rw [← Ny342.out] at ho; have n0_ := Aside0.mk (blk_grown (g := gb297) (o := .cells #[.int .i64 x298000_36, .int .i64 x298001_36] 29 (0, 0)) (by (with_reducible repeat (first | refine blk_drewN ?_ _ | refine blk_drew ?_ | refine blk_alloc ?_ _)); exact BK297.out) hg (Kd.R_ne HO_4.out BK297.out (by decide))); have n1_ := Aside0.mk (blk_grown (g := gb298) (o := .cells #[.string x299000_11, .int .i64 x299001_11, .int .i64 x299002_11, .int .i64 x299003_11] 37 (0, 0)) (by (with_reducible repeat (first | refine blk_drewN ?_ _ | refine blk_drew ?_ | refine blk_alloc ?_ _)); exact BK298.out) hg (Kd.R_away HO_4.out (fun _ hk => hk))); have n2_ := Aside0.mk (Kd.R_over' (by (with_reducible repeat (first | apply Kd.R_alloc | apply Kd.R_drewN | apply Kd.R_drew)); exact HO335.out) (Kd.R_typed (by (with_reducible repeat (first | apply Kd.R_alloc | apply Kd.R_drewN | apply Kd.R_drew)); exact HO_4.out)) (by decide) hg); have n3_ := Aside0.mk (Kd.R_over' (by (with_reducible repeat (first | apply Kd.R_alloc | apply Kd.R_drewN | apply Kd.R_drew)); exact HO341.out) (Kd.R_typed (by (with_reducible repeat (first | apply Kd.R_alloc | apply Kd.R_drewN | apply Kd.R_drew)); exact HO_4.out)) (by decide) hg); have n4_ := Aside0.mk (hb); have n5_ := Aside0.mk (ho); clear BK297; clear BK298; clear HO335; clear HO341; clear HB; clear HO_4; have BK297 := n0_; have BK298 := n1_; have HO335 := n2_; have HO341 := n3_; have HB := n4_; have HO344 := n5_; clear n0_ n1_ n2_ n3_ n4_ n5_; clear ho hb hg hat))
                                                  go_roundg kj36
                                                  case measure => have := HK1.out; have := HJ6.out; have := HJ11.out; have := HJ23.out; have := HJ36.out; omega
                                                  case rel => exact ⟨(y342), (y339), (y333), (wrap64 (x8_6 + 1)), (x298000_36), (x298001_36), (by first | rfl | (simp; done) | (simp [*]; done)), H', ⟨by have := HK1.out; have := HJ6.out; have := HJ11.out; have := HJ23.out; have := HJ36.out; omega⟩, ⟨by (with_reducible repeat (first | apply Kd.R_alloc | apply Kd.R_drewN | apply Kd.R_drew)); exact Kd.R_mono HO344.out (fun _ hk => trivial)⟩, ⟨by (with_reducible repeat (first | apply Kd.R_alloc | apply Kd.R_drewN | apply Kd.R_drew)); exact HO341.out⟩, ⟨by (with_reducible repeat (first | apply Kd.R_alloc | apply Kd.R_drewN | apply Kd.R_drew)); exact Kd.R_mono HO335.out (fun _ hk => hk.2)⟩, ⟨by (with_reducible repeat (first | refine blk_drewN ?_ _ | refine blk_drew ?_ | refine blk_alloc ?_ _)); exact BK297.out⟩, ⟨by repeat (first | (with_reducible first | exact HB.out | apply below_alloc | apply pw_below_drewN | apply below_drew1 | refine below_set ?_ GE297.out | refine below_set ?_ GE298.out) | exact HB.out)⟩⟩
                                                · rw [if_neg c109] at H
                                                  exact absurd H (by simp)
                                              · rw [if_neg c108] at H
                                                exact absurd H (by simp)
                                            · rw [if_neg c107] at H
                                              exact absurd H (by simp)
                                          · rw [if_neg c106] at H
                                            exact absurd H (by simp)
                                        · rw [if_neg c105] at H
                                          exact absurd H (by simp)
                                      · rw [if_neg c104] at H
                                        exact absurd H (by simp)
                            · rw [if_neg c36] at H
                              exact absurd H (by simp)
                          · rw [if_neg c35] at H
                            exact absurd H (by simp)
                        · rw [if_neg c34] at H
                          exact absurd H (by simp)
        · rw [if_neg c6] at H
          have c6b0 : decide (x7_1 < (a0.size : Int)) = false := decide_eq_false c6
          clear c6
          simp only [Option.some.injEq, Prod.mk.injEq] at H
          obtain ⟨rfl, rfl, rfl⟩ := H
          have hcz121_0 : wr.cell? ⟨gb297, 0, none⟩ = some (.int .i64 x298000_1) := (blk_cell BK297.out 0).trans rfl
          have hcz121_1 : wr.cell? ⟨gb297, 1, none⟩ = some (.int .i64 x298001_1) := (blk_cell BK297.out 1).trans rfl
          have hfz121_0 := blk_frozen BK297.out 0
          have hfz121_1 := blk_frozen BK297.out 1
          go_wp2
          refine bodyPost_ret (results_tc rfl _ _ gb297 29 #[.int .i64 0, .int .i64 0] (0, 0) _ rfl (by (with_reducible repeat (first | refine blk_drewN ?_ _ | refine blk_drew ?_ | refine blk_alloc ?_ _)); refine blk_put (cs := #[.int .i64 0, .int .i64 x298001_1]) ?_ 1 _ rfl; (with_reducible repeat (first | refine blk_drewN ?_ _ | refine blk_drew ?_ | refine blk_alloc ?_ _)); refine blk_put (cs := #[.int .i64 x298000_1, .int .i64 x298001_1]) ?_ 0 _ rfl; (with_reducible repeat (first | refine blk_drewN ?_ _ | refine blk_drew ?_ | refine blk_alloc ?_ _)); exact BK297.out) Tryd.underlying29 rfl (by kernel_rfl)) rfl ?_
          exact ⟨_, by first | rfl | (simp [errW_none, errW_some] <;> rfl) | (simp [*, errW_none, errW_some] <;> rfl), by (with_reducible repeat (first | apply Kd.R_alloc | apply Kd.R_drewN | apply Kd.R_drew)); exact Kd.R_mono (Kd.R_far (p := ⟨gb297, 1, none⟩) (Kd.R_far (p := ⟨gb297, 0, none⟩) (Kd.R_types HO_4.out BK297.out (by decide)) (fun _ hk => hk.2) (.int .i64 0)) (fun _ hk => hk.2) (.int .i64 0)) (fun _ hk => trivial), by repeat (first | (with_reducible first | exact HB.out | apply below_alloc | apply pw_below_drewN | apply below_drew1 | refine below_set ?_ GE297.out) | exact HB.out)⟩

end Go.Proofs.YtkebableanenkaaDoor.Qall
