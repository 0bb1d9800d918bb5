-- WRITTEN BY A PROGRAM OF THIS SESSION (wip/tools/myprint.py, over the kit's print); Lean checks it.
import Derived.Test.YtkjckdgknbfaiaaQallx0
import Derived.Test.YtkjckdgknbfaiaaQallx4
import Derived.Test.YtkjckdgknbfaiaaQallx6
import Derived.Test.YtkjckdgknbfaiaaQallx7
namespace Go.Proofs.Ytkjckdgknbfaiaa.Qall
open Go.RowKit Go.Proofs.YtkjckdgknbfaiaaW.PrintWords Go.Proofs.YtkjckdgknbfaiaaW.PrintLast Go.Proofs.YtkjckdgknbfaiaaW.PrintMore
attribute [local go_sem] max2_int min2_int max_two min_two max_three min_three max_four min_four   -- for this text's walks alone
set_option linter.unusedVariables false
set_option linter.unusedSimpArgs false

/-! ### dowelref02_Excerpt: function 25 -/
mutual
def dowelref02_Excerpt.j0 : Nat → ByteArray → Int → Bool → Int → Int → Int → Option (ByteArray × Int)
  | 0, _, _, _, _, _, _ => none
  | k + 1, x0, x2, x33, x205000, x205001, x205002 => if x33 = true then (some ((⟨#[]⟩ : ByteArray), 5)) else ((dowelref02_Row.f k x0 x205000).bind fun bt205 => ((dowelref02_Chars.f k bt205.1).bind fun t207 => (if (wrap64 ((wrap64 ((t207.length : Int) - x2)) + 1)) < (wrap64 (x205002 - (wrap64 (Int.tdiv x2 2)))) then (dowelref02_Excerpt.j1 k x2 bt205.1 t207 (t207.length : Int) (wrap64 ((wrap64 ((t207.length : Int) - x2)) + 1)) x205000 x205001 x205002) else (dowelref02_Excerpt.j1 k x2 bt205.1 t207 (t207.length : Int) (wrap64 (x205002 - (wrap64 (Int.tdiv x2 2)))) x205000 x205001 x205002))))
def dowelref02_Excerpt.j1 : Nat → Int → ByteArray → List (S31) → Int → Int → Int → Int → Int → Option (ByteArray × Int)
  | 0, _, _, _, _, _, _, _, _ => none
  | k + 1, x2, x10, x12, x13, x14, x205000, x205001, x205002 => if x14 < 1 then (dowelref02_Excerpt.j2 k x2 x10 x12 x13 1 x205000 x205001 x205002) else (dowelref02_Excerpt.j2 k x2 x10 x12 x13 x14 x205000 x205001 x205002)
def dowelref02_Excerpt.j2 : Nat → Int → ByteArray → List (S31) → Int → Int → Int → Int → Int → Option (ByteArray × Int)
  | 0, _, _, _, _, _, _, _, _ => none
  | k + 1, x2, x10, x12, x13, x14, x205000, x205001, x205002 => dowelref02_Excerpt.l0 k x2 x10 x12 x13 x14 (⟨#[]⟩ : ByteArray) x14 x205000 x205001 x205002
def dowelref02_Excerpt.l0 : Nat → Int → ByteArray → List (S31) → Int → Int → ByteArray → Int → Int → Int → Int → Option (ByteArray × Int)
  | 0, _, _, _, _, _, _, _, _, _, _ => none
  | k + 1, x2, x10, x12, x13, x14, x15, x16, x205000, x205001, x205002 => if x16 ≤ x13 then (dowelref02_Excerpt.j4 k x2 x10 x12 x13 x14 x15 x16 (decide (x16 < (wrap64 (x14 + x2)))) x205000 x205001 x205002) else (dowelref02_Excerpt.j4 k x2 x10 x12 x13 x14 x15 x16 false x205000 x205001 x205002)
def dowelref02_Excerpt.j4 : Nat → Int → ByteArray → List (S31) → Int → Int → ByteArray → Int → Bool → Int → Int → Int → Option (ByteArray × Int)
  | 0, _, _, _, _, _, _, _, _, _, _, _ => none
  | k + 1, x2, x10, x12, x13, x14, x15, x16, x72, x205000, x205001, x205002 => if x72 = true then (if x16 = x14 then (dowelref02_Excerpt.j5 k x2 x10 x12 x13 x14 x15 x16 (decide (x14 > 1)) x205000 x205001 x205002) else (dowelref02_Excerpt.j5 k x2 x10 x12 x13 x14 x15 x16 false x205000 x205001 x205002)) else (if x15.size + 1 ≤ 9223372036854775807 then (dowelref02_Excerpt.l1 k (x15 ++ (⟨#[10]⟩ : ByteArray)) x14 x205000 x205001 x205002) else (none))
def dowelref02_Excerpt.j5 : Nat → Int → ByteArray → List (S31) → Int → Int → ByteArray → Int → Bool → Int → Int → Int → Option (ByteArray × Int)
  | 0, _, _, _, _, _, _, _, _, _, _, _ => none
  | k + 1, x2, x10, x12, x13, x14, x15, x16, x84, x205000, x205001, x205002 => if x84 = true then (if x15.size + 1 ≤ 9223372036854775807 then (dowelref02_Excerpt.l0 k x2 x10 x12 x13 x14 (x15 ++ (⟨#[60]⟩ : ByteArray)) (wrap64 (x16 + 1)) x205000 x205001 x205002) else (none)) else (if x16 = (wrap64 ((wrap64 (x14 + x2)) - 1)) then (if x16 < x13 then (if x15.size + 1 ≤ 9223372036854775807 then (dowelref02_Excerpt.l0 k x2 x10 x12 x13 x14 (x15 ++ (⟨#[62]⟩ : ByteArray)) (wrap64 (x16 + 1)) x205000 x205001 x205002) else (none)) else (if 0 ≤ (wrap64 (x16 - 1)) then (if (wrap64 (x16 - 1)) < (x12.length : Int) then ((dowelref02_shown.f x10 ((rd_T31 x12 (wrap64 (x16 - 1))).f0) ((rd_T31 x12 (wrap64 (x16 - 1))).f1) ((rd_T31 x12 (wrap64 (x16 - 1))).f2)).bind fun t211 => (if x15.size + t211.size ≤ 9223372036854775807 then (dowelref02_Excerpt.l0 k x2 x10 x12 x13 x14 (x15 ++ t211) (wrap64 (x16 + 1)) x205000 x205001 x205002) else (none))) else (none)) else (none))) else (if 0 ≤ (wrap64 (x16 - 1)) then (if (wrap64 (x16 - 1)) < (x12.length : Int) then ((dowelref02_shown.f x10 ((rd_T31 x12 (wrap64 (x16 - 1))).f0) ((rd_T31 x12 (wrap64 (x16 - 1))).f1) ((rd_T31 x12 (wrap64 (x16 - 1))).f2)).bind fun t213 => (if x15.size + t213.size ≤ 9223372036854775807 then (dowelref02_Excerpt.l0 k x2 x10 x12 x13 x14 (x15 ++ t213) (wrap64 (x16 + 1)) x205000 x205001 x205002) else (none))) else (none)) else (none)))
def dowelref02_Excerpt.l1 : Nat → ByteArray → Int → Int → Int → Int → Option (ByteArray × Int)
  | 0, _, _, _, _, _ => none
  | k + 1, x15, x17, x205000, x205001, x205002 => if x17 < x205002 then (if x15.size + 1 ≤ 9223372036854775807 then (dowelref02_Excerpt.l1 k (x15 ++ (⟨#[32]⟩ : ByteArray)) (wrap64 (x17 + 1)) x205000 x205001 x205002) else (none)) else (if x15.size + 2 ≤ 9223372036854775807 then (some (x15 ++ (⟨#[94, 10]⟩ : ByteArray), 0)) else (none))
end
def dowelref02_Excerpt.f (k : Nat) (a0 : ByteArray) (a1 : Int) (a2 : Int) : Option (ByteArray × Int) := (dowelref02_Spot.f k a0 a1).bind fun bt200 => (if bt200.2.2.2 = 0 then (if a2 < 8 then (dowelref02_Excerpt.j0 k a0 a2 true bt200.1 bt200.2.1 bt200.2.2.1) else (dowelref02_Excerpt.j0 k a0 a2 (decide (a2 > 200)) bt200.1 bt200.2.1 bt200.2.2.1)) else (dowelref02_Excerpt.j0 k a0 a2 true bt200.1 bt200.2.1 bt200.2.2.1))
theorem dowelref02_Excerpt.mono_l : ∀ k, (∀ y0 y1 y2 y3 y4 y5, LeO (dowelref02_Excerpt.j0 k y0 y1 y2 y3 y4 y5) (dowelref02_Excerpt.j0 (k + 1) y0 y1 y2 y3 y4 y5)) ∧ (∀ y0 y1 y2 y3 y4 y5 y6 y7, LeO (dowelref02_Excerpt.j1 k y0 y1 y2 y3 y4 y5 y6 y7) (dowelref02_Excerpt.j1 (k + 1) y0 y1 y2 y3 y4 y5 y6 y7)) ∧ (∀ y0 y1 y2 y3 y4 y5 y6 y7, LeO (dowelref02_Excerpt.j2 k y0 y1 y2 y3 y4 y5 y6 y7) (dowelref02_Excerpt.j2 (k + 1) y0 y1 y2 y3 y4 y5 y6 y7)) ∧ (∀ y0 y1 y2 y3 y4 y5 y6 y7 y8 y9, LeO (dowelref02_Excerpt.l0 k y0 y1 y2 y3 y4 y5 y6 y7 y8 y9) (dowelref02_Excerpt.l0 (k + 1) y0 y1 y2 y3 y4 y5 y6 y7 y8 y9)) ∧ (∀ y0 y1 y2 y3 y4 y5 y6 y7 y8 y9 y10, LeO (dowelref02_Excerpt.j4 k y0 y1 y2 y3 y4 y5 y6 y7 y8 y9 y10) (dowelref02_Excerpt.j4 (k + 1) y0 y1 y2 y3 y4 y5 y6 y7 y8 y9 y10)) ∧ (∀ y0 y1 y2 y3 y4 y5 y6 y7 y8 y9 y10, LeO (dowelref02_Excerpt.j5 k y0 y1 y2 y3 y4 y5 y6 y7 y8 y9 y10) (dowelref02_Excerpt.j5 (k + 1) y0 y1 y2 y3 y4 y5 y6 y7 y8 y9 y10)) ∧ (∀ y0 y1 y2 y3 y4, LeO (dowelref02_Excerpt.l1 k y0 y1 y2 y3 y4) (dowelref02_Excerpt.l1 (k + 1) y0 y1 y2 y3 y4))
  | 0 => ⟨fun _ _ _ _ _ _ r h => by simp [dowelref02_Excerpt.j0] at h, fun _ _ _ _ _ _ _ _ r h => by simp [dowelref02_Excerpt.j1] at h, fun _ _ _ _ _ _ _ _ r h => by simp [dowelref02_Excerpt.j2] at h, fun _ _ _ _ _ _ _ _ _ _ r h => by simp [dowelref02_Excerpt.l0] at h, fun _ _ _ _ _ _ _ _ _ _ _ r h => by simp [dowelref02_Excerpt.j4] at h, fun _ _ _ _ _ _ _ _ _ _ _ r h => by simp [dowelref02_Excerpt.j5] at h, fun _ _ _ _ _ r h => by simp [dowelref02_Excerpt.l1] at h⟩
  | k + 1 => by
    obtain ⟨ih0, ih1, ih2, ih3, ih4, ih5, ih6⟩ := dowelref02_Excerpt.mono_l k
    refine ⟨?_, ?_, ?_, ?_, ?_, ?_, ?_⟩
    · intro y0 y1 y2 y3 y4 y5
      unfold dowelref02_Excerpt.j0
      repeat' first
      | (with_reducible exact ih0 _ _ _ _ _ _)
      | (with_reducible exact ih1 _ _ _ _ _ _ _ _)
      | (with_reducible exact ih2 _ _ _ _ _ _ _ _)
      | (with_reducible exact ih3 _ _ _ _ _ _ _ _ _ _)
      | (with_reducible exact ih4 _ _ _ _ _ _ _ _ _ _ _)
      | (with_reducible exact ih5 _ _ _ _ _ _ _ _ _ _ _)
      | (with_reducible exact ih6 _ _ _ _ _)
      | (with_reducible exact dowelref02_Chars.mono _ _)
      | (with_reducible exact dowelref02_Row.mono _ _ _)
      | (with_reducible exact dowelref02_Spot.mono _ _ _)
      | (with_reducible exact LeO.refl _)
      | (with_reducible exact LeO.none _)
      | (with_reducible refine LeO.ite ?_ ?_)
      | (with_reducible refine LeO.bind ?_ (fun _ => ?_))
      | exact ih0 _ _ _ _ _ _
      | exact ih1 _ _ _ _ _ _ _ _
      | exact ih2 _ _ _ _ _ _ _ _
      | exact ih3 _ _ _ _ _ _ _ _ _ _
      | exact ih4 _ _ _ _ _ _ _ _ _ _ _
      | exact ih5 _ _ _ _ _ _ _ _ _ _ _
      | exact ih6 _ _ _ _ _
      | exact dowelref02_Chars.mono _ _
      | exact dowelref02_Row.mono _ _ _
      | exact dowelref02_Spot.mono _ _ _
      | exact LeO.none _
      | refine LeO.ite ?_ ?_
      | refine LeO.bind ?_ (fun _ => ?_)
    · intro y0 y1 y2 y3 y4 y5 y6 y7
      unfold dowelref02_Excerpt.j1
      repeat' first
      | (with_reducible exact ih0 _ _ _ _ _ _)
      | (with_reducible exact ih1 _ _ _ _ _ _ _ _)
      | (with_reducible exact ih2 _ _ _ _ _ _ _ _)
      | (with_reducible exact ih3 _ _ _ _ _ _ _ _ _ _)
      | (with_reducible exact ih4 _ _ _ _ _ _ _ _ _ _ _)
      | (with_reducible exact ih5 _ _ _ _ _ _ _ _ _ _ _)
      | (with_reducible exact ih6 _ _ _ _ _)
      | (with_reducible exact dowelref02_Chars.mono _ _)
      | (with_reducible exact dowelref02_Row.mono _ _ _)
      | (with_reducible exact dowelref02_Spot.mono _ _ _)
      | (with_reducible exact LeO.refl _)
      | (with_reducible exact LeO.none _)
      | (with_reducible refine LeO.ite ?_ ?_)
      | (with_reducible refine LeO.bind ?_ (fun _ => ?_))
      | exact ih0 _ _ _ _ _ _
      | exact ih1 _ _ _ _ _ _ _ _
      | exact ih2 _ _ _ _ _ _ _ _
      | exact ih3 _ _ _ _ _ _ _ _ _ _
      | exact ih4 _ _ _ _ _ _ _ _ _ _ _
      | exact ih5 _ _ _ _ _ _ _ _ _ _ _
      | exact ih6 _ _ _ _ _
      | exact dowelref02_Chars.mono _ _
      | exact dowelref02_Row.mono _ _ _
      | exact dowelref02_Spot.mono _ _ _
      | exact LeO.none _
      | refine LeO.ite ?_ ?_
      | refine LeO.bind ?_ (fun _ => ?_)
    · intro y0 y1 y2 y3 y4 y5 y6 y7
      unfold dowelref02_Excerpt.j2
      repeat' first
      | (with_reducible exact ih0 _ _ _ _ _ _)
      | (with_reducible exact ih1 _ _ _ _ _ _ _ _)
      | (with_reducible exact ih2 _ _ _ _ _ _ _ _)
      | (with_reducible exact ih3 _ _ _ _ _ _ _ _ _ _)
      | (with_reducible exact ih4 _ _ _ _ _ _ _ _ _ _ _)
      | (with_reducible exact ih5 _ _ _ _ _ _ _ _ _ _ _)
      | (with_reducible exact ih6 _ _ _ _ _)
      | (with_reducible exact dowelref02_Chars.mono _ _)
      | (with_reducible exact dowelref02_Row.mono _ _ _)
      | (with_reducible exact dowelref02_Spot.mono _ _ _)
      | (with_reducible exact LeO.refl _)
      | (with_reducible exact LeO.none _)
      | (with_reducible refine LeO.ite ?_ ?_)
      | (with_reducible refine LeO.bind ?_ (fun _ => ?_))
      | exact ih0 _ _ _ _ _ _
      | exact ih1 _ _ _ _ _ _ _ _
      | exact ih2 _ _ _ _ _ _ _ _
      | exact ih3 _ _ _ _ _ _ _ _ _ _
      | exact ih4 _ _ _ _ _ _ _ _ _ _ _
      | exact ih5 _ _ _ _ _ _ _ _ _ _ _
      | exact ih6 _ _ _ _ _
      | exact dowelref02_Chars.mono _ _
      | exact dowelref02_Row.mono _ _ _
      | exact dowelref02_Spot.mono _ _ _
      | exact LeO.none _
      | refine LeO.ite ?_ ?_
      | refine LeO.bind ?_ (fun _ => ?_)
    · intro y0 y1 y2 y3 y4 y5 y6 y7 y8 y9
      unfold dowelref02_Excerpt.l0
      repeat' first
      | (with_reducible exact ih0 _ _ _ _ _ _)
      | (with_reducible exact ih1 _ _ _ _ _ _ _ _)
      | (with_reducible exact ih2 _ _ _ _ _ _ _ _)
      | (with_reducible exact ih3 _ _ _ _ _ _ _ _ _ _)
      | (with_reducible exact ih4 _ _ _ _ _ _ _ _ _ _ _)
      | (with_reducible exact ih5 _ _ _ _ _ _ _ _ _ _ _)
      | (with_reducible exact ih6 _ _ _ _ _)
      | (with_reducible exact dowelref02_Chars.mono _ _)
      | (with_reducible exact dowelref02_Row.mono _ _ _)
      | (with_reducible exact dowelref02_Spot.mono _ _ _)
      | (with_reducible exact LeO.refl _)
      | (with_reducible exact LeO.none _)
      | (with_reducible refine LeO.ite ?_ ?_)
      | (with_reducible refine LeO.bind ?_ (fun _ => ?_))
      | exact ih0 _ _ _ _ _ _
      | exact ih1 _ _ _ _ _ _ _ _
      | exact ih2 _ _ _ _ _ _ _ _
      | exact ih3 _ _ _ _ _ _ _ _ _ _
      | exact ih4 _ _ _ _ _ _ _ _ _ _ _
      | exact ih5 _ _ _ _ _ _ _ _ _ _ _
      | exact ih6 _ _ _ _ _
      | exact dowelref02_Chars.mono _ _
      | exact dowelref02_Row.mono _ _ _
      | exact dowelref02_Spot.mono _ _ _
      | exact LeO.none _
      | refine LeO.ite ?_ ?_
      | refine LeO.bind ?_ (fun _ => ?_)
    · intro y0 y1 y2 y3 y4 y5 y6 y7 y8 y9 y10
      unfold dowelref02_Excerpt.j4
      repeat' first
      | (with_reducible exact ih0 _ _ _ _ _ _)
      | (with_reducible exact ih1 _ _ _ _ _ _ _ _)
      | (with_reducible exact ih2 _ _ _ _ _ _ _ _)
      | (with_reducible exact ih3 _ _ _ _ _ _ _ _ _ _)
      | (with_reducible exact ih4 _ _ _ _ _ _ _ _ _ _ _)
      | (with_reducible exact ih5 _ _ _ _ _ _ _ _ _ _ _)
      | (with_reducible exact ih6 _ _ _ _ _)
      | (with_reducible exact dowelref02_Chars.mono _ _)
      | (with_reducible exact dowelref02_Row.mono _ _ _)
      | (with_reducible exact dowelref02_Spot.mono _ _ _)
      | (with_reducible exact LeO.refl _)
      | (with_reducible exact LeO.none _)
      | (with_reducible refine LeO.ite ?_ ?_)
      | (with_reducible refine LeO.bind ?_ (fun _ => ?_))
      | exact ih0 _ _ _ _ _ _
      | exact ih1 _ _ _ _ _ _ _ _
      | exact ih2 _ _ _ _ _ _ _ _
      | exact ih3 _ _ _ _ _ _ _ _ _ _
      | exact ih4 _ _ _ _ _ _ _ _ _ _ _
      | exact ih5 _ _ _ _ _ _ _ _ _ _ _
      | exact ih6 _ _ _ _ _
      | exact dowelref02_Chars.mono _ _
      | exact dowelref02_Row.mono _ _ _
      | exact dowelref02_Spot.mono _ _ _
      | exact LeO.none _
      | refine LeO.ite ?_ ?_
      | refine LeO.bind ?_ (fun _ => ?_)
    · intro y0 y1 y2 y3 y4 y5 y6 y7 y8 y9 y10
      unfold dowelref02_Excerpt.j5
      repeat' first
      | (with_reducible exact ih0 _ _ _ _ _ _)
      | (with_reducible exact ih1 _ _ _ _ _ _ _ _)
      | (with_reducible exact ih2 _ _ _ _ _ _ _ _)
      | (with_reducible exact ih3 _ _ _ _ _ _ _ _ _ _)
      | (with_reducible exact ih4 _ _ _ _ _ _ _ _ _ _ _)
      | (with_reducible exact ih5 _ _ _ _ _ _ _ _ _ _ _)
      | (with_reducible exact ih6 _ _ _ _ _)
      | (with_reducible exact dowelref02_Chars.mono _ _)
      | (with_reducible exact dowelref02_Row.mono _ _ _)
      | (with_reducible exact dowelref02_Spot.mono _ _ _)
      | (with_reducible exact LeO.refl _)
      | (with_reducible exact LeO.none _)
      | (with_reducible refine LeO.ite ?_ ?_)
      | (with_reducible refine LeO.bind ?_ (fun _ => ?_))
      | exact ih0 _ _ _ _ _ _
      | exact ih1 _ _ _ _ _ _ _ _
      | exact ih2 _ _ _ _ _ _ _ _
      | exact ih3 _ _ _ _ _ _ _ _ _ _
      | exact ih4 _ _ _ _ _ _ _ _ _ _ _
      | exact ih5 _ _ _ _ _ _ _ _ _ _ _
      | exact ih6 _ _ _ _ _
      | exact dowelref02_Chars.mono _ _
      | exact dowelref02_Row.mono _ _ _
      | exact dowelref02_Spot.mono _ _ _
      | exact LeO.none _
      | refine LeO.ite ?_ ?_
      | refine LeO.bind ?_ (fun _ => ?_)
    · intro y0 y1 y2 y3 y4
      unfold dowelref02_Excerpt.l1
      repeat' first
      | (with_reducible exact ih0 _ _ _ _ _ _)
      | (with_reducible exact ih1 _ _ _ _ _ _ _ _)
      | (with_reducible exact ih2 _ _ _ _ _ _ _ _)
      | (with_reducible exact ih3 _ _ _ _ _ _ _ _ _ _)
      | (with_reducible exact ih4 _ _ _ _ _ _ _ _ _ _ _)
      | (with_reducible exact ih5 _ _ _ _ _ _ _ _ _ _ _)
      | (with_reducible exact ih6 _ _ _ _ _)
      | (with_reducible exact dowelref02_Chars.mono _ _)
      | (with_reducible exact dowelref02_Row.mono _ _ _)
      | (with_reducible exact dowelref02_Spot.mono _ _ _)
      | (with_reducible exact LeO.refl _)
      | (with_reducible exact LeO.none _)
      | (with_reducible refine LeO.ite ?_ ?_)
      | (with_reducible refine LeO.bind ?_ (fun _ => ?_))
      | exact ih0 _ _ _ _ _ _
      | exact ih1 _ _ _ _ _ _ _ _
      | exact ih2 _ _ _ _ _ _ _ _
      | exact ih3 _ _ _ _ _ _ _ _ _ _
      | exact ih4 _ _ _ _ _ _ _ _ _ _ _
      | exact ih5 _ _ _ _ _ _ _ _ _ _ _
      | exact ih6 _ _ _ _ _
      | exact dowelref02_Chars.mono _ _
      | exact dowelref02_Row.mono _ _ _
      | exact dowelref02_Spot.mono _ _ _
      | exact LeO.none _
      | refine LeO.ite ?_ ?_
      | refine LeO.bind ?_ (fun _ => ?_)
theorem dowelref02_Excerpt.mono : ∀ a0 a1 a2 k, LeO (dowelref02_Excerpt.f k a0 a1 a2) (dowelref02_Excerpt.f (k + 1) a0 a1 a2) := by
  intro a0 a1 a2 k
  obtain ⟨ih0, ih1, ih2, ih3, ih4, ih5, ih6⟩ := dowelref02_Excerpt.mono_l k
  unfold dowelref02_Excerpt.f
  repeat' first
      | (with_reducible exact ih0 _ _ _ _ _ _)
      | (with_reducible exact ih1 _ _ _ _ _ _ _ _)
      | (with_reducible exact ih2 _ _ _ _ _ _ _ _)
      | (with_reducible exact ih3 _ _ _ _ _ _ _ _ _ _)
      | (with_reducible exact ih4 _ _ _ _ _ _ _ _ _ _ _)
      | (with_reducible exact ih5 _ _ _ _ _ _ _ _ _ _ _)
      | (with_reducible exact ih6 _ _ _ _ _)
      | (with_reducible exact dowelref02_Chars.mono _ _)
      | (with_reducible exact dowelref02_Row.mono _ _ _)
      | (with_reducible exact dowelref02_Spot.mono _ _ _)
      | (with_reducible exact LeO.refl _)
      | (with_reducible exact LeO.none _)
      | (with_reducible refine LeO.ite ?_ ?_)
      | (with_reducible refine LeO.bind ?_ (fun _ => ?_))
      | exact ih0 _ _ _ _ _ _
      | exact ih1 _ _ _ _ _ _ _ _
      | exact ih2 _ _ _ _ _ _ _ _
      | exact ih3 _ _ _ _ _ _ _ _ _ _
      | exact ih4 _ _ _ _ _ _ _ _ _ _ _
      | exact ih5 _ _ _ _ _ _ _ _ _ _ _
      | exact ih6 _ _ _ _ _
      | exact dowelref02_Chars.mono _ _
      | exact dowelref02_Row.mono _ _ _
      | exact dowelref02_Spot.mono _ _ _
      | exact LeO.none _
      | refine LeO.ite ?_ ?_
      | refine LeO.bind ?_ (fun _ => ?_)
set_option maxHeartbeats 8000000 in
set_option maxRecDepth 100000 in
theorem dowelref02_Excerpt.calls (k : Nat) (a0 : ByteArray) (a1 : Int) (a2 : Int) (r1 : ByteArray) (r2 : Int) (w : World) (h : dowelref02_Excerpt.f k a0 a1 a2 = some (r1, r2)) :
    Calls Try.prog 25 #[.string a0, .int .i64 a1, .int .i64 a2] w fun e w' => e = .returned (.tuple #[.string r1, .int .i64 r2]) ∧ Below w.heap.size w w' := by
  have hu23 := Try.underlying23
  have hu31 := Try.underlying31
  have HB := Aside0.mk (Below.refl w.heap.size w)
  have H : ((dowelref02_Spot.f k a0 a1).bind fun bt200 => (if bt200.2.2.2 = 0 then (if a2 < 8 then (dowelref02_Excerpt.j0 k a0 a2 true bt200.1 bt200.2.1 bt200.2.2.1) else (dowelref02_Excerpt.j0 k a0 a2 (decide (a2 > 200)) bt200.1 bt200.2.1 bt200.2.2.1)) else (dowelref02_Excerpt.j0 k a0 a2 true bt200.1 bt200.2.1 bt200.2.2.1))) = some (r1, r2) := h
  clear h
  replace H := Option.bind_eq_some_iff.mp H
  obtain ⟨⟨t200, t201, t202, t203⟩, A40, H⟩ := H
  replace H : (if t203 = 0 then (if a2 < 8 then (dowelref02_Excerpt.j0 k a0 a2 true t200 t201 t202) else (dowelref02_Excerpt.j0 k a0 a2 (decide (a2 > 200)) t200 t201 t202)) else (dowelref02_Excerpt.j0 k a0 a2 true t200 t201 t202)) = some (r1, r2) := H
  have A4 := Aside0.mk A40
  clear A40
  have HC5 := Aside0.mk H
  clear H
  go_enter Try.func25, Try.ntmps25
  go_upto_region 2 with (first | ((with_reducible refine gate_callee (f := 23) rfl ?_); refine goesL_ (some 21) rfl rfl Try.func23 (by kernel_rfl) rfl #[.string a0, .int .i64 a1] rfl (by (try simp only [List.map_toArray, List.map_cons, List.map_nil]); first | done | rfl | (simp only [List.length_drop, List.length_take]; rfl)) ?_; (with_reducible refine (dowelref02_Spot.calls k a0 a1 t200 t201 t202 t203 _ A4.out).mono ?_); rintro e w6 ⟨rfl, hb⟩; refine ⟨_, rfl, ?_⟩; have n0_ := Aside0.mk (below_step (by repeat (first | (with_reducible first | exact HB.out | apply below_alloc | apply pw_below_drewN | apply below_drew1) | exact HB.out)) hb); clear HB; have HB := n0_; clear n0_; (try clear hb); (try clear hb2); (try clear hk); (try clear hi)) | ((with_reducible refine gate_dst (N := 8) rfl ?_); refine box_event ?hg (N := 8) ?hd (cs := #[.int .i64 0, .int .i64 0, .int .i64 0]) (t := 23) ?hr ?_; (case hd => rfl); (case hg => rfl); (case hr => first | (go_simp; done) | (go_simp; rfl)); intro gb204 hg w7 hbox hb; have n0_ := Aside0.mk (below_step (by repeat (first | (with_reducible first | exact HB.out | apply below_alloc | apply pw_below_drewN | apply below_drew1) | exact HB.out)) hb); have n1_ := Aside0.mk (hbox); have n2_ := Aside0.mk ((by rw [hg]; exact (below_size (by repeat (first | (with_reducible first | exact HB.out | apply below_alloc | apply pw_below_drewN | apply below_drew1) | exact HB.out))) : w.heap.size ≤ gb204)); have n3_ := Aside0.mk ((by rw [hg]; exact (below_size (by repeat (first | (with_reducible first | exact HB.out | apply below_alloc | apply pw_below_drewN | apply below_drew1) | exact HB.out))) : w.heap.size ≤ gb204)); clear HB; have HB := n0_; have BK204 := n1_; have GW204 := n2_; have GE204 := n3_; clear n0_ n1_ n2_ n3_; clear hb hbox hg; have hcz8_0 : w7.cell? ⟨gb204, 0, none⟩ = some (.int .i64 0) := (blk_cell BK204.out 0).trans rfl; have hcz8_1 : w7.cell? ⟨gb204, 1, none⟩ = some (.int .i64 0) := (blk_cell BK204.out 1).trans rfl; have hcz8_2 : w7.cell? ⟨gb204, 2, none⟩ = some (.int .i64 0) := (blk_cell BK204.out 2).trans rfl; have hfz8_0 := blk_frozen BK204.out 0; have hfz8_1 := blk_frozen BK204.out 1; have hfz8_2 := blk_frozen BK204.out 2))
  (try simp only [Act.put, List.setIfInBounds_toArray, List.set_cons_zero, List.set_cons_succ])
  go_cut [33] (fun v33 wc => ∃ (kq : Nat) (x33_4 : Bool), v33 = .bool x33_4 ∧ Aside0 (dowelref02_Excerpt.j0 kq a0 a2 x33_4 t200 t201 t202 = some (r1, r2)) ∧ Aside0 (kq ≤ k) ∧ Aside0 (wc.heap[gb204]? = some (.cells #[.int .i64 t200, .int .i64 t201, .int .i64 t202] 23 (0, 0))) ∧ Aside0 (Below w.heap.size w wc))
  case first =>
    have H := HC5.out
    clear HC5
    by_cases c9 : t203 = 0
    · rw [if_pos c9] at H
      have c9b0 : (t203 == 0) = true := beq_iff_eq.mpr c9
      have c9b1 : (t203 != 0) = false := bne_eq_false_iff_eq.mpr c9
      clear c9
      (first | rw [c9b0] | (simp only [i64_w, i32_w]; rw [c9b0]) | skip)
      by_cases c10 : a2 < 8
      · rw [if_pos c10] at H
        have c10b0 : decide (a2 < 8) = true := decide_eq_true c10
        clear c10
        have H' := Aside0.mk H
        clear H
        go_wp2
        go_meet
        case rel => exact ⟨_, (true), (by first | rfl | (simp; done) | (simp [*]; done)), H', ⟨by first | omega | exact Nat.le_refl _⟩, ⟨by (with_reducible repeat (first | refine blk_drewN ?_ _ | refine blk_drew ?_ | refine blk_alloc ?_ _)); refine blk_put (cs := #[.int .i64 t200, .int .i64 t201, .int .i64 0]) ?_ 2 _ rfl; (with_reducible repeat (first | refine blk_drewN ?_ _ | refine blk_drew ?_ | refine blk_alloc ?_ _)); refine blk_put (cs := #[.int .i64 t200, .int .i64 0, .int .i64 0]) ?_ 1 _ rfl; (with_reducible repeat (first | refine blk_drewN ?_ _ | refine blk_drew ?_ | refine blk_alloc ?_ _)); refine blk_put (cs := #[.int .i64 0, .int .i64 0, .int .i64 0]) ?_ 0 _ rfl; (with_reducible repeat (first | refine blk_drewN ?_ _ | refine blk_drew ?_ | refine blk_alloc ?_ _)); exact BK204.out⟩, ⟨by repeat (first | (with_reducible first | exact HB.out | apply below_alloc | apply pw_below_drewN | apply below_drew1 | refine below_set ?_ GE204.out) | exact HB.out)⟩⟩
      · rw [if_neg c10] at H
        have c10b0 : decide (a2 < 8) = false := decide_eq_false c10
        clear c10
        have H' := Aside0.mk H
        clear H
        go_wp2
        go_meet
        case rel => exact ⟨_, (decide (a2 > 200)), (by first | rfl | (simp; done) | (simp [*]; done)), H', ⟨by first | omega | exact Nat.le_refl _⟩, ⟨by (with_reducible repeat (first | refine blk_drewN ?_ _ | refine blk_drew ?_ | refine blk_alloc ?_ _)); refine blk_put (cs := #[.int .i64 t200, .int .i64 t201, .int .i64 0]) ?_ 2 _ rfl; (with_reducible repeat (first | refine blk_drewN ?_ _ | refine blk_drew ?_ | refine blk_alloc ?_ _)); refine blk_put (cs := #[.int .i64 t200, .int .i64 0, .int .i64 0]) ?_ 1 _ rfl; (with_reducible repeat (first | refine blk_drewN ?_ _ | refine blk_drew ?_ | refine blk_alloc ?_ _)); refine blk_put (cs := #[.int .i64 0, .int .i64 0, .int .i64 0]) ?_ 0 _ rfl; (with_reducible repeat (first | refine blk_drewN ?_ _ | refine blk_drew ?_ | refine blk_alloc ?_ _)); exact BK204.out⟩, ⟨by repeat (first | (with_reducible first | exact HB.out | apply below_alloc | apply pw_below_drewN | apply below_drew1 | refine below_set ?_ GE204.out) | exact HB.out)⟩⟩
    · rw [if_neg c9] at H
      have c9b0 : (t203 == 0) = false := beq_eq_false_iff_ne.mpr c9
      have c9b1 : (t203 != 0) = true := bne_iff_ne.mpr c9
      (first | rw [c9b0] | (simp only [i64_w, i32_w]; rw [c9b0]) | skip)
      have H' := Aside0.mk H
      clear H
      go_wp2
      go_meet
      case rel => exact ⟨_, (true), (by first | rfl | (simp; done) | (simp [*]; done)), H', ⟨by first | omega | exact Nat.le_refl _⟩, ⟨by (with_reducible repeat (first | refine blk_drewN ?_ _ | refine blk_drew ?_ | refine blk_alloc ?_ _)); refine blk_put (cs := #[.int .i64 t200, .int .i64 t201, .int .i64 0]) ?_ 2 _ rfl; (with_reducible repeat (first | refine blk_drewN ?_ _ | refine blk_drew ?_ | refine blk_alloc ?_ _)); refine blk_put (cs := #[.int .i64 t200, .int .i64 0, .int .i64 0]) ?_ 1 _ rfl; (with_reducible repeat (first | refine blk_drewN ?_ _ | refine blk_drew ?_ | refine blk_alloc ?_ _)); refine blk_put (cs := #[.int .i64 0, .int .i64 0, .int .i64 0]) ?_ 0 _ rfl; (with_reducible repeat (first | refine blk_drewN ?_ _ | refine blk_drew ?_ | refine blk_alloc ?_ _)); exact BK204.out⟩, ⟨by repeat (first | (with_reducible first | exact HB.out | apply below_alloc | apply pw_below_drewN | apply below_drew1 | refine below_set ?_ GE204.out) | exact HB.out)⟩⟩
  case rest =>
    clear HC5
    try clear c1
    try clear c2
    try clear p2
    try clear c9
    try clear c9b0
    try clear c9b1
    try clear c10
    try clear c10b0
    try clear hcz8_0
    try clear hcz8_1
    try clear hcz8_2
    try clear hfz8_0
    try clear hfz8_1
    try clear hfz8_2
    obtain ⟨kq, x33_4, rfl, HA, HJ4, BK204, HB⟩ := hcut
    cases kq with
    | zero => exact absurd HA.out (by simp [dowelref02_Excerpt.j0])
    | succ kj4 =>
      have H := HA.out
      clear HA
      simp only [dowelref02_Excerpt.j0] at H
      by_cases c11 : x33_4 = true
      · subst c11
        have H1 : (some ((⟨#[]⟩ : ByteArray), 5)) = some (r1, r2) := by rw [if_pos rfl] at H; exact H
        clear H
        have H := H1
        clear H1
        simp only [Option.some.injEq, Prod.mk.injEq] at H
        obtain ⟨rfl, rfl⟩ := H
        go_wp2
        go_ret2
        exact ⟨by first | rfl | (simp [errW_none, errW_some] <;> rfl) | (simp [*, errW_none, errW_some] <;> rfl), by repeat (first | (with_reducible first | exact HB.out | apply below_alloc | apply pw_below_drewN | apply below_drew1 | refine below_set ?_ GE204.out) | exact HB.out)⟩
      · replace c11 := Bool.eq_false_iff.mpr c11
        subst c11
        have H1 : ((dowelref02_Row.f kj4 a0 t200).bind fun bt205 => ((dowelref02_Chars.f kj4 bt205.1).bind fun t207 => (if (wrap64 ((wrap64 ((t207.length : Int) - a2)) + 1)) < (wrap64 (t202 - (wrap64 (Int.tdiv a2 2)))) then (dowelref02_Excerpt.j1 kj4 a2 bt205.1 t207 (t207.length : Int) (wrap64 ((wrap64 ((t207.length : Int) - a2)) + 1)) t200 t201 t202) else (dowelref02_Excerpt.j1 kj4 a2 bt205.1 t207 (t207.length : Int) (wrap64 (t202 - (wrap64 (Int.tdiv a2 2)))) t200 t201 t202)))) = some (r1, r2) := by rw [if_neg (show ¬ (false = true) by decide)] at H; exact H
        clear H
        have H := H1
        clear H1
        replace H := Option.bind_eq_some_iff.mp H
        obtain ⟨⟨t205, t206⟩, A120, H⟩ := H
        replace H : ((dowelref02_Chars.f kj4 t205).bind fun t207 => (if (wrap64 ((wrap64 ((t207.length : Int) - a2)) + 1)) < (wrap64 (t202 - (wrap64 (Int.tdiv a2 2)))) then (dowelref02_Excerpt.j1 kj4 a2 t205 t207 (t207.length : Int) (wrap64 ((wrap64 ((t207.length : Int) - a2)) + 1)) t200 t201 t202) else (dowelref02_Excerpt.j1 kj4 a2 t205 t207 (t207.length : Int) (wrap64 (t202 - (wrap64 (Int.tdiv a2 2)))) t200 t201 t202))) = some (r1, r2) := H
        have A12 := Aside0.mk A120
        clear A120
        replace H := Option.bind_eq_some_iff.mp H
        obtain ⟨t207, A130, H⟩ := H
        replace H : (if (wrap64 ((wrap64 ((t207.length : Int) - a2)) + 1)) < (wrap64 (t202 - (wrap64 (Int.tdiv a2 2)))) then (dowelref02_Excerpt.j1 kj4 a2 t205 t207 (t207.length : Int) (wrap64 ((wrap64 ((t207.length : Int) - a2)) + 1)) t200 t201 t202) else (dowelref02_Excerpt.j1 kj4 a2 t205 t207 (t207.length : Int) (wrap64 (t202 - (wrap64 (Int.tdiv a2 2)))) t200 t201 t202)) = some (r1, r2) := H
        have A13 := Aside0.mk A130
        clear A130
        have HC14 := Aside0.mk H
        clear H
        have hcz15_0 : wc.cell? ⟨gb204, 0, none⟩ = some (.int .i64 t200) := (blk_cell BK204.out 0).trans rfl
        have hcz15_1 : wc.cell? ⟨gb204, 1, none⟩ = some (.int .i64 t201) := (blk_cell BK204.out 1).trans rfl
        have hcz15_2 : wc.cell? ⟨gb204, 2, none⟩ = some (.int .i64 t202) := (blk_cell BK204.out 2).trans rfl
        have hfz15_0 := blk_frozen BK204.out 0
        have hfz15_1 := blk_frozen BK204.out 1
        have hfz15_2 := blk_frozen BK204.out 2
        go_upto_if 55 with (first | ((with_reducible refine gate_callee (f := 21) rfl ?_); refine goesL_ (some 38) rfl rfl Try.func21 (by kernel_rfl) rfl #[.string a0, .int .i64 t200] rfl (by (try simp only [List.map_toArray, List.map_cons, List.map_nil]); first | done | rfl | (simp only [List.length_drop, List.length_take]; rfl)) ?_; (with_reducible refine (dowelref02_Row.calls kj4 a0 t200 t205 t206 _ A12.out).mono ?_); rintro e w16 ⟨rfl, hb⟩; refine ⟨_, rfl, ?_⟩; have n0_ := Aside0.mk (blk_below (g := gb204) (o := .cells #[.int .i64 t200, .int .i64 t201, .int .i64 t202] 23 (0, 0)) (by (with_reducible repeat (first | refine blk_drewN ?_ _ | refine blk_drew ?_ | refine blk_alloc ?_ _)); exact BK204.out) hb); have n1_ := Aside0.mk (below_step (by repeat (first | (with_reducible first | exact HB.out | apply below_alloc | apply pw_below_drewN | apply below_drew1 | refine below_set ?_ GE204.out) | exact HB.out)) hb); clear BK204; clear HB; have BK204 := n0_; have HB := n1_; clear n0_ n1_; (try clear hb); (try clear hb2); (try clear hk); (try clear hi)) | ((with_reducible refine gate_callee (f := 14) rfl ?_); refine goesL_ (some 42) rfl rfl Try.func14 (by kernel_rfl) rfl #[.string t205] rfl (by (try simp only [List.map_toArray, List.map_cons, List.map_nil]); first | done | rfl | (simp only [List.length_drop, List.length_take]; rfl)) ?_; (with_reducible refine (dowelref02_Chars.calls kj4 t205 t207 _ A13.out).mono ?_); rintro e w17 ⟨v208, rfl, ho0, hb⟩; refine ⟨_, rfl, ?_⟩; have n0_ := Aside0.mk (Kd.R_lower ho0 (below_size (by repeat (first | (with_reducible first | exact HB.out | apply below_alloc | apply pw_below_drewN | apply below_drew1 | refine below_set ?_ GE204.out) | exact HB.out)))); have n1_ := Aside0.mk (blk_below (g := gb204) (o := .cells #[.int .i64 t200, .int .i64 t201, .int .i64 t202] 23 (0, 0)) (by (with_reducible repeat (first | refine blk_drewN ?_ _ | refine blk_drew ?_ | refine blk_alloc ?_ _)); exact BK204.out) hb); have n2_ := Aside0.mk (below_step (by repeat (first | (with_reducible first | exact HB.out | apply below_alloc | apply pw_below_drewN | apply below_drew1 | refine below_set ?_ GE204.out) | exact HB.out)) hb); clear BK204; clear HB; have HO209 := n0_; have BK204 := n1_; have HB := n2_; clear n0_ n1_ n2_; (try clear hb); (try clear hb2); (try clear hk); (try clear hi); (try clear ho0); obtain ⟨Ao18, co18, eo18⟩ := Kd.R_slice HO209.out; subst eo18; have hcz19_0 : w17.cell? ⟨gb204, 0, none⟩ = some (.int .i64 t200) := (blk_cell BK204.out 0).trans rfl; have hcz19_1 : w17.cell? ⟨gb204, 1, none⟩ = some (.int .i64 t201) := (blk_cell BK204.out 1).trans rfl; have hcz19_2 : w17.cell? ⟨gb204, 2, none⟩ = some (.int .i64 t202) := (blk_cell BK204.out 2).trans rfl; have hfz19_0 := blk_frozen BK204.out 0; have hfz19_1 := blk_frozen BK204.out 1; have hfz19_2 := blk_frozen BK204.out 2))
        (try simp only [Act.put, List.setIfInBounds_toArray, List.set_cons_zero, List.set_cons_succ])
        go_cut [14] (fun v14 wc => ∃ (kq : Nat) (x14_13 : Int), v14 = .int .i64 x14_13 ∧ Aside0 (dowelref02_Excerpt.j1 kq a2 t205 t207 (t207.length : Int) x14_13 t200 t201 t202 = some (r1, r2)) ∧ Aside0 (kq ≤ kj4) ∧ Aside0 (Kd.R k31 31 wc w.heap.size (fun _ => True) (.slice Ao18 t207.length co18) t207) ∧ Aside0 (wc.heap[gb204]? = some (.cells #[.int .i64 t200, .int .i64 t201, .int .i64 t202] 23 (0, 0))) ∧ Aside0 (Below w.heap.size w wc))
        case first =>
          have H := HC14.out
          clear HC14
          by_cases c20 : (wrap64 ((wrap64 ((t207.length : Int) - a2)) + 1)) < (wrap64 (t202 - (wrap64 (Int.tdiv a2 2))))
          · rw [if_pos c20] at H
            have c20b0 : decide ((wrap64 ((wrap64 ((t207.length : Int) - a2)) + 1)) < (wrap64 (t202 - (wrap64 (Int.tdiv a2 2))))) = true := decide_eq_true c20
            clear c20
            (first | rw [c20b0] | (simp only [i64_w, i32_w]; rw [c20b0]) | skip)
            have H' := Aside0.mk H
            clear H
            go_wp2
            go_meet
            case rel => exact ⟨_, (wrap64 ((wrap64 ((t207.length : Int) - a2)) + 1)), (by first | rfl | (simp; done) | (simp [*]; done)), H', ⟨by have := HJ4.out; first | omega | exact Nat.le_refl _⟩, ⟨by (with_reducible repeat (first | apply Kd.R_alloc | apply Kd.R_drewN | apply Kd.R_drew)); exact HO209.out⟩, ⟨by (with_reducible repeat (first | refine blk_drewN ?_ _ | refine blk_drew ?_ | refine blk_alloc ?_ _)); exact BK204.out⟩, ⟨by repeat (first | (with_reducible first | exact HB.out | apply below_alloc | apply pw_below_drewN | apply below_drew1 | refine below_set ?_ GE204.out) | exact HB.out)⟩⟩
          · rw [if_neg c20] at H
            have c20b0 : decide ((wrap64 ((wrap64 ((t207.length : Int) - a2)) + 1)) < (wrap64 (t202 - (wrap64 (Int.tdiv a2 2))))) = false := decide_eq_false c20
            clear c20
            (first | rw [c20b0] | (simp only [i64_w, i32_w]; rw [c20b0]) | skip)
            have H' := Aside0.mk H
            clear H
            go_wp2
            go_meet
            case rel => exact ⟨_, (wrap64 (t202 - (wrap64 (Int.tdiv a2 2)))), (by first | rfl | (simp; done) | (simp [*]; done)), H', ⟨by have := HJ4.out; first | omega | exact Nat.le_refl _⟩, ⟨by (with_reducible repeat (first | apply Kd.R_alloc | apply Kd.R_drewN | apply Kd.R_drew)); exact HO209.out⟩, ⟨by (with_reducible repeat (first | refine blk_drewN ?_ _ | refine blk_drew ?_ | refine blk_alloc ?_ _)); exact BK204.out⟩, ⟨by repeat (first | (with_reducible first | exact HB.out | apply below_alloc | apply pw_below_drewN | apply below_drew1 | refine below_set ?_ GE204.out) | exact HB.out)⟩⟩
        case rest =>
          clear HC14
          try clear c1
          try clear c2
          try clear p2
          try clear p6
          try clear c9
          try clear c9b0
          try clear c9b1
          try clear c10
          try clear c10b0
          try clear c11
          try clear c14
          try clear c20
          try clear c20b0
          try clear hcz15_0
          try clear hcz15_1
          try clear hcz15_2
          try clear hcz19_0
          try clear hcz19_1
          try clear hcz19_2
          try clear hcz8_0
          try clear hcz8_1
          try clear hcz8_2
          try clear hfz15_0
          try clear hfz15_1
          try clear hfz15_2
          try clear hfz19_0
          try clear hfz19_1
          try clear hfz19_2
          try clear hfz8_0
          try clear hfz8_1
          try clear hfz8_2
          try clear p2
          obtain ⟨kq, x14_13, rfl, HA, HJ13, HO_12, BK204, HB⟩ := hcut
          cases kq with
          | zero => exact absurd HA.out (by simp [dowelref02_Excerpt.j1])
          | succ kj13 =>
            have H := HA.out
            clear HA
            simp only [dowelref02_Excerpt.j1] at H
            have HC21 := Aside0.mk H
            clear H
            go_upto_if 61 with (fail)
            go_cut [14] (fun v14 wc => ∃ (kq : Nat) (x14_20 : Int), v14 = .int .i64 x14_20 ∧ Aside0 (dowelref02_Excerpt.j2 kq a2 t205 t207 (t207.length : Int) x14_20 t200 t201 t202 = some (r1, r2)) ∧ Aside0 (kq ≤ kj13) ∧ Aside0 (Kd.R k31 31 wc w.heap.size (fun _ => True) (.slice Ao18 t207.length co18) t207) ∧ Aside0 (wc.heap[gb204]? = some (.cells #[.int .i64 t200, .int .i64 t201, .int .i64 t202] 23 (0, 0))) ∧ Aside0 (Below w.heap.size w wc))
            case first =>
              have H := HC21.out
              clear HC21
              by_cases c22 : x14_13 < 1
              · rw [if_pos c22] at H
                have c22b0 : decide (x14_13 < 1) = true := decide_eq_true c22
                clear c22
                (first | rw [c22b0] | (simp only [i64_w, i32_w]; rw [c22b0]) | skip)
                have H' := Aside0.mk H
                clear H
                go_wp2
                go_meet
                case rel => exact ⟨_, (1), (by first | rfl | (simp; done) | (simp [*]; done)), H', ⟨by have := HJ4.out; have := HJ13.out; first | omega | exact Nat.le_refl _⟩, ⟨by (with_reducible repeat (first | apply Kd.R_alloc | apply Kd.R_drewN | apply Kd.R_drew)); exact HO_12.out⟩, ⟨by (with_reducible repeat (first | refine blk_drewN ?_ _ | refine blk_drew ?_ | refine blk_alloc ?_ _)); exact BK204.out⟩, ⟨by repeat (first | (with_reducible first | exact HB.out | apply below_alloc | apply pw_below_drewN | apply below_drew1 | refine below_set ?_ GE204.out) | exact HB.out)⟩⟩
              · rw [if_neg c22] at H
                have c22b0 : decide (x14_13 < 1) = false := decide_eq_false c22
                clear c22
                (first | rw [c22b0] | (simp only [i64_w, i32_w]; rw [c22b0]) | skip)
                have H' := Aside0.mk H
                clear H
                go_wp2
                go_meet
                case rel => exact ⟨_, (x14_13), (by first | rfl | (simp; done) | (simp [*]; done)), H', ⟨by have := HJ4.out; have := HJ13.out; first | omega | exact Nat.le_refl _⟩, ⟨by (with_reducible repeat (first | apply Kd.R_alloc | apply Kd.R_drewN | apply Kd.R_drew)); exact HO_12.out⟩, ⟨by (with_reducible repeat (first | refine blk_drewN ?_ _ | refine blk_drew ?_ | refine blk_alloc ?_ _)); exact BK204.out⟩, ⟨by repeat (first | (with_reducible first | exact HB.out | apply below_alloc | apply pw_below_drewN | apply below_drew1 | refine below_set ?_ GE204.out) | exact HB.out)⟩⟩
            case rest =>
              clear HC21
              try clear c1
              try clear c2
              try clear p2
              try clear p6
              try clear c9
              try clear c9b0
              try clear c9b1
              try clear c10
              try clear c10b0
              try clear c11
              try clear c14
              try clear c20
              try clear c20b0
              try clear c21
              try clear c22
              try clear c22b0
              try clear hcz15_0
              try clear hcz15_1
              try clear hcz15_2
              try clear hcz19_0
              try clear hcz19_1
              try clear hcz19_2
              try clear hcz8_0
              try clear hcz8_1
              try clear hcz8_2
              try clear hfz15_0
              try clear hfz15_1
              try clear hfz15_2
              try clear hfz19_0
              try clear hfz19_1
              try clear hfz19_2
              try clear hfz8_0
              try clear hfz8_1
              try clear hfz8_2
              try clear p2
              try clear p6
              obtain ⟨kq, x14_20, rfl, HA, HJ20, HO_12, BK204, HB⟩ := hcut
              cases kq with
              | zero => exact absurd HA.out (by simp [dowelref02_Excerpt.j2])
              | succ kj20 =>
                have H := HA.out
                clear HA
                simp only [dowelref02_Excerpt.j2] at H
                have H' := Aside0.mk H
                clear H
                go_wp2
                go_loopg [15, 16] kj20 (fun kq v15 v16 w' => ∃ (x15_4 : ByteArray) (x16_4 : Int), v15 = .string x15_4 ∧ v16 = .int .i64 x16_4 ∧ Aside0 (dowelref02_Excerpt.l0 kq a2 t205 t207 (t207.length : Int) x14_20 x15_4 x16_4 t200 t201 t202 = some (r1, r2)) ∧ Aside0 (kq ≤ kj20) ∧ Aside0 (Kd.R k31 31 w' w.heap.size (fun _ => True) (.slice Ao18 t207.length co18) t207) ∧ Aside0 (w'.heap[gb204]? = some (.cells #[.int .i64 t200, .int .i64 t201, .int .i64 t202] 23 (0, 0))) ∧ Aside0 (Below w.heap.size w w'))
                case atStart => exact ⟨((⟨#[]⟩ : ByteArray)), (x14_20), (by first | rfl | (simp; done) | (simp [*]; done)), (by first | rfl | (simp; done) | (simp [*]; done)), H', ⟨Nat.le_refl _⟩, ⟨by (with_reducible repeat (first | apply Kd.R_alloc | apply Kd.R_drewN | apply Kd.R_drew)); exact HO_12.out⟩, ⟨by (with_reducible repeat (first | refine blk_drewN ?_ _ | refine blk_drew ?_ | refine blk_alloc ?_ _)); exact BK204.out⟩, ⟨by repeat (first | (with_reducible first | exact HB.out | apply below_alloc | apply pw_below_drewN | apply below_drew1 | refine below_set ?_ GE204.out) | exact HB.out)⟩⟩
                case round =>
                  clear H'
                  try clear c1
                  try clear c2
                  try clear p2
                  try clear p6
                  try clear c9
                  try clear c9b0
                  try clear c9b1
                  try clear c10
                  try clear c10b0
                  try clear c11
                  try clear c14
                  try clear c20
                  try clear c20b0
                  try clear c21
                  try clear c22
                  try clear c22b0
                  try clear hcz15_0
                  try clear hcz15_1
                  try clear hcz15_2
                  try clear hcz19_0
                  try clear hcz19_1
                  try clear hcz19_2
                  try clear hcz8_0
                  try clear hcz8_1
                  try clear hcz8_2
                  try clear hfz15_0
                  try clear hfz15_1
                  try clear hfz15_2
                  try clear hfz19_0
                  try clear hfz19_1
                  try clear hfz19_2
                  try clear hfz8_0
                  try clear hfz8_1
                  try clear hfz8_2
                  try clear p2
                  try clear p6
                  obtain ⟨x15_4, x16_4, rfl, rfl, HA, HK4, HO_12, BK204, HB⟩ := hrel
                  cases gk with
                  | zero => exact absurd HA.out (by simp [dowelref02_Excerpt.l0])
                  | succ k4 =>
                    have H := HA.out
                    clear HA
                    simp only [dowelref02_Excerpt.l0] at H
                    have HC23 := Aside0.mk H
                    clear H
                    go_upto_region 14 with (fail)
                    go_cut [72] (fun v72 wc => ∃ (kq : Nat) (x72_22 : Bool), v72 = .bool x72_22 ∧ Aside0 (dowelref02_Excerpt.j4 kq a2 t205 t207 (t207.length : Int) x14_20 x15_4 x16_4 x72_22 t200 t201 t202 = some (r1, r2)) ∧ Aside0 (kq ≤ k4) ∧ Aside0 (Kd.R k31 31 wc w.heap.size (fun _ => True) (.slice Ao18 t207.length co18) t207) ∧ Aside0 (wc.heap[gb204]? = some (.cells #[.int .i64 t200, .int .i64 t201, .int .i64 t202] 23 (0, 0))) ∧ Aside0 (Below w.heap.size w wc))
                    case first =>
                      have H := HC23.out
                      clear HC23
                      by_cases c24 : x16_4 ≤ (t207.length : Int)
                      · rw [if_pos c24] at H
                        have c24b0 : decide (x16_4 ≤ (t207.length : Int)) = true := decide_eq_true c24
                        clear c24
                        (first | rw [c24b0] | (simp only [i64_w, i32_w]; rw [c24b0]) | skip)
                        have H' := Aside0.mk H
                        clear H
                        go_wp2
                        go_meet
                        case rel => exact ⟨_, (decide (x16_4 < (wrap64 (x14_20 + a2)))), (by first | rfl | (simp; done) | (simp [*]; done)), H', ⟨by have := HJ4.out; have := HJ13.out; have := HJ20.out; have := HK4.out; first | omega | exact Nat.le_refl _⟩, ⟨by (with_reducible repeat (first | apply Kd.R_alloc | apply Kd.R_drewN | apply Kd.R_drew)); exact HO_12.out⟩, ⟨by (with_reducible repeat (first | refine blk_drewN ?_ _ | refine blk_drew ?_ | refine blk_alloc ?_ _)); exact BK204.out⟩, ⟨by repeat (first | (with_reducible first | exact HB.out | apply below_alloc | apply pw_below_drewN | apply below_drew1 | refine below_set ?_ GE204.out) | exact HB.out)⟩⟩
                      · rw [if_neg c24] at H
                        have c24b0 : decide (x16_4 ≤ (t207.length : Int)) = false := decide_eq_false c24
                        clear c24
                        (first | rw [c24b0] | (simp only [i64_w, i32_w]; rw [c24b0]) | skip)
                        have H' := Aside0.mk H
                        clear H
                        go_wp2
                        go_meet
                        case rel => exact ⟨_, (false), (by first | rfl | (simp; done) | (simp [*]; done)), H', ⟨by have := HJ4.out; have := HJ13.out; have := HJ20.out; have := HK4.out; first | omega | exact Nat.le_refl _⟩, ⟨by (with_reducible repeat (first | apply Kd.R_alloc | apply Kd.R_drewN | apply Kd.R_drew)); exact HO_12.out⟩, ⟨by (with_reducible repeat (first | refine blk_drewN ?_ _ | refine blk_drew ?_ | refine blk_alloc ?_ _)); exact BK204.out⟩, ⟨by repeat (first | (with_reducible first | exact HB.out | apply below_alloc | apply pw_below_drewN | apply below_drew1 | refine below_set ?_ GE204.out) | exact HB.out)⟩⟩
                    case rest =>
                      clear HC23
                      try clear c1
                      try clear c2
                      try clear p2
                      try clear p6
                      try clear c9
                      try clear c9b0
                      try clear c9b1
                      try clear c10
                      try clear c10b0
                      try clear c11
                      try clear c14
                      try clear c20
                      try clear c20b0
                      try clear c21
                      try clear c22
                      try clear c22b0
                      try clear c23
                      try clear c24
                      try clear c24b0
                      try clear hcz15_0
                      try clear hcz15_1
                      try clear hcz15_2
                      try clear hcz19_0
                      try clear hcz19_1
                      try clear hcz19_2
                      try clear hcz8_0
                      try clear hcz8_1
                      try clear hcz8_2
                      try clear hfz15_0
                      try clear hfz15_1
                      try clear hfz15_2
                      try clear hfz19_0
                      try clear hfz19_1
                      try clear hfz19_2
                      try clear hfz8_0
                      try clear hfz8_1
                      try clear hfz8_2
                      try clear p2
                      try clear p6
                      obtain ⟨kq, x72_22, rfl, HA, HJ22, HO_12, BK204, HB⟩ := hcut
                      cases kq with
                      | zero => exact absurd HA.out (by simp [dowelref02_Excerpt.j4])
                      | succ kj22 =>
                        have H := HA.out
                        clear HA
                        simp only [dowelref02_Excerpt.j4] at H
                        by_cases c25 : x72_22 = true
                        · subst c25
                          have H1 : (if x16_4 = x14_20 then (dowelref02_Excerpt.j5 kj22 a2 t205 t207 (t207.length : Int) x14_20 x15_4 x16_4 (decide (x14_20 > 1)) t200 t201 t202) else (dowelref02_Excerpt.j5 kj22 a2 t205 t207 (t207.length : Int) x14_20 x15_4 x16_4 false t200 t201 t202)) = some (r1, r2) := by rw [if_pos rfl] at H; exact H
                          clear H
                          have H := H1
                          clear H1
                          have HC26 := Aside0.mk H
                          clear H
                          go_upto_region 17 with (fail)
                          go_cut [84] (fun v84 wc => ∃ (kq : Nat) (x84_25 : Bool), v84 = .bool x84_25 ∧ Aside0 (dowelref02_Excerpt.j5 kq a2 t205 t207 (t207.length : Int) x14_20 x15_4 x16_4 x84_25 t200 t201 t202 = some (r1, r2)) ∧ Aside0 (kq ≤ kj22) ∧ Aside0 (Kd.R k31 31 wc w.heap.size (fun _ => True) (.slice Ao18 t207.length co18) t207) ∧ Aside0 (wc.heap[gb204]? = some (.cells #[.int .i64 t200, .int .i64 t201, .int .i64 t202] 23 (0, 0))) ∧ Aside0 (Below w.heap.size w wc))
                          case first =>
                            have H := HC26.out
                            clear HC26
                            by_cases c27 : x16_4 = x14_20
                            · rw [if_pos c27] at H
                              have c27b0 : (x16_4 == x14_20) = true := beq_iff_eq.mpr c27
                              have c27b1 : (x16_4 != x14_20) = false := bne_eq_false_iff_eq.mpr c27
                              clear c27
                              (first | rw [c27b0] | (simp only [i64_w, i32_w]; rw [c27b0]) | skip)
                              have H' := Aside0.mk H
                              clear H
                              go_wp2
                              go_meet
                              case rel => exact ⟨_, (decide (x14_20 > 1)), (by first | rfl | (simp; done) | (simp [*]; done)), H', ⟨by have := HJ4.out; have := HJ13.out; have := HJ20.out; have := HK4.out; have := HJ22.out; first | omega | exact Nat.le_refl _⟩, ⟨by (with_reducible repeat (first | apply Kd.R_alloc | apply Kd.R_drewN | apply Kd.R_drew)); exact HO_12.out⟩, ⟨by (with_reducible repeat (first | refine blk_drewN ?_ _ | refine blk_drew ?_ | refine blk_alloc ?_ _)); exact BK204.out⟩, ⟨by repeat (first | (with_reducible first | exact HB.out | apply below_alloc | apply pw_below_drewN | apply below_drew1 | refine below_set ?_ GE204.out) | exact HB.out)⟩⟩
                            · rw [if_neg c27] at H
                              have c27b0 : (x16_4 == x14_20) = false := beq_eq_false_iff_ne.mpr c27
                              have c27b1 : (x16_4 != x14_20) = true := bne_iff_ne.mpr c27
                              (first | rw [c27b0] | (simp only [i64_w, i32_w]; rw [c27b0]) | skip)
                              have H' := Aside0.mk H
                              clear H
                              go_wp2
                              go_meet
                              case rel => exact ⟨_, (false), (by first | rfl | (simp; done) | (simp [*]; done)), H', ⟨by have := HJ4.out; have := HJ13.out; have := HJ20.out; have := HK4.out; have := HJ22.out; first | omega | exact Nat.le_refl _⟩, ⟨by (with_reducible repeat (first | apply Kd.R_alloc | apply Kd.R_drewN | apply Kd.R_drew)); exact HO_12.out⟩, ⟨by (with_reducible repeat (first | refine blk_drewN ?_ _ | refine blk_drew ?_ | refine blk_alloc ?_ _)); exact BK204.out⟩, ⟨by repeat (first | (with_reducible first | exact HB.out | apply below_alloc | apply pw_below_drewN | apply below_drew1 | refine below_set ?_ GE204.out) | exact HB.out)⟩⟩
                          case rest =>
                            clear HC26
                            try clear c1
                            try clear c2
                            try clear p2
                            try clear p6
                            try clear c9
                            try clear c9b0
                            try clear c9b1
                            try clear c10
                            try clear c10b0
                            try clear c11
                            try clear c14
                            try clear c20
                            try clear c20b0
                            try clear c21
                            try clear c22
                            try clear c22b0
                            try clear c23
                            try clear c24
                            try clear c24b0
                            try clear c25
                            try clear c27
                            try clear c27b0
                            try clear c27b1
                            try clear hcz15_0
                            try clear hcz15_1
                            try clear hcz15_2
                            try clear hcz19_0
                            try clear hcz19_1
                            try clear hcz19_2
                            try clear hcz8_0
                            try clear hcz8_1
                            try clear hcz8_2
                            try clear hfz15_0
                            try clear hfz15_1
                            try clear hfz15_2
                            try clear hfz19_0
                            try clear hfz19_1
                            try clear hfz19_2
                            try clear hfz8_0
                            try clear hfz8_1
                            try clear hfz8_2
                            try clear p2
                            try clear p6
                            obtain ⟨kq, x84_25, rfl, HA, HJ25, HO_12, BK204, HB⟩ := hcut
                            cases kq with
                            | zero => exact absurd HA.out (by simp [dowelref02_Excerpt.j5])
                            | succ kj25 =>
                              have H := HA.out
                              clear HA
                              simp only [dowelref02_Excerpt.j5] at H
                              by_cases c28 : x84_25 = true
                              · subst c28
                                have H1 : (if x15_4.size + 1 ≤ 9223372036854775807 then (dowelref02_Excerpt.l0 kj25 a2 t205 t207 (t207.length : Int) x14_20 (x15_4 ++ (⟨#[60]⟩ : ByteArray)) (wrap64 (x16_4 + 1)) t200 t201 t202) else (none)) = some (r1, r2) := by rw [if_pos rfl] at H; exact H
                                clear H
                                have H := H1
                                clear H1
                                by_cases c29 : x15_4.size + 1 ≤ 9223372036854775807
                                · rw [if_pos c29] at H
                                  have c29b0 := eq_true c29
                                  have c29b1 : decide (x15_4.size + 1 ≤ 9223372036854775807) = true := decide_eq_true c29
                                  try have c29b2 : (9223372036854775807 < x15_4.size + 1) = False := eq_false (Nat.not_lt.2 c29)
                                  have H' := Aside0.mk H
                                  clear H
                                  go_wp2
                                  go_roundg kj25
                                  case measure => have := HJ4.out; have := HJ13.out; have := HJ20.out; have := HK4.out; have := HJ22.out; have := HJ25.out; omega
                                  case rel => exact ⟨(x15_4 ++ (⟨#[60]⟩ : ByteArray)), (wrap64 (x16_4 + 1)), (by first | rfl | (simp; done) | (simp [*]; done)), (by first | rfl | (simp; done) | (simp [*]; done)), H', ⟨by have := HJ4.out; have := HJ13.out; have := HJ20.out; have := HK4.out; have := HJ22.out; have := HJ25.out; omega⟩, ⟨by (with_reducible repeat (first | apply Kd.R_alloc | apply Kd.R_drewN | apply Kd.R_drew)); exact HO_12.out⟩, ⟨by (with_reducible repeat (first | refine blk_drewN ?_ _ | refine blk_drew ?_ | refine blk_alloc ?_ _)); exact BK204.out⟩, ⟨by repeat (first | (with_reducible first | exact HB.out | apply below_alloc | apply pw_below_drewN | apply below_drew1 | refine below_set ?_ GE204.out) | exact HB.out)⟩⟩
                                · rw [if_neg c29] at H
                                  exact absurd H (by simp)
                              · replace c28 := Bool.eq_false_iff.mpr c28
                                subst c28
                                have H1 : (if x16_4 = (wrap64 ((wrap64 (x14_20 + a2)) - 1)) then (if x16_4 < (t207.length : Int) then (if x15_4.size + 1 ≤ 9223372036854775807 then (dowelref02_Excerpt.l0 kj25 a2 t205 t207 (t207.length : Int) x14_20 (x15_4 ++ (⟨#[62]⟩ : ByteArray)) (wrap64 (x16_4 + 1)) t200 t201 t202) else (none)) else (if 0 ≤ (wrap64 (x16_4 - 1)) then (if (wrap64 (x16_4 - 1)) < (t207.length : Int) then ((dowelref02_shown.f t205 ((rd_T31 t207 (wrap64 (x16_4 - 1))).f0) ((rd_T31 t207 (wrap64 (x16_4 - 1))).f1) ((rd_T31 t207 (wrap64 (x16_4 - 1))).f2)).bind fun t211 => (if x15_4.size + t211.size ≤ 9223372036854775807 then (dowelref02_Excerpt.l0 kj25 a2 t205 t207 (t207.length : Int) x14_20 (x15_4 ++ t211) (wrap64 (x16_4 + 1)) t200 t201 t202) else (none))) else (none)) else (none))) else (if 0 ≤ (wrap64 (x16_4 - 1)) then (if (wrap64 (x16_4 - 1)) < (t207.length : Int) then ((dowelref02_shown.f t205 ((rd_T31 t207 (wrap64 (x16_4 - 1))).f0) ((rd_T31 t207 (wrap64 (x16_4 - 1))).f1) ((rd_T31 t207 (wrap64 (x16_4 - 1))).f2)).bind fun t213 => (if x15_4.size + t213.size ≤ 9223372036854775807 then (dowelref02_Excerpt.l0 kj25 a2 t205 t207 (t207.length : Int) x14_20 (x15_4 ++ t213) (wrap64 (x16_4 + 1)) t200 t201 t202) else (none))) else (none)) else (none))) = some (r1, r2) := by rw [if_neg (show ¬ (false = true) by decide)] at H; exact H
                                clear H
                                have H := H1
                                clear H1
                                by_cases c30 : x16_4 = (wrap64 ((wrap64 (x14_20 + a2)) - 1))
                                · rw [if_pos c30] at H
                                  have c30b0 : (x16_4 == (wrap64 ((wrap64 (x14_20 + a2)) - 1))) = true := beq_iff_eq.mpr c30
                                  have c30b1 : (x16_4 != (wrap64 ((wrap64 (x14_20 + a2)) - 1))) = false := bne_eq_false_iff_eq.mpr c30
                                  clear c30
                                  by_cases c31 : x16_4 < (t207.length : Int)
                                  · rw [if_pos c31] at H
                                    have c31b0 : decide (x16_4 < (t207.length : Int)) = true := decide_eq_true c31
                                    clear c31
                                    by_cases c32 : x15_4.size + 1 ≤ 9223372036854775807
                                    · rw [if_pos c32] at H
                                      have c32b0 := eq_true c32
                                      have c32b1 : decide (x15_4.size + 1 ≤ 9223372036854775807) = true := decide_eq_true c32
                                      try have c32b2 : (9223372036854775807 < x15_4.size + 1) = False := eq_false (Nat.not_lt.2 c32)
                                      have H' := Aside0.mk H
                                      clear H
                                      go_wp2
                                      go_roundg kj25
                                      case measure => have := HJ4.out; have := HJ13.out; have := HJ20.out; have := HK4.out; have := HJ22.out; have := HJ25.out; omega
                                      case rel => exact ⟨(x15_4 ++ (⟨#[62]⟩ : ByteArray)), (wrap64 (x16_4 + 1)), (by first | rfl | (simp; done) | (simp [*]; done)), (by first | rfl | (simp; done) | (simp [*]; done)), H', ⟨by have := HJ4.out; have := HJ13.out; have := HJ20.out; have := HK4.out; have := HJ22.out; have := HJ25.out; omega⟩, ⟨by (with_reducible repeat (first | apply Kd.R_alloc | apply Kd.R_drewN | apply Kd.R_drew)); exact HO_12.out⟩, ⟨by (with_reducible repeat (first | refine blk_drewN ?_ _ | refine blk_drew ?_ | refine blk_alloc ?_ _)); exact BK204.out⟩, ⟨by repeat (first | (with_reducible first | exact HB.out | apply below_alloc | apply pw_below_drewN | apply below_drew1 | refine below_set ?_ GE204.out) | exact HB.out)⟩⟩
                                    · rw [if_neg c32] at H
                                      exact absurd H (by simp)
                                  · rw [if_neg c31] at H
                                    have c31b0 : decide (x16_4 < (t207.length : Int)) = false := decide_eq_false c31
                                    clear c31
                                    obtain ⟨ji33, hji33⟩ : ∃ j_ : Int, (wrap64 (x16_4 - 1)) = j_ := ⟨_, rfl⟩
                                    replace H : (if 0 ≤ (ji33) then (if (ji33) < (t207.length : Int) then ((dowelref02_shown.f t205 ((rd_T31 t207 (ji33)).f0) ((rd_T31 t207 (ji33)).f1) ((rd_T31 t207 (ji33)).f2)).bind fun t211 => (if x15_4.size + t211.size ≤ 9223372036854775807 then (dowelref02_Excerpt.l0 kj25 a2 t205 t207 (t207.length : Int) x14_20 (x15_4 ++ t211) (wrap64 (x16_4 + 1)) t200 t201 t202) else (none))) else (none)) else (none)) = some (r1, r2) := by first | (rw [hji33] at H; exact H) | (simp only [hji33] at H ⊢; exact H)
                                    have hji33w : (IntKind.i64.wrap (x16_4 - 1)) = ji33 := (i64_w _).trans hji33
                                    by_cases c34 : 0 ≤ (ji33)
                                    · rw [if_pos c34] at H
                                      have c34b0 : decide (0 ≤ (ji33)) = true := decide_eq_true c34
                                      clear c34
                                      by_cases c35 : (ji33) < (t207.length : Int)
                                      · rw [if_pos c35] at H
                                        have c35b0 : decide ((ji33) < (t207.length : Int)) = true := decide_eq_true c35
                                        clear c35
                                        replace H := Option.bind_eq_some_iff.mp H
                                        obtain ⟨t211, A360, H⟩ := H
                                        replace H : (if x15_4.size + t211.size ≤ 9223372036854775807 then (dowelref02_Excerpt.l0 kj25 a2 t205 t207 (t207.length : Int) x14_20 (x15_4 ++ t211) (wrap64 (x16_4 + 1)) t200 t201 t202) else (none)) = some (r1, r2) := H
                                        have A36 := Aside0.mk A360
                                        clear A360
                                        by_cases c37 : x15_4.size + t211.size ≤ 9223372036854775807
                                        · rw [if_pos c37] at H
                                          have c37b0 := eq_true c37
                                          have c37b1 : decide (x15_4.size + t211.size ≤ 9223372036854775807) = true := decide_eq_true c37
                                          try have c37b2 : (9223372036854775807 < x15_4.size + t211.size) = False := eq_false (Nat.not_lt.2 c37)
                                          have H' := Aside0.mk H
                                          clear H
                                          have p210 : 0 ≤ ((ji33) : Int) := of_decide_eq_true (by first | (with_reducible assumption) | assumption)
                                          have q210 : (ji33) < (t207.length : Int) := of_decide_eq_true (by first | (with_reducible assumption) | assumption)
                                          obtain ⟨ad210, e210, hx210_0, hx210_1, hx210_2⟩ := at_T31 (Kd.R_reads' HO_12.out).2.2 (ji33) p210 q210
                                          cases e210
                                          replace p210 := eq_true p210
                                          replace q210 := eq_true q210
                                          go_wp2_with (first | ((with_reducible refine gate_callee (f := 39) rfl ?_); refine goesL_ (some 82) rfl rfl Try.func39 (by kernel_rfl) rfl #[.string t205, .agg #[.int .i64 ((rd_T31 t207 (ji33)).f0), .int .i64 ((rd_T31 t207 (ji33)).f1), .int .i64 ((rd_T31 t207 (ji33)).f2)]] rfl (by (try simp only [List.map_toArray, List.map_cons, List.map_nil]); first | done | (simp only [hji33]; rfl) | rfl | (simp only [List.length_drop, List.length_take]; rfl)) ?_; (with_reducible refine (dowelref02_shown.calls t205 ((rd_T31 t207 (ji33)).f0) ((rd_T31 t207 (ji33)).f1) ((rd_T31 t207 (ji33)).f2) t211 _ A36.out).mono ?_); rintro e w38 ⟨rfl, hb⟩; refine ⟨_, rfl, ?_⟩; have n0_ := Aside0.mk (Kd.R_below (by (with_reducible repeat (first | apply Kd.R_alloc | apply Kd.R_drewN | apply Kd.R_drew)); exact HO_12.out) hb); have n1_ := Aside0.mk (blk_below (g := gb204) (o := .cells #[.int .i64 t200, .int .i64 t201, .int .i64 t202] 23 (0, 0)) (by (with_reducible repeat (first | refine blk_drewN ?_ _ | refine blk_drew ?_ | refine blk_alloc ?_ _)); exact BK204.out) hb); have n2_ := Aside0.mk (below_step (by repeat (first | (with_reducible first | exact HB.out | apply below_alloc | apply pw_below_drewN | apply below_drew1 | refine below_set ?_ GE204.out) | exact HB.out)) hb); clear HO_12; clear BK204; clear HB; have HO_12 := n0_; have BK204 := n1_; have HB := n2_; clear n0_ n1_ n2_; (try clear hb); (try clear hb2); (try clear hk); (try clear hi)))
                                          go_roundg kj25
                                          case measure => have := HJ4.out; have := HJ13.out; have := HJ20.out; have := HK4.out; have := HJ22.out; have := HJ25.out; omega
                                          case rel => exact ⟨(x15_4 ++ t211), (wrap64 (x16_4 + 1)), (by first | rfl | (simp; done) | (simp [*]; done)), (by first | rfl | (simp; done) | (simp [*]; done)), H', ⟨by have := HJ4.out; have := HJ13.out; have := HJ20.out; have := HK4.out; have := HJ22.out; have := HJ25.out; omega⟩, ⟨by (with_reducible repeat (first | apply Kd.R_alloc | apply Kd.R_drewN | apply Kd.R_drew)); exact HO_12.out⟩, ⟨by (with_reducible repeat (first | refine blk_drewN ?_ _ | refine blk_drew ?_ | refine blk_alloc ?_ _)); exact BK204.out⟩, ⟨by repeat (first | (with_reducible first | exact HB.out | apply below_alloc | apply pw_below_drewN | apply below_drew1 | refine below_set ?_ GE204.out) | exact HB.out)⟩⟩
                                        · rw [if_neg c37] at H
                                          exact absurd H (by simp)
                                      · rw [if_neg c35] at H
                                        exact absurd H (by simp)
                                    · rw [if_neg c34] at H
                                      exact absurd H (by simp)
                                · rw [if_neg c30] at H
                                  have c30b0 : (x16_4 == (wrap64 ((wrap64 (x14_20 + a2)) - 1))) = false := beq_eq_false_iff_ne.mpr c30
                                  have c30b1 : (x16_4 != (wrap64 ((wrap64 (x14_20 + a2)) - 1))) = true := bne_iff_ne.mpr c30
                                  obtain ⟨ji39, hji39⟩ : ∃ j_ : Int, (wrap64 (x16_4 - 1)) = j_ := ⟨_, rfl⟩
                                  replace H : (if 0 ≤ (ji39) then (if (ji39) < (t207.length : Int) then ((dowelref02_shown.f t205 ((rd_T31 t207 (ji39)).f0) ((rd_T31 t207 (ji39)).f1) ((rd_T31 t207 (ji39)).f2)).bind fun t213 => (if x15_4.size + t213.size ≤ 9223372036854775807 then (dowelref02_Excerpt.l0 kj25 a2 t205 t207 (t207.length : Int) x14_20 (x15_4 ++ t213) (wrap64 (x16_4 + 1)) t200 t201 t202) else (none))) else (none)) else (none)) = some (r1, r2) := by first | (rw [hji39] at H; exact H) | (simp only [hji39] at H ⊢; exact H)
                                  have hji39w : (IntKind.i64.wrap (x16_4 - 1)) = ji39 := (i64_w _).trans hji39
                                  by_cases c40 : 0 ≤ (ji39)
                                  · rw [if_pos c40] at H
                                    have c40b0 : decide (0 ≤ (ji39)) = true := decide_eq_true c40
                                    clear c40
                                    by_cases c41 : (ji39) < (t207.length : Int)
                                    · rw [if_pos c41] at H
                                      have c41b0 : decide ((ji39) < (t207.length : Int)) = true := decide_eq_true c41
                                      clear c41
                                      replace H := Option.bind_eq_some_iff.mp H
                                      obtain ⟨t213, A420, H⟩ := H
                                      replace H : (if x15_4.size + t213.size ≤ 9223372036854775807 then (dowelref02_Excerpt.l0 kj25 a2 t205 t207 (t207.length : Int) x14_20 (x15_4 ++ t213) (wrap64 (x16_4 + 1)) t200 t201 t202) else (none)) = some (r1, r2) := H
                                      have A42 := Aside0.mk A420
                                      clear A420
                                      by_cases c43 : x15_4.size + t213.size ≤ 9223372036854775807
                                      · rw [if_pos c43] at H
                                        have c43b0 := eq_true c43
                                        have c43b1 : decide (x15_4.size + t213.size ≤ 9223372036854775807) = true := decide_eq_true c43
                                        try have c43b2 : (9223372036854775807 < x15_4.size + t213.size) = False := eq_false (Nat.not_lt.2 c43)
                                        have H' := Aside0.mk H
                                        clear H
                                        have p212 : 0 ≤ ((ji39) : Int) := of_decide_eq_true (by first | (with_reducible assumption) | assumption)
                                        have q212 : (ji39) < (t207.length : Int) := of_decide_eq_true (by first | (with_reducible assumption) | assumption)
                                        obtain ⟨ad212, e212, hx212_0, hx212_1, hx212_2⟩ := at_T31 (Kd.R_reads' HO_12.out).2.2 (ji39) p212 q212
                                        cases e212
                                        replace p212 := eq_true p212
                                        replace q212 := eq_true q212
                                        go_wp2_with (first | ((with_reducible refine gate_callee (f := 39) rfl ?_); refine goesL_ (some 82) rfl rfl Try.func39 (by kernel_rfl) rfl #[.string t205, .agg #[.int .i64 ((rd_T31 t207 (ji39)).f0), .int .i64 ((rd_T31 t207 (ji39)).f1), .int .i64 ((rd_T31 t207 (ji39)).f2)]] rfl (by (try simp only [List.map_toArray, List.map_cons, List.map_nil]); first | done | (simp only [hji39]; rfl) | rfl | (simp only [List.length_drop, List.length_take]; rfl)) ?_; (with_reducible refine (dowelref02_shown.calls t205 ((rd_T31 t207 (ji39)).f0) ((rd_T31 t207 (ji39)).f1) ((rd_T31 t207 (ji39)).f2) t213 _ A42.out).mono ?_); rintro e w44 ⟨rfl, hb⟩; refine ⟨_, rfl, ?_⟩; have n0_ := Aside0.mk (Kd.R_below (by (with_reducible repeat (first | apply Kd.R_alloc | apply Kd.R_drewN | apply Kd.R_drew)); exact HO_12.out) hb); have n1_ := Aside0.mk (blk_below (g := gb204) (o := .cells #[.int .i64 t200, .int .i64 t201, .int .i64 t202] 23 (0, 0)) (by (with_reducible repeat (first | refine blk_drewN ?_ _ | refine blk_drew ?_ | refine blk_alloc ?_ _)); exact BK204.out) hb); have n2_ := Aside0.mk (below_step (by repeat (first | (with_reducible first | exact HB.out | apply below_alloc | apply pw_below_drewN | apply below_drew1 | refine below_set ?_ GE204.out) | exact HB.out)) hb); clear HO_12; clear BK204; clear HB; have HO_12 := n0_; have BK204 := n1_; have HB := n2_; clear n0_ n1_ n2_; (try clear hb); (try clear hb2); (try clear hk); (try clear hi)))
                                        go_roundg kj25
                                        case measure => have := HJ4.out; have := HJ13.out; have := HJ20.out; have := HK4.out; have := HJ22.out; have := HJ25.out; omega
                                        case rel => exact ⟨(x15_4 ++ t213), (wrap64 (x16_4 + 1)), (by first | rfl | (simp; done) | (simp [*]; done)), (by first | rfl | (simp; done) | (simp [*]; done)), H', ⟨by have := HJ4.out; have := HJ13.out; have := HJ20.out; have := HK4.out; have := HJ22.out; have := HJ25.out; omega⟩, ⟨by (with_reducible repeat (first | apply Kd.R_alloc | apply Kd.R_drewN | apply Kd.R_drew)); exact HO_12.out⟩, ⟨by (with_reducible repeat (first | refine blk_drewN ?_ _ | refine blk_drew ?_ | refine blk_alloc ?_ _)); exact BK204.out⟩, ⟨by repeat (first | (with_reducible first | exact HB.out | apply below_alloc | apply pw_below_drewN | apply below_drew1 | refine below_set ?_ GE204.out) | exact HB.out)⟩⟩
                                      · rw [if_neg c43] at H
                                        exact absurd H (by simp)
                                    · rw [if_neg c41] at H
                                      exact absurd H (by simp)
                                  · rw [if_neg c40] at H
                                    exact absurd H (by simp)
                        · replace c25 := Bool.eq_false_iff.mpr c25
                          subst c25
                          have H1 : (if x15_4.size + 1 ≤ 9223372036854775807 then (dowelref02_Excerpt.l1 kj22 (x15_4 ++ (⟨#[10]⟩ : ByteArray)) x14_20 t200 t201 t202) else (none)) = some (r1, r2) := by rw [if_neg (show ¬ (false = true) by decide)] at H; exact H
                          clear H
                          have H := H1
                          clear H1
                          by_cases c45 : x15_4.size + 1 ≤ 9223372036854775807
                          · rw [if_pos c45] at H
                            have c45b0 := eq_true c45
                            have c45b1 : decide (x15_4.size + 1 ≤ 9223372036854775807) = true := decide_eq_true c45
                            try have c45b2 : (9223372036854775807 < x15_4.size + 1) = False := eq_false (Nat.not_lt.2 c45)
                            have H' := Aside0.mk H
                            clear H
                            go_wp2
                            go_loopg [15, 17] kj22 (fun kq v15 v17 w' => ∃ (x15_6 : ByteArray) (x17_6 : Int), v15 = .string x15_6 ∧ v17 = .int .i64 x17_6 ∧ Aside0 (dowelref02_Excerpt.l1 kq x15_6 x17_6 t200 t201 t202 = some (r1, r2)) ∧ Aside0 (kq ≤ kj22) ∧ Aside0 (w'.heap[gb204]? = some (.cells #[.int .i64 t200, .int .i64 t201, .int .i64 t202] 23 (0, 0))) ∧ Aside0 (Below w.heap.size w w'))
                            case atStart => exact ⟨(x15_4 ++ (⟨#[10]⟩ : ByteArray)), (x14_20), (by first | rfl | (simp; done) | (simp [*]; done)), (by first | rfl | (simp; done) | (simp [*]; done)), H', ⟨Nat.le_refl _⟩, ⟨by (with_reducible repeat (first | refine blk_drewN ?_ _ | refine blk_drew ?_ | refine blk_alloc ?_ _)); exact BK204.out⟩, ⟨by repeat (first | (with_reducible first | exact HB.out | apply below_alloc | apply pw_below_drewN | apply below_drew1 | refine below_set ?_ GE204.out) | exact HB.out)⟩⟩
                            case round =>
                              clear H'
                              try clear c1
                              try clear c2
                              try clear p2
                              try clear q2
                              try clear hx2
                              try clear c3
                              try clear c4
                              try clear p6
                              try clear c9
                              try clear c9b0
                              try clear c9b1
                              try clear c10
                              try clear c10b0
                              try clear c11
                              try clear c14
                              try clear c20
                              try clear c20b0
                              try clear c21
                              try clear p21
                              try clear q21
                              try clear hx21
                              try clear c22
                              try clear c22b0
                              try clear c23
                              try clear c24
                              try clear c24b0
                              try clear c25
                              try clear c27
                              try clear c27b0
                              try clear c27b1
                              try clear c28
                              try clear c29
                              try clear c29b0
                              try clear c29b1
                              try clear c29b2
                              try clear c30
                              try clear c30b0
                              try clear c30b1
                              try clear c31
                              try clear c31b0
                              try clear c32
                              try clear c32b0
                              try clear c32b1
                              try clear c32b2
                              try clear c34
                              try clear c34b0
                              try clear c35
                              try clear c35b0
                              try clear c37
                              try clear c37b0
                              try clear c37b1
                              try clear c37b2
                              try clear c39
                              try clear c40
                              try clear c40b0
                              try clear c41
                              try clear c41b0
                              try clear c43
                              try clear c43b0
                              try clear c43b1
                              try clear c43b2
                              try clear c45
                              try clear c45b0
                              try clear c45b1
                              try clear c45b2
                              try clear hcz15_0
                              try clear hcz15_1
                              try clear hcz15_2
                              try clear hcz19_0
                              try clear hcz19_1
                              try clear hcz19_2
                              try clear hcz8_0
                              try clear hcz8_1
                              try clear hcz8_2
                              try clear hfz15_0
                              try clear hfz15_1
                              try clear hfz15_2
                              try clear hfz19_0
                              try clear hfz19_1
                              try clear hfz19_2
                              try clear hfz8_0
                              try clear hfz8_1
                              try clear hfz8_2
                              try clear hx210_0
                              try clear hx210_1
                              try clear hx210_2
                              try clear hx212_0
                              try clear hx212_1
                              try clear hx212_2
                              try clear p2
                              try clear p210
                              try clear p212
                              try clear p6
                              try clear q210
                              try clear q212
                              obtain ⟨x15_6, x17_6, rfl, rfl, HA, HK6, BK204, HB⟩ := hrel
                              cases gk with
                              | zero => exact absurd HA.out (by simp [dowelref02_Excerpt.l1])
                              | succ k6 =>
                                have H := HA.out
                                clear HA
                                simp only [dowelref02_Excerpt.l1] at H
                                by_cases c46 : x17_6 < t202
                                · rw [if_pos c46] at H
                                  have c46b0 : decide (x17_6 < t202) = true := decide_eq_true c46
                                  clear c46
                                  by_cases c47 : x15_6.size + 1 ≤ 9223372036854775807
                                  · rw [if_pos c47] at H
                                    have c47b0 := eq_true c47
                                    have c47b1 : decide (x15_6.size + 1 ≤ 9223372036854775807) = true := decide_eq_true c47
                                    try have c47b2 : (9223372036854775807 < x15_6.size + 1) = False := eq_false (Nat.not_lt.2 c47)
                                    have H' := Aside0.mk H
                                    clear H
                                    have hcz48_0 : wr.cell? ⟨gb204, 0, none⟩ = some (.int .i64 t200) := (blk_cell BK204.out 0).trans rfl
                                    have hcz48_1 : wr.cell? ⟨gb204, 1, none⟩ = some (.int .i64 t201) := (blk_cell BK204.out 1).trans rfl
                                    have hcz48_2 : wr.cell? ⟨gb204, 2, none⟩ = some (.int .i64 t202) := (blk_cell BK204.out 2).trans rfl
                                    have hfz48_0 := blk_frozen BK204.out 0
                                    have hfz48_1 := blk_frozen BK204.out 1
                                    have hfz48_2 := blk_frozen BK204.out 2
                                    go_wp2
                                    go_roundg k6
                                    case measure => have := HJ4.out; have := HJ13.out; have := HJ20.out; have := HK4.out; have := HJ22.out; have := HK6.out; omega
                                    case rel => exact ⟨(x15_6 ++ (⟨#[32]⟩ : ByteArray)), (wrap64 (x17_6 + 1)), (by first | rfl | (simp; done) | (simp [*]; done)), (by first | rfl | (simp; done) | (simp [*]; done)), H', ⟨by have := HJ4.out; have := HJ13.out; have := HJ20.out; have := HK4.out; have := HJ22.out; have := HK6.out; omega⟩, ⟨by (with_reducible repeat (first | refine blk_drewN ?_ _ | refine blk_drew ?_ | refine blk_alloc ?_ _)); exact BK204.out⟩, ⟨by repeat (first | (with_reducible first | exact HB.out | apply below_alloc | apply pw_below_drewN | apply below_drew1 | refine below_set ?_ GE204.out) | exact HB.out)⟩⟩
                                  · rw [if_neg c47] at H
                                    exact absurd H (by simp)
                                · rw [if_neg c46] at H
                                  have c46b0 : decide (x17_6 < t202) = false := decide_eq_false c46
                                  clear c46
                                  by_cases c49 : x15_6.size + 2 ≤ 9223372036854775807
                                  · rw [if_pos c49] at H
                                    have c49b0 := eq_true c49
                                    have c49b1 : decide (x15_6.size + 2 ≤ 9223372036854775807) = true := decide_eq_true c49
                                    try have c49b2 : (9223372036854775807 < x15_6.size + 2) = False := eq_false (Nat.not_lt.2 c49)
                                    simp only [Option.some.injEq, Prod.mk.injEq] at H
                                    obtain ⟨rfl, rfl⟩ := H
                                    have hcz50_0 : wr.cell? ⟨gb204, 0, none⟩ = some (.int .i64 t200) := (blk_cell BK204.out 0).trans rfl
                                    have hcz50_1 : wr.cell? ⟨gb204, 1, none⟩ = some (.int .i64 t201) := (blk_cell BK204.out 1).trans rfl
                                    have hcz50_2 : wr.cell? ⟨gb204, 2, none⟩ = some (.int .i64 t202) := (blk_cell BK204.out 2).trans rfl
                                    have hfz50_0 := blk_frozen BK204.out 0
                                    have hfz50_1 := blk_frozen BK204.out 1
                                    have hfz50_2 := blk_frozen BK204.out 2
                                    go_wp2
                                    go_ret2
                                    exact ⟨by first | rfl | (simp [errW_none, errW_some] <;> rfl) | (simp [*, errW_none, errW_some] <;> rfl), by repeat (first | (with_reducible first | exact HB.out | apply below_alloc | apply pw_below_drewN | apply below_drew1 | refine below_set ?_ GE204.out) | exact HB.out)⟩
                                  · rw [if_neg c49] at H
                                    exact absurd H (by simp)
                          · rw [if_neg c45] at H
                            exact absurd H (by simp)

end Go.Proofs.Ytkjckdgknbfaiaa.Qall
