-- WRITTEN BY A PROGRAM OF THIS SESSION (wip/tools/myprint.py, over the kit's print); Lean checks it.
import Derived.Test.YtloflodbcdlmpaaDoorQallx0
import Derived.Test.YtloflodbcdlmpaaDoorQallx5
import Derived.Test.YtloflodbcdlmpaaDoorQallx7
import Derived.Test.YtloflodbcdlmpaaDoorQallx8
namespace Go.Proofs.YtloflodbcdlmpaaDoor.Qall
open Go.RowKit Go.Proofs.YtloflodbcdlmpaaDoorW.PrintWords Go.Proofs.YtloflodbcdlmpaaDoorW.PrintLast Go.Proofs.YtloflodbcdlmpaaDoorW.PrintMore
attribute [local go_sem] max2_int min2_int max_two min_two max_three min_three max_four min_four   -- for this text's walks alone
set_option linter.unusedVariables false
set_option linter.unusedSimpArgs false

/-! ### dowelref12_Text: function 31 -/
mutual
def dowelref12_Text.l0 : Nat → List (S60) → List Int → List Int → Int → Option (ByteArray × Int)
  | 0, _, _, _, _ => none
  | k + 1, x0, x5, x7, x8 => if x8 < (x0.length : Int) then (if 0 ≤ x8 then (if ((rd_T60 x0 x8).f0).size + 1 ≤ 9223372036854775807 then ((dowelref04_Digits.f k ((rd_T60 x0 x8).f1)).bind fun t260 => (if (((rd_T60 x0 x8).f0) ++ (⟨#[32]⟩ : ByteArray)).size + t260.size ≤ 9223372036854775807 then (if ((((rd_T60 x0 x8).f0) ++ (⟨#[32]⟩ : ByteArray)) ++ t260).size + 1 ≤ 9223372036854775807 then ((dowelref04_Digits.f k ((rd_T60 x0 x8).f2)).bind fun t262 => (if (((((rd_T60 x0 x8).f0) ++ (⟨#[32]⟩ : ByteArray)) ++ t260) ++ (⟨#[32]⟩ : ByteArray)).size + t262.size ≤ 9223372036854775807 then (if ((((((rd_T60 x0 x8).f0) ++ (⟨#[32]⟩ : ByteArray)) ++ t260) ++ (⟨#[32]⟩ : ByteArray)) ++ t262).size + 1 ≤ 9223372036854775807 then (if x8 < (x5.length : Int) then (if (wrap64 ((wrap64 ((x7.length : Int) + (wrap64 (2 * (rd x5 x8))))) + ((((((((rd_T60 x0 x8).f0) ++ (⟨#[32]⟩ : ByteArray)) ++ t260) ++ (⟨#[32]⟩ : ByteArray)) ++ t262) ++ (⟨#[10]⟩ : ByteArray)).size : Int))) > 4194304 then (some ((⟨#[]⟩ : ByteArray), 2)) else (dowelref12_Text.l1 k x0 x5 x7 x8 (((((((rd_T60 x0 x8).f0) ++ (⟨#[32]⟩ : ByteArray)) ++ t260) ++ (⟨#[32]⟩ : ByteArray)) ++ t262) ++ (⟨#[10]⟩ : ByteArray)) 0)) else (none)) else (none)) else (none))) else (none)) else (none))) else (none)) else (none)) else (some (strOfNums x7, 0))
def dowelref12_Text.l1 : Nat → List (S60) → List Int → List Int → Int → ByteArray → Int → Option (ByteArray × Int)
  | 0, _, _, _, _, _, _ => none
  | k + 1, x0, x5, x7, x8, x9, x10 => if 0 ≤ x8 then (if x8 < (x5.length : Int) then (if x10 < (rd x5 x8) then ((some (([32, 32] : List Int) : List Int)).bind fun y265 => (if x7.length + y265.length < 140737488355328 then (dowelref12_Text.l1 k x0 x5 (x7 ++ y265) x8 x9 (wrap64 (x10 + 1))) else (none))) else (if x7.length + x9.size < 140737488355328 then (dowelref12_Text.l0 k x0 x5 (x7 ++ bytesOf x9) (wrap64 (x8 + 1))) else (none))) else (none)) else (none)
end
def dowelref12_Text.f (k : Nat) (l0 : List (S60)) : Option (ByteArray × Int) := (dowelref12_Check.f k l0 65536).bind fun t253 => (if t253 = 0 then ((dowelref12_Levels.f k l0).bind fun bt254 => (dowelref12_Text.l0 k l0 bt254.1 ([] : List Int) 0)) else (some ((⟨#[]⟩ : ByteArray), t253)))
theorem dowelref12_Text.mono_l : ∀ k, (∀ y0 y1 y2 y3, LeO (dowelref12_Text.l0 k y0 y1 y2 y3) (dowelref12_Text.l0 (k + 1) y0 y1 y2 y3)) ∧ (∀ y0 y1 y2 y3 y4 y5, LeO (dowelref12_Text.l1 k y0 y1 y2 y3 y4 y5) (dowelref12_Text.l1 (k + 1) y0 y1 y2 y3 y4 y5))
  | 0 => ⟨fun _ _ _ _ r h => by simp [dowelref12_Text.l0] at h, fun _ _ _ _ _ _ r h => by simp [dowelref12_Text.l1] at h⟩
  | k + 1 => by
    obtain ⟨ih0, ih1⟩ := dowelref12_Text.mono_l k
    refine ⟨?_, ?_⟩
    · intro y0 y1 y2 y3
      unfold dowelref12_Text.l0
      repeat' first
      | (with_reducible exact ih0 _ _ _ _)
      | (with_reducible exact ih1 _ _ _ _ _ _)
      | (with_reducible exact dowelref04_Digits.mono _ _)
      | (with_reducible exact dowelref12_Check.mono _ _ _)
      | (with_reducible exact dowelref12_Levels.mono _ _)
      | (with_reducible exact LeO.refl _)
      | (with_reducible exact LeO.none _)
      | (with_reducible refine LeO.ite ?_ ?_)
      | (with_reducible refine LeO.bind ?_ (fun _ => ?_))
      | exact ih0 _ _ _ _
      | exact ih1 _ _ _ _ _ _
      | exact dowelref04_Digits.mono _ _
      | exact dowelref12_Check.mono _ _ _
      | exact dowelref12_Levels.mono _ _
      | exact LeO.none _
      | refine LeO.ite ?_ ?_
      | refine LeO.bind ?_ (fun _ => ?_)
    · intro y0 y1 y2 y3 y4 y5
      unfold dowelref12_Text.l1
      repeat' first
      | (with_reducible exact ih0 _ _ _ _)
      | (with_reducible exact ih1 _ _ _ _ _ _)
      | (with_reducible exact dowelref04_Digits.mono _ _)
      | (with_reducible exact dowelref12_Check.mono _ _ _)
      | (with_reducible exact dowelref12_Levels.mono _ _)
      | (with_reducible exact LeO.refl _)
      | (with_reducible exact LeO.none _)
      | (with_reducible refine LeO.ite ?_ ?_)
      | (with_reducible refine LeO.bind ?_ (fun _ => ?_))
      | exact ih0 _ _ _ _
      | exact ih1 _ _ _ _ _ _
      | exact dowelref04_Digits.mono _ _
      | exact dowelref12_Check.mono _ _ _
      | exact dowelref12_Levels.mono _ _
      | exact LeO.none _
      | refine LeO.ite ?_ ?_
      | refine LeO.bind ?_ (fun _ => ?_)
theorem dowelref12_Text.mono : ∀ a0 k, LeO (dowelref12_Text.f k a0) (dowelref12_Text.f (k + 1) a0) := by
  intro a0 k
  obtain ⟨ih0, ih1⟩ := dowelref12_Text.mono_l k
  unfold dowelref12_Text.f
  repeat' first
      | (with_reducible exact ih0 _ _ _ _)
      | (with_reducible exact ih1 _ _ _ _ _ _)
      | (with_reducible exact dowelref04_Digits.mono _ _)
      | (with_reducible exact dowelref12_Check.mono _ _ _)
      | (with_reducible exact dowelref12_Levels.mono _ _)
      | (with_reducible exact LeO.refl _)
      | (with_reducible exact LeO.none _)
      | (with_reducible refine LeO.ite ?_ ?_)
      | (with_reducible refine LeO.bind ?_ (fun _ => ?_))
      | exact ih0 _ _ _ _
      | exact ih1 _ _ _ _ _ _
      | exact dowelref04_Digits.mono _ _
      | exact dowelref12_Check.mono _ _ _
      | exact dowelref12_Levels.mono _ _
      | exact LeO.none _
      | refine LeO.ite ?_ ?_
      | refine LeO.bind ?_ (fun _ => ?_)
def dowelref12_Text.T9 : Bool × List (List Nat × List Nat) := (true, [([], []), ([], []), ([0, 1], [0, 1]), ([2], [2]), ([3], [3]), ([4], [4]), ([], []), ([], []), ([6, 7], [6, 7]), ([8], [8]), ([9], [9]), ([10], [10]), ([5, 11], [5, 11]), ([12], [12]), ([], []), ([], []), ([14, 15], [14, 15]), ([16], [16]), ([17], [17]), ([18, 11], [18]), ([13, 19], [13, 19]), ([20], [20]), ([21, 19, 0, 1, 2, 3, 4, 5, 6, 7, 8, 9, 10, 11, 12, 13, 14, 15, 16, 17, 18, 19, 20, 21], [21])])
def dowelref12_Text.B9 : List Nat := [0, 0, 3, 7, 15, 31, 0, 0, 192, 448, 960, 1984, 4095, 8191, 0, 0, 49152, 114688, 245760, 511936, 1048575, 2097151, 4194303]
theorem dowelref12_Text.tab9 : rtab .any (opsOf Tryd.f31 9) = dowelref12_Text.T9 := by kernel_rfl
theorem dowelref12_Text.bits9 : waitsOk dowelref12_Text.T9.2 dowelref12_Text.B9 = true := by kernel_rfl
set_option maxHeartbeats 8000000 in
set_option maxRecDepth 100000 in
theorem dowelref12_Text.calls (k : Nat) (A0 : Option Addr) (c0 : Nat) (l0 : List (S60)) (r1 : ByteArray) (r2 : Int) (w : World) (hr0 : Kd.C k60 w A0 l0.length l0) (hc0 : l0.length ≤ c0) (h : dowelref12_Text.f k l0 = some (r1, r2)) :
    Calls Tryd.prog 31 #[.slice A0 l0.length c0] w fun e w' => e = .returned (.tuple #[.string r1, .int .i64 r2]) ∧ Below w.heap.size w w' := by
  have HR0 := Aside0.mk hr0
  have HC0 := Aside0.mk hc0
  clear hr0 hc0
  have HB := Aside0.mk (Below.refl w.heap.size w)
  have H : ((dowelref12_Check.f k l0 65536).bind fun t253 => (if t253 = 0 then ((dowelref12_Levels.f k l0).bind fun bt254 => (dowelref12_Text.l0 k l0 bt254.1 ([] : List Int) 0)) else (some ((⟨#[]⟩ : ByteArray), t253)))) = some (r1, r2) := h
  clear h
  replace H := Option.bind_eq_some_iff.mp H
  obtain ⟨t253, A20, H⟩ := H
  replace H : (if t253 = 0 then ((dowelref12_Levels.f k l0).bind fun bt254 => (dowelref12_Text.l0 k l0 bt254.1 ([] : List Int) 0)) else (some ((⟨#[]⟩ : ByteArray), t253))) = some (r1, r2) := H
  have A2 := Aside0.mk A20
  clear A20
  by_cases c3 : t253 = 0
  · rw [if_pos c3] at H
    have c3b0 : (t253 == 0) = true := beq_iff_eq.mpr c3
    have c3b1 : (t253 != 0) = false := bne_eq_false_iff_eq.mpr c3
    clear c3
    replace H := Option.bind_eq_some_iff.mp H
    obtain ⟨⟨t254, t255⟩, A40, H⟩ := H
    replace H : (dowelref12_Text.l0 k l0 t254 ([] : List Int) 0) = some (r1, r2) := H
    have A4 := Aside0.mk A40
    clear A40
    have H' := Aside0.mk H
    clear H
    go_enter Tryd.func31, Tryd.ntmps31
    go_wp2_with (first | ((with_reducible refine gate_callee (f := 62) rfl ?_); refine goesL_ (some 12) rfl rfl Tryd.func62 (by kernel_rfl) rfl #[.slice A0 l0.length c0, .int .i64 65536] rfl (by (try simp only [List.map_toArray, List.map_cons, List.map_nil]); first | done | rfl | (simp only [List.length_drop, List.length_take]; rfl)) ?_; (with_reducible refine (dowelref12_Check.calls k _ _ l0 65536 t253 _ ?side1 ?side2 A2.out).mono ?_); (case side1 => repeat (first | exact HR0.out | (with_reducible refine Kd.C_alloc ?_ _) | (with_reducible refine Kd.C_drewN ?_ _) | (with_reducible refine Kd.C_drew ?_))); (case side2 => exact HC0.out); rintro e w5 ⟨rfl, hb⟩; refine ⟨_, rfl, ?_⟩; have n0_ := Aside0.mk (below_step (by repeat (first | (with_reducible first | exact HB.out | apply below_alloc | apply pw_below_drewN | apply below_drew1) | exact HB.out)) hb); clear HB; have HB := n0_; clear n0_; (try clear hb); (try clear hb2); (try clear hk); (try clear hi)) | ((with_reducible refine gate_callee (f := 64) rfl ?_); refine goesL_ (some 18) rfl rfl Tryd.func64 (by kernel_rfl) rfl #[.slice A0 l0.length c0] rfl (by (try simp only [List.map_toArray, List.map_cons, List.map_nil]); first | done | rfl | (simp only [List.length_drop, List.length_take]; rfl)) ?_; (with_reducible refine (dowelref12_Levels.calls k _ _ l0 t254 t255 _ ?side1 ?side2 A4.out).mono ?_); (case side1 => repeat (first | exact (Kd.C_below HR0.out HB.out) | (with_reducible refine Kd.C_alloc ?_ _) | (with_reducible refine Kd.C_drewN ?_ _) | (with_reducible refine Kd.C_drew ?_))); (case side2 => exact HC0.out); rintro e w6 ⟨v256, rfl, ho0, hb⟩; refine ⟨_, rfl, ?_⟩; have n0_ := Aside0.mk (Kd.R_lower ho0 (below_size (by repeat (first | (with_reducible first | exact HB.out | apply below_alloc | apply pw_below_drewN | apply below_drew1) | exact HB.out)))); have n1_ := Aside0.mk (below_step (by repeat (first | (with_reducible first | exact HB.out | apply below_alloc | apply pw_below_drewN | apply below_drew1) | exact HB.out)) hb); clear HB; have HO257 := n0_; have HB := n1_; clear n0_ n1_; (try clear hb); (try clear hb2); (try clear hk); (try clear hi); (try clear ho0)))
    go_loopg [7, 8] k (fun kq v7 v8 w' => ∃ (x7_1 : List Int) (x8_1 : Int), v8 = .int .i64 x8_1 ∧ Aside0 (dowelref12_Text.l0 kq l0 t254 x7_1 x8_1 = some (r1, r2)) ∧ Aside0 (kq ≤ k) ∧ Aside0 (Kd.R (Kd.int .i64) 3 w' w.heap.size (fun _ => True) v256 t254) ∧ Aside0 (Kd.R (Kd.int .u8) 5 w' w.heap.size (fun _ => True) v7 x7_1) ∧ Aside0 (Below w.heap.size w w'))
    case atStart => exact ⟨(([] : List Int)), (0), (by first | rfl | (simp; done) | (simp [*]; done)), H', ⟨Nat.le_refl _⟩, ⟨by (with_reducible repeat (first | apply Kd.R_alloc | apply Kd.R_drewN | apply Kd.R_drew)); exact HO257.out⟩, ⟨by first | exact Kd.R_nil _ _ _ _ _ | exact Kd.N_nil _ _ _ _ _ | exact Kd.V_nil _ _ _ _ _ | exact Kd.Q_nil _ _ _ _ _ | exact Kd.S_nil _ _ _ _ _⟩, ⟨by repeat (first | (with_reducible first | exact HB.out | apply below_alloc | apply pw_below_drewN | apply below_drew1) | exact HB.out)⟩⟩
    case round =>
      clear H'
      try clear p2
      try clear c3
      try clear c3b0
      try clear c3b1
      try clear c6
      obtain ⟨x7_1, x8_1, rfl, HA, HK1, HO_5, HO_7, HB⟩ := hrel
      cases gk with
      | zero => exact absurd HA.out (by simp [dowelref12_Text.l0])
      | succ k1 =>
        have H := HA.out
        clear HA
        simp only [dowelref12_Text.l0] at H
        by_cases c7 : x8_1 < (l0.length : Int)
        · rw [if_pos c7] at H
          have c7b0 : decide (x8_1 < (l0.length : Int)) = true := decide_eq_true c7
          clear c7
          by_cases c8 : 0 ≤ x8_1
          · rw [if_pos c8] at H
            have c8b0 : decide (0 ≤ x8_1) = true := decide_eq_true c8
            clear c8
            by_cases c9 : ((rd_T60 l0 x8_1).f0).size + 1 ≤ 9223372036854775807
            · rw [if_pos c9] at H
              have c9b0 := eq_true c9
              have c9b1 : decide (((rd_T60 l0 x8_1).f0).size + 1 ≤ 9223372036854775807) = true := decide_eq_true c9
              try have c9b2 : (9223372036854775807 < ((rd_T60 l0 x8_1).f0).size + 1) = False := eq_false (Nat.not_lt.2 c9)
              replace H := Option.bind_eq_some_iff.mp H
              obtain ⟨t260, A100, H⟩ := H
              replace H : (if (((rd_T60 l0 x8_1).f0) ++ (⟨#[32]⟩ : ByteArray)).size + t260.size ≤ 9223372036854775807 then (if ((((rd_T60 l0 x8_1).f0) ++ (⟨#[32]⟩ : ByteArray)) ++ t260).size + 1 ≤ 9223372036854775807 then ((dowelref04_Digits.f k1 ((rd_T60 l0 x8_1).f2)).bind fun t262 => (if (((((rd_T60 l0 x8_1).f0) ++ (⟨#[32]⟩ : ByteArray)) ++ t260) ++ (⟨#[32]⟩ : ByteArray)).size + t262.size ≤ 9223372036854775807 then (if ((((((rd_T60 l0 x8_1).f0) ++ (⟨#[32]⟩ : ByteArray)) ++ t260) ++ (⟨#[32]⟩ : ByteArray)) ++ t262).size + 1 ≤ 9223372036854775807 then (if x8_1 < (t254.length : Int) then (if (wrap64 ((wrap64 ((x7_1.length : Int) + (wrap64 (2 * (rd t254 x8_1))))) + ((((((((rd_T60 l0 x8_1).f0) ++ (⟨#[32]⟩ : ByteArray)) ++ t260) ++ (⟨#[32]⟩ : ByteArray)) ++ t262) ++ (⟨#[10]⟩ : ByteArray)).size : Int))) > 4194304 then (some ((⟨#[]⟩ : ByteArray), 2)) else (dowelref12_Text.l1 k1 l0 t254 x7_1 x8_1 (((((((rd_T60 l0 x8_1).f0) ++ (⟨#[32]⟩ : ByteArray)) ++ t260) ++ (⟨#[32]⟩ : ByteArray)) ++ t262) ++ (⟨#[10]⟩ : ByteArray)) 0)) else (none)) else (none)) else (none))) else (none)) else (none)) = some (r1, r2) := H
              have A10 := Aside0.mk A100
              clear A100
              by_cases c11 : (((rd_T60 l0 x8_1).f0) ++ (⟨#[32]⟩ : ByteArray)).size + t260.size ≤ 9223372036854775807
              · rw [if_pos c11] at H
                have c11b0 := eq_true c11
                have c11b1 : decide ((((rd_T60 l0 x8_1).f0) ++ (⟨#[32]⟩ : ByteArray)).size + t260.size ≤ 9223372036854775807) = true := decide_eq_true c11
                try have c11b2 : (9223372036854775807 < (((rd_T60 l0 x8_1).f0) ++ (⟨#[32]⟩ : ByteArray)).size + t260.size) = False := eq_false (Nat.not_lt.2 c11)
                by_cases c12 : ((((rd_T60 l0 x8_1).f0) ++ (⟨#[32]⟩ : ByteArray)) ++ t260).size + 1 ≤ 9223372036854775807
                · rw [if_pos c12] at H
                  have c12b0 := eq_true c12
                  have c12b1 : decide (((((rd_T60 l0 x8_1).f0) ++ (⟨#[32]⟩ : ByteArray)) ++ t260).size + 1 ≤ 9223372036854775807) = true := decide_eq_true c12
                  try have c12b2 : (9223372036854775807 < ((((rd_T60 l0 x8_1).f0) ++ (⟨#[32]⟩ : ByteArray)) ++ t260).size + 1) = False := eq_false (Nat.not_lt.2 c12)
                  replace H := Option.bind_eq_some_iff.mp H
                  obtain ⟨t262, A130, H⟩ := H
                  replace H : (if (((((rd_T60 l0 x8_1).f0) ++ (⟨#[32]⟩ : ByteArray)) ++ t260) ++ (⟨#[32]⟩ : ByteArray)).size + t262.size ≤ 9223372036854775807 then (if ((((((rd_T60 l0 x8_1).f0) ++ (⟨#[32]⟩ : ByteArray)) ++ t260) ++ (⟨#[32]⟩ : ByteArray)) ++ t262).size + 1 ≤ 9223372036854775807 then (if x8_1 < (t254.length : Int) then (if (wrap64 ((wrap64 ((x7_1.length : Int) + (wrap64 (2 * (rd t254 x8_1))))) + ((((((((rd_T60 l0 x8_1).f0) ++ (⟨#[32]⟩ : ByteArray)) ++ t260) ++ (⟨#[32]⟩ : ByteArray)) ++ t262) ++ (⟨#[10]⟩ : ByteArray)).size : Int))) > 4194304 then (some ((⟨#[]⟩ : ByteArray), 2)) else (dowelref12_Text.l1 k1 l0 t254 x7_1 x8_1 (((((((rd_T60 l0 x8_1).f0) ++ (⟨#[32]⟩ : ByteArray)) ++ t260) ++ (⟨#[32]⟩ : ByteArray)) ++ t262) ++ (⟨#[10]⟩ : ByteArray)) 0)) else (none)) else (none)) else (none)) = some (r1, r2) := H
                  have A13 := Aside0.mk A130
                  clear A130
                  by_cases c14 : (((((rd_T60 l0 x8_1).f0) ++ (⟨#[32]⟩ : ByteArray)) ++ t260) ++ (⟨#[32]⟩ : ByteArray)).size + t262.size ≤ 9223372036854775807
                  · rw [if_pos c14] at H
                    have c14b0 := eq_true c14
                    have c14b1 : decide ((((((rd_T60 l0 x8_1).f0) ++ (⟨#[32]⟩ : ByteArray)) ++ t260) ++ (⟨#[32]⟩ : ByteArray)).size + t262.size ≤ 9223372036854775807) = true := decide_eq_true c14
                    try have c14b2 : (9223372036854775807 < (((((rd_T60 l0 x8_1).f0) ++ (⟨#[32]⟩ : ByteArray)) ++ t260) ++ (⟨#[32]⟩ : ByteArray)).size + t262.size) = False := eq_false (Nat.not_lt.2 c14)
                    by_cases c15 : ((((((rd_T60 l0 x8_1).f0) ++ (⟨#[32]⟩ : ByteArray)) ++ t260) ++ (⟨#[32]⟩ : ByteArray)) ++ t262).size + 1 ≤ 9223372036854775807
                    · rw [if_pos c15] at H
                      have c15b0 := eq_true c15
                      have c15b1 : decide (((((((rd_T60 l0 x8_1).f0) ++ (⟨#[32]⟩ : ByteArray)) ++ t260) ++ (⟨#[32]⟩ : ByteArray)) ++ t262).size + 1 ≤ 9223372036854775807) = true := decide_eq_true c15
                      try have c15b2 : (9223372036854775807 < ((((((rd_T60 l0 x8_1).f0) ++ (⟨#[32]⟩ : ByteArray)) ++ t260) ++ (⟨#[32]⟩ : ByteArray)) ++ t262).size + 1) = False := eq_false (Nat.not_lt.2 c15)
                      by_cases c16 : x8_1 < (t254.length : Int)
                      · rw [if_pos c16] at H
                        have c16b0 : decide (x8_1 < (t254.length : Int)) = true := decide_eq_true c16
                        clear c16
                        by_cases c17 : (wrap64 ((wrap64 ((x7_1.length : Int) + (wrap64 (2 * (rd t254 x8_1))))) + ((((((((rd_T60 l0 x8_1).f0) ++ (⟨#[32]⟩ : ByteArray)) ++ t260) ++ (⟨#[32]⟩ : ByteArray)) ++ t262) ++ (⟨#[10]⟩ : ByteArray)).size : Int))) > 4194304
                        · rw [if_pos c17] at H
                          have c17b0 : decide (4194304 < (wrap64 ((wrap64 ((x7_1.length : Int) + (wrap64 (2 * (rd t254 x8_1))))) + ((((((((rd_T60 l0 x8_1).f0) ++ (⟨#[32]⟩ : ByteArray)) ++ t260) ++ (⟨#[32]⟩ : ByteArray)) ++ t262) ++ (⟨#[10]⟩ : ByteArray)).size : Int)))) = true := decide_eq_true c17
                          have zc17b0 := c17b0
                          try simp only [ByteArray.size_append, szl_0_, szl_1_, szl_2_, szl_3_, szl_4_, szl_5_, szl_6_, szl_7_, szl_8_, szl_9_, szl_10_, szl_11_, szl_12_, szl_13_, szl_14_, szl_15_, Int.natCast_add, Int.cast_ofNat_Int] at zc17b0
                          clear c17
                          simp only [Option.some.injEq, Prod.mk.injEq] at H
                          obtain ⟨rfl, rfl⟩ := H
                          try go_wp2
                          have n0_ := Aside0.mk (Kd.R_drew HO_5.out)
                          have n1_ := Aside0.mk (Kd.R_drew HO_7.out)
                          have n2_ := Aside0.mk (below_drew1 HB.out)
                          clear HO_5
                          clear HO_7
                          clear HB
                          have HO_5 := n0_
                          have HO_7 := n1_
                          have HB := n2_
                          clear n0_ n1_ n2_
                          have p258 : 0 ≤ (x8_1 : Int) := of_decide_eq_true (by first | (with_reducible assumption) | assumption)
                          have q258 : x8_1 < (l0.length : Int) := of_decide_eq_true (by first | (with_reducible assumption) | assumption)
                          obtain ⟨ad258, e258, hx258_0, hx258_1, hx258_2, hx258_3⟩ := at_T60 HR0.out x8_1 p258 q258
                          have hw258_3 := hx258_3
                          have hw258_2 := hx258_2
                          have hw258_1 := hx258_1
                          have hw258_0 := hx258_0
                          cases e258
                          replace hx258_0 := (HB.out.cell (World.block_lt_of_cell? w _ hx258_0)).trans hx258_0
                          replace hx258_1 := (HB.out.cell (World.block_lt_of_cell? w _ hx258_1)).trans hx258_1
                          replace hx258_2 := (HB.out.cell (World.block_lt_of_cell? w _ hx258_2)).trans hx258_2
                          replace hx258_3 := (HB.out.cell (World.block_lt_of_cell? w _ hx258_3)).trans hx258_3
                          replace p258 := eq_true p258
                          replace q258 := eq_true q258
                          have p259 : 0 ≤ (x8_1 : Int) := of_decide_eq_true (by first | (with_reducible assumption) | assumption)
                          have q259 : x8_1 < (l0.length : Int) := of_decide_eq_true (by first | (with_reducible assumption) | assumption)
                          obtain ⟨ad259, e259, hx259_0, hx259_1, hx259_2, hx259_3⟩ := at_T60 HR0.out x8_1 p259 q259
                          have hw259_3 := hx259_3
                          have hw259_2 := hx259_2
                          have hw259_1 := hx259_1
                          have hw259_0 := hx259_0
                          obtain rfl : ad258 = ad259 := (by injection e259)
                          replace hx259_0 := (HB.out.cell (World.block_lt_of_cell? w _ hx259_0)).trans hx259_0
                          replace hx259_1 := (HB.out.cell (World.block_lt_of_cell? w _ hx259_1)).trans hx259_1
                          replace hx259_2 := (HB.out.cell (World.block_lt_of_cell? w _ hx259_2)).trans hx259_2
                          replace hx259_3 := (HB.out.cell (World.block_lt_of_cell? w _ hx259_3)).trans hx259_3
                          replace p259 := eq_true p259
                          replace q259 := eq_true q259
                          have p261 : 0 ≤ (x8_1 : Int) := of_decide_eq_true (by first | (with_reducible assumption) | assumption)
                          have q261 : x8_1 < (l0.length : Int) := of_decide_eq_true (by first | (with_reducible assumption) | assumption)
                          obtain ⟨ad261, e261, hx261_0, hx261_1, hx261_2, hx261_3⟩ := at_T60 HR0.out x8_1 p261 q261
                          have hw261_3 := hx261_3
                          have hw261_2 := hx261_2
                          have hw261_1 := hx261_1
                          have hw261_0 := hx261_0
                          obtain rfl : ad258 = ad261 := (by injection e261)
                          replace hx261_0 := (HB.out.cell (World.block_lt_of_cell? w _ hx261_0)).trans hx261_0
                          replace hx261_1 := (HB.out.cell (World.block_lt_of_cell? w _ hx261_1)).trans hx261_1
                          replace hx261_2 := (HB.out.cell (World.block_lt_of_cell? w _ hx261_2)).trans hx261_2
                          replace hx261_3 := (HB.out.cell (World.block_lt_of_cell? w _ hx261_3)).trans hx261_3
                          replace p261 := eq_true p261
                          replace q261 := eq_true q261
                          refine start_ (n := 23) (S := fun w' => w'.cell? (ad258.add ((x8_1).toNat * 4)) = some (.string ((rd_T60 l0 x8_1).f0)) ∧ w'.cell? ⟨(ad258.add ((x8_1).toNat * 4)).block, (ad258.add ((x8_1).toNat * 4)).off + 1, none⟩ = some (.int .i64 ((rd_T60 l0 x8_1).f1)) ∧ w'.cell? ⟨(ad258.add ((x8_1).toNat * 4)).block, (ad258.add ((x8_1).toNat * 4)).off + 2, none⟩ = some (.int .i64 ((rd_T60 l0 x8_1).f2)) ∧ w'.cell? ⟨(ad258.add ((x8_1).toNat * 4)).block, (ad258.add ((x8_1).toNat * 4)).off + 3, none⟩ = some (.int .i64 ((rd_T60 l0 x8_1).f3)) ∧ w'.cell? (ad258.add ((x8_1).toNat * 4)) = some (.string ((rd_T60 l0 x8_1).f0)) ∧ w'.cell? ⟨(ad258.add ((x8_1).toNat * 4)).block, (ad258.add ((x8_1).toNat * 4)).off + 1, none⟩ = some (.int .i64 ((rd_T60 l0 x8_1).f1)) ∧ w'.cell? ⟨(ad258.add ((x8_1).toNat * 4)).block, (ad258.add ((x8_1).toNat * 4)).off + 2, none⟩ = some (.int .i64 ((rd_T60 l0 x8_1).f2)) ∧ w'.cell? ⟨(ad258.add ((x8_1).toNat * 4)).block, (ad258.add ((x8_1).toNat * 4)).off + 3, none⟩ = some (.int .i64 ((rd_T60 l0 x8_1).f3)) ∧ w'.cell? (ad258.add ((x8_1).toNat * 4)) = some (.string ((rd_T60 l0 x8_1).f0)) ∧ w'.cell? ⟨(ad258.add ((x8_1).toNat * 4)).block, (ad258.add ((x8_1).toNat * 4)).off + 1, none⟩ = some (.int .i64 ((rd_T60 l0 x8_1).f1)) ∧ w'.cell? ⟨(ad258.add ((x8_1).toNat * 4)).block, (ad258.add ((x8_1).toNat * 4)).off + 2, none⟩ = some (.int .i64 ((rd_T60 l0 x8_1).f2)) ∧ w'.cell? ⟨(ad258.add ((x8_1).toNat * 4)).block, (ad258.add ((x8_1).toNat * 4)).off + 3, none⟩ = some (.int .i64 ((rd_T60 l0 x8_1).f3))) (ds := []) #[false, false, false, false, false, false, false, false, false, false, false, false, false, false, false, false, false, false, false, false, false, false, false] (by kernel_rfl) rfl rfl ⟨((HB.out.cell (World.block_lt_of_cell? w _ hw258_0)).trans hw258_0), ((HB.out.cell (World.block_lt_of_cell? w _ hw258_1)).trans hw258_1), ((HB.out.cell (World.block_lt_of_cell? w _ hw258_2)).trans hw258_2), ((HB.out.cell (World.block_lt_of_cell? w _ hw258_3)).trans hw258_3), ((HB.out.cell (World.block_lt_of_cell? w _ hw259_0)).trans hw259_0), ((HB.out.cell (World.block_lt_of_cell? w _ hw259_1)).trans hw259_1), ((HB.out.cell (World.block_lt_of_cell? w _ hw259_2)).trans hw259_2), ((HB.out.cell (World.block_lt_of_cell? w _ hw259_3)).trans hw259_3), ((HB.out.cell (World.block_lt_of_cell? w _ hw261_0)).trans hw261_0), ((HB.out.cell (World.block_lt_of_cell? w _ hw261_1)).trans hw261_1), ((HB.out.cell (World.block_lt_of_cell? w _ hw261_2)).trans hw261_2), ((HB.out.cell (World.block_lt_of_cell? w _ hw261_3)).trans hw261_3)⟩ (fun hHeld => ?_); refine with_tabW dowelref12_Text.tab9 dowelref12_Text.bits9 (fun HT_ HW_ => ?_)
                          generalize wr.drew = w18 at HO_5 HO_7 HB hx258_0 hx258_1 hx258_2 hx258_3 hx259_0 hx259_1 hx259_2 hx259_3 hx261_0 hx261_1 hx261_2 hx261_3 hHeld ⊢
                          refine pure_ (i := 0) (N := some 27) (v := ?_) (a' := ?_) #[true, false, false, false, false, false, false, false, false, false, false, false, false, false, false, false, false, false, false, false, false, false, false] rfl rfl (any_of HT_.out (by kernel_rfl)) (fun _ _ _ h => h) (Or.inl ⟨by rfl, ?_⟩) ?_ ?_
                          rotate_left
                          · intro w'
                            go_simp
                            first | with_reducible rfl | (rw [if_neg (by intro hl_; simp only [ByteArray.size_append, ByteArray.size_extract, szl_0_, szl_1_, szl_2_, szl_3_, szl_4_, szl_5_, szl_6_, szl_7_, szl_8_, szl_9_, szl_10_, szl_11_, szl_12_, szl_13_, szl_14_, szl_15_] at *; omega)])
                          rotate_left
                          · simp only [Act.put, List.setIfInBounds_toArray, List.set_cons_zero, List.set_cons_succ, i64_w, i32_w]
                            rfl
                          refine pure_ (i := 1) (N := some 28) (v := ?_) (a' := ?_) #[true, true, false, false, false, false, false, false, false, false, false, false, false, false, false, false, false, false, false, false, false, false, false] rfl rfl (any_of HT_.out (by kernel_rfl)) (fun _ _ _ h => h) (Or.inl ⟨by rfl, ?_⟩) ?_ ?_
                          rotate_left
                          · intro w'
                            go_simp
                            first | with_reducible rfl | (rw [if_neg (by intro hl_; simp only [ByteArray.size_append, ByteArray.size_extract, szl_0_, szl_1_, szl_2_, szl_3_, szl_4_, szl_5_, szl_6_, szl_7_, szl_8_, szl_9_, szl_10_, szl_11_, szl_12_, szl_13_, szl_14_, szl_15_] at *; omega)])
                          rotate_left
                          · simp only [Act.put, List.setIfInBounds_toArray, List.set_cons_zero, List.set_cons_succ, i64_w, i32_w]
                            rfl
                          refine pure_ (i := 2) (N := some 29) (v := ?_) (a' := ?_) #[true, true, true, false, false, false, false, false, false, false, false, false, false, false, false, false, false, false, false, false, false, false, false] rfl rfl (any_of HT_.out (by kernel_rfl)) (fun _ _ _ h => h) (Or.inl ⟨by rfl, ?_⟩) ?_ ?_
                          rotate_left
                          · intro w'
                            go_simp
                            first | with_reducible rfl | (rw [if_neg (by intro hl_; simp only [ByteArray.size_append, ByteArray.size_extract, szl_0_, szl_1_, szl_2_, szl_3_, szl_4_, szl_5_, szl_6_, szl_7_, szl_8_, szl_9_, szl_10_, szl_11_, szl_12_, szl_13_, szl_14_, szl_15_] at *; omega)])
                          rotate_left
                          · simp only [Act.put, List.setIfInBounds_toArray, List.set_cons_zero, List.set_cons_succ, i64_w, i32_w]
                            rfl
                          refine pure_ (i := 3) (N := some 30) (v := ?_) (a' := ?_) #[true, true, true, true, false, false, false, false, false, false, false, false, false, false, false, false, false, false, false, false, false, false, false] rfl rfl (any_of HT_.out (by kernel_rfl)) (fun _ _ _ h => h) (Or.inl ⟨by rfl, ?_⟩) ?_ ?_
                          rotate_left
                          · intro w'
                            go_simp
                            first | with_reducible rfl | (rw [if_neg (by intro hl_; simp only [ByteArray.size_append, ByteArray.size_extract, szl_0_, szl_1_, szl_2_, szl_3_, szl_4_, szl_5_, szl_6_, szl_7_, szl_8_, szl_9_, szl_10_, szl_11_, szl_12_, szl_13_, szl_14_, szl_15_] at *; omega)])
                          rotate_left
                          · simp only [Act.put, List.setIfInBounds_toArray, List.set_cons_zero, List.set_cons_succ, i64_w, i32_w]
                            rfl
                          refine pure_ (i := 6) (N := some 33) (v := ?_) (a' := ?_) #[true, true, true, true, false, false, true, false, false, false, false, false, false, false, false, false, false, false, false, false, false, false, false] rfl rfl (any_of HT_.out (by kernel_rfl)) (fun _ _ _ h => h) (Or.inl ⟨by rfl, ?_⟩) ?_ ?_
                          rotate_left
                          · intro w'
                            go_simp
                            first | with_reducible rfl | (rw [if_neg (by intro hl_; simp only [ByteArray.size_append, ByteArray.size_extract, szl_0_, szl_1_, szl_2_, szl_3_, szl_4_, szl_5_, szl_6_, szl_7_, szl_8_, szl_9_, szl_10_, szl_11_, szl_12_, szl_13_, szl_14_, szl_15_] at *; omega)])
                          rotate_left
                          · simp only [Act.put, List.setIfInBounds_toArray, List.set_cons_zero, List.set_cons_succ, i64_w, i32_w]
                            rfl
                          refine pure_ (i := 7) (N := some 34) (v := ?_) (a' := ?_) #[true, true, true, true, false, false, true, true, false, false, false, false, false, false, false, false, false, false, false, false, false, false, false] rfl rfl (any_of HT_.out (by kernel_rfl)) (fun _ _ _ h => h) (Or.inl ⟨by rfl, ?_⟩) ?_ ?_
                          rotate_left
                          · intro w'
                            go_simp
                            first | with_reducible rfl | (rw [if_neg (by intro hl_; simp only [ByteArray.size_append, ByteArray.size_extract, szl_0_, szl_1_, szl_2_, szl_3_, szl_4_, szl_5_, szl_6_, szl_7_, szl_8_, szl_9_, szl_10_, szl_11_, szl_12_, szl_13_, szl_14_, szl_15_] at *; omega)])
                          rotate_left
                          · simp only [Act.put, List.setIfInBounds_toArray, List.set_cons_zero, List.set_cons_succ, i64_w, i32_w]
                            rfl
                          refine pure_ (i := 8) (N := some 35) (v := ?_) (a' := ?_) #[true, true, true, true, false, false, true, true, true, false, false, false, false, false, false, false, false, false, false, false, false, false, false] rfl rfl (any_of HT_.out (by kernel_rfl)) (fun _ _ _ h => h) (Or.inl ⟨by rfl, ?_⟩) ?_ ?_
                          rotate_left
                          · intro w'
                            go_simp
                            first | with_reducible rfl | (rw [if_neg (by intro hl_; simp only [ByteArray.size_append, ByteArray.size_extract, szl_0_, szl_1_, szl_2_, szl_3_, szl_4_, szl_5_, szl_6_, szl_7_, szl_8_, szl_9_, szl_10_, szl_11_, szl_12_, szl_13_, szl_14_, szl_15_] at *; omega)])
                          rotate_left
                          · simp only [Act.put, List.setIfInBounds_toArray, List.set_cons_zero, List.set_cons_succ, i64_w, i32_w]
                            rfl
                          refine pure_ (i := 9) (N := some 36) (v := ?_) (a' := ?_) #[true, true, true, true, false, false, true, true, true, true, false, false, false, false, false, false, false, false, false, false, false, false, false] rfl rfl (any_of HT_.out (by kernel_rfl)) (fun _ _ _ h => h) (Or.inl ⟨by rfl, ?_⟩) ?_ ?_
                          rotate_left
                          · intro w'
                            go_simp
                            first | with_reducible rfl | (rw [if_neg (by intro hl_; simp only [ByteArray.size_append, ByteArray.size_extract, szl_0_, szl_1_, szl_2_, szl_3_, szl_4_, szl_5_, szl_6_, szl_7_, szl_8_, szl_9_, szl_10_, szl_11_, szl_12_, szl_13_, szl_14_, szl_15_] at *; omega)])
                          rotate_left
                          · simp only [Act.put, List.setIfInBounds_toArray, List.set_cons_zero, List.set_cons_succ, i64_w, i32_w]
                            rfl
                          refine pure_ (i := 14) (N := some 41) (v := ?_) (a' := ?_) #[true, true, true, true, false, false, true, true, true, true, false, false, false, false, true, false, false, false, false, false, false, false, false] rfl rfl (any_of HT_.out (by kernel_rfl)) (fun _ _ _ h => h) (Or.inl ⟨by rfl, ?_⟩) ?_ ?_
                          rotate_left
                          · intro w'
                            go_simp
                            first | with_reducible rfl | (rw [if_neg (by intro hl_; simp only [ByteArray.size_append, ByteArray.size_extract, szl_0_, szl_1_, szl_2_, szl_3_, szl_4_, szl_5_, szl_6_, szl_7_, szl_8_, szl_9_, szl_10_, szl_11_, szl_12_, szl_13_, szl_14_, szl_15_] at *; omega)])
                          rotate_left
                          · simp only [Act.put, List.setIfInBounds_toArray, List.set_cons_zero, List.set_cons_succ, i64_w, i32_w]
                            rfl
                          refine pure_ (i := 15) (N := some 42) (v := ?_) (a' := ?_) #[true, true, true, true, false, false, true, true, true, true, false, false, false, false, true, true, false, false, false, false, false, false, false] rfl rfl (any_of HT_.out (by kernel_rfl)) (fun _ _ _ h => h) (Or.inl ⟨by rfl, ?_⟩) ?_ ?_
                          rotate_left
                          · intro w'
                            go_simp
                            first | with_reducible rfl | (rw [if_neg (by intro hl_; simp only [ByteArray.size_append, ByteArray.size_extract, szl_0_, szl_1_, szl_2_, szl_3_, szl_4_, szl_5_, szl_6_, szl_7_, szl_8_, szl_9_, szl_10_, szl_11_, szl_12_, szl_13_, szl_14_, szl_15_] at *; omega)])
                          rotate_left
                          · simp only [Act.put, List.setIfInBounds_toArray, List.set_cons_zero, List.set_cons_succ, i64_w, i32_w]
                            rfl
                          refine pure_ (i := 16) (N := some 43) (v := ?_) (a' := ?_) #[true, true, true, true, false, false, true, true, true, true, false, false, false, false, true, true, true, false, false, false, false, false, false] rfl rfl (any_of HT_.out (by kernel_rfl)) (fun _ _ _ h => h) (Or.inl ⟨by rfl, ?_⟩) ?_ ?_
                          rotate_left
                          · intro w'
                            go_simp
                            first | with_reducible rfl | (rw [if_neg (by intro hl_; simp only [ByteArray.size_append, ByteArray.size_extract, szl_0_, szl_1_, szl_2_, szl_3_, szl_4_, szl_5_, szl_6_, szl_7_, szl_8_, szl_9_, szl_10_, szl_11_, szl_12_, szl_13_, szl_14_, szl_15_] at *; omega)])
                          rotate_left
                          · simp only [Act.put, List.setIfInBounds_toArray, List.set_cons_zero, List.set_cons_succ, i64_w, i32_w]
                            rfl
                          refine pure_ (i := 17) (N := some 44) (v := ?_) (a' := ?_) #[true, true, true, true, false, false, true, true, true, true, false, false, false, false, true, true, true, true, false, false, false, false, false] rfl rfl (any_of HT_.out (by kernel_rfl)) (fun _ _ _ h => h) (Or.inl ⟨by rfl, ?_⟩) ?_ ?_
                          rotate_left
                          · intro w'
                            go_simp
                            first | with_reducible rfl | (rw [if_neg (by intro hl_; simp only [ByteArray.size_append, ByteArray.size_extract, szl_0_, szl_1_, szl_2_, szl_3_, szl_4_, szl_5_, szl_6_, szl_7_, szl_8_, szl_9_, szl_10_, szl_11_, szl_12_, szl_13_, szl_14_, szl_15_] at *; omega)])
                          rotate_left
                          · simp only [Act.put, List.setIfInBounds_toArray, List.set_cons_zero, List.set_cons_succ, i64_w, i32_w]
                            rfl
                          refine take_ (i := 4) (N := some 31) (v := ?_) (a' := ?_) #[true, true, true, true, true, false, true, true, true, true, false, false, false, false, true, true, true, true, false, false, false, false, false] rfl rfl (take_ofW HT_.out HW_.out (by kernel_rfl)) (fun _ _ _ h => h) (Or.inl ⟨by rfl, ?_⟩) hHeld ?_ ?_
                          rotate_left
                          · rintro w' ⟨s0, s1, s2, s3, s4, s5, s6, s7, s8, s9, s10, s11⟩
                            go_simp
                            first | with_reducible rfl | (rw [if_neg (by intro hl_; simp only [ByteArray.size_append, ByteArray.size_extract, szl_0_, szl_1_, szl_2_, szl_3_, szl_4_, szl_5_, szl_6_, szl_7_, szl_8_, szl_9_, szl_10_, szl_11_, szl_12_, szl_13_, szl_14_, szl_15_] at *; omega)])
                          rotate_left
                          · simp only [Act.put, List.setIfInBounds_toArray, List.set_cons_zero, List.set_cons_succ, i64_w, i32_w]
                            rfl
                          refine pure_ (i := 5) (N := some 32) (v := ?_) (a' := ?_) #[true, true, true, true, true, true, true, true, true, true, false, false, false, false, true, true, true, true, false, false, false, false, false] rfl rfl (any_of HT_.out (by kernel_rfl)) (fun _ _ _ h => h) (Or.inl ⟨by rfl, ?_⟩) ?_ ?_
                          rotate_left
                          · intro w'
                            go_simp
                            first | with_reducible rfl | (rw [if_neg (by intro hl_; simp only [ByteArray.size_append, ByteArray.size_extract, szl_0_, szl_1_, szl_2_, szl_3_, szl_4_, szl_5_, szl_6_, szl_7_, szl_8_, szl_9_, szl_10_, szl_11_, szl_12_, szl_13_, szl_14_, szl_15_] at *; omega)])
                          rotate_left
                          · simp only [Act.put, List.setIfInBounds_toArray, List.set_cons_zero, List.set_cons_succ, i64_w, i32_w]
                            rfl
                          refine take_ (i := 10) (N := some 37) (v := ?_) (a' := ?_) #[true, true, true, true, true, true, true, true, true, true, true, false, false, false, true, true, true, true, false, false, false, false, false] rfl rfl (take_ofW HT_.out HW_.out (by kernel_rfl)) (fun _ _ _ h => h) (Or.inl ⟨by rfl, ?_⟩) hHeld ?_ ?_
                          rotate_left
                          · rintro w' ⟨s0, s1, s2, s3, s4, s5, s6, s7, s8, s9, s10, s11⟩
                            go_simp
                            first | with_reducible rfl | (rw [if_neg (by intro hl_; simp only [ByteArray.size_append, ByteArray.size_extract, szl_0_, szl_1_, szl_2_, szl_3_, szl_4_, szl_5_, szl_6_, szl_7_, szl_8_, szl_9_, szl_10_, szl_11_, szl_12_, szl_13_, szl_14_, szl_15_] at *; omega)])
                          rotate_left
                          · simp only [Act.put, List.setIfInBounds_toArray, List.set_cons_zero, List.set_cons_succ, i64_w, i32_w]
                            rfl
                          refine take_ (i := 18) (N := some 45) (v := ?_) (a' := ?_) #[true, true, true, true, true, true, true, true, true, true, true, false, false, false, true, true, true, true, true, false, false, false, false] rfl rfl (take_ofW HT_.out HW_.out (by kernel_rfl)) (fun _ _ _ h => h) (Or.inl ⟨by rfl, ?_⟩) hHeld ?_ ?_
                          rotate_left
                          · rintro w' ⟨s0, s1, s2, s3, s4, s5, s6, s7, s8, s9, s10, s11⟩
                            go_simp
                            first | with_reducible rfl | (rw [if_neg (by intro hl_; simp only [ByteArray.size_append, ByteArray.size_extract, szl_0_, szl_1_, szl_2_, szl_3_, szl_4_, szl_5_, szl_6_, szl_7_, szl_8_, szl_9_, szl_10_, szl_11_, szl_12_, szl_13_, szl_14_, szl_15_] at *; omega)])
                          rotate_left
                          · simp only [Act.put, List.setIfInBounds_toArray, List.set_cons_zero, List.set_cons_succ, i64_w, i32_w]
                            rfl
                          refine one_ (i := 11) (N := some 38) #[true, true, true, true, true, true, true, true, true, true, true, true, false, false, true, true, true, true, true, false, false, false, false] rfl rfl (one_of HT_.out (by kernel_rfl)) (by decide) (fun K hK => ?_)
                          refine goes_ Tryd.func39 (by kernel_rfl) rfl #[.int .i64 ((rd_T60 l0 x8_1).f1)] (by rfl) rfl rfl (by (try simp only [List.map_toArray, List.map_cons, List.map_nil]); first | done | rfl | (simp only [List.length_drop, List.length_take]; rfl)) ?_
                          with_reducible refine (dowelref04_Digits.calls k1 ((rd_T60 l0 x8_1).f1) t260 _ A10.out).mono ?_
                          rintro e w19 ⟨rfl, hb⟩
                          refine ⟨_, rfl, ?_⟩
                          have n0_ := Aside0.mk (Kd.R_below (by (with_reducible repeat (first | apply Kd.R_alloc | apply Kd.R_drewN | apply Kd.R_drew)); exact HO_5.out) hb)
                          have n1_ := Aside0.mk (Kd.R_below (by (with_reducible repeat (first | apply Kd.R_alloc | apply Kd.R_drewN | apply Kd.R_drew)); exact HO_7.out) hb)
                          have n2_ := Aside0.mk (below_step (by repeat (first | (with_reducible first | exact HB.out | apply below_alloc | apply pw_below_drewN | apply below_drew1) | exact HB.out)) hb)
                          clear HO_5
                          clear HO_7
                          clear HB
                          have HO_5 := n0_
                          have HO_7 := n1_
                          have HB := n2_
                          clear n0_ n1_ n2_
                          (try clear hb)
                          (try clear hb2)
                          (try clear hk)
                          (try clear hi)
                          refine hK.out _ _ ⟨((HB.out.cell (World.block_lt_of_cell? w _ hw258_0)).trans hw258_0), ((HB.out.cell (World.block_lt_of_cell? w _ hw258_1)).trans hw258_1), ((HB.out.cell (World.block_lt_of_cell? w _ hw258_2)).trans hw258_2), ((HB.out.cell (World.block_lt_of_cell? w _ hw258_3)).trans hw258_3), ((HB.out.cell (World.block_lt_of_cell? w _ hw259_0)).trans hw259_0), ((HB.out.cell (World.block_lt_of_cell? w _ hw259_1)).trans hw259_1), ((HB.out.cell (World.block_lt_of_cell? w _ hw259_2)).trans hw259_2), ((HB.out.cell (World.block_lt_of_cell? w _ hw259_3)).trans hw259_3), ((HB.out.cell (World.block_lt_of_cell? w _ hw261_0)).trans hw261_0), ((HB.out.cell (World.block_lt_of_cell? w _ hw261_1)).trans hw261_1), ((HB.out.cell (World.block_lt_of_cell? w _ hw261_2)).trans hw261_2), ((HB.out.cell (World.block_lt_of_cell? w _ hw261_3)).trans hw261_3)⟩ (fun hHeld => ?_)
                          clear hK K
                          refine norm_ (a' := ?_) ?_ ?_
                          rotate_left
                          · show Act.put _ (some 38) _ = _
                            simp only [Act.put, List.setIfInBounds_toArray, List.set_cons_zero, List.set_cons_succ, i64_w, i32_w]
                            rfl
                          refine pure_ (i := 12) (N := some 39) (v := ?_) (a' := ?_) #[true, true, true, true, true, true, true, true, true, true, true, true, true, false, true, true, true, true, true, false, false, false, false] rfl rfl (any_of HT_.out (by kernel_rfl)) (fun _ _ _ h => h) (Or.inl ⟨by rfl, ?_⟩) ?_ ?_
                          rotate_left
                          · intro w'
                            go_simp
                            first | with_reducible rfl | (rw [if_neg (by intro hl_; simp only [ByteArray.size_append, ByteArray.size_extract, szl_0_, szl_1_, szl_2_, szl_3_, szl_4_, szl_5_, szl_6_, szl_7_, szl_8_, szl_9_, szl_10_, szl_11_, szl_12_, szl_13_, szl_14_, szl_15_] at *; omega)])
                          rotate_left
                          · simp only [Act.put, List.setIfInBounds_toArray, List.set_cons_zero, List.set_cons_succ, i64_w, i32_w]
                            rfl
                          refine pure_ (i := 13) (N := some 40) (v := ?_) (a' := ?_) #[true, true, true, true, true, true, true, true, true, true, true, true, true, true, true, true, true, true, true, false, false, false, false] rfl rfl (any_of HT_.out (by kernel_rfl)) (fun _ _ _ h => h) (Or.inl ⟨by rfl, ?_⟩) ?_ ?_
                          rotate_left
                          · intro w'
                            go_simp
                            first | with_reducible rfl | (rw [if_neg (by intro hl_; simp only [ByteArray.size_append, ByteArray.size_extract, szl_0_, szl_1_, szl_2_, szl_3_, szl_4_, szl_5_, szl_6_, szl_7_, szl_8_, szl_9_, szl_10_, szl_11_, szl_12_, szl_13_, szl_14_, szl_15_] at *; omega)])
                          rotate_left
                          · simp only [Act.put, List.setIfInBounds_toArray, List.set_cons_zero, List.set_cons_succ, i64_w, i32_w]
                            rfl
                          refine one_ (i := 19) (N := some 46) #[true, true, true, true, true, true, true, true, true, true, true, true, true, true, true, true, true, true, true, true, false, false, false] rfl rfl (one_of HT_.out (by kernel_rfl)) (by decide) (fun K hK => ?_)
                          refine goes_ Tryd.func39 (by kernel_rfl) rfl #[.int .i64 ((rd_T60 l0 x8_1).f2)] (by rfl) rfl rfl (by (try simp only [List.map_toArray, List.map_cons, List.map_nil]); first | done | rfl | (simp only [List.length_drop, List.length_take]; rfl)) ?_
                          with_reducible refine (dowelref04_Digits.calls k1 ((rd_T60 l0 x8_1).f2) t262 _ A13.out).mono ?_
                          rintro e w20 ⟨rfl, hb⟩
                          refine ⟨_, rfl, ?_⟩
                          have n0_ := Aside0.mk (Kd.R_below (by (with_reducible repeat (first | apply Kd.R_alloc | apply Kd.R_drewN | apply Kd.R_drew)); exact HO_5.out) hb)
                          have n1_ := Aside0.mk (Kd.R_below (by (with_reducible repeat (first | apply Kd.R_alloc | apply Kd.R_drewN | apply Kd.R_drew)); exact HO_7.out) hb)
                          have n2_ := Aside0.mk (below_step (by repeat (first | (with_reducible first | exact HB.out | apply below_alloc | apply pw_below_drewN | apply below_drew1) | exact HB.out)) hb)
                          clear HO_5
                          clear HO_7
                          clear HB
                          have HO_5 := n0_
                          have HO_7 := n1_
                          have HB := n2_
                          clear n0_ n1_ n2_
                          (try clear hb)
                          (try clear hb2)
                          (try clear hk)
                          (try clear hi)
                          refine hK.out _ _ ⟨((HB.out.cell (World.block_lt_of_cell? w _ hw258_0)).trans hw258_0), ((HB.out.cell (World.block_lt_of_cell? w _ hw258_1)).trans hw258_1), ((HB.out.cell (World.block_lt_of_cell? w _ hw258_2)).trans hw258_2), ((HB.out.cell (World.block_lt_of_cell? w _ hw258_3)).trans hw258_3), ((HB.out.cell (World.block_lt_of_cell? w _ hw259_0)).trans hw259_0), ((HB.out.cell (World.block_lt_of_cell? w _ hw259_1)).trans hw259_1), ((HB.out.cell (World.block_lt_of_cell? w _ hw259_2)).trans hw259_2), ((HB.out.cell (World.block_lt_of_cell? w _ hw259_3)).trans hw259_3), ((HB.out.cell (World.block_lt_of_cell? w _ hw261_0)).trans hw261_0), ((HB.out.cell (World.block_lt_of_cell? w _ hw261_1)).trans hw261_1), ((HB.out.cell (World.block_lt_of_cell? w _ hw261_2)).trans hw261_2), ((HB.out.cell (World.block_lt_of_cell? w _ hw261_3)).trans hw261_3)⟩ (fun hHeld => ?_)
                          clear hK K
                          refine norm_ (a' := ?_) ?_ ?_
                          rotate_left
                          · show Act.put _ (some 46) _ = _
                            simp only [Act.put, List.setIfInBounds_toArray, List.set_cons_zero, List.set_cons_succ, i64_w, i32_w]
                            rfl
                          refine pure_ (i := 20) (N := some 47) (v := ?_) (a' := ?_) #[true, true, true, true, true, true, true, true, true, true, true, true, true, true, true, true, true, true, true, true, true, false, false] rfl rfl (any_of HT_.out (by kernel_rfl)) (fun _ _ _ h => h) (Or.inl ⟨by rfl, ?_⟩) ?_ ?_
                          rotate_left
                          · intro w'
                            go_simp
                            first | with_reducible rfl | (rw [if_neg (by intro hl_; simp only [ByteArray.size_append, ByteArray.size_extract, szl_0_, szl_1_, szl_2_, szl_3_, szl_4_, szl_5_, szl_6_, szl_7_, szl_8_, szl_9_, szl_10_, szl_11_, szl_12_, szl_13_, szl_14_, szl_15_] at *; omega)])
                          rotate_left
                          · simp only [Act.put, List.setIfInBounds_toArray, List.set_cons_zero, List.set_cons_succ, i64_w, i32_w]
                            rfl
                          refine pure_ (i := 21) (N := some 48) (v := ?_) (a' := ?_) #[true, true, true, true, true, true, true, true, true, true, true, true, true, true, true, true, true, true, true, true, true, true, false] rfl rfl (any_of HT_.out (by kernel_rfl)) (fun _ _ _ h => h) (Or.inl ⟨by rfl, ?_⟩) ?_ ?_
                          rotate_left
                          · intro w'
                            go_simp
                            first | with_reducible rfl | (rw [if_neg (by intro hl_; simp only [ByteArray.size_append, ByteArray.size_extract, szl_0_, szl_1_, szl_2_, szl_3_, szl_4_, szl_5_, szl_6_, szl_7_, szl_8_, szl_9_, szl_10_, szl_11_, szl_12_, szl_13_, szl_14_, szl_15_] at *; omega)])
                          rotate_left
                          · simp only [Act.put, List.setIfInBounds_toArray, List.set_cons_zero, List.set_cons_succ, i64_w, i32_w]
                            rfl
                          refine pure_ (i := 22) (N := some 9) (v := ?_) (a' := ?_) #[true, true, true, true, true, true, true, true, true, true, true, true, true, true, true, true, true, true, true, true, true, true, true] rfl rfl (any_of HT_.out (by kernel_rfl)) (fun _ _ _ h => h) (Or.inl ⟨by rfl, ?_⟩) ?_ ?_
                          rotate_left
                          · intro w'
                            go_simp
                            first | with_reducible rfl | (rw [if_neg (by intro hl_; simp only [ByteArray.size_append, ByteArray.size_extract, szl_0_, szl_1_, szl_2_, szl_3_, szl_4_, szl_5_, szl_6_, szl_7_, szl_8_, szl_9_, szl_10_, szl_11_, szl_12_, szl_13_, szl_14_, szl_15_] at *; omega)])
                          rotate_left
                          · simp only [Act.put, List.setIfInBounds_toArray, List.set_cons_zero, List.set_cons_succ, i64_w, i32_w]
                            rfl
                          refine done_ (done_of HT_.out (by kernel_rfl)) ?_
                          obtain ⟨Ao21, co21, eo21⟩ := Kd.R_slice HO_7.out
                          subst eo21
                          obtain ⟨Ao22, co22, eo22⟩ := Kd.R_slice HO_5.out
                          subst eo22
                          have p263 : 0 ≤ (x8_1 : Int) := of_decide_eq_true (by first | (with_reducible assumption) | assumption)
                          have q263 : x8_1 < (t254.length : Int) := of_decide_eq_true (by first | (with_reducible assumption) | assumption)
                          obtain ⟨ad263, e263, hx263_0⟩ := Kd.at_int (Kd.R_reads' HO_5.out).2.2 x8_1 p263 q263
                          cases e263
                          replace p263 := eq_true p263
                          replace q263 := eq_true q263
                          try go_wp2
                          all_goals (try (exfalso; simp only [ByteArray.size_append, ByteArray.size_extract, szl_0_, szl_1_, szl_2_, szl_3_, szl_4_, szl_5_, szl_6_, szl_7_, szl_8_, szl_9_, szl_10_, szl_11_, szl_12_, szl_13_, szl_14_, szl_15_, decide_eq_true_eq, decide_eq_false_iff_not] at *; (try simp only [Int.natCast_add, Int.cast_ofNat_Int] at *); omega))
                          go_ret2
                          exact ⟨by first | rfl | (simp [errW_none, errW_some] <;> rfl) | (simp [*, errW_none, errW_some] <;> rfl), by repeat (first | (with_reducible first | exact HB.out | apply below_alloc | apply pw_below_drewN | apply below_drew1) | exact HB.out)⟩
                        · rw [if_neg c17] at H
                          have c17b0 : decide (4194304 < (wrap64 ((wrap64 ((x7_1.length : Int) + (wrap64 (2 * (rd t254 x8_1))))) + ((((((((rd_T60 l0 x8_1).f0) ++ (⟨#[32]⟩ : ByteArray)) ++ t260) ++ (⟨#[32]⟩ : ByteArray)) ++ t262) ++ (⟨#[10]⟩ : ByteArray)).size : Int)))) = false := decide_eq_false c17
                          have zc17b0 := c17b0
                          try simp only [ByteArray.size_append, szl_0_, szl_1_, szl_2_, szl_3_, szl_4_, szl_5_, szl_6_, szl_7_, szl_8_, szl_9_, szl_10_, szl_11_, szl_12_, szl_13_, szl_14_, szl_15_, Int.natCast_add, Int.cast_ofNat_Int] at zc17b0
                          clear c17
                          have H' := Aside0.mk H
                          clear H
                          try go_wp2
                          have n0_ := Aside0.mk (Kd.R_drew HO_5.out)
                          have n1_ := Aside0.mk (Kd.R_drew HO_7.out)
                          have n2_ := Aside0.mk (below_drew1 HB.out)
                          clear HO_5
                          clear HO_7
                          clear HB
                          have HO_5 := n0_
                          have HO_7 := n1_
                          have HB := n2_
                          clear n0_ n1_ n2_
                          have p258 : 0 ≤ (x8_1 : Int) := of_decide_eq_true (by first | (with_reducible assumption) | assumption)
                          have q258 : x8_1 < (l0.length : Int) := of_decide_eq_true (by first | (with_reducible assumption) | assumption)
                          obtain ⟨ad258, e258, hx258_0, hx258_1, hx258_2, hx258_3⟩ := at_T60 HR0.out x8_1 p258 q258
                          have hw258_3 := hx258_3
                          have hw258_2 := hx258_2
                          have hw258_1 := hx258_1
                          have hw258_0 := hx258_0
                          cases e258
                          replace hx258_0 := (HB.out.cell (World.block_lt_of_cell? w _ hx258_0)).trans hx258_0
                          replace hx258_1 := (HB.out.cell (World.block_lt_of_cell? w _ hx258_1)).trans hx258_1
                          replace hx258_2 := (HB.out.cell (World.block_lt_of_cell? w _ hx258_2)).trans hx258_2
                          replace hx258_3 := (HB.out.cell (World.block_lt_of_cell? w _ hx258_3)).trans hx258_3
                          replace p258 := eq_true p258
                          replace q258 := eq_true q258
                          have p259 : 0 ≤ (x8_1 : Int) := of_decide_eq_true (by first | (with_reducible assumption) | assumption)
                          have q259 : x8_1 < (l0.length : Int) := of_decide_eq_true (by first | (with_reducible assumption) | assumption)
                          obtain ⟨ad259, e259, hx259_0, hx259_1, hx259_2, hx259_3⟩ := at_T60 HR0.out x8_1 p259 q259
                          have hw259_3 := hx259_3
                          have hw259_2 := hx259_2
                          have hw259_1 := hx259_1
                          have hw259_0 := hx259_0
                          obtain rfl : ad258 = ad259 := (by injection e259)
                          replace hx259_0 := (HB.out.cell (World.block_lt_of_cell? w _ hx259_0)).trans hx259_0
                          replace hx259_1 := (HB.out.cell (World.block_lt_of_cell? w _ hx259_1)).trans hx259_1
                          replace hx259_2 := (HB.out.cell (World.block_lt_of_cell? w _ hx259_2)).trans hx259_2
                          replace hx259_3 := (HB.out.cell (World.block_lt_of_cell? w _ hx259_3)).trans hx259_3
                          replace p259 := eq_true p259
                          replace q259 := eq_true q259
                          have p261 : 0 ≤ (x8_1 : Int) := of_decide_eq_true (by first | (with_reducible assumption) | assumption)
                          have q261 : x8_1 < (l0.length : Int) := of_decide_eq_true (by first | (with_reducible assumption) | assumption)
                          obtain ⟨ad261, e261, hx261_0, hx261_1, hx261_2, hx261_3⟩ := at_T60 HR0.out x8_1 p261 q261
                          have hw261_3 := hx261_3
                          have hw261_2 := hx261_2
                          have hw261_1 := hx261_1
                          have hw261_0 := hx261_0
                          obtain rfl : ad258 = ad261 := (by injection e261)
                          replace hx261_0 := (HB.out.cell (World.block_lt_of_cell? w _ hx261_0)).trans hx261_0
                          replace hx261_1 := (HB.out.cell (World.block_lt_of_cell? w _ hx261_1)).trans hx261_1
                          replace hx261_2 := (HB.out.cell (World.block_lt_of_cell? w _ hx261_2)).trans hx261_2
                          replace hx261_3 := (HB.out.cell (World.block_lt_of_cell? w _ hx261_3)).trans hx261_3
                          replace p261 := eq_true p261
                          replace q261 := eq_true q261
                          refine start_ (n := 23) (S := fun w' => w'.cell? (ad258.add ((x8_1).toNat * 4)) = some (.string ((rd_T60 l0 x8_1).f0)) ∧ w'.cell? ⟨(ad258.add ((x8_1).toNat * 4)).block, (ad258.add ((x8_1).toNat * 4)).off + 1, none⟩ = some (.int .i64 ((rd_T60 l0 x8_1).f1)) ∧ w'.cell? ⟨(ad258.add ((x8_1).toNat * 4)).block, (ad258.add ((x8_1).toNat * 4)).off + 2, none⟩ = some (.int .i64 ((rd_T60 l0 x8_1).f2)) ∧ w'.cell? ⟨(ad258.add ((x8_1).toNat * 4)).block, (ad258.add ((x8_1).toNat * 4)).off + 3, none⟩ = some (.int .i64 ((rd_T60 l0 x8_1).f3)) ∧ w'.cell? (ad258.add ((x8_1).toNat * 4)) = some (.string ((rd_T60 l0 x8_1).f0)) ∧ w'.cell? ⟨(ad258.add ((x8_1).toNat * 4)).block, (ad258.add ((x8_1).toNat * 4)).off + 1, none⟩ = some (.int .i64 ((rd_T60 l0 x8_1).f1)) ∧ w'.cell? ⟨(ad258.add ((x8_1).toNat * 4)).block, (ad258.add ((x8_1).toNat * 4)).off + 2, none⟩ = some (.int .i64 ((rd_T60 l0 x8_1).f2)) ∧ w'.cell? ⟨(ad258.add ((x8_1).toNat * 4)).block, (ad258.add ((x8_1).toNat * 4)).off + 3, none⟩ = some (.int .i64 ((rd_T60 l0 x8_1).f3)) ∧ w'.cell? (ad258.add ((x8_1).toNat * 4)) = some (.string ((rd_T60 l0 x8_1).f0)) ∧ w'.cell? ⟨(ad258.add ((x8_1).toNat * 4)).block, (ad258.add ((x8_1).toNat * 4)).off + 1, none⟩ = some (.int .i64 ((rd_T60 l0 x8_1).f1)) ∧ w'.cell? ⟨(ad258.add ((x8_1).toNat * 4)).block, (ad258.add ((x8_1).toNat * 4)).off + 2, none⟩ = some (.int .i64 ((rd_T60 l0 x8_1).f2)) ∧ w'.cell? ⟨(ad258.add ((x8_1).toNat * 4)).block, (ad258.add ((x8_1).toNat * 4)).off + 3, none⟩ = some (.int .i64 ((rd_T60 l0 x8_1).f3))) (ds := []) #[false, false, false, false, false, false, false, false, false, false, false, false, false, false, false, false, false, false, false, false, false, false, false] (by kernel_rfl) rfl rfl ⟨((HB.out.cell (World.block_lt_of_cell? w _ hw258_0)).trans hw258_0), ((HB.out.cell (World.block_lt_of_cell? w _ hw258_1)).trans hw258_1), ((HB.out.cell (World.block_lt_of_cell? w _ hw258_2)).trans hw258_2), ((HB.out.cell (World.block_lt_of_cell? w _ hw258_3)).trans hw258_3), ((HB.out.cell (World.block_lt_of_cell? w _ hw259_0)).trans hw259_0), ((HB.out.cell (World.block_lt_of_cell? w _ hw259_1)).trans hw259_1), ((HB.out.cell (World.block_lt_of_cell? w _ hw259_2)).trans hw259_2), ((HB.out.cell (World.block_lt_of_cell? w _ hw259_3)).trans hw259_3), ((HB.out.cell (World.block_lt_of_cell? w _ hw261_0)).trans hw261_0), ((HB.out.cell (World.block_lt_of_cell? w _ hw261_1)).trans hw261_1), ((HB.out.cell (World.block_lt_of_cell? w _ hw261_2)).trans hw261_2), ((HB.out.cell (World.block_lt_of_cell? w _ hw261_3)).trans hw261_3)⟩ (fun hHeld => ?_); refine with_tabW dowelref12_Text.tab9 dowelref12_Text.bits9 (fun HT_ HW_ => ?_)
                          generalize wr.drew = w23 at HO_5 HO_7 HB hx258_0 hx258_1 hx258_2 hx258_3 hx259_0 hx259_1 hx259_2 hx259_3 hx261_0 hx261_1 hx261_2 hx261_3 hHeld ⊢
                          refine pure_ (i := 0) (N := some 27) (v := ?_) (a' := ?_) #[true, false, false, false, false, false, false, false, false, false, false, false, false, false, false, false, false, false, false, false, false, false, false] rfl rfl (any_of HT_.out (by kernel_rfl)) (fun _ _ _ h => h) (Or.inl ⟨by rfl, ?_⟩) ?_ ?_
                          rotate_left
                          · intro w'
                            go_simp
                            first | with_reducible rfl | (rw [if_neg (by intro hl_; simp only [ByteArray.size_append, ByteArray.size_extract, szl_0_, szl_1_, szl_2_, szl_3_, szl_4_, szl_5_, szl_6_, szl_7_, szl_8_, szl_9_, szl_10_, szl_11_, szl_12_, szl_13_, szl_14_, szl_15_] at *; omega)])
                          rotate_left
                          · simp only [Act.put, List.setIfInBounds_toArray, List.set_cons_zero, List.set_cons_succ, i64_w, i32_w]
                            rfl
                          refine pure_ (i := 1) (N := some 28) (v := ?_) (a' := ?_) #[true, true, false, false, false, false, false, false, false, false, false, false, false, false, false, false, false, false, false, false, false, false, false] rfl rfl (any_of HT_.out (by kernel_rfl)) (fun _ _ _ h => h) (Or.inl ⟨by rfl, ?_⟩) ?_ ?_
                          rotate_left
                          · intro w'
                            go_simp
                            first | with_reducible rfl | (rw [if_neg (by intro hl_; simp only [ByteArray.size_append, ByteArray.size_extract, szl_0_, szl_1_, szl_2_, szl_3_, szl_4_, szl_5_, szl_6_, szl_7_, szl_8_, szl_9_, szl_10_, szl_11_, szl_12_, szl_13_, szl_14_, szl_15_] at *; omega)])
                          rotate_left
                          · simp only [Act.put, List.setIfInBounds_toArray, List.set_cons_zero, List.set_cons_succ, i64_w, i32_w]
                            rfl
                          refine pure_ (i := 2) (N := some 29) (v := ?_) (a' := ?_) #[true, true, true, false, false, false, false, false, false, false, false, false, false, false, false, false, false, false, false, false, false, false, false] rfl rfl (any_of HT_.out (by kernel_rfl)) (fun _ _ _ h => h) (Or.inl ⟨by rfl, ?_⟩) ?_ ?_
                          rotate_left
                          · intro w'
                            go_simp
                            first | with_reducible rfl | (rw [if_neg (by intro hl_; simp only [ByteArray.size_append, ByteArray.size_extract, szl_0_, szl_1_, szl_2_, szl_3_, szl_4_, szl_5_, szl_6_, szl_7_, szl_8_, szl_9_, szl_10_, szl_11_, szl_12_, szl_13_, szl_14_, szl_15_] at *; omega)])
                          rotate_left
                          · simp only [Act.put, List.setIfInBounds_toArray, List.set_cons_zero, List.set_cons_succ, i64_w, i32_w]
                            rfl
                          refine pure_ (i := 3) (N := some 30) (v := ?_) (a' := ?_) #[true, true, true, true, false, false, false, false, false, false, false, false, false, false, false, false, false, false, false, false, false, false, false] rfl rfl (any_of HT_.out (by kernel_rfl)) (fun _ _ _ h => h) (Or.inl ⟨by rfl, ?_⟩) ?_ ?_
                          rotate_left
                          · intro w'
                            go_simp
                            first | with_reducible rfl | (rw [if_neg (by intro hl_; simp only [ByteArray.size_append, ByteArray.size_extract, szl_0_, szl_1_, szl_2_, szl_3_, szl_4_, szl_5_, szl_6_, szl_7_, szl_8_, szl_9_, szl_10_, szl_11_, szl_12_, szl_13_, szl_14_, szl_15_] at *; omega)])
                          rotate_left
                          · simp only [Act.put, List.setIfInBounds_toArray, List.set_cons_zero, List.set_cons_succ, i64_w, i32_w]
                            rfl
                          refine pure_ (i := 6) (N := some 33) (v := ?_) (a' := ?_) #[true, true, true, true, false, false, true, false, false, false, false, false, false, false, false, false, false, false, false, false, false, false, false] rfl rfl (any_of HT_.out (by kernel_rfl)) (fun _ _ _ h => h) (Or.inl ⟨by rfl, ?_⟩) ?_ ?_
                          rotate_left
                          · intro w'
                            go_simp
                            first | with_reducible rfl | (rw [if_neg (by intro hl_; simp only [ByteArray.size_append, ByteArray.size_extract, szl_0_, szl_1_, szl_2_, szl_3_, szl_4_, szl_5_, szl_6_, szl_7_, szl_8_, szl_9_, szl_10_, szl_11_, szl_12_, szl_13_, szl_14_, szl_15_] at *; omega)])
                          rotate_left
                          · simp only [Act.put, List.setIfInBounds_toArray, List.set_cons_zero, List.set_cons_succ, i64_w, i32_w]
                            rfl
                          refine pure_ (i := 7) (N := some 34) (v := ?_) (a' := ?_) #[true, true, true, true, false, false, true, true, false, false, false, false, false, false, false, false, false, false, false, false, false, false, false] rfl rfl (any_of HT_.out (by kernel_rfl)) (fun _ _ _ h => h) (Or.inl ⟨by rfl, ?_⟩) ?_ ?_
                          rotate_left
                          · intro w'
                            go_simp
                            first | with_reducible rfl | (rw [if_neg (by intro hl_; simp only [ByteArray.size_append, ByteArray.size_extract, szl_0_, szl_1_, szl_2_, szl_3_, szl_4_, szl_5_, szl_6_, szl_7_, szl_8_, szl_9_, szl_10_, szl_11_, szl_12_, szl_13_, szl_14_, szl_15_] at *; omega)])
                          rotate_left
                          · simp only [Act.put, List.setIfInBounds_toArray, List.set_cons_zero, List.set_cons_succ, i64_w, i32_w]
                            rfl
                          refine pure_ (i := 8) (N := some 35) (v := ?_) (a' := ?_) #[true, true, true, true, false, false, true, true, true, false, false, false, false, false, false, false, false, false, false, false, false, false, false] rfl rfl (any_of HT_.out (by kernel_rfl)) (fun _ _ _ h => h) (Or.inl ⟨by rfl, ?_⟩) ?_ ?_
                          rotate_left
                          · intro w'
                            go_simp
                            first | with_reducible rfl | (rw [if_neg (by intro hl_; simp only [ByteArray.size_append, ByteArray.size_extract, szl_0_, szl_1_, szl_2_, szl_3_, szl_4_, szl_5_, szl_6_, szl_7_, szl_8_, szl_9_, szl_10_, szl_11_, szl_12_, szl_13_, szl_14_, szl_15_] at *; omega)])
                          rotate_left
                          · simp only [Act.put, List.setIfInBounds_toArray, List.set_cons_zero, List.set_cons_succ, i64_w, i32_w]
                            rfl
                          refine pure_ (i := 9) (N := some 36) (v := ?_) (a' := ?_) #[true, true, true, true, false, false, true, true, true, true, false, false, false, false, false, false, false, false, false, false, false, false, false] rfl rfl (any_of HT_.out (by kernel_rfl)) (fun _ _ _ h => h) (Or.inl ⟨by rfl, ?_⟩) ?_ ?_
                          rotate_left
                          · intro w'
                            go_simp
                            first | with_reducible rfl | (rw [if_neg (by intro hl_; simp only [ByteArray.size_append, ByteArray.size_extract, szl_0_, szl_1_, szl_2_, szl_3_, szl_4_, szl_5_, szl_6_, szl_7_, szl_8_, szl_9_, szl_10_, szl_11_, szl_12_, szl_13_, szl_14_, szl_15_] at *; omega)])
                          rotate_left
                          · simp only [Act.put, List.setIfInBounds_toArray, List.set_cons_zero, List.set_cons_succ, i64_w, i32_w]
                            rfl
                          refine pure_ (i := 14) (N := some 41) (v := ?_) (a' := ?_) #[true, true, true, true, false, false, true, true, true, true, false, false, false, false, true, false, false, false, false, false, false, false, false] rfl rfl (any_of HT_.out (by kernel_rfl)) (fun _ _ _ h => h) (Or.inl ⟨by rfl, ?_⟩) ?_ ?_
                          rotate_left
                          · intro w'
                            go_simp
                            first | with_reducible rfl | (rw [if_neg (by intro hl_; simp only [ByteArray.size_append, ByteArray.size_extract, szl_0_, szl_1_, szl_2_, szl_3_, szl_4_, szl_5_, szl_6_, szl_7_, szl_8_, szl_9_, szl_10_, szl_11_, szl_12_, szl_13_, szl_14_, szl_15_] at *; omega)])
                          rotate_left
                          · simp only [Act.put, List.setIfInBounds_toArray, List.set_cons_zero, List.set_cons_succ, i64_w, i32_w]
                            rfl
                          refine pure_ (i := 15) (N := some 42) (v := ?_) (a' := ?_) #[true, true, true, true, false, false, true, true, true, true, false, false, false, false, true, true, false, false, false, false, false, false, false] rfl rfl (any_of HT_.out (by kernel_rfl)) (fun _ _ _ h => h) (Or.inl ⟨by rfl, ?_⟩) ?_ ?_
                          rotate_left
                          · intro w'
                            go_simp
                            first | with_reducible rfl | (rw [if_neg (by intro hl_; simp only [ByteArray.size_append, ByteArray.size_extract, szl_0_, szl_1_, szl_2_, szl_3_, szl_4_, szl_5_, szl_6_, szl_7_, szl_8_, szl_9_, szl_10_, szl_11_, szl_12_, szl_13_, szl_14_, szl_15_] at *; omega)])
                          rotate_left
                          · simp only [Act.put, List.setIfInBounds_toArray, List.set_cons_zero, List.set_cons_succ, i64_w, i32_w]
                            rfl
                          refine pure_ (i := 16) (N := some 43) (v := ?_) (a' := ?_) #[true, true, true, true, false, false, true, true, true, true, false, false, false, false, true, true, true, false, false, false, false, false, false] rfl rfl (any_of HT_.out (by kernel_rfl)) (fun _ _ _ h => h) (Or.inl ⟨by rfl, ?_⟩) ?_ ?_
                          rotate_left
                          · intro w'
                            go_simp
                            first | with_reducible rfl | (rw [if_neg (by intro hl_; simp only [ByteArray.size_append, ByteArray.size_extract, szl_0_, szl_1_, szl_2_, szl_3_, szl_4_, szl_5_, szl_6_, szl_7_, szl_8_, szl_9_, szl_10_, szl_11_, szl_12_, szl_13_, szl_14_, szl_15_] at *; omega)])
                          rotate_left
                          · simp only [Act.put, List.setIfInBounds_toArray, List.set_cons_zero, List.set_cons_succ, i64_w, i32_w]
                            rfl
                          refine pure_ (i := 17) (N := some 44) (v := ?_) (a' := ?_) #[true, true, true, true, false, false, true, true, true, true, false, false, false, false, true, true, true, true, false, false, false, false, false] rfl rfl (any_of HT_.out (by kernel_rfl)) (fun _ _ _ h => h) (Or.inl ⟨by rfl, ?_⟩) ?_ ?_
                          rotate_left
                          · intro w'
                            go_simp
                            first | with_reducible rfl | (rw [if_neg (by intro hl_; simp only [ByteArray.size_append, ByteArray.size_extract, szl_0_, szl_1_, szl_2_, szl_3_, szl_4_, szl_5_, szl_6_, szl_7_, szl_8_, szl_9_, szl_10_, szl_11_, szl_12_, szl_13_, szl_14_, szl_15_] at *; omega)])
                          rotate_left
                          · simp only [Act.put, List.setIfInBounds_toArray, List.set_cons_zero, List.set_cons_succ, i64_w, i32_w]
                            rfl
                          refine take_ (i := 4) (N := some 31) (v := ?_) (a' := ?_) #[true, true, true, true, true, false, true, true, true, true, false, false, false, false, true, true, true, true, false, false, false, false, false] rfl rfl (take_ofW HT_.out HW_.out (by kernel_rfl)) (fun _ _ _ h => h) (Or.inl ⟨by rfl, ?_⟩) hHeld ?_ ?_
                          rotate_left
                          · rintro w' ⟨s0, s1, s2, s3, s4, s5, s6, s7, s8, s9, s10, s11⟩
                            go_simp
                            first | with_reducible rfl | (rw [if_neg (by intro hl_; simp only [ByteArray.size_append, ByteArray.size_extract, szl_0_, szl_1_, szl_2_, szl_3_, szl_4_, szl_5_, szl_6_, szl_7_, szl_8_, szl_9_, szl_10_, szl_11_, szl_12_, szl_13_, szl_14_, szl_15_] at *; omega)])
                          rotate_left
                          · simp only [Act.put, List.setIfInBounds_toArray, List.set_cons_zero, List.set_cons_succ, i64_w, i32_w]
                            rfl
                          refine pure_ (i := 5) (N := some 32) (v := ?_) (a' := ?_) #[true, true, true, true, true, true, true, true, true, true, false, false, false, false, true, true, true, true, false, false, false, false, false] rfl rfl (any_of HT_.out (by kernel_rfl)) (fun _ _ _ h => h) (Or.inl ⟨by rfl, ?_⟩) ?_ ?_
                          rotate_left
                          · intro w'
                            go_simp
                            first | with_reducible rfl | (rw [if_neg (by intro hl_; simp only [ByteArray.size_append, ByteArray.size_extract, szl_0_, szl_1_, szl_2_, szl_3_, szl_4_, szl_5_, szl_6_, szl_7_, szl_8_, szl_9_, szl_10_, szl_11_, szl_12_, szl_13_, szl_14_, szl_15_] at *; omega)])
                          rotate_left
                          · simp only [Act.put, List.setIfInBounds_toArray, List.set_cons_zero, List.set_cons_succ, i64_w, i32_w]
                            rfl
                          refine take_ (i := 10) (N := some 37) (v := ?_) (a' := ?_) #[true, true, true, true, true, true, true, true, true, true, true, false, false, false, true, true, true, true, false, false, false, false, false] rfl rfl (take_ofW HT_.out HW_.out (by kernel_rfl)) (fun _ _ _ h => h) (Or.inl ⟨by rfl, ?_⟩) hHeld ?_ ?_
                          rotate_left
                          · rintro w' ⟨s0, s1, s2, s3, s4, s5, s6, s7, s8, s9, s10, s11⟩
                            go_simp
                            first | with_reducible rfl | (rw [if_neg (by intro hl_; simp only [ByteArray.size_append, ByteArray.size_extract, szl_0_, szl_1_, szl_2_, szl_3_, szl_4_, szl_5_, szl_6_, szl_7_, szl_8_, szl_9_, szl_10_, szl_11_, szl_12_, szl_13_, szl_14_, szl_15_] at *; omega)])
                          rotate_left
                          · simp only [Act.put, List.setIfInBounds_toArray, List.set_cons_zero, List.set_cons_succ, i64_w, i32_w]
                            rfl
                          refine take_ (i := 18) (N := some 45) (v := ?_) (a' := ?_) #[true, true, true, true, true, true, true, true, true, true, true, false, false, false, true, true, true, true, true, false, false, false, false] rfl rfl (take_ofW HT_.out HW_.out (by kernel_rfl)) (fun _ _ _ h => h) (Or.inl ⟨by rfl, ?_⟩) hHeld ?_ ?_
                          rotate_left
                          · rintro w' ⟨s0, s1, s2, s3, s4, s5, s6, s7, s8, s9, s10, s11⟩
                            go_simp
                            first | with_reducible rfl | (rw [if_neg (by intro hl_; simp only [ByteArray.size_append, ByteArray.size_extract, szl_0_, szl_1_, szl_2_, szl_3_, szl_4_, szl_5_, szl_6_, szl_7_, szl_8_, szl_9_, szl_10_, szl_11_, szl_12_, szl_13_, szl_14_, szl_15_] at *; omega)])
                          rotate_left
                          · simp only [Act.put, List.setIfInBounds_toArray, List.set_cons_zero, List.set_cons_succ, i64_w, i32_w]
                            rfl
                          refine one_ (i := 11) (N := some 38) #[true, true, true, true, true, true, true, true, true, true, true, true, false, false, true, true, true, true, true, false, false, false, false] rfl rfl (one_of HT_.out (by kernel_rfl)) (by decide) (fun K hK => ?_)
                          refine goes_ Tryd.func39 (by kernel_rfl) rfl #[.int .i64 ((rd_T60 l0 x8_1).f1)] (by rfl) rfl rfl (by (try simp only [List.map_toArray, List.map_cons, List.map_nil]); first | done | rfl | (simp only [List.length_drop, List.length_take]; rfl)) ?_
                          with_reducible refine (dowelref04_Digits.calls k1 ((rd_T60 l0 x8_1).f1) t260 _ A10.out).mono ?_
                          rintro e w24 ⟨rfl, hb⟩
                          refine ⟨_, rfl, ?_⟩
                          have n0_ := Aside0.mk (Kd.R_below (by (with_reducible repeat (first | apply Kd.R_alloc | apply Kd.R_drewN | apply Kd.R_drew)); exact HO_5.out) hb)
                          have n1_ := Aside0.mk (Kd.R_below (by (with_reducible repeat (first | apply Kd.R_alloc | apply Kd.R_drewN | apply Kd.R_drew)); exact HO_7.out) hb)
                          have n2_ := Aside0.mk (below_step (by repeat (first | (with_reducible first | exact HB.out | apply below_alloc | apply pw_below_drewN | apply below_drew1) | exact HB.out)) hb)
                          clear HO_5
                          clear HO_7
                          clear HB
                          have HO_5 := n0_
                          have HO_7 := n1_
                          have HB := n2_
                          clear n0_ n1_ n2_
                          (try clear hb)
                          (try clear hb2)
                          (try clear hk)
                          (try clear hi)
                          refine hK.out _ _ ⟨((HB.out.cell (World.block_lt_of_cell? w _ hw258_0)).trans hw258_0), ((HB.out.cell (World.block_lt_of_cell? w _ hw258_1)).trans hw258_1), ((HB.out.cell (World.block_lt_of_cell? w _ hw258_2)).trans hw258_2), ((HB.out.cell (World.block_lt_of_cell? w _ hw258_3)).trans hw258_3), ((HB.out.cell (World.block_lt_of_cell? w _ hw259_0)).trans hw259_0), ((HB.out.cell (World.block_lt_of_cell? w _ hw259_1)).trans hw259_1), ((HB.out.cell (World.block_lt_of_cell? w _ hw259_2)).trans hw259_2), ((HB.out.cell (World.block_lt_of_cell? w _ hw259_3)).trans hw259_3), ((HB.out.cell (World.block_lt_of_cell? w _ hw261_0)).trans hw261_0), ((HB.out.cell (World.block_lt_of_cell? w _ hw261_1)).trans hw261_1), ((HB.out.cell (World.block_lt_of_cell? w _ hw261_2)).trans hw261_2), ((HB.out.cell (World.block_lt_of_cell? w _ hw261_3)).trans hw261_3)⟩ (fun hHeld => ?_)
                          clear hK K
                          refine norm_ (a' := ?_) ?_ ?_
                          rotate_left
                          · show Act.put _ (some 38) _ = _
                            simp only [Act.put, List.setIfInBounds_toArray, List.set_cons_zero, List.set_cons_succ, i64_w, i32_w]
                            rfl
                          refine pure_ (i := 12) (N := some 39) (v := ?_) (a' := ?_) #[true, true, true, true, true, true, true, true, true, true, true, true, true, false, true, true, true, true, true, false, false, false, false] rfl rfl (any_of HT_.out (by kernel_rfl)) (fun _ _ _ h => h) (Or.inl ⟨by rfl, ?_⟩) ?_ ?_
                          rotate_left
                          · intro w'
                            go_simp
                            first | with_reducible rfl | (rw [if_neg (by intro hl_; simp only [ByteArray.size_append, ByteArray.size_extract, szl_0_, szl_1_, szl_2_, szl_3_, szl_4_, szl_5_, szl_6_, szl_7_, szl_8_, szl_9_, szl_10_, szl_11_, szl_12_, szl_13_, szl_14_, szl_15_] at *; omega)])
                          rotate_left
                          · simp only [Act.put, List.setIfInBounds_toArray, List.set_cons_zero, List.set_cons_succ, i64_w, i32_w]
                            rfl
                          refine pure_ (i := 13) (N := some 40) (v := ?_) (a' := ?_) #[true, true, true, true, true, true, true, true, true, true, true, true, true, true, true, true, true, true, true, false, false, false, false] rfl rfl (any_of HT_.out (by kernel_rfl)) (fun _ _ _ h => h) (Or.inl ⟨by rfl, ?_⟩) ?_ ?_
                          rotate_left
                          · intro w'
                            go_simp
                            first | with_reducible rfl | (rw [if_neg (by intro hl_; simp only [ByteArray.size_append, ByteArray.size_extract, szl_0_, szl_1_, szl_2_, szl_3_, szl_4_, szl_5_, szl_6_, szl_7_, szl_8_, szl_9_, szl_10_, szl_11_, szl_12_, szl_13_, szl_14_, szl_15_] at *; omega)])
                          rotate_left
                          · simp only [Act.put, List.setIfInBounds_toArray, List.set_cons_zero, List.set_cons_succ, i64_w, i32_w]
                            rfl
                          refine one_ (i := 19) (N := some 46) #[true, true, true, true, true, true, true, true, true, true, true, true, true, true, true, true, true, true, true, true, false, false, false] rfl rfl (one_of HT_.out (by kernel_rfl)) (by decide) (fun K hK => ?_)
                          refine goes_ Tryd.func39 (by kernel_rfl) rfl #[.int .i64 ((rd_T60 l0 x8_1).f2)] (by rfl) rfl rfl (by (try simp only [List.map_toArray, List.map_cons, List.map_nil]); first | done | rfl | (simp only [List.length_drop, List.length_take]; rfl)) ?_
                          with_reducible refine (dowelref04_Digits.calls k1 ((rd_T60 l0 x8_1).f2) t262 _ A13.out).mono ?_
                          rintro e w25 ⟨rfl, hb⟩
                          refine ⟨_, rfl, ?_⟩
                          have n0_ := Aside0.mk (Kd.R_below (by (with_reducible repeat (first | apply Kd.R_alloc | apply Kd.R_drewN | apply Kd.R_drew)); exact HO_5.out) hb)
                          have n1_ := Aside0.mk (Kd.R_below (by (with_reducible repeat (first | apply Kd.R_alloc | apply Kd.R_drewN | apply Kd.R_drew)); exact HO_7.out) hb)
                          have n2_ := Aside0.mk (below_step (by repeat (first | (with_reducible first | exact HB.out | apply below_alloc | apply pw_below_drewN | apply below_drew1) | exact HB.out)) hb)
                          clear HO_5
                          clear HO_7
                          clear HB
                          have HO_5 := n0_
                          have HO_7 := n1_
                          have HB := n2_
                          clear n0_ n1_ n2_
                          (try clear hb)
                          (try clear hb2)
                          (try clear hk)
                          (try clear hi)
                          refine hK.out _ _ ⟨((HB.out.cell (World.block_lt_of_cell? w _ hw258_0)).trans hw258_0), ((HB.out.cell (World.block_lt_of_cell? w _ hw258_1)).trans hw258_1), ((HB.out.cell (World.block_lt_of_cell? w _ hw258_2)).trans hw258_2), ((HB.out.cell (World.block_lt_of_cell? w _ hw258_3)).trans hw258_3), ((HB.out.cell (World.block_lt_of_cell? w _ hw259_0)).trans hw259_0), ((HB.out.cell (World.block_lt_of_cell? w _ hw259_1)).trans hw259_1), ((HB.out.cell (World.block_lt_of_cell? w _ hw259_2)).trans hw259_2), ((HB.out.cell (World.block_lt_of_cell? w _ hw259_3)).trans hw259_3), ((HB.out.cell (World.block_lt_of_cell? w _ hw261_0)).trans hw261_0), ((HB.out.cell (World.block_lt_of_cell? w _ hw261_1)).trans hw261_1), ((HB.out.cell (World.block_lt_of_cell? w _ hw261_2)).trans hw261_2), ((HB.out.cell (World.block_lt_of_cell? w _ hw261_3)).trans hw261_3)⟩ (fun hHeld => ?_)
                          clear hK K
                          refine norm_ (a' := ?_) ?_ ?_
                          rotate_left
                          · show Act.put _ (some 46) _ = _
                            simp only [Act.put, List.setIfInBounds_toArray, List.set_cons_zero, List.set_cons_succ, i64_w, i32_w]
                            rfl
                          refine pure_ (i := 20) (N := some 47) (v := ?_) (a' := ?_) #[true, true, true, true, true, true, true, true, true, true, true, true, true, true, true, true, true, true, true, true, true, false, false] rfl rfl (any_of HT_.out (by kernel_rfl)) (fun _ _ _ h => h) (Or.inl ⟨by rfl, ?_⟩) ?_ ?_
                          rotate_left
                          · intro w'
                            go_simp
                            first | with_reducible rfl | (rw [if_neg (by intro hl_; simp only [ByteArray.size_append, ByteArray.size_extract, szl_0_, szl_1_, szl_2_, szl_3_, szl_4_, szl_5_, szl_6_, szl_7_, szl_8_, szl_9_, szl_10_, szl_11_, szl_12_, szl_13_, szl_14_, szl_15_] at *; omega)])
                          rotate_left
                          · simp only [Act.put, List.setIfInBounds_toArray, List.set_cons_zero, List.set_cons_succ, i64_w, i32_w]
                            rfl
                          refine pure_ (i := 21) (N := some 48) (v := ?_) (a' := ?_) #[true, true, true, true, true, true, true, true, true, true, true, true, true, true, true, true, true, true, true, true, true, true, false] rfl rfl (any_of HT_.out (by kernel_rfl)) (fun _ _ _ h => h) (Or.inl ⟨by rfl, ?_⟩) ?_ ?_
                          rotate_left
                          · intro w'
                            go_simp
                            first | with_reducible rfl | (rw [if_neg (by intro hl_; simp only [ByteArray.size_append, ByteArray.size_extract, szl_0_, szl_1_, szl_2_, szl_3_, szl_4_, szl_5_, szl_6_, szl_7_, szl_8_, szl_9_, szl_10_, szl_11_, szl_12_, szl_13_, szl_14_, szl_15_] at *; omega)])
                          rotate_left
                          · simp only [Act.put, List.setIfInBounds_toArray, List.set_cons_zero, List.set_cons_succ, i64_w, i32_w]
                            rfl
                          refine pure_ (i := 22) (N := some 9) (v := ?_) (a' := ?_) #[true, true, true, true, true, true, true, true, true, true, true, true, true, true, true, true, true, true, true, true, true, true, true] rfl rfl (any_of HT_.out (by kernel_rfl)) (fun _ _ _ h => h) (Or.inl ⟨by rfl, ?_⟩) ?_ ?_
                          rotate_left
                          · intro w'
                            go_simp
                            first | with_reducible rfl | (rw [if_neg (by intro hl_; simp only [ByteArray.size_append, ByteArray.size_extract, szl_0_, szl_1_, szl_2_, szl_3_, szl_4_, szl_5_, szl_6_, szl_7_, szl_8_, szl_9_, szl_10_, szl_11_, szl_12_, szl_13_, szl_14_, szl_15_] at *; omega)])
                          rotate_left
                          · simp only [Act.put, List.setIfInBounds_toArray, List.set_cons_zero, List.set_cons_succ, i64_w, i32_w]
                            rfl
                          refine done_ (done_of HT_.out (by kernel_rfl)) ?_
                          obtain ⟨Ao26, co26, eo26⟩ := Kd.R_slice HO_7.out
                          subst eo26
                          obtain ⟨Ao27, co27, eo27⟩ := Kd.R_slice HO_5.out
                          subst eo27
                          have p263 : 0 ≤ (x8_1 : Int) := of_decide_eq_true (by first | (with_reducible assumption) | assumption)
                          have q263 : x8_1 < (t254.length : Int) := of_decide_eq_true (by first | (with_reducible assumption) | assumption)
                          obtain ⟨ad263, e263, hx263_0⟩ := Kd.at_int (Kd.R_reads' HO_5.out).2.2 x8_1 p263 q263
                          cases e263
                          replace p263 := eq_true p263
                          replace q263 := eq_true q263
                          try go_wp2
                          go_loopg [7, 10] k1 (fun kq v7 v10 w' => ∃ (x7_2 : List Int) (x10_2 : Int), v10 = .int .i64 x10_2 ∧ Aside0 (dowelref12_Text.l1 kq l0 t254 x7_2 x8_1 (((((((rd_T60 l0 x8_1).f0) ++ (⟨#[32]⟩ : ByteArray)) ++ t260) ++ (⟨#[32]⟩ : ByteArray)) ++ t262) ++ (⟨#[10]⟩ : ByteArray)) x10_2 = some (r1, r2)) ∧ Aside0 (kq ≤ k1) ∧ Aside0 (Kd.R (Kd.int .i64) 3 w' w.heap.size (fun _ => True) (.slice (some ad263) t254.length co27) t254) ∧ Aside0 (Kd.R (Kd.int .u8) 5 w' w.heap.size (fun _ => True) v7 x7_2) ∧ Aside0 (Below w.heap.size w w'))
                          case atStart => exact ⟨(x7_1), (0), (by first | rfl | (simp; done) | (simp [*]; done)), H', ⟨Nat.le_refl _⟩, ⟨by (with_reducible repeat (first | apply Kd.R_alloc | apply Kd.R_drewN | apply Kd.R_drew)); exact HO_5.out⟩, ⟨by (with_reducible repeat (first | apply Kd.R_alloc | apply Kd.R_drewN | apply Kd.R_drew)); exact HO_7.out⟩, ⟨by repeat (first | (with_reducible first | exact HB.out | apply below_alloc | apply pw_below_drewN | apply below_drew1) | exact HB.out)⟩⟩
                          case round =>
                            clear H'
                            try clear c1
                            try clear p2
                            try clear q2
                            try clear hx2
                            try clear c3
                            try clear p6
                            try clear c15
                            try clear c15b0
                            try clear c15b1
                            try clear c15b2
                            try clear c16
                            try clear c16b0
                            try clear c17
                            try clear c17b0
                            try clear p25
                            try clear q25
                            try clear hx25
                            try clear p26
                            try clear q26
                            try clear hx26
                            try clear hx258_0
                            try clear hx258_1
                            try clear hx258_2
                            try clear hx258_3
                            try clear hx259_0
                            try clear hx259_1
                            try clear hx259_2
                            try clear hx259_3
                            try clear hx261_0
                            try clear hx261_1
                            try clear hx261_2
                            try clear hx261_3
                            try clear hx263_0
                            try clear p258
                            try clear p259
                            try clear p261
                            try clear p263
                            try clear q258
                            try clear q259
                            try clear q261
                            try clear q263
                            obtain ⟨x7_2, x10_2, rfl, HA, HK2, HO_5, HO_7, HB⟩ := hrel
                            cases gk with
                            | zero => exact absurd HA.out (by simp [dowelref12_Text.l1])
                            | succ k2 =>
                              have H := HA.out
                              clear HA
                              simp only [dowelref12_Text.l1] at H
                              by_cases c28 : 0 ≤ x8_1
                              · rw [if_pos c28] at H
                                have c28b0 : decide (0 ≤ x8_1) = true := decide_eq_true c28
                                clear c28
                                by_cases c29 : x8_1 < (t254.length : Int)
                                · rw [if_pos c29] at H
                                  have c29b0 : decide (x8_1 < (t254.length : Int)) = true := decide_eq_true c29
                                  clear c29
                                  by_cases c30 : x10_2 < (rd t254 x8_1)
                                  · rw [if_pos c30] at H
                                    have c30b0 : decide (x10_2 < (rd t254 x8_1)) = true := decide_eq_true c30
                                    clear c30
                                    obtain ⟨y265, hy265⟩ : ∃ y_ : List Int, y_ = (([32, 32] : List Int)) := ⟨_, rfl⟩
                                    replace H : (if x7_2.length + y265.length < 140737488355328 then (dowelref12_Text.l1 k2 l0 t254 (x7_2 ++ y265) x8_1 (((((((rd_T60 l0 x8_1).f0) ++ (⟨#[32]⟩ : ByteArray)) ++ t260) ++ (⟨#[32]⟩ : ByteArray)) ++ t262) ++ (⟨#[10]⟩ : ByteArray)) (wrap64 (x10_2 + 1))) else (none)) = some (r1, r2) := by first | (rw [hy265]; with_reducible exact H) | (have H2_ := (Option.bind_some _ _).symm.trans H; rw [hy265]; with_reducible exact H2_) | (have H2_ := (Option.bind_some _ _).symm.trans H; with_reducible exact H2_) | with_reducible exact H | (rw [hy265]; exact H) | exact H
                                    have Ny265 := Aside0.mk hy265
                                    clear hy265
                                    by_cases c31 : x7_2.length + y265.length < 140737488355328
                                    · rw [if_pos c31] at H
                                      have LMc31 := Aside0.mk c31
                                      clear c31
                                      obtain ⟨y268, hy268⟩ : ∃ y_ : List Int, y_ = (x7_2 ++ y265) := ⟨_, rfl⟩
                                      replace H : (dowelref12_Text.l1 k2 l0 t254 y268 x8_1 (((((((rd_T60 l0 x8_1).f0) ++ (⟨#[32]⟩ : ByteArray)) ++ t260) ++ (⟨#[32]⟩ : ByteArray)) ++ t262) ++ (⟨#[10]⟩ : ByteArray)) (wrap64 (x10_2 + 1))) = some (r1, r2) := by first | (rw [hy268]; with_reducible exact H) | (have H2_ := (Option.bind_some _ _).symm.trans H; rw [hy268]; with_reducible exact H2_) | (have H2_ := (Option.bind_some _ _).symm.trans H; with_reducible exact H2_) | with_reducible exact H | (rw [hy268]; exact H) | exact H
                                      have Ny268 := Aside0.mk hy268
                                      clear hy268
                                      have H' := Aside0.mk H
                                      clear H
                                      have p264 : 0 ≤ (x8_1 : Int) := of_decide_eq_true (by first | (with_reducible assumption) | assumption)
                                      have q264 : x8_1 < (t254.length : Int) := of_decide_eq_true (by first | (with_reducible assumption) | assumption)
                                      obtain ⟨ad264, e264, hx264_0⟩ := Kd.at_int (Kd.R_reads' HO_5.out).2.2 x8_1 p264 q264
                                      obtain rfl : ad263 = ad264 := (by injection e264)
                                      replace p264 := eq_true p264
                                      replace q264 := eq_true q264
                                      go_wp2_with (first | ((with_reducible refine gate_dst (N := 70) rfl ?_); refine Kd.R_lit (Kd.int .u8) _ 5 ?hg (N := 70) ?hd (xs := ([32, 32] : List Int)) (inner := [.int .u8 32, .int .u8 32]) (ok := fun _ => True) (okp := fun _ => True) ?hr ?hp (fun _ hk => hk) trivial (Below.refl _ _) (Nat.le_refl _) (by simp) ?_; (case hd => rfl); (case hg => rfl); (case hr => first | (go_simp; done) | (go_simp; rfl)); (case hp => exact (Reps.one (show Kd.M (Kd.int .u8) _ _ _ 32 [.int .u8 32] from rfl) (Reps.one (show Kd.M (Kd.int .u8) _ _ _ 32 [.int .u8 32] from rfl) (Reps.none _ _)))); intro v266 w32 ho33 hb hg_ hnew_; clear hg_ hnew_; (first | rw [← Ny265.out] at ho33 | (simp only [Int.reduceToNat] at ho33; rw [← Ny265.out] at ho33)); have n0_ := Aside0.mk (Kd.R_below (by (with_reducible repeat (first | apply Kd.R_alloc | apply Kd.R_drewN | apply Kd.R_drew)); exact HO_5.out) hb); have n1_ := Aside0.mk (Kd.R_elder' (by (with_reducible repeat (first | apply Kd.R_alloc | apply Kd.R_drewN | apply Kd.R_drew)); exact HO_7.out) (Kd.R_base ho33) hb); have n2_ := Aside0.mk (Kd.R_lower (Kd.R_new' ho33 (Kd.R_lt (by (with_reducible repeat (first | apply Kd.R_alloc | apply Kd.R_drewN | apply Kd.R_drew)); exact HO_7.out))) (below_size (by repeat (first | (with_reducible first | exact HB.out | apply below_alloc | apply pw_below_drewN | apply below_drew1) | exact HB.out)))); have n3_ := Aside0.mk (below_step (by repeat (first | (with_reducible first | exact HB.out | apply below_alloc | apply pw_below_drewN | apply below_drew1) | exact HB.out)) hb); clear HO_5; clear HO_7; clear HB; have HO_5 := n0_; have HO_7 := n1_; have HO267 := n2_; have HB := n3_; clear n0_ n1_ n2_ n3_; clear hb ho33; obtain ⟨Ao35, co35, eo35⟩ := Kd.R_slice HO267.out; subst eo35) | ((with_reducible refine gate_builtin (b := .append) (xs := #[.tmp 69, .tmp 70]) rfl ?_); at_builtin; refine Kd.R_append_rows (Kd.int .u8) (w0 := w) w.heap.size rfl (.tmp 69) (.tmp 70) 89 5 (.int .u8 0) 1 rfl Tryd.underlying89 info5 rfl (by decide) (by omega) u7 x7_2 y265 _ _ _ (fun k_ => some k_ ≠ (.slice Ao35 y265.length co35 : Value).ownBlock) (fun _ => False) rfl rfl ?aO ?aR (fun _ _ h => h) (fun _ h => h.elim) ?aF ?aB ?aS ?aL ?_; (case aR => repeat (first | exact (Kd.R_reads' HO267.out).2.2 | (with_reducible refine Kd.C_alloc ?_ _) | (with_reducible refine Kd.C_drewN ?_ _) | (with_reducible refine Kd.C_drew ?_))); (case aB => exact (by repeat (first | (with_reducible first | exact HB.out | apply below_alloc | apply pw_below_drewN | apply below_drew1) | exact HB.out))); (case aF => exact (fun k_ hk => Kd.fresh' (Kd.R_lt (by (with_reducible repeat (first | apply Kd.R_alloc | apply Kd.R_drewN | apply Kd.R_drew)); exact HO267.out)) k_ hk)); (case aO => exact (by (with_reducible repeat (first | apply Kd.R_alloc | apply Kd.R_drewN | apply Kd.R_drew)); exact Kd.R_mono HO_7.out (fun _ hk => hk.2))); (case aS => exact (below_size (by repeat (first | (with_reducible first | exact HB.out | apply below_alloc | apply pw_below_drewN | apply below_drew1) | exact HB.out)))); (case aL => have := LMc31.out; omega); intro v269 w34 ho hb hg hat; rw [← Ny268.out] at ho; have n0_ := Aside0.mk (Kd.R_over' (by (with_reducible repeat (first | apply Kd.R_alloc | apply Kd.R_drewN | apply Kd.R_drew)); exact HO_5.out) (Kd.R_typed (by (with_reducible repeat (first | apply Kd.R_alloc | apply Kd.R_drewN | apply Kd.R_drew)); exact HO_7.out)) (by decide) hg); have n1_ := Aside0.mk (Kd.R_after (ok := (fun _ => True)) (by (with_reducible repeat (first | apply Kd.R_alloc | apply Kd.R_drewN | apply Kd.R_drew)); exact HO267.out) hg hat); have n2_ := Aside0.mk (hb); have n3_ := Aside0.mk (ho); clear HO_5; clear HO267; clear HB; clear HO_7; have HO_5 := n0_; have HO267 := n1_; have HB := n2_; have HO270 := n3_; clear n0_ n1_ n2_ n3_; clear ho hb hg hat))
                                      go_roundg k2
                                      case measure => have := HK1.out; have := HK2.out; omega
                                      case rel => exact ⟨(y268), (wrap64 (x10_2 + 1)), (by first | rfl | (simp; done) | (simp [*]; done)), H', ⟨by have := HK1.out; have := HK2.out; omega⟩, ⟨by (with_reducible repeat (first | apply Kd.R_alloc | apply Kd.R_drewN | apply Kd.R_drew)); exact HO_5.out⟩, ⟨by (with_reducible repeat (first | apply Kd.R_alloc | apply Kd.R_drewN | apply Kd.R_drew)); exact Kd.R_mono HO270.out (fun _ hk => trivial)⟩, ⟨by repeat (first | (with_reducible first | exact HB.out | apply below_alloc | apply pw_below_drewN | apply below_drew1) | exact HB.out)⟩⟩
                                    · rw [if_neg c31] at H
                                      exact absurd H (by simp)
                                  · rw [if_neg c30] at H
                                    have c30b0 : decide (x10_2 < (rd t254 x8_1)) = false := decide_eq_false c30
                                    clear c30
                                    by_cases c36 : x7_2.length + (((((((rd_T60 l0 x8_1).f0) ++ (⟨#[32]⟩ : ByteArray)) ++ t260) ++ (⟨#[32]⟩ : ByteArray)) ++ t262) ++ (⟨#[10]⟩ : ByteArray)).size < 140737488355328
                                    · rw [if_pos c36] at H
                                      have LMc36 := Aside0.mk c36
                                      clear c36
                                      obtain ⟨y271, hy271⟩ : ∃ y_ : List Int, y_ = (x7_2 ++ bytesOf (((((((rd_T60 l0 x8_1).f0) ++ (⟨#[32]⟩ : ByteArray)) ++ t260) ++ (⟨#[32]⟩ : ByteArray)) ++ t262) ++ (⟨#[10]⟩ : ByteArray))) := ⟨_, rfl⟩
                                      replace H : (dowelref12_Text.l0 k2 l0 t254 y271 (wrap64 (x8_1 + 1))) = some (r1, r2) := by first | (rw [hy271]; with_reducible exact H) | (have H2_ := (Option.bind_some _ _).symm.trans H; rw [hy271]; with_reducible exact H2_) | (have H2_ := (Option.bind_some _ _).symm.trans H; with_reducible exact H2_) | with_reducible exact H | (rw [hy271]; exact H) | exact H
                                      have Ny271 := Aside0.mk hy271
                                      clear hy271
                                      have H' := Aside0.mk H
                                      clear H
                                      have p264 : 0 ≤ (x8_1 : Int) := of_decide_eq_true (by first | (with_reducible assumption) | assumption)
                                      have q264 : x8_1 < (t254.length : Int) := of_decide_eq_true (by first | (with_reducible assumption) | assumption)
                                      obtain ⟨ad264, e264, hx264_0⟩ := Kd.at_int (Kd.R_reads' HO_5.out).2.2 x8_1 p264 q264
                                      obtain rfl : ad263 = ad264 := (by injection e264)
                                      replace p264 := eq_true p264
                                      replace q264 := eq_true q264
                                      go_wp2_with (first | (at_builtin; refine print_append_str (w0 := w) w.heap.size rfl (.tmp 72) _ 89 9 5 rfl Tryd.underlying89 Tryd.underlying9 info5 u7 x7_2 (((((((rd_T60 l0 x8_1).f0) ++ (⟨#[32]⟩ : ByteArray)) ++ t260) ++ (⟨#[32]⟩ : ByteArray)) ++ t262) ++ (⟨#[10]⟩ : ByteArray)) rfl rfl ?aO ?aB ?aS ?aL ?_; (case aB => exact (by repeat (first | (with_reducible first | exact HB.out | apply below_alloc | apply pw_below_drewN | apply below_drew1) | exact HB.out))); (case aO => exact (Kd.own_of_R (by (with_reducible repeat (first | apply Kd.R_alloc | apply Kd.R_drewN | apply Kd.R_drew)); exact HO_7.out))); (case aS => exact (below_size (by repeat (first | (with_reducible first | exact HB.out | apply below_alloc | apply pw_below_drewN | apply below_drew1) | exact HB.out)))); (case aL => have := LMc36.out; omega); intro v272 w37 ho0 hb hg; have ho := Kd.R_of_own (h1 := fun _ => rfl) (ok := fun _ => True) ho0 (fun _ _ => trivial); clear ho0; have hat := True.intro; rw [← Ny271.out] at ho; change Kd.R (Kd.int .u8) 5 w37 w.heap.size (fun _ => True) v272 y271 at ho; have n0_ := Aside0.mk (Kd.R_over' (by (with_reducible repeat (first | apply Kd.R_alloc | apply Kd.R_drewN | apply Kd.R_drew)); exact HO_5.out) (Kd.R_typed (by (with_reducible repeat (first | apply Kd.R_alloc | apply Kd.R_drewN | apply Kd.R_drew)); exact HO_7.out)) (by decide) hg); have n1_ := Aside0.mk (hb); have n2_ := Aside0.mk (ho); clear HO_5; clear HB; clear HO_7; have HO_5 := n0_; have HB := n1_; have HO273 := n2_; clear n0_ n1_ n2_; clear ho hb hg hat))
                                      go_roundg k2
                                      case measure => have := HK1.out; have := HK2.out; omega
                                      case rel => exact ⟨(y271), (wrap64 (x8_1 + 1)), (by first | rfl | (simp; done) | (simp [*]; done)), H', ⟨by have := HK1.out; have := HK2.out; omega⟩, ⟨by (with_reducible repeat (first | apply Kd.R_alloc | apply Kd.R_drewN | apply Kd.R_drew)); exact HO_5.out⟩, ⟨by (with_reducible repeat (first | apply Kd.R_alloc | apply Kd.R_drewN | apply Kd.R_drew)); exact HO273.out⟩, ⟨by repeat (first | (with_reducible first | exact HB.out | apply below_alloc | apply pw_below_drewN | apply below_drew1) | exact HB.out)⟩⟩
                                    · rw [if_neg c36] at H
                                      exact absurd H (by simp)
                                · rw [if_neg c29] at H
                                  exact absurd H (by simp)
                              · rw [if_neg c28] at H
                                exact absurd H (by simp)
                      · rw [if_neg c16] at H
                        exact absurd H (by simp)
                    · rw [if_neg c15] at H
                      exact absurd H (by simp)
                  · rw [if_neg c14] at H
                    exact absurd H (by simp)
                · rw [if_neg c12] at H
                  exact absurd H (by simp)
              · rw [if_neg c11] at H
                exact absurd H (by simp)
            · rw [if_neg c9] at H
              exact absurd H (by simp)
          · rw [if_neg c8] at H
            exact absurd H (by simp)
        · rw [if_neg c7] at H
          have c7b0 : decide (x8_1 < (l0.length : Int)) = false := decide_eq_false c7
          clear c7
          simp only [Option.some.injEq, Prod.mk.injEq] at H
          obtain ⟨rfl, rfl⟩ := H
          have hcv38 := own_string (P := Tryd.prog) Tryd.underlying89 Tryd.underlying5 Tryd.underlying9 (Kd.own_of_R HO_7.out)
          go_wp2
          go_ret2
          exact ⟨by first | rfl | (simp [errW_none, errW_some] <;> rfl) | (simp [*, errW_none, errW_some] <;> rfl), by repeat (first | (with_reducible first | exact HB.out | apply below_alloc | apply pw_below_drewN | apply below_drew1) | exact HB.out)⟩
  · rw [if_neg c3] at H
    have c3b0 : (t253 == 0) = false := beq_eq_false_iff_ne.mpr c3
    have c3b1 : (t253 != 0) = true := bne_iff_ne.mpr c3
    simp only [Option.some.injEq, Prod.mk.injEq] at H
    obtain ⟨rfl, rfl⟩ := H
    go_enter Tryd.func31, Tryd.ntmps31
    go_wp2_with (first | ((with_reducible refine gate_callee (f := 62) rfl ?_); refine goesL_ (some 12) rfl rfl Tryd.func62 (by kernel_rfl) rfl #[.slice A0 l0.length c0, .int .i64 65536] rfl (by (try simp only [List.map_toArray, List.map_cons, List.map_nil]); first | done | rfl | (simp only [List.length_drop, List.length_take]; rfl)) ?_; (with_reducible refine (dowelref12_Check.calls k _ _ l0 65536 t253 _ ?side1 ?side2 A2.out).mono ?_); (case side1 => repeat (first | exact HR0.out | (with_reducible refine Kd.C_alloc ?_ _) | (with_reducible refine Kd.C_drewN ?_ _) | (with_reducible refine Kd.C_drew ?_))); (case side2 => exact HC0.out); rintro e w39 ⟨rfl, hb⟩; refine ⟨_, rfl, ?_⟩; have n0_ := Aside0.mk (below_step (by repeat (first | (with_reducible first | exact HB.out | apply below_alloc | apply pw_below_drewN | apply below_drew1) | exact HB.out)) hb); clear HB; have HB := n0_; clear n0_; (try clear hb); (try clear hb2); (try clear hk); (try clear hi)))
    go_ret2
    exact ⟨by first | rfl | (simp [errW_none, errW_some] <;> rfl) | (simp [*, errW_none, errW_some] <;> rfl), by repeat (first | (with_reducible first | exact HB.out | apply below_alloc | apply pw_below_drewN | apply below_drew1) | exact HB.out)⟩

end Go.Proofs.YtloflodbcdlmpaaDoor.Qall
