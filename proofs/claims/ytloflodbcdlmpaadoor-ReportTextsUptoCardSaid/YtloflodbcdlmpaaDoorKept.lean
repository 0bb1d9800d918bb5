/- dowelbook.KeptSpans of a list whose room goes on behind its end: turned from its print. -/
import Derived.Test.YtloflodbcdlmpaaDoorQallx0
import Derived.Test.YtloflodbcdlmpaaDoorQallx1
import Derived.Test.YtloflodbcdlmpaaDoorQallx2
import Derived.Test.YtloflodbcdlmpaaDoorQallx10
namespace Go.Proofs.YtloflodbcdlmpaaDoor.Lend
open Go.Proofs.YtloflodbcdlmpaaDoor.Qall
open Go.RowKit Go.Proofs.YtloflodbcdlmpaaDoorW.PrintWords Go.Proofs.YtloflodbcdlmpaaDoorW.PrintLast Go.Proofs.YtloflodbcdlmpaaDoorW.PrintMore
attribute [local go_sem] max2_int min2_int max_two min_two max_three min_three max_four min_four   -- for this text's walks alone
set_option linter.unusedVariables false
set_option linter.unusedSimpArgs false

attribute [local go_sem high] eqA60
theorem cut_cap {P : Program} (t e : TypeId) (kh : IntKind) {i : TypeInfo} (ht : P.underlying t = some (.slice e)) (hi : P.info? e = some i) (A : Option Addr) (n c : Nat) (j : Int) (h0 : 0 ≤ j) (hm : j ≤ c) :
    ∀ W : World, (Instr.slice t (.slice A n c) none (some (.int kh j)) none).run P W = .ok (.slice A j.toNat c) W := by
  intro W
  have hel : P.elem t = e := by simp [Program.elem, ht]
  have hu : P.underlying t = some (.slice (P.elem t)) := by rw [hel]; exact ht
  have ha : (A.map fun x => x.add 0) = A := by cases A <;> simp [Addr.add]
  rw [run_slice_h W t A n c hu kh j h0 (by omega), hel]
  simp [sizeOf, typeInfo, hi, sliced, Result.andThen, ha]
/-! ### kept_: function 13 -/
def kept_.f (k : Nat) (lt : List (S60)) (l0 : List (S60)) (l1 : List (S60)) : Option (Bool) := if 0 ≤ (wrap64 ((l1.length : Int) + 2)) then (if (wrap64 ((l1.length : Int) + 2)) ≤ (l0.length : Int) then ((some (l0.take ((wrap64 ((l1.length : Int) + 2)) : Int).toNat : List (S60))).bind fun y281 => ((dowelbook_Spans.f k lt l1).bind fun t285 => (if t285 = true then (if 0 ≤ (l1.length : Int) then (if (l1.length : Int) < (y281.length : Int) then ((dowelbook_spansMark.f 77).bind fun bt287 => (if ((((rd_T60 y281 (l1.length : Int)).f0).toList) == bt287.1.toList && (((rd_T60 y281 (l1.length : Int)).f1) == bt287.2.1 && (((rd_T60 y281 (l1.length : Int)).f2) == bt287.2.2.1 && (((rd_T60 y281 (l1.length : Int)).f3) == bt287.2.2.2)))) = true then (if 0 ≤ (wrap64 ((l1.length : Int) + 1)) then (if (wrap64 ((l1.length : Int) + 1)) < (y281.length : Int) then ((dowelbook_spansMore.f 77).bind fun bt292 => (some ((((rd_T60 y281 (wrap64 ((l1.length : Int) + 1))).f0).toList) == bt292.1.toList && (((rd_T60 y281 (wrap64 ((l1.length : Int) + 1))).f1) == bt292.2.1 && (((rd_T60 y281 (wrap64 ((l1.length : Int) + 1))).f2) == bt292.2.2.1 && (((rd_T60 y281 (wrap64 ((l1.length : Int) + 1))).f3) == bt292.2.2.2)))))) else (none)) else (none)) else (some false))) else (none)) else (none)) else (some false)))) else (none)) else (none)
theorem kept_.mono : ∀ at_ a0 a1 k, LeO (kept_.f k at_ a0 a1) (kept_.f (k + 1) at_ a0 a1) := by
  intro at_ a0 a1 k
  unfold kept_.f
  repeat' first
      | (with_reducible exact dowelbook_Spans.mono _ _ _)
      | (with_reducible exact LeO.refl _)
      | (with_reducible exact LeO.none _)
      | (with_reducible refine LeO.ite ?_ ?_)
      | (with_reducible refine LeO.bind ?_ (fun _ => ?_))
      | exact dowelbook_Spans.mono _ _ _
      | exact LeO.none _
      | refine LeO.ite ?_ ?_
      | refine LeO.bind ?_ (fun _ => ?_)
def kept_.T2 : Bool × List (List Nat × List Nat) := (true, [([], []), ([], []), ([0, 1], [0, 1]), ([2, 2], [2]), ([3], [3]), ([3], [3]), ([5, 3], [3, 5]), ([4, 6, 3], [3, 4, 6]), ([7, 3], [3, 7]), ([3, 3], [3]), ([8, 9, 3], [3, 8, 9]), ([3, 10], [3, 10]), ([11, 9], [11]), ([12], [12]), ([12], [12]), ([14, 12], [12, 14]), ([15, 12], [12, 15]), ([13, 16, 12], [12, 13, 16]), ([17, 12], [12, 17]), ([12, 12], [12]), ([18, 19, 12], [12, 18, 19]), ([12, 20], [12, 20]), ([21, 19, 0, 1, 2, 3, 4, 5, 6, 7, 8, 9, 10, 11, 12, 13, 14, 15, 16, 17, 18, 19, 20, 21], [21])])
def kept_.B2 : List Nat := [0, 0, 3, 7, 15, 15, 47, 127, 255, 15, 1023, 2047, 4095, 8191, 8191, 24575, 57343, 131071, 262143, 8191, 1048575, 2097151, 4194303]
theorem kept_.tab2 : rtab .any (opsOf Tryd.f13 2) = kept_.T2 := by kernel_rfl
theorem kept_.bits2 : waitsOk kept_.T2.2 kept_.B2 = true := by kernel_rfl
set_option maxHeartbeats 8000000 in
set_option maxRecDepth 100000 in
theorem kept_.calls (k : Nat) (A0 : Option Addr) (c0 : Nat) (lt l0 : List (S60)) (A1 : Option Addr) (c1 : Nat) (l1 : List (S60)) (r : Bool) (w : World) (hrt : Kd.C k60 w A0 lt.length lt) (hct : lt.length ≤ c0) (hr0 : Kd.C k60 w A0 l0.length l0) (hc0 : l0.length ≤ c0) (hr1 : Kd.C k60 w A1 l1.length l1) (hc1 : l1.length ≤ c1) (h : kept_.f k lt l0 l1 = some r) (hr_ : r = true) :
    Calls Tryd.prog 13 #[.slice A0 lt.length c0, .slice A1 l1.length c1] w fun e w' => e = .returned (.bool r) ∧ Below w.heap.size w w' := by
  have hu60 := Tryd.underlying60
  have HRT := Aside0.mk hrt
  have HCT := Aside0.mk hct
  clear hrt hct
  have HR0 := Aside0.mk hr0
  have HC0 := Aside0.mk hc0
  clear hr0 hc0
  have HR1 := Aside0.mk hr1
  have HC1 := Aside0.mk hc1
  clear hr1 hc1
  have HB := Aside0.mk (Below.refl w.heap.size w)
  have H : (if 0 ≤ (wrap64 ((l1.length : Int) + 2)) then (if (wrap64 ((l1.length : Int) + 2)) ≤ (l0.length : Int) then ((some (l0.take ((wrap64 ((l1.length : Int) + 2)) : Int).toNat : List (S60))).bind fun y281 => ((dowelbook_Spans.f k lt l1).bind fun t285 => (if t285 = true then (if 0 ≤ (l1.length : Int) then (if (l1.length : Int) < (y281.length : Int) then ((dowelbook_spansMark.f 77).bind fun bt287 => (if ((((rd_T60 y281 (l1.length : Int)).f0).toList) == bt287.1.toList && (((rd_T60 y281 (l1.length : Int)).f1) == bt287.2.1 && (((rd_T60 y281 (l1.length : Int)).f2) == bt287.2.2.1 && (((rd_T60 y281 (l1.length : Int)).f3) == bt287.2.2.2)))) = true then (if 0 ≤ (wrap64 ((l1.length : Int) + 1)) then (if (wrap64 ((l1.length : Int) + 1)) < (y281.length : Int) then ((dowelbook_spansMore.f 77).bind fun bt292 => (some ((((rd_T60 y281 (wrap64 ((l1.length : Int) + 1))).f0).toList) == bt292.1.toList && (((rd_T60 y281 (wrap64 ((l1.length : Int) + 1))).f1) == bt292.2.1 && (((rd_T60 y281 (wrap64 ((l1.length : Int) + 1))).f2) == bt292.2.2.1 && (((rd_T60 y281 (wrap64 ((l1.length : Int) + 1))).f3) == bt292.2.2.2)))))) else (none)) else (none)) else (some false))) else (none)) else (none)) else (some false)))) else (none)) else (none)) = some r := h
  clear h
  obtain ⟨ji3, hji3⟩ : ∃ j_ : Int, (wrap64 ((l1.length : Int) + 2)) = j_ := ⟨_, rfl⟩
  replace H : (if 0 ≤ (ji3) then (if (ji3) ≤ (l0.length : Int) then ((some (l0.take ((ji3) : Int).toNat : List (S60))).bind fun y281 => ((dowelbook_Spans.f k lt l1).bind fun t285 => (if t285 = true then (if 0 ≤ (l1.length : Int) then (if (l1.length : Int) < (y281.length : Int) then ((dowelbook_spansMark.f 77).bind fun bt287 => (if ((((rd_T60 y281 (l1.length : Int)).f0).toList) == bt287.1.toList && (((rd_T60 y281 (l1.length : Int)).f1) == bt287.2.1 && (((rd_T60 y281 (l1.length : Int)).f2) == bt287.2.2.1 && (((rd_T60 y281 (l1.length : Int)).f3) == bt287.2.2.2)))) = true then (if 0 ≤ (wrap64 ((l1.length : Int) + 1)) then (if (wrap64 ((l1.length : Int) + 1)) < (y281.length : Int) then ((dowelbook_spansMore.f 77).bind fun bt292 => (some ((((rd_T60 y281 (wrap64 ((l1.length : Int) + 1))).f0).toList) == bt292.1.toList && (((rd_T60 y281 (wrap64 ((l1.length : Int) + 1))).f1) == bt292.2.1 && (((rd_T60 y281 (wrap64 ((l1.length : Int) + 1))).f2) == bt292.2.2.1 && (((rd_T60 y281 (wrap64 ((l1.length : Int) + 1))).f3) == bt292.2.2.2)))))) else (none)) else (none)) else (some false))) else (none)) else (none)) else (some false)))) else (none)) else (none)) = some r := by first | (rw [hji3] at H; exact H) | (simp only [hji3] at H ⊢; exact H)
  have hji3w : (IntKind.i64.wrap ((l1.length : Int) + 2)) = ji3 := (i64_w _).trans hji3
  by_cases c4 : 0 ≤ (ji3)
  · rw [if_pos c4] at H
    have c4b0 := eq_true c4
    have c4b1 : decide (0 ≤ (ji3)) = true := decide_eq_true c4
    clear c4
    by_cases c5 : (ji3) ≤ (l0.length : Int)
    · rw [if_pos c5] at H
      have c5b0 := eq_true c5
      have c5b1 : decide ((ji3) ≤ (l0.length : Int)) = true := decide_eq_true c5
      clear c5
      obtain ⟨y281, hy281⟩ : ∃ y_ : List (S60), y_ = (l0.take ((ji3) : Int).toNat) := ⟨_, rfl⟩
      replace H : ((dowelbook_Spans.f k lt l1).bind fun t285 => (if t285 = true then (if 0 ≤ (l1.length : Int) then (if (l1.length : Int) < (y281.length : Int) then ((dowelbook_spansMark.f 77).bind fun bt287 => (if ((((rd_T60 y281 (l1.length : Int)).f0).toList) == bt287.1.toList && (((rd_T60 y281 (l1.length : Int)).f1) == bt287.2.1 && (((rd_T60 y281 (l1.length : Int)).f2) == bt287.2.2.1 && (((rd_T60 y281 (l1.length : Int)).f3) == bt287.2.2.2)))) = true then (if 0 ≤ (wrap64 ((l1.length : Int) + 1)) then (if (wrap64 ((l1.length : Int) + 1)) < (y281.length : Int) then ((dowelbook_spansMore.f 77).bind fun bt292 => (some ((((rd_T60 y281 (wrap64 ((l1.length : Int) + 1))).f0).toList) == bt292.1.toList && (((rd_T60 y281 (wrap64 ((l1.length : Int) + 1))).f1) == bt292.2.1 && (((rd_T60 y281 (wrap64 ((l1.length : Int) + 1))).f2) == bt292.2.2.1 && (((rd_T60 y281 (wrap64 ((l1.length : Int) + 1))).f3) == bt292.2.2.2)))))) else (none)) else (none)) else (some false))) else (none)) else (none)) else (some false))) = some r := by first | (rw [hy281]; with_reducible exact H) | (have H2_ := (Option.bind_some _ _).symm.trans H; rw [hy281]; with_reducible exact H2_) | (have H2_ := (Option.bind_some _ _).symm.trans H; with_reducible exact H2_) | with_reducible exact H | (rw [hy281]; exact H) | exact H
      have Ny281 := Aside0.mk hy281
      clear hy281
      replace H := Option.bind_eq_some_iff.mp H
      obtain ⟨t285, A60, H⟩ := H
      replace H : (if t285 = true then (if 0 ≤ (l1.length : Int) then (if (l1.length : Int) < (y281.length : Int) then ((dowelbook_spansMark.f 77).bind fun bt287 => (if ((((rd_T60 y281 (l1.length : Int)).f0).toList) == bt287.1.toList && (((rd_T60 y281 (l1.length : Int)).f1) == bt287.2.1 && (((rd_T60 y281 (l1.length : Int)).f2) == bt287.2.2.1 && (((rd_T60 y281 (l1.length : Int)).f3) == bt287.2.2.2)))) = true then (if 0 ≤ (wrap64 ((l1.length : Int) + 1)) then (if (wrap64 ((l1.length : Int) + 1)) < (y281.length : Int) then ((dowelbook_spansMore.f 77).bind fun bt292 => (some ((((rd_T60 y281 (wrap64 ((l1.length : Int) + 1))).f0).toList) == bt292.1.toList && (((rd_T60 y281 (wrap64 ((l1.length : Int) + 1))).f1) == bt292.2.1 && (((rd_T60 y281 (wrap64 ((l1.length : Int) + 1))).f2) == bt292.2.2.1 && (((rd_T60 y281 (wrap64 ((l1.length : Int) + 1))).f3) == bt292.2.2.2)))))) else (none)) else (none)) else (some false))) else (none)) else (none)) else (some false)) = some r := H
      have A6 := Aside0.mk A60
      clear A60
      by_cases c7 : t285 = true
      · subst c7
        have H1 : (if 0 ≤ (l1.length : Int) then (if (l1.length : Int) < (y281.length : Int) then ((dowelbook_spansMark.f 77).bind fun bt287 => (if ((((rd_T60 y281 (l1.length : Int)).f0).toList) == bt287.1.toList && (((rd_T60 y281 (l1.length : Int)).f1) == bt287.2.1 && (((rd_T60 y281 (l1.length : Int)).f2) == bt287.2.2.1 && (((rd_T60 y281 (l1.length : Int)).f3) == bt287.2.2.2)))) = true then (if 0 ≤ (wrap64 ((l1.length : Int) + 1)) then (if (wrap64 ((l1.length : Int) + 1)) < (y281.length : Int) then ((dowelbook_spansMore.f 77).bind fun bt292 => (some ((((rd_T60 y281 (wrap64 ((l1.length : Int) + 1))).f0).toList) == bt292.1.toList && (((rd_T60 y281 (wrap64 ((l1.length : Int) + 1))).f1) == bt292.2.1 && (((rd_T60 y281 (wrap64 ((l1.length : Int) + 1))).f2) == bt292.2.2.1 && (((rd_T60 y281 (wrap64 ((l1.length : Int) + 1))).f3) == bt292.2.2.2)))))) else (none)) else (none)) else (some false))) else (none)) else (none)) = some r := by rw [if_pos rfl] at H; exact H
        clear H
        have H := H1
        clear H1
        by_cases c8 : 0 ≤ (l1.length : Int)
        · rw [if_pos c8] at H
          have c8b0 : decide (0 ≤ (l1.length : Int)) = true := decide_eq_true c8
          have c8b1 : decide (0 ≤ l1.length) = true := decide_eq_true (by omega)
          clear c8
          by_cases c9 : (l1.length : Int) < (y281.length : Int)
          · rw [if_pos c9] at H
            have c9b0 : decide ((l1.length : Int) < (y281.length : Int)) = true := decide_eq_true c9
            have c9b1 : decide (l1.length < y281.length) = true := decide_eq_true (Int.ofNat_lt.mp c9)
            clear c9
            replace H := Option.bind_eq_some_iff.mp H
            obtain ⟨⟨t287, t288, t289, t290⟩, A100, H⟩ := H
            replace H : (if ((((rd_T60 y281 (l1.length : Int)).f0).toList) == t287.toList && (((rd_T60 y281 (l1.length : Int)).f1) == t288 && (((rd_T60 y281 (l1.length : Int)).f2) == t289 && (((rd_T60 y281 (l1.length : Int)).f3) == t290)))) = true then (if 0 ≤ (wrap64 ((l1.length : Int) + 1)) then (if (wrap64 ((l1.length : Int) + 1)) < (y281.length : Int) then ((dowelbook_spansMore.f 77).bind fun bt292 => (some ((((rd_T60 y281 (wrap64 ((l1.length : Int) + 1))).f0).toList) == bt292.1.toList && (((rd_T60 y281 (wrap64 ((l1.length : Int) + 1))).f1) == bt292.2.1 && (((rd_T60 y281 (wrap64 ((l1.length : Int) + 1))).f2) == bt292.2.2.1 && (((rd_T60 y281 (wrap64 ((l1.length : Int) + 1))).f3) == bt292.2.2.2)))))) else (none)) else (none)) else (some false)) = some r := H
            have A10 := Aside0.mk A100
            clear A100
            by_cases c11 : ((((rd_T60 y281 (l1.length : Int)).f0).toList) == t287.toList && (((rd_T60 y281 (l1.length : Int)).f1) == t288 && (((rd_T60 y281 (l1.length : Int)).f2) == t289 && (((rd_T60 y281 (l1.length : Int)).f3) == t290)))) = true
            · rw [if_pos c11] at H
              have c11b0 : ((((rd_T60 y281 (l1.length : Int)).f0).toList) == t287.toList && (((rd_T60 y281 (l1.length : Int)).f1) == t288 && (((rd_T60 y281 (l1.length : Int)).f2) == t289 && (((rd_T60 y281 (l1.length : Int)).f3) == t290)))) = true := c11
              (try (have c11b1 : decide ((((rd_T60 y281 (l1.length : Int)).f0).toList) = t287.toList && (((rd_T60 y281 (l1.length : Int)).f1) == t288 && (((rd_T60 y281 (l1.length : Int)).f2) == t289 && (((rd_T60 y281 (l1.length : Int)).f3) == t290)))) = true := by simpa using c11))
              (try (have c11b2 : ((((rd_T60 y281 (l1.length : Int)).f0).toList) == t287.toList && (((rd_T60 y281 (l1.length : Int)).f1) == t288 && (((rd_T60 y281 (l1.length : Int)).f2) == t289 && (((rd_T60 y281 (l1.length : Int)).f3) == t290)))) = true := by simpa using c11))
              clear c11
              obtain ⟨ji12, hji12⟩ : ∃ j_ : Int, (wrap64 ((l1.length : Int) + 1)) = j_ := ⟨_, rfl⟩
              replace H : (if 0 ≤ (ji12) then (if (ji12) < (y281.length : Int) then ((dowelbook_spansMore.f 77).bind fun bt292 => (some ((((rd_T60 y281 (ji12)).f0).toList) == bt292.1.toList && (((rd_T60 y281 (ji12)).f1) == bt292.2.1 && (((rd_T60 y281 (ji12)).f2) == bt292.2.2.1 && (((rd_T60 y281 (ji12)).f3) == bt292.2.2.2)))))) else (none)) else (none)) = some r := by first | (rw [hji12] at H; exact H) | (simp only [hji12] at H ⊢; exact H)
              (try rw [hji12] at A6)
              (try rw [hji12] at A10)
              have hji12w : (IntKind.i64.wrap ((l1.length : Int) + 1)) = ji12 := (i64_w _).trans hji12
              by_cases c13 : 0 ≤ (ji12)
              · rw [if_pos c13] at H
                have c13b0 : decide (0 ≤ (ji12)) = true := decide_eq_true c13
                clear c13
                by_cases c14 : (ji12) < (y281.length : Int)
                · rw [if_pos c14] at H
                  have c14b0 : decide ((ji12) < (y281.length : Int)) = true := decide_eq_true c14
                  clear c14
                  replace H := Option.bind_eq_some_iff.mp H
                  obtain ⟨⟨t292, t293, t294, t295⟩, A150, H⟩ := H
                  replace H : (some ((((rd_T60 y281 (ji12)).f0).toList) == t292.toList && (((rd_T60 y281 (ji12)).f1) == t293 && (((rd_T60 y281 (ji12)).f2) == t294 && (((rd_T60 y281 (ji12)).f3) == t295))))) = some r := H
                  have A15 := Aside0.mk A150
                  clear A150
                  obtain rfl := Option.some.inj H
                  have q16 : ((ji3) : Int) ≤ ((l0.length : Int) : Int) := of_decide_eq_true (by first | (with_reducible assumption) | assumption)
                  obtain ⟨i016, hi016, _, hsz16, _⟩ := info_parts info60
                  have hroom16 : l0.length ≤ c0 := HC0.out
                  have hC16 : Kd.C k60 _ A0 l0.length l0 := HR0.out
                  have hcut16 := cut_cap (P := Tryd.prog) 22 60 .i64 Tryd.underlying22 hi016 A0 lt.length c0 (ji3) (of_decide_eq_true (by first | (with_reducible assumption) | assumption)) (by have := hroom16; omega)
                  have hr16 := Kd.C_take (m := ((ji3) : Int).toNat) hC16 (by omega)
                  have hy16 : y281.length = ((ji3) : Int).toNat := (by rw [Ny281.out, List.length_take]; omega)
                  rw [← Ny281.out] at hr16
                  rw [← hy16] at hcut16
                  have HR284 := Aside0.mk hr16
                  have HC284 := Aside0.mk (show y281.length ≤ c0 from by omega)
                  clear hr16 hC16 hroom16 hi016 hsz16
                  have KY16 := Aside0.mk hy16
                  clear hy16
                  replace q16 := eq_true q16
                  go_enter Tryd.func13, Tryd.ntmps13
                  try go_wp2
                  have n0_ := Aside0.mk (below_drew1 HB.out)
                  clear HB
                  have HB := n0_
                  clear n0_
                  have p286 : 0 ≤ ((l1.length : Int) : Int) := of_decide_eq_true (by first | (with_reducible assumption) | assumption)
                  have q286 : (l1.length : Int) < (y281.length : Int) := of_decide_eq_true (by first | (with_reducible assumption) | assumption)
                  obtain ⟨ad286, e286, hx286_0, hx286_1, hx286_2, hx286_3⟩ := at_T60 HR284.out (l1.length : Int) p286 q286
                  have hw286_3 := hx286_3
                  have hw286_2 := hx286_2
                  have hw286_1 := hx286_1
                  have hw286_0 := hx286_0
                  cases e286
                  replace hx286_0 := (HB.out.cell (World.block_lt_of_cell? w _ hx286_0)).trans hx286_0
                  replace hx286_1 := (HB.out.cell (World.block_lt_of_cell? w _ hx286_1)).trans hx286_1
                  replace hx286_2 := (HB.out.cell (World.block_lt_of_cell? w _ hx286_2)).trans hx286_2
                  replace hx286_3 := (HB.out.cell (World.block_lt_of_cell? w _ hx286_3)).trans hx286_3
                  (try simp only [Go.IntWalk.toNatUp] at hx286_0)
                  (try simp only [Go.IntWalk.toNatUp] at hx286_1)
                  (try simp only [Go.IntWalk.toNatUp] at hx286_2)
                  (try simp only [Go.IntWalk.toNatUp] at hx286_3)
                  replace p286 := eq_true p286
                  replace q286 := eq_true q286
                  have p291 : 0 ≤ ((ji12) : Int) := of_decide_eq_true (by first | (with_reducible assumption) | assumption)
                  have q291 : (ji12) < (y281.length : Int) := of_decide_eq_true (by first | (with_reducible assumption) | assumption)
                  obtain ⟨ad291, e291, hx291_0, hx291_1, hx291_2, hx291_3⟩ := at_T60 HR284.out (ji12) p291 q291
                  have hw291_3 := hx291_3
                  have hw291_2 := hx291_2
                  have hw291_1 := hx291_1
                  have hw291_0 := hx291_0
                  obtain rfl : ad286 = ad291 := (by injection e291)
                  replace hx291_0 := (HB.out.cell (World.block_lt_of_cell? w _ hx291_0)).trans hx291_0
                  replace hx291_1 := (HB.out.cell (World.block_lt_of_cell? w _ hx291_1)).trans hx291_1
                  replace hx291_2 := (HB.out.cell (World.block_lt_of_cell? w _ hx291_2)).trans hx291_2
                  replace hx291_3 := (HB.out.cell (World.block_lt_of_cell? w _ hx291_3)).trans hx291_3
                  replace p291 := eq_true p291
                  replace q291 := eq_true q291
                  refine start_ (n := 23) (S := fun w' => w'.cell? (ad286.add (((l1.length : Int)).toNat * 4)) = some (.string ((rd_T60 y281 (l1.length : Int)).f0)) ∧ w'.cell? ⟨(ad286.add (((l1.length : Int)).toNat * 4)).block, (ad286.add (((l1.length : Int)).toNat * 4)).off + 1, none⟩ = some (.int .i64 ((rd_T60 y281 (l1.length : Int)).f1)) ∧ w'.cell? ⟨(ad286.add (((l1.length : Int)).toNat * 4)).block, (ad286.add (((l1.length : Int)).toNat * 4)).off + 2, none⟩ = some (.int .i64 ((rd_T60 y281 (l1.length : Int)).f2)) ∧ w'.cell? ⟨(ad286.add (((l1.length : Int)).toNat * 4)).block, (ad286.add (((l1.length : Int)).toNat * 4)).off + 3, none⟩ = some (.int .i64 ((rd_T60 y281 (l1.length : Int)).f3)) ∧ w'.cell? (ad286.add (((ji12)).toNat * 4)) = some (.string ((rd_T60 y281 (ji12)).f0)) ∧ w'.cell? ⟨(ad286.add (((ji12)).toNat * 4)).block, (ad286.add (((ji12)).toNat * 4)).off + 1, none⟩ = some (.int .i64 ((rd_T60 y281 (ji12)).f1)) ∧ w'.cell? ⟨(ad286.add (((ji12)).toNat * 4)).block, (ad286.add (((ji12)).toNat * 4)).off + 2, none⟩ = some (.int .i64 ((rd_T60 y281 (ji12)).f2)) ∧ w'.cell? ⟨(ad286.add (((ji12)).toNat * 4)).block, (ad286.add (((ji12)).toNat * 4)).off + 3, none⟩ = some (.int .i64 ((rd_T60 y281 (ji12)).f3))) (ds := []) #[false, false, false, false, false, false, false, false, false, false, false, false, false, false, false, false, false, false, false, false, false, false, false] (by kernel_rfl) rfl rfl ⟨((HB.out.cell (World.block_lt_of_cell? w _ hw286_0)).trans hw286_0), ((HB.out.cell (World.block_lt_of_cell? w _ hw286_1)).trans hw286_1), ((HB.out.cell (World.block_lt_of_cell? w _ hw286_2)).trans hw286_2), ((HB.out.cell (World.block_lt_of_cell? w _ hw286_3)).trans hw286_3), ((HB.out.cell (World.block_lt_of_cell? w _ hw291_0)).trans hw291_0), ((HB.out.cell (World.block_lt_of_cell? w _ hw291_1)).trans hw291_1), ((HB.out.cell (World.block_lt_of_cell? w _ hw291_2)).trans hw291_2), ((HB.out.cell (World.block_lt_of_cell? w _ hw291_3)).trans hw291_3)⟩ (fun hHeld => ?_); refine with_tabW kept_.tab2 kept_.bits2 (fun HT_ HW_ => ?_)
                  generalize w.drew = w17 at HB hx286_0 hx286_1 hx286_2 hx286_3 hx291_0 hx291_1 hx291_2 hx291_3 hHeld ⊢
                  refine pure_ (i := 0) (N := some 11) (v := ?_) (a' := ?_) #[true, false, false, false, false, false, false, false, false, false, false, false, false, false, false, false, false, false, false, false, false, false, false] rfl rfl (any_of HT_.out (by kernel_rfl)) (fun _ _ _ h => h) (Or.inl ⟨by rfl, ?_⟩) ?_ ?_
                  rotate_left
                  · intro w'
                    go_simp
                    first | with_reducible rfl | (rw [if_neg (by intro hl_; simp only [ByteArray.size_append, ByteArray.size_extract, szl_0_, szl_1_, szl_2_, szl_3_, szl_4_, szl_5_, szl_6_, szl_7_, szl_8_, szl_9_, szl_10_, szl_11_, szl_12_, szl_13_, szl_14_, szl_15_] at *; omega)])
                  rotate_left
                  · simp only [Act.put, List.setIfInBounds_toArray, List.set_cons_zero, List.set_cons_succ, i64_w, i32_w]
                    rfl
                  refine pure_ (i := 1) (N := some 12) (v := ?_) (a' := ?_) #[true, true, false, false, false, false, false, false, false, false, false, false, false, false, false, false, false, false, false, false, false, false, false] rfl rfl (any_of HT_.out (by kernel_rfl)) (fun _ _ _ h => h) (Or.inl ⟨by rfl, ?_⟩) ?_ ?_
                  rotate_left
                  · intro w'
                    go_simp
                    first | with_reducible rfl | (rw [if_neg (by intro hl_; simp only [ByteArray.size_append, ByteArray.size_extract, szl_0_, szl_1_, szl_2_, szl_3_, szl_4_, szl_5_, szl_6_, szl_7_, szl_8_, szl_9_, szl_10_, szl_11_, szl_12_, szl_13_, szl_14_, szl_15_] at *; omega)])
                  rotate_left
                  · simp only [Act.put, List.setIfInBounds_toArray, List.set_cons_zero, List.set_cons_succ, i64_w, i32_w]
                    rfl
                  refine one_ (i := 2) (N := some 13) #[true, true, true, false, false, false, false, false, false, false, false, false, false, false, false, false, false, false, false, false, false, false, false] rfl rfl (one_of HT_.out (by kernel_rfl)) (by decide) (fun K hK => ?_)
                  refine goes_ Tryd.func32 (by kernel_rfl) rfl #[.slice (some ad286) lt.length c0, .slice A1 l1.length c1] (by rfl) rfl rfl (by (try simp only [List.map_toArray, List.map_cons, List.map_nil]); first | done | rfl | (simp only [List.length_drop, List.length_take]; rfl)) ?_
                  with_reducible refine (dowelbook_Spans.calls k _ _ lt _ _ l1 true _ ?side1 ?side2 ?side3 ?side4 A6.out).mono ?_
                  (case side1 => repeat (first | exact (Kd.C_below HRT.out HB.out) | (with_reducible refine Kd.C_alloc ?_ _) | (with_reducible refine Kd.C_drewN ?_ _) | (with_reducible refine Kd.C_drew ?_)))
                  (case side2 => exact HCT.out)
                  (case side3 => repeat (first | exact (Kd.C_below HR1.out HB.out) | (with_reducible refine Kd.C_alloc ?_ _) | (with_reducible refine Kd.C_drewN ?_ _) | (with_reducible refine Kd.C_drew ?_)))
                  (case side4 => exact HC1.out)
                  rintro e w' ⟨rfl, ⟨nd, rfl⟩⟩
                  refine ⟨_, rfl, ?_⟩
                  refine hK.out _ _ ⟨((HB.out.cell (World.block_lt_of_cell? w _ hw286_0)).trans hw286_0), ((HB.out.cell (World.block_lt_of_cell? w _ hw286_1)).trans hw286_1), ((HB.out.cell (World.block_lt_of_cell? w _ hw286_2)).trans hw286_2), ((HB.out.cell (World.block_lt_of_cell? w _ hw286_3)).trans hw286_3), ((HB.out.cell (World.block_lt_of_cell? w _ hw291_0)).trans hw291_0), ((HB.out.cell (World.block_lt_of_cell? w _ hw291_1)).trans hw291_1), ((HB.out.cell (World.block_lt_of_cell? w _ hw291_2)).trans hw291_2), ((HB.out.cell (World.block_lt_of_cell? w _ hw291_3)).trans hw291_3)⟩ (fun hHeld => ?_)
                  clear hK K
                  refine norm_ (a' := ?_) ?_ ?_
                  rotate_left
                  · show Act.put _ (some 13) _ = _
                    simp only [Act.put, List.setIfInBounds_toArray, List.set_cons_zero, List.set_cons_succ, i64_w, i32_w]
                    rfl
                  refine pure_ (i := 3) (N := some 14) (v := ?_) (a' := ?_) #[true, true, true, true, false, false, false, false, false, false, false, false, false, false, false, false, false, false, false, false, false, false, false] rfl rfl (any_of HT_.out (by kernel_rfl)) (fun _ _ _ h => h) (Or.inl ⟨by rfl, ?_⟩) ?_ ?_
                  rotate_left
                  · intro w'
                    go_simp
                    first | with_reducible rfl | (rw [if_neg (by intro hl_; simp only [ByteArray.size_append, ByteArray.size_extract, szl_0_, szl_1_, szl_2_, szl_3_, szl_4_, szl_5_, szl_6_, szl_7_, szl_8_, szl_9_, szl_10_, szl_11_, szl_12_, szl_13_, szl_14_, szl_15_] at *; omega)])
                  rotate_left
                  · simp only [Act.put, List.setIfInBounds_toArray, List.set_cons_zero, List.set_cons_succ, i64_w, i32_w]
                    rfl
                  refine pure_ (i := 4) (N := some 15) (v := ?_) (a' := ?_) #[true, true, true, true, true, false, false, false, false, false, false, false, false, false, false, false, false, false, false, false, false, false, false] rfl rfl (any_of HT_.out (by kernel_rfl)) (fun _ _ _ h => h) (Or.inl ⟨by rfl, ?_⟩) ?_ ?_
                  rotate_left
                  · intro w'
                    go_simp
                    first | with_reducible rfl | (rw [if_neg (by intro hl_; simp only [ByteArray.size_append, ByteArray.size_extract, szl_0_, szl_1_, szl_2_, szl_3_, szl_4_, szl_5_, szl_6_, szl_7_, szl_8_, szl_9_, szl_10_, szl_11_, szl_12_, szl_13_, szl_14_, szl_15_] at *; omega)])
                  rotate_left
                  · simp only [Act.put, List.setIfInBounds_toArray, List.set_cons_zero, List.set_cons_succ, i64_w, i32_w]
                    rfl
                  refine pure_ (i := 5) (N := some 16) (v := ?_) (a' := ?_) #[true, true, true, true, true, true, false, false, false, false, false, false, false, false, false, false, false, false, false, false, false, false, false] rfl rfl (any_of HT_.out (by kernel_rfl)) (fun _ _ _ h => h) (Or.inl ⟨by rfl, ?_⟩) ?_ ?_
                  rotate_left
                  · intro w'
                    go_simp
                    first | with_reducible rfl | (rw [if_neg (by intro hl_; simp only [ByteArray.size_append, ByteArray.size_extract, szl_0_, szl_1_, szl_2_, szl_3_, szl_4_, szl_5_, szl_6_, szl_7_, szl_8_, szl_9_, szl_10_, szl_11_, szl_12_, szl_13_, szl_14_, szl_15_] at *; omega)])
                  rotate_left
                  · simp only [Act.put, List.setIfInBounds_toArray, List.set_cons_zero, List.set_cons_succ, i64_w, i32_w]
                    rfl
                  refine pure_ (i := 6) (N := some 17) (v := ?_) (a' := ?_) #[true, true, true, true, true, true, true, false, false, false, false, false, false, false, false, false, false, false, false, false, false, false, false] rfl rfl (any_of HT_.out (by kernel_rfl)) (fun _ _ _ h => h) (Or.inl ⟨by rfl, ?_⟩) ?_ ?_
                  rotate_left
                  · intro w'
                    go_simp
                    first | with_reducible rfl | (rw [if_neg (by intro hl_; simp only [ByteArray.size_append, ByteArray.size_extract, szl_0_, szl_1_, szl_2_, szl_3_, szl_4_, szl_5_, szl_6_, szl_7_, szl_8_, szl_9_, szl_10_, szl_11_, szl_12_, szl_13_, szl_14_, szl_15_] at *; omega)])
                  rotate_left
                  · simp only [Act.put, List.setIfInBounds_toArray, List.set_cons_zero, List.set_cons_succ, i64_w, i32_w]
                    rfl
                  refine pure_ (i := 7) (N := some 18) (v := ?_) (a' := ?_) #[true, true, true, true, true, true, true, true, false, false, false, false, false, false, false, false, false, false, false, false, false, false, false] rfl rfl (any_of HT_.out (by kernel_rfl)) (fun _ _ _ h => h) (Or.inl ⟨by rfl, ?_⟩) ?_ ?_
                  rotate_left
                  · intro w'
                    go_simp
                    first | with_reducible rfl | (rw [if_neg (by intro hl_; simp only [ByteArray.size_append, ByteArray.size_extract, szl_0_, szl_1_, szl_2_, szl_3_, szl_4_, szl_5_, szl_6_, szl_7_, szl_8_, szl_9_, szl_10_, szl_11_, szl_12_, szl_13_, szl_14_, szl_15_] at *; omega)])
                  rotate_left
                  · simp only [Act.put, List.setIfInBounds_toArray, List.set_cons_zero, List.set_cons_succ, i64_w, i32_w]
                    rfl
                  refine take_ (i := 8) (N := some 19) (v := ?_) (a' := ?_) #[true, true, true, true, true, true, true, true, true, false, false, false, false, false, false, false, false, false, false, false, false, false, false] rfl rfl (take_ofW HT_.out HW_.out (by kernel_rfl)) (fun _ _ _ h => h) (Or.inl ⟨by rfl, ?_⟩) hHeld ?_ ?_
                  rotate_left
                  · rintro w' ⟨s0, s1, s2, s3, s4, s5, s6, s7⟩
                    (try simp only [Int.toNat_natCast] at s0 s1 s2 s3 s4 s5 s6 s7)
                    go_simp
                    first | with_reducible rfl | (rw [if_neg (by intro hl_; simp only [ByteArray.size_append, ByteArray.size_extract, szl_0_, szl_1_, szl_2_, szl_3_, szl_4_, szl_5_, szl_6_, szl_7_, szl_8_, szl_9_, szl_10_, szl_11_, szl_12_, szl_13_, szl_14_, szl_15_] at *; omega)])
                  rotate_left
                  · simp only [Act.put, List.setIfInBounds_toArray, List.set_cons_zero, List.set_cons_succ, i64_w, i32_w]
                    rfl
                  refine one_ (i := 9) (N := some 20) #[true, true, true, true, true, true, true, true, true, true, false, false, false, false, false, false, false, false, false, false, false, false, false] rfl rfl (one_of HT_.out (by kernel_rfl)) (by decide) (fun K hK => ?_)
                  refine goes_ Tryd.func33 (by kernel_rfl) rfl #[.int .i64 77] (by rfl) rfl rfl (by (try simp only [List.map_toArray, List.map_cons, List.map_nil]); first | done | rfl | (simp only [List.length_drop, List.length_take]; rfl)) ?_
                  with_reducible refine (dowelbook_spansMark.calls 77 t287 t288 t289 t290 _ A10.out).mono ?_
                  rintro e w18 ⟨rfl, hb⟩
                  refine ⟨_, rfl, ?_⟩
                  have n0_ := Aside0.mk (below_step (by repeat (first | (with_reducible first | exact HB.out | apply below_alloc | apply pw_below_drewN | apply below_drew1) | exact HB.out)) hb)
                  clear HB
                  have HB := n0_
                  clear n0_
                  (try clear hb)
                  (try clear hb2)
                  (try clear hk)
                  (try clear hi)
                  refine hK.out _ _ ⟨((HB.out.cell (World.block_lt_of_cell? w _ hw286_0)).trans hw286_0), ((HB.out.cell (World.block_lt_of_cell? w _ hw286_1)).trans hw286_1), ((HB.out.cell (World.block_lt_of_cell? w _ hw286_2)).trans hw286_2), ((HB.out.cell (World.block_lt_of_cell? w _ hw286_3)).trans hw286_3), ((HB.out.cell (World.block_lt_of_cell? w _ hw291_0)).trans hw291_0), ((HB.out.cell (World.block_lt_of_cell? w _ hw291_1)).trans hw291_1), ((HB.out.cell (World.block_lt_of_cell? w _ hw291_2)).trans hw291_2), ((HB.out.cell (World.block_lt_of_cell? w _ hw291_3)).trans hw291_3)⟩ (fun hHeld => ?_)
                  clear hK K
                  refine norm_ (a' := ?_) ?_ ?_
                  rotate_left
                  · show Act.put _ (some 20) _ = _
                    simp only [Act.put, List.setIfInBounds_toArray, List.set_cons_zero, List.set_cons_succ, i64_w, i32_w]
                    rfl
                  refine pure_ (i := 10) (N := some 21) (v := ?_) (a' := ?_) #[true, true, true, true, true, true, true, true, true, true, true, false, false, false, false, false, false, false, false, false, false, false, false] rfl rfl (any_of HT_.out (by kernel_rfl)) (fun _ _ _ h => h) (Or.inl ⟨by rfl, ?_⟩) ?_ ?_
                  rotate_left
                  · intro w'
                    go_simp
                    first | with_reducible rfl | (rw [if_neg (by intro hl_; simp only [ByteArray.size_append, ByteArray.size_extract, szl_0_, szl_1_, szl_2_, szl_3_, szl_4_, szl_5_, szl_6_, szl_7_, szl_8_, szl_9_, szl_10_, szl_11_, szl_12_, szl_13_, szl_14_, szl_15_] at *; omega)])
                  rotate_left
                  · simp only [Act.put, List.setIfInBounds_toArray, List.set_cons_zero, List.set_cons_succ, i64_w, i32_w]
                    rfl
                  refine pure_ (i := 11) (N := some 22) (v := ?_) (a' := ?_) #[true, true, true, true, true, true, true, true, true, true, true, true, false, false, false, false, false, false, false, false, false, false, false] rfl rfl (any_of HT_.out (by kernel_rfl)) (fun _ _ _ h => h) (Or.inl ⟨by rfl, ?_⟩) ?_ ?_
                  rotate_left
                  · intro w'
                    go_simp
                    first | with_reducible rfl | (rw [if_neg (by intro hl_; simp only [ByteArray.size_append, ByteArray.size_extract, szl_0_, szl_1_, szl_2_, szl_3_, szl_4_, szl_5_, szl_6_, szl_7_, szl_8_, szl_9_, szl_10_, szl_11_, szl_12_, szl_13_, szl_14_, szl_15_] at *; omega)])
                  rotate_left
                  · simp only [Act.put, List.setIfInBounds_toArray, List.set_cons_zero, List.set_cons_succ, i64_w, i32_w]
                    rfl
                  refine pure_ (i := 12) (N := some 23) (v := ?_) (a' := ?_) #[true, true, true, true, true, true, true, true, true, true, true, true, true, false, false, false, false, false, false, false, false, false, false] rfl rfl (any_of HT_.out (by kernel_rfl)) (fun _ _ _ h => h) (Or.inl ⟨by rfl, ?_⟩) ?_ ?_
                  rotate_left
                  · intro w'
                    go_simp
                    first | with_reducible rfl | (rw [if_neg (by intro hl_; simp only [ByteArray.size_append, ByteArray.size_extract, szl_0_, szl_1_, szl_2_, szl_3_, szl_4_, szl_5_, szl_6_, szl_7_, szl_8_, szl_9_, szl_10_, szl_11_, szl_12_, szl_13_, szl_14_, szl_15_] at *; omega)])
                  rotate_left
                  · simp only [Act.put, List.setIfInBounds_toArray, List.set_cons_zero, List.set_cons_succ, i64_w, i32_w]
                    rfl
                  refine pure_ (i := 13) (N := some 24) (v := ?_) (a' := ?_) #[true, true, true, true, true, true, true, true, true, true, true, true, true, true, false, false, false, false, false, false, false, false, false] rfl rfl (any_of HT_.out (by kernel_rfl)) (fun _ _ _ h => h) (Or.inl ⟨by rfl, ?_⟩) ?_ ?_
                  rotate_left
                  · intro w'
                    go_simp
                    first | with_reducible rfl | (rw [if_neg (by intro hl_; simp only [ByteArray.size_append, ByteArray.size_extract, szl_0_, szl_1_, szl_2_, szl_3_, szl_4_, szl_5_, szl_6_, szl_7_, szl_8_, szl_9_, szl_10_, szl_11_, szl_12_, szl_13_, szl_14_, szl_15_] at *; omega)])
                  rotate_left
                  · simp only [Act.put, List.setIfInBounds_toArray, List.set_cons_zero, List.set_cons_succ, i64_w, i32_w]
                    rfl
                  refine pure_ (i := 14) (N := some 25) (v := ?_) (a' := ?_) #[true, true, true, true, true, true, true, true, true, true, true, true, true, true, true, false, false, false, false, false, false, false, false] rfl rfl (any_of HT_.out (by kernel_rfl)) (fun _ _ _ h => h) (Or.inl ⟨by rfl, ?_⟩) ?_ ?_
                  rotate_left
                  · intro w'
                    go_simp
                    first | with_reducible rfl | (rw [if_neg (by intro hl_; simp only [ByteArray.size_append, ByteArray.size_extract, szl_0_, szl_1_, szl_2_, szl_3_, szl_4_, szl_5_, szl_6_, szl_7_, szl_8_, szl_9_, szl_10_, szl_11_, szl_12_, szl_13_, szl_14_, szl_15_] at *; omega)])
                  rotate_left
                  · simp only [Act.put, List.setIfInBounds_toArray, List.set_cons_zero, List.set_cons_succ, i64_w, i32_w]
                    rfl
                  refine pure_ (i := 15) (N := some 26) (v := ?_) (a' := ?_) #[true, true, true, true, true, true, true, true, true, true, true, true, true, true, true, true, false, false, false, false, false, false, false] rfl rfl (any_of HT_.out (by kernel_rfl)) (fun _ _ _ h => h) (Or.inl ⟨by rfl, ?_⟩) ?_ ?_
                  rotate_left
                  · intro w'
                    go_simp
                    first | with_reducible rfl | (rw [if_neg (by intro hl_; simp only [ByteArray.size_append, ByteArray.size_extract, szl_0_, szl_1_, szl_2_, szl_3_, szl_4_, szl_5_, szl_6_, szl_7_, szl_8_, szl_9_, szl_10_, szl_11_, szl_12_, szl_13_, szl_14_, szl_15_] at *; omega)])
                  rotate_left
                  · simp only [Act.put, List.setIfInBounds_toArray, List.set_cons_zero, List.set_cons_succ, i64_w, i32_w]
                    rfl
                  refine pure_ (i := 16) (N := some 27) (v := ?_) (a' := ?_) #[true, true, true, true, true, true, true, true, true, true, true, true, true, true, true, true, true, false, false, false, false, false, false] rfl rfl (any_of HT_.out (by kernel_rfl)) (fun _ _ _ h => h) (Or.inl ⟨by rfl, ?_⟩) ?_ ?_
                  rotate_left
                  · intro w'
                    go_simp
                    first | with_reducible rfl | (rw [if_neg (by intro hl_; simp only [ByteArray.size_append, ByteArray.size_extract, szl_0_, szl_1_, szl_2_, szl_3_, szl_4_, szl_5_, szl_6_, szl_7_, szl_8_, szl_9_, szl_10_, szl_11_, szl_12_, szl_13_, szl_14_, szl_15_] at *; omega)])
                  rotate_left
                  · simp only [Act.put, List.setIfInBounds_toArray, List.set_cons_zero, List.set_cons_succ, i64_w, i32_w]
                    rfl
                  refine pure_ (i := 17) (N := some 28) (v := ?_) (a' := ?_) #[true, true, true, true, true, true, true, true, true, true, true, true, true, true, true, true, true, true, false, false, false, false, false] rfl rfl (any_of HT_.out (by kernel_rfl)) (fun _ _ _ h => h) (Or.inl ⟨by rfl, ?_⟩) ?_ ?_
                  rotate_left
                  · intro w'
                    go_simp
                    first | with_reducible rfl | (rw [if_neg (by intro hl_; simp only [ByteArray.size_append, ByteArray.size_extract, szl_0_, szl_1_, szl_2_, szl_3_, szl_4_, szl_5_, szl_6_, szl_7_, szl_8_, szl_9_, szl_10_, szl_11_, szl_12_, szl_13_, szl_14_, szl_15_] at *; omega)])
                  rotate_left
                  · simp only [Act.put, List.setIfInBounds_toArray, List.set_cons_zero, List.set_cons_succ, i64_w, i32_w]
                    rfl
                  refine take_ (i := 18) (N := some 29) (v := ?_) (a' := ?_) #[true, true, true, true, true, true, true, true, true, true, true, true, true, true, true, true, true, true, true, false, false, false, false] rfl rfl (take_ofW HT_.out HW_.out (by kernel_rfl)) (fun _ _ _ h => h) (Or.inl ⟨by rfl, ?_⟩) hHeld ?_ ?_
                  rotate_left
                  · rintro w' ⟨s0, s1, s2, s3, s4, s5, s6, s7⟩
                    (try simp only [Int.toNat_natCast] at s0 s1 s2 s3 s4 s5 s6 s7)
                    go_simp
                    first | with_reducible rfl | (rw [if_neg (by intro hl_; simp only [ByteArray.size_append, ByteArray.size_extract, szl_0_, szl_1_, szl_2_, szl_3_, szl_4_, szl_5_, szl_6_, szl_7_, szl_8_, szl_9_, szl_10_, szl_11_, szl_12_, szl_13_, szl_14_, szl_15_] at *; omega)])
                  rotate_left
                  · simp only [Act.put, List.setIfInBounds_toArray, List.set_cons_zero, List.set_cons_succ, i64_w, i32_w]
                    rfl
                  refine one_ (i := 19) (N := some 30) #[true, true, true, true, true, true, true, true, true, true, true, true, true, true, true, true, true, true, true, true, false, false, false] rfl rfl (one_of HT_.out (by kernel_rfl)) (by decide) (fun K hK => ?_)
                  refine goes_ Tryd.func34 (by kernel_rfl) rfl #[.int .i64 77] (by rfl) rfl rfl (by (try simp only [List.map_toArray, List.map_cons, List.map_nil]); first | done | rfl | (simp only [List.length_drop, List.length_take]; rfl)) ?_
                  with_reducible refine (dowelbook_spansMore.calls 77 t292 t293 t294 t295 _ A15.out).mono ?_
                  rintro e w19 ⟨rfl, hb⟩
                  refine ⟨_, rfl, ?_⟩
                  have n0_ := Aside0.mk (below_step (by repeat (first | (with_reducible first | exact HB.out | apply below_alloc | apply pw_below_drewN | apply below_drew1) | exact HB.out)) hb)
                  clear HB
                  have HB := n0_
                  clear n0_
                  (try clear hb)
                  (try clear hb2)
                  (try clear hk)
                  (try clear hi)
                  refine hK.out _ _ ⟨((HB.out.cell (World.block_lt_of_cell? w _ hw286_0)).trans hw286_0), ((HB.out.cell (World.block_lt_of_cell? w _ hw286_1)).trans hw286_1), ((HB.out.cell (World.block_lt_of_cell? w _ hw286_2)).trans hw286_2), ((HB.out.cell (World.block_lt_of_cell? w _ hw286_3)).trans hw286_3), ((HB.out.cell (World.block_lt_of_cell? w _ hw291_0)).trans hw291_0), ((HB.out.cell (World.block_lt_of_cell? w _ hw291_1)).trans hw291_1), ((HB.out.cell (World.block_lt_of_cell? w _ hw291_2)).trans hw291_2), ((HB.out.cell (World.block_lt_of_cell? w _ hw291_3)).trans hw291_3)⟩ (fun hHeld => ?_)
                  clear hK K
                  refine norm_ (a' := ?_) ?_ ?_
                  rotate_left
                  · show Act.put _ (some 30) _ = _
                    simp only [Act.put, List.setIfInBounds_toArray, List.set_cons_zero, List.set_cons_succ, i64_w, i32_w]
                    rfl
                  refine pure_ (i := 20) (N := some 31) (v := ?_) (a' := ?_) #[true, true, true, true, true, true, true, true, true, true, true, true, true, true, true, true, true, true, true, true, true, false, false] rfl rfl (any_of HT_.out (by kernel_rfl)) (fun _ _ _ h => h) (Or.inl ⟨by rfl, ?_⟩) ?_ ?_
                  rotate_left
                  · intro w'
                    go_simp
                    first | with_reducible rfl | (rw [if_neg (by intro hl_; simp only [ByteArray.size_append, ByteArray.size_extract, szl_0_, szl_1_, szl_2_, szl_3_, szl_4_, szl_5_, szl_6_, szl_7_, szl_8_, szl_9_, szl_10_, szl_11_, szl_12_, szl_13_, szl_14_, szl_15_] at *; omega)])
                  rotate_left
                  · simp only [Act.put, List.setIfInBounds_toArray, List.set_cons_zero, List.set_cons_succ, i64_w, i32_w]
                    rfl
                  refine pure_ (i := 21) (N := some 32) (v := ?_) (a' := ?_) #[true, true, true, true, true, true, true, true, true, true, true, true, true, true, true, true, true, true, true, true, true, true, false] rfl rfl (any_of HT_.out (by kernel_rfl)) (fun _ _ _ h => h) (Or.inl ⟨by rfl, ?_⟩) ?_ ?_
                  rotate_left
                  · intro w'
                    go_simp
                    first | with_reducible rfl | (rw [if_neg (by intro hl_; simp only [ByteArray.size_append, ByteArray.size_extract, szl_0_, szl_1_, szl_2_, szl_3_, szl_4_, szl_5_, szl_6_, szl_7_, szl_8_, szl_9_, szl_10_, szl_11_, szl_12_, szl_13_, szl_14_, szl_15_] at *; omega)])
                  rotate_left
                  · simp only [Act.put, List.setIfInBounds_toArray, List.set_cons_zero, List.set_cons_succ, i64_w, i32_w]
                    rfl
                  refine pure_ (i := 22) (N := some 4) (v := ?_) (a' := ?_) #[true, true, true, true, true, true, true, true, true, true, true, true, true, true, true, true, true, true, true, true, true, true, true] rfl rfl (any_of HT_.out (by kernel_rfl)) (fun _ _ _ h => h) (Or.inl ⟨by rfl, ?_⟩) ?_ ?_
                  rotate_left
                  · intro w'
                    go_simp
                    first | with_reducible rfl | (rw [if_neg (by intro hl_; simp only [ByteArray.size_append, ByteArray.size_extract, szl_0_, szl_1_, szl_2_, szl_3_, szl_4_, szl_5_, szl_6_, szl_7_, szl_8_, szl_9_, szl_10_, szl_11_, szl_12_, szl_13_, szl_14_, szl_15_] at *; omega)])
                  rotate_left
                  · simp only [Act.put, List.setIfInBounds_toArray, List.set_cons_zero, List.set_cons_succ, i64_w, i32_w]
                    rfl
                  refine done_ (done_of HT_.out (by kernel_rfl)) ?_
                  try go_wp2
                  go_ret
                  exact ⟨by first | rfl | (simp [errW_none, errW_some] <;> rfl) | (simp only [← hji3, ← hji12]; first | rfl | (simp [errW_none, errW_some] <;> rfl)) | (simp [*, errW_none, errW_some] <;> rfl), by repeat (first | (with_reducible first | exact HB.out | apply below_alloc | apply pw_below_drewN | apply below_drew1) | exact HB.out)⟩
                · rw [if_neg c14] at H
                  exact absurd H (by simp)
              · rw [if_neg c13] at H
                exact absurd H (by simp)
            · rw [if_neg c11] at H
              have c11b0 : ((((rd_T60 y281 (l1.length : Int)).f0).toList) == t287.toList && (((rd_T60 y281 (l1.length : Int)).f1) == t288 && (((rd_T60 y281 (l1.length : Int)).f2) == t289 && (((rd_T60 y281 (l1.length : Int)).f3) == t290)))) = false := by simpa using c11
              (try (have c11b1 : decide ((((rd_T60 y281 (l1.length : Int)).f0).toList) = t287.toList && (((rd_T60 y281 (l1.length : Int)).f1) == t288 && (((rd_T60 y281 (l1.length : Int)).f2) == t289 && (((rd_T60 y281 (l1.length : Int)).f3) == t290)))) = false := by simpa using c11))
              (try (have c11b2 : ((((rd_T60 y281 (l1.length : Int)).f0).toList) == t287.toList && (((rd_T60 y281 (l1.length : Int)).f1) == t288 && (((rd_T60 y281 (l1.length : Int)).f2) == t289 && (((rd_T60 y281 (l1.length : Int)).f3) == t290)))) = false := by simpa using c11))
              (try (have c11b3 : ¬ ((((rd_T60 y281 (l1.length : Int)).f0).toList) = t287.toList && (((rd_T60 y281 (l1.length : Int)).f1) == t288 && (((rd_T60 y281 (l1.length : Int)).f2) == t289 && (((rd_T60 y281 (l1.length : Int)).f3) == t290)))) := by simpa using c11))
              clear c11
              exact absurd ((Option.some.inj H).trans hr_) (by simp)
          · rw [if_neg c9] at H
            exact absurd H (by simp)
        · rw [if_neg c8] at H
          exact absurd H (by simp)
      · replace c7 := Bool.eq_false_iff.mpr c7
        subst c7
        have H1 : (some false) = some r := by rw [if_neg (show ¬ (false = true) by decide)] at H; exact H
        clear H
        have H := H1
        clear H1
        exact absurd ((Option.some.inj H).trans hr_) (by simp)
    · rw [if_neg c5] at H
      exact absurd H (by simp)
  · rw [if_neg c4] at H
    exact absurd H (by simp)
end Go.Proofs.YtloflodbcdlmpaaDoor.Lend
