-- WRITTEN BY A PROGRAM OF THIS SESSION (wip/tools/myprint.py, over the kit's print); Lean checks it.
import Derived.Test.YtloflodbcdlmpaaDoorBallx0
import Derived.Test.YtloflodbcdlmpaaDoorBallx1
import Derived.Test.YtloflodbcdlmpaaDoorBallx2
import Derived.Test.YtloflodbcdlmpaaDoorBallx3
namespace Go.Proofs.YtloflodbcdlmpaaDoor.Qall
open Go.RowKit Go.Proofs.YtloflodbcdlmpaaDoorW.PrintWords Go.Proofs.YtloflodbcdlmpaaDoorW.PrintLast Go.Proofs.YtloflodbcdlmpaaDoorW.PrintMore
attribute [local go_sem] max2_int min2_int max_two min_two max_three min_three max_four min_four   -- for this text's walks alone
set_option linter.unusedVariables false
set_option linter.unusedSimpArgs false

attribute [local go_sem high] eqA34
/-! ### dowellaw28_ReportRead: function 7 -/
mutual
def dowellaw28_ReportRead.j0 : Nat → ByteArray → ByteArray → Bool → Int → Int → ByteArray → List (S60) → Option (Bool)
  | 0, _, _, _, _, _, _, _ => none
  | k + 1, x0, x1, x67, x274000, x274001, x274002, x274003 => if x67 = true then (some false) else (if x1.toList = ([] : List UInt8) then (dowellaw28_ReportRead.j1 k x0 x1 true x274000 x274001 x274002 x274003) else (dowellaw28_ReportRead.j1 k x0 x1 (decide ((wrap64 ((x0.size : Int) + (x1.size : Int))) > 4194304)) x274000 x274001 x274002 x274003))
def dowellaw28_ReportRead.j1 : Nat → ByteArray → ByteArray → Bool → Int → Int → ByteArray → List (S60) → Option (Bool)
  | 0, _, _, _, _, _, _, _ => none
  | k + 1, x0, x1, x77, x274000, x274001, x274002, x274003 => if x77 = true then (some true) else (if x0.size + x1.size ≤ 9223372036854775807 then ((report_Parse.f k (x0 ++ x1)).bind fun bt277 => (if x274000 = 1 then (if (!(bt277.2.2.2.2.1 == 0) || (!(bt277.2.2.2.2.2 == 0))) = true then (if bt277.2.2.2.2.1 ≥ 0 then (some true) else (if bt277.1 = 1 then (if bt277.2.1 = x274001 then (some (decide ((bt277.2.2.2.1.length : Int) > (x274003.length : Int)))) else (some false)) else (some false))) else (if bt277.1 = 1 then (if bt277.2.1 = x274001 then (some (decide ((bt277.2.2.2.1.length : Int) > (x274003.length : Int)))) else (some false)) else (some false))) else (some (bt277.2.2.2.2.1 == (x0.size : Int) && (bt277.2.2.2.2.2 == 280))))) else (none))
end
def dowellaw28_ReportRead.f (k : Nat) (a0 : ByteArray) (a1 : ByteArray) : Option (Bool) := (dowellaw28_works.f k).bind fun t264 => (if t264 = true then ((report_Parse.f k a0).bind fun bt265 => (if (!(bt265.2.2.2.2.1 == 0) || (!(bt265.2.2.2.2.2 == 0))) = true then (if bt265.1 = 0 then (if bt265.2.1 = 0 then (if bt265.2.2.1.toList = ([] : List UInt8) then (if (bt265.2.2.2.1.length : Int) = 0 then (if bt265.2.2.2.2.2 = 0 then (some false) else (if bt265.2.2.2.2.1 ≥ 0 then (some (decide (bt265.2.2.2.2.1 ≤ (a0.size : Int)))) else (some false))) else (some false)) else (some false)) else (some false)) else (some false)) else ((report_Text.f bt265.1 bt265.2.1 bt265.2.2.1 bt265.2.2.2.1).bind fun bt275 => (if bt275.2 = 0 then (dowellaw28_ReportRead.j0 k a0 a1 (bt275.1.toList != a0.toList) bt265.1 bt265.2.1 bt265.2.2.1 bt265.2.2.2.1) else (dowellaw28_ReportRead.j0 k a0 a1 true bt265.1 bt265.2.1 bt265.2.2.1 bt265.2.2.2.1))))) else (some false))
theorem dowellaw28_ReportRead.mono_l : ∀ k, (∀ y0 y1 y2 y3 y4 y5 y6, LeO (dowellaw28_ReportRead.j0 k y0 y1 y2 y3 y4 y5 y6) (dowellaw28_ReportRead.j0 (k + 1) y0 y1 y2 y3 y4 y5 y6)) ∧ (∀ y0 y1 y2 y3 y4 y5 y6, LeO (dowellaw28_ReportRead.j1 k y0 y1 y2 y3 y4 y5 y6) (dowellaw28_ReportRead.j1 (k + 1) y0 y1 y2 y3 y4 y5 y6))
  | 0 => ⟨fun _ _ _ _ _ _ _ r h => by simp [dowellaw28_ReportRead.j0] at h, fun _ _ _ _ _ _ _ r h => by simp [dowellaw28_ReportRead.j1] at h⟩
  | k + 1 => by
    obtain ⟨ih0, ih1⟩ := dowellaw28_ReportRead.mono_l k
    refine ⟨?_, ?_⟩
    · intro y0 y1 y2 y3 y4 y5 y6
      unfold dowellaw28_ReportRead.j0
      repeat' first
      | (with_reducible exact ih0 _ _ _ _ _ _ _)
      | (with_reducible exact ih1 _ _ _ _ _ _ _)
      | (with_reducible exact dowellaw28_works.mono _)
      | (with_reducible exact report_Parse.mono _ _)
      | (with_reducible exact LeO.refl _)
      | (with_reducible exact LeO.none _)
      | (with_reducible refine LeO.ite ?_ ?_)
      | (with_reducible refine LeO.bind ?_ (fun _ => ?_))
      | exact ih0 _ _ _ _ _ _ _
      | exact ih1 _ _ _ _ _ _ _
      | exact dowellaw28_works.mono _
      | exact report_Parse.mono _ _
      | exact LeO.none _
      | refine LeO.ite ?_ ?_
      | refine LeO.bind ?_ (fun _ => ?_)
    · intro y0 y1 y2 y3 y4 y5 y6
      unfold dowellaw28_ReportRead.j1
      repeat' first
      | (with_reducible exact ih0 _ _ _ _ _ _ _)
      | (with_reducible exact ih1 _ _ _ _ _ _ _)
      | (with_reducible exact dowellaw28_works.mono _)
      | (with_reducible exact report_Parse.mono _ _)
      | (with_reducible exact LeO.refl _)
      | (with_reducible exact LeO.none _)
      | (with_reducible refine LeO.ite ?_ ?_)
      | (with_reducible refine LeO.bind ?_ (fun _ => ?_))
      | exact ih0 _ _ _ _ _ _ _
      | exact ih1 _ _ _ _ _ _ _
      | exact dowellaw28_works.mono _
      | exact report_Parse.mono _ _
      | exact LeO.none _
      | refine LeO.ite ?_ ?_
      | refine LeO.bind ?_ (fun _ => ?_)
theorem dowellaw28_ReportRead.mono : ∀ a0 a1 k, LeO (dowellaw28_ReportRead.f k a0 a1) (dowellaw28_ReportRead.f (k + 1) a0 a1) := by
  intro a0 a1 k
  obtain ⟨ih0, ih1⟩ := dowellaw28_ReportRead.mono_l k
  unfold dowellaw28_ReportRead.f
  repeat' first
      | (with_reducible exact ih0 _ _ _ _ _ _ _)
      | (with_reducible exact ih1 _ _ _ _ _ _ _)
      | (with_reducible exact dowellaw28_works.mono _)
      | (with_reducible exact report_Parse.mono _ _)
      | (with_reducible exact LeO.refl _)
      | (with_reducible exact LeO.none _)
      | (with_reducible refine LeO.ite ?_ ?_)
      | (with_reducible refine LeO.bind ?_ (fun _ => ?_))
      | exact ih0 _ _ _ _ _ _ _
      | exact ih1 _ _ _ _ _ _ _
      | exact dowellaw28_works.mono _
      | exact report_Parse.mono _ _
      | exact LeO.none _
      | refine LeO.ite ?_ ?_
      | refine LeO.bind ?_ (fun _ => ?_)
set_option maxHeartbeats 8000000 in
set_option maxRecDepth 100000 in
theorem dowellaw28_ReportRead.calls (k : Nat) (a0 : ByteArray) (a1 : ByteArray) (r : Bool) (w : World) (h : dowellaw28_ReportRead.f k a0 a1 = some r) (hr : r = true) (htab : TM w) :
    Calls Tryd.prog 7 #[.string a0, .string a1] w fun e w' => e = .returned (.bool r) ∧ Below w.heap.size w w' := by
  have hu24 := Tryd.underlying24
  have hu34 := Tryd.underlying34
  have HB := Aside0.mk (Below.refl w.heap.size w)
  have H : ((dowellaw28_works.f k).bind fun t264 => (if t264 = true then ((report_Parse.f k a0).bind fun bt265 => (if (!(bt265.2.2.2.2.1 == 0) || (!(bt265.2.2.2.2.2 == 0))) = true then (if bt265.1 = 0 then (if bt265.2.1 = 0 then (if bt265.2.2.1.toList = ([] : List UInt8) then (if (bt265.2.2.2.1.length : Int) = 0 then (if bt265.2.2.2.2.2 = 0 then (some false) else (if bt265.2.2.2.2.1 ≥ 0 then (some (decide (bt265.2.2.2.2.1 ≤ (a0.size : Int)))) else (some false))) else (some false)) else (some false)) else (some false)) else (some false)) else ((report_Text.f bt265.1 bt265.2.1 bt265.2.2.1 bt265.2.2.2.1).bind fun bt275 => (if bt275.2 = 0 then (dowellaw28_ReportRead.j0 k a0 a1 (bt275.1.toList != a0.toList) bt265.1 bt265.2.1 bt265.2.2.1 bt265.2.2.2.1) else (dowellaw28_ReportRead.j0 k a0 a1 true bt265.1 bt265.2.1 bt265.2.2.1 bt265.2.2.2.1))))) else (some false))) = some r := h
  clear h
  replace H := Option.bind_eq_some_iff.mp H
  obtain ⟨t264, A30, H⟩ := H
  replace H : (if t264 = true then ((report_Parse.f k a0).bind fun bt265 => (if (!(bt265.2.2.2.2.1 == 0) || (!(bt265.2.2.2.2.2 == 0))) = true then (if bt265.1 = 0 then (if bt265.2.1 = 0 then (if bt265.2.2.1.toList = ([] : List UInt8) then (if (bt265.2.2.2.1.length : Int) = 0 then (if bt265.2.2.2.2.2 = 0 then (some false) else (if bt265.2.2.2.2.1 ≥ 0 then (some (decide (bt265.2.2.2.2.1 ≤ (a0.size : Int)))) else (some false))) else (some false)) else (some false)) else (some false)) else (some false)) else ((report_Text.f bt265.1 bt265.2.1 bt265.2.2.1 bt265.2.2.2.1).bind fun bt275 => (if bt275.2 = 0 then (dowellaw28_ReportRead.j0 k a0 a1 (bt275.1.toList != a0.toList) bt265.1 bt265.2.1 bt265.2.2.1 bt265.2.2.2.1) else (dowellaw28_ReportRead.j0 k a0 a1 true bt265.1 bt265.2.1 bt265.2.2.1 bt265.2.2.2.1))))) else (some false)) = some r := H
  have A3 := Aside0.mk A30
  clear A30
  by_cases c4 : t264 = true
  · subst c4
    have H1 : ((report_Parse.f k a0).bind fun bt265 => (if (!(bt265.2.2.2.2.1 == 0) || (!(bt265.2.2.2.2.2 == 0))) = true then (if bt265.1 = 0 then (if bt265.2.1 = 0 then (if bt265.2.2.1.toList = ([] : List UInt8) then (if (bt265.2.2.2.1.length : Int) = 0 then (if bt265.2.2.2.2.2 = 0 then (some false) else (if bt265.2.2.2.2.1 ≥ 0 then (some (decide (bt265.2.2.2.2.1 ≤ (a0.size : Int)))) else (some false))) else (some false)) else (some false)) else (some false)) else (some false)) else ((report_Text.f bt265.1 bt265.2.1 bt265.2.2.1 bt265.2.2.2.1).bind fun bt275 => (if bt275.2 = 0 then (dowellaw28_ReportRead.j0 k a0 a1 (bt275.1.toList != a0.toList) bt265.1 bt265.2.1 bt265.2.2.1 bt265.2.2.2.1) else (dowellaw28_ReportRead.j0 k a0 a1 true bt265.1 bt265.2.1 bt265.2.2.1 bt265.2.2.2.1))))) = some r := by rw [if_pos rfl] at H; exact H
    clear H
    have H := H1
    clear H1
    replace H := Option.bind_eq_some_iff.mp H
    obtain ⟨⟨t265, t266, t267, t268, t271, t272⟩, A50, H⟩ := H
    replace H : (if (!(t271 == 0) || (!(t272 == 0))) = true then (if t265 = 0 then (if t266 = 0 then (if t267.toList = ([] : List UInt8) then (if (t268.length : Int) = 0 then (if t272 = 0 then (some false) else (if t271 ≥ 0 then (some (decide (t271 ≤ (a0.size : Int)))) else (some false))) else (some false)) else (some false)) else (some false)) else (some false)) else ((report_Text.f t265 t266 t267 t268).bind fun bt275 => (if bt275.2 = 0 then (dowellaw28_ReportRead.j0 k a0 a1 (bt275.1.toList != a0.toList) t265 t266 t267 t268) else (dowellaw28_ReportRead.j0 k a0 a1 true t265 t266 t267 t268)))) = some r := H
    have A5 := Aside0.mk A50
    clear A50
    by_cases c6 : (!(t271 == 0) || (!(t272 == 0))) = true
    · rw [if_pos c6] at H
      have c6b0 : (!(t271 == 0) || (!(t272 == 0))) = true := c6
      clear c6
      by_cases c7 : t265 = 0
      · rw [if_pos c7] at H
        have c7b0 : (t265 == 0) = true := beq_iff_eq.mpr c7
        have c7b1 : (t265 != 0) = false := bne_eq_false_iff_eq.mpr c7
        clear c7
        by_cases c8 : t266 = 0
        · rw [if_pos c8] at H
          have c8b0 : (t266 == 0) = true := beq_iff_eq.mpr c8
          have c8b1 : (t266 != 0) = false := bne_eq_false_iff_eq.mpr c8
          clear c8
          by_cases c9 : t267.toList = ([] : List UInt8)
          · rw [if_pos c9] at H
            have c9b0 : (t267.toList == ([] : List UInt8)) = true := beq_iff_eq.mpr c9
            have c9b1 : (t267.toList != ([] : List UInt8)) = false := bne_eq_false_iff_eq.mpr c9
            clear c9
            by_cases c10 : (t268.length : Int) = 0
            · rw [if_pos c10] at H
              have c10b0 : ((t268.length : Int) == 0) = true := beq_iff_eq.mpr c10
              have c10b1 : ((t268.length : Int) != 0) = false := bne_eq_false_iff_eq.mpr c10
              clear c10
              by_cases c11 : t272 = 0
              · rw [if_pos c11] at H
                have c11b0 : (t272 == 0) = true := beq_iff_eq.mpr c11
                try (have c11or : (t271 == 0) = false := by (have g_ := c6b0; rw [c11b0] at g_; simpa using g_))
                have c11b1 : (t272 != 0) = false := bne_eq_false_iff_eq.mpr c11
                clear c11
                obtain rfl := Option.some.inj H; exact absurd hr Bool.false_ne_true
              · rw [if_neg c11] at H
                have c11b0 : (t272 == 0) = false := beq_eq_false_iff_ne.mpr c11
                have c11b1 : (t272 != 0) = true := bne_iff_ne.mpr c11
                by_cases c20 : t271 ≥ 0
                · rw [if_pos c20] at H
                  have c20b0 : decide (0 ≤ t271) = true := decide_eq_true c20
                  clear c20
                  obtain rfl := Option.some.inj H
                  go_enter Tryd.func7, Tryd.ntmps7
                  go_wp2_with (first | ((with_reducible refine gate_callee (f := 21) rfl ?_); refine goesL_ (some 10) rfl rfl Tryd.func21 (by kernel_rfl) rfl #[] rfl (by (try simp only [List.map_toArray, List.map_cons, List.map_nil]); first | done | rfl | (simp only [List.length_drop, List.length_take]; rfl)) ?_; (with_reducible refine (dowellaw28_works.calls k  true _ A3.out rfl (TM.step htab (by repeat (first | (with_reducible first | exact Below.refl _ _ | exact HB.out | apply below_alloc | apply pw_below_drewN | apply below_drew1 | refine below_set ?_ GE273.out | refine below_set ?_ GE274.out | refine below_set ?_ GE285.out) | exact HB.out | exact Below.refl _ _)))).mono ?_); rintro e w21 ⟨rfl, hb⟩; refine ⟨_, rfl, ?_⟩; have n0_ := Aside0.mk (below_step (by repeat (first | (with_reducible first | exact HB.out | apply below_alloc | apply pw_below_drewN | apply below_drew1) | exact HB.out)) hb); clear HB; have HB := n0_; clear n0_; (try clear hb); (try clear hb2); (try clear hk); (try clear hi)) | ((with_reducible refine gate_callee (f := 16) rfl ?_); refine goesL_ (some 14) rfl rfl Tryd.func16 (by kernel_rfl) rfl #[.string a0] rfl (by (try simp only [List.map_toArray, List.map_cons, List.map_nil]); first | done | rfl | (simp only [List.length_drop, List.length_take]; rfl)) ?_; (with_reducible refine (report_Parse.calls k a0 t265 t266 t267 t268 t271 t272 _ A5.out (TM.step htab (by repeat (first | (with_reducible first | exact Below.refl _ _ | exact HB.out | apply below_alloc | apply pw_below_drewN | apply below_drew1 | refine below_set ?_ GE273.out | refine below_set ?_ GE274.out | refine below_set ?_ GE285.out) | exact HB.out | exact Below.refl _ _)))).mono ?_); rintro e w22 ⟨v269, rfl, ho0, hb⟩; refine ⟨_, rfl, ?_⟩; have n0_ := Aside0.mk (Kd.R_lower ho0 (below_size (by repeat (first | (with_reducible first | exact HB.out | apply below_alloc | apply pw_below_drewN | apply below_drew1) | exact HB.out)))); have n1_ := Aside0.mk (below_step (by repeat (first | (with_reducible first | exact HB.out | apply below_alloc | apply pw_below_drewN | apply below_drew1) | exact HB.out)) hb); clear HB; have HO270 := n0_; have HB := n1_; clear n0_ n1_; (try clear hb); (try clear hb2); (try clear hk); (try clear hi); (try clear ho0)) | ((with_reducible refine gate_dst (N := 5) rfl ?_); (try (refine gate_guard (by rfl) ?_; dsimp only)); refine box_event ?hg (N := 5) ?hd (cs := #[.int .i64 0, .int .i64 0, .string (⟨#[]⟩ : ByteArray), .slice none 0 0]) (t := 24) ?hr ?_; (case hd => rfl); (case hg => rfl); (case hr => first | (go_simp; done) | (go_simp; rfl)); intro gb273 hg w23 hbox hb; have n0_ := Aside0.mk (Kd.R_below (by (with_reducible repeat (first | apply Kd.R_alloc | apply Kd.R_drewN | apply Kd.R_drew)); exact HO270.out) hb); have n1_ := Aside0.mk (below_step (by repeat (first | (with_reducible first | exact HB.out | apply below_alloc | apply pw_below_drewN | apply below_drew1) | exact HB.out)) hb); have n2_ := Aside0.mk (hbox); have n3_ := Aside0.mk ((by rw [hg]; exact (below_size (by repeat (first | (with_reducible first | exact HB.out | apply below_alloc | apply pw_below_drewN | apply below_drew1) | exact HB.out))) : w.heap.size ≤ gb273)); have n4_ := Aside0.mk ((by rw [hg]; exact (below_size (by repeat (first | (with_reducible first | exact HB.out | apply below_alloc | apply pw_below_drewN | apply below_drew1) | exact HB.out))) : w.heap.size ≤ gb273)); clear HO270; clear HB; have HO270 := n0_; have HB := n1_; have BK273 := n2_; have GW273 := n3_; have GE273 := n4_; clear n0_ n1_ n2_ n3_ n4_; clear hb hbox hg) | ((with_reducible refine gate_dst (N := 6) rfl ?_); (try (refine gate_guard (by rfl) ?_; dsimp only)); refine box_event ?hg (N := 6) ?hd (cs := #[.int .i64 0, .int .i64 0]) (t := 34) ?hr ?_; (case hd => rfl); (case hg => rfl); (case hr => first | (go_simp; done) | (go_simp; rfl)); intro gb274 hg w24 hbox hb; have n0_ := Aside0.mk (Kd.R_below (by (with_reducible repeat (first | apply Kd.R_alloc | apply Kd.R_drewN | apply Kd.R_drew)); exact HO270.out) hb); have n1_ := Aside0.mk (blk_below (g := gb273) (o := .cells #[.int .i64 0, .int .i64 0, .string (⟨#[]⟩ : ByteArray), .slice none 0 0] 24 (0, 0)) (by (with_reducible repeat (first | refine blk_drewN ?_ _ | refine blk_drew ?_ | refine blk_alloc ?_ _)); exact BK273.out) hb); have n2_ := Aside0.mk (below_step (by repeat (first | (with_reducible first | exact HB.out | apply below_alloc | apply pw_below_drewN | apply below_drew1 | refine below_set ?_ GE273.out) | exact HB.out)) hb); have n3_ := Aside0.mk (hbox); have n4_ := Aside0.mk ((by rw [hg]; exact (below_size (by repeat (first | (with_reducible first | exact HB.out | apply below_alloc | apply pw_below_drewN | apply below_drew1 | refine below_set ?_ GE273.out) | exact HB.out))) : w.heap.size ≤ gb274)); have n5_ := Aside0.mk ((by rw [hg]; exact (below_size (by repeat (first | (with_reducible first | exact HB.out | apply below_alloc | apply pw_below_drewN | apply below_drew1 | refine below_set ?_ GE273.out) | exact HB.out))) : w.heap.size ≤ gb274)); have n6_ := Aside0.mk ((by rw [hg]; exact Nat.ne_of_lt (blk_lt (g := gb273) (o := .cells #[.int .i64 0, .int .i64 0, .string (⟨#[]⟩ : ByteArray), .slice none 0 0] 24 (0, 0)) (by (with_reducible repeat (first | refine blk_drewN ?_ _ | refine blk_drew ?_ | refine blk_alloc ?_ _)); exact BK273.out)) : gb273 ≠ gb274)); have n7_ := Aside0.mk ((by rw [hg]; exact Nat.ne_of_gt (blk_lt (g := gb273) (o := .cells #[.int .i64 0, .int .i64 0, .string (⟨#[]⟩ : ByteArray), .slice none 0 0] 24 (0, 0)) (by (with_reducible repeat (first | refine blk_drewN ?_ _ | refine blk_drew ?_ | refine blk_alloc ?_ _)); exact BK273.out)) : gb274 ≠ gb273)); clear HO270; clear BK273; clear HB; have HO270 := n0_; have BK273 := n1_; have HB := n2_; have BK274 := n3_; have GW274 := n4_; have GE274 := n5_; have NB273_274 := n6_; have NB274_273 := n7_; clear n0_ n1_ n2_ n3_ n4_ n5_ n6_ n7_; clear hb hbox hg; have hnb25 := NB273_274.out; have hnc25 := NB274_273.out; have hcz26_0 : w24.cell? ⟨gb273, 0, none⟩ = some (.int .i64 0) := (blk_cell BK273.out 0).trans rfl; have hcz26_1 : w24.cell? ⟨gb273, 1, none⟩ = some (.int .i64 0) := (blk_cell BK273.out 1).trans rfl; have hcz26_2 : w24.cell? ⟨gb273, 2, none⟩ = some (.string (⟨#[]⟩ : ByteArray)) := (blk_cell BK273.out 2).trans rfl; have hcz26_3 : w24.cell? ⟨gb273, 3, none⟩ = some (.slice none 0 0) := (blk_cell BK273.out 3).trans rfl; have hfz26_0 := blk_frozen BK273.out 0; have hfz26_1 := blk_frozen BK273.out 1; have hfz26_2 := blk_frozen BK273.out 2; have hfz26_3 := blk_frozen BK273.out 3; obtain ⟨Ao27, co27, eo27⟩ := Kd.R_slice HO270.out; subst eo27; have hcz28_0 : w24.cell? ⟨gb274, 0, none⟩ = some (.int .i64 0) := (blk_cell BK274.out 0).trans rfl; have hcz28_1 : w24.cell? ⟨gb274, 1, none⟩ = some (.int .i64 0) := (blk_cell BK274.out 1).trans rfl; have hfz28_0 := blk_frozen BK274.out 0; have hfz28_1 := blk_frozen BK274.out 1))
                  go_ret
                  exact ⟨by first | rfl | (simp [errW_none, errW_some] <;> rfl) | (simp [*, errW_none, errW_some] <;> rfl), by repeat (first | (with_reducible first | exact HB.out | apply below_alloc | apply pw_below_drewN | apply below_drew1 | refine below_set ?_ GE273.out | refine below_set ?_ GE274.out) | exact HB.out)⟩
                · rw [if_neg c20] at H
                  have c20b0 : decide (0 ≤ t271) = false := decide_eq_false c20
                  clear c20
                  obtain rfl := Option.some.inj H; exact absurd hr Bool.false_ne_true
            · rw [if_neg c10] at H
              have c10b0 : ((t268.length : Int) == 0) = false := beq_eq_false_iff_ne.mpr c10
              have c10b1 : ((t268.length : Int) != 0) = true := bne_iff_ne.mpr c10
              have c10b2 : ¬ (t268 = []) := fun h_ => c10 (by rw [h_]; rfl)
              obtain rfl := Option.some.inj H; exact absurd hr Bool.false_ne_true
          · rw [if_neg c9] at H
            have c9b0 : (t267.toList == ([] : List UInt8)) = false := beq_eq_false_iff_ne.mpr c9
            have c9b1 : (t267.toList != ([] : List UInt8)) = true := bne_iff_ne.mpr c9
            obtain rfl := Option.some.inj H; exact absurd hr Bool.false_ne_true
        · rw [if_neg c8] at H
          have c8b0 : (t266 == 0) = false := beq_eq_false_iff_ne.mpr c8
          have c8b1 : (t266 != 0) = true := bne_iff_ne.mpr c8
          obtain rfl := Option.some.inj H; exact absurd hr Bool.false_ne_true
      · rw [if_neg c7] at H
        have c7b0 : (t265 == 0) = false := beq_eq_false_iff_ne.mpr c7
        have c7b1 : (t265 != 0) = true := bne_iff_ne.mpr c7
        obtain rfl := Option.some.inj H; exact absurd hr Bool.false_ne_true
    · rw [if_neg c6] at H
      have c6b0 : (!(t271 == 0) || (!(t272 == 0))) = false := by simpa using c6
      clear c6
      replace H := Option.bind_eq_some_iff.mp H
      obtain ⟨⟨t275, t276⟩, A690, H⟩ := H
      replace H : (if t276 = 0 then (dowellaw28_ReportRead.j0 k a0 a1 (t275.toList != a0.toList) t265 t266 t267 t268) else (dowellaw28_ReportRead.j0 k a0 a1 true t265 t266 t267 t268)) = some r := H
      have A69 := Aside0.mk A690
      clear A690
      have HC70 := Aside0.mk H
      clear H
      go_enter Tryd.func7, Tryd.ntmps7
      go_upto_region 7 with (first | ((with_reducible refine gate_callee (f := 21) rfl ?_); refine goesL_ (some 10) rfl rfl Tryd.func21 (by kernel_rfl) rfl #[] rfl (by (try simp only [List.map_toArray, List.map_cons, List.map_nil]); first | done | rfl | (simp only [List.length_drop, List.length_take]; rfl)) ?_; (with_reducible refine (dowellaw28_works.calls k  true _ A3.out rfl (TM.step htab (by repeat (first | (with_reducible first | exact Below.refl _ _ | exact HB.out | apply below_alloc | apply pw_below_drewN | apply below_drew1 | refine below_set ?_ GE273.out | refine below_set ?_ GE274.out | refine below_set ?_ GE285.out) | exact HB.out | exact Below.refl _ _)))).mono ?_); rintro e w71 ⟨rfl, hb⟩; refine ⟨_, rfl, ?_⟩; have n0_ := Aside0.mk (below_step (by repeat (first | (with_reducible first | exact HB.out | apply below_alloc | apply pw_below_drewN | apply below_drew1) | exact HB.out)) hb); clear HB; have HB := n0_; clear n0_; (try clear hb); (try clear hb2); (try clear hk); (try clear hi)) | ((with_reducible refine gate_callee (f := 16) rfl ?_); refine goesL_ (some 14) rfl rfl Tryd.func16 (by kernel_rfl) rfl #[.string a0] rfl (by (try simp only [List.map_toArray, List.map_cons, List.map_nil]); first | done | rfl | (simp only [List.length_drop, List.length_take]; rfl)) ?_; (with_reducible refine (report_Parse.calls k a0 t265 t266 t267 t268 t271 t272 _ A5.out (TM.step htab (by repeat (first | (with_reducible first | exact Below.refl _ _ | exact HB.out | apply below_alloc | apply pw_below_drewN | apply below_drew1 | refine below_set ?_ GE273.out | refine below_set ?_ GE274.out | refine below_set ?_ GE285.out) | exact HB.out | exact Below.refl _ _)))).mono ?_); rintro e w72 ⟨v269, rfl, ho0, hb⟩; refine ⟨_, rfl, ?_⟩; have n0_ := Aside0.mk (Kd.R_lower ho0 (below_size (by repeat (first | (with_reducible first | exact HB.out | apply below_alloc | apply pw_below_drewN | apply below_drew1) | exact HB.out)))); have n1_ := Aside0.mk (below_step (by repeat (first | (with_reducible first | exact HB.out | apply below_alloc | apply pw_below_drewN | apply below_drew1) | exact HB.out)) hb); clear HB; have HO270 := n0_; have HB := n1_; clear n0_ n1_; (try clear hb); (try clear hb2); (try clear hk); (try clear hi); (try clear ho0)) | ((with_reducible refine gate_dst (N := 5) rfl ?_); (try (refine gate_guard (by rfl) ?_; dsimp only)); refine box_event ?hg (N := 5) ?hd (cs := #[.int .i64 0, .int .i64 0, .string (⟨#[]⟩ : ByteArray), .slice none 0 0]) (t := 24) ?hr ?_; (case hd => rfl); (case hg => rfl); (case hr => first | (go_simp; done) | (go_simp; rfl)); intro gb273 hg w73 hbox hb; have n0_ := Aside0.mk (Kd.R_below (by (with_reducible repeat (first | apply Kd.R_alloc | apply Kd.R_drewN | apply Kd.R_drew)); exact HO270.out) hb); have n1_ := Aside0.mk (below_step (by repeat (first | (with_reducible first | exact HB.out | apply below_alloc | apply pw_below_drewN | apply below_drew1) | exact HB.out)) hb); have n2_ := Aside0.mk (hbox); have n3_ := Aside0.mk ((by rw [hg]; exact (below_size (by repeat (first | (with_reducible first | exact HB.out | apply below_alloc | apply pw_below_drewN | apply below_drew1) | exact HB.out))) : w.heap.size ≤ gb273)); have n4_ := Aside0.mk ((by rw [hg]; exact (below_size (by repeat (first | (with_reducible first | exact HB.out | apply below_alloc | apply pw_below_drewN | apply below_drew1) | exact HB.out))) : w.heap.size ≤ gb273)); clear HO270; clear HB; have HO270 := n0_; have HB := n1_; have BK273 := n2_; have GW273 := n3_; have GE273 := n4_; clear n0_ n1_ n2_ n3_ n4_; clear hb hbox hg) | ((with_reducible refine gate_dst (N := 6) rfl ?_); (try (refine gate_guard (by rfl) ?_; dsimp only)); refine box_event ?hg (N := 6) ?hd (cs := #[.int .i64 0, .int .i64 0]) (t := 34) ?hr ?_; (case hd => rfl); (case hg => rfl); (case hr => first | (go_simp; done) | (go_simp; rfl)); intro gb274 hg w74 hbox hb; have n0_ := Aside0.mk (Kd.R_below (by (with_reducible repeat (first | apply Kd.R_alloc | apply Kd.R_drewN | apply Kd.R_drew)); exact HO270.out) hb); have n1_ := Aside0.mk (blk_below (g := gb273) (o := .cells #[.int .i64 0, .int .i64 0, .string (⟨#[]⟩ : ByteArray), .slice none 0 0] 24 (0, 0)) (by (with_reducible repeat (first | refine blk_drewN ?_ _ | refine blk_drew ?_ | refine blk_alloc ?_ _)); exact BK273.out) hb); have n2_ := Aside0.mk (below_step (by repeat (first | (with_reducible first | exact HB.out | apply below_alloc | apply pw_below_drewN | apply below_drew1 | refine below_set ?_ GE273.out) | exact HB.out)) hb); have n3_ := Aside0.mk (hbox); have n4_ := Aside0.mk ((by rw [hg]; exact (below_size (by repeat (first | (with_reducible first | exact HB.out | apply below_alloc | apply pw_below_drewN | apply below_drew1 | refine below_set ?_ GE273.out) | exact HB.out))) : w.heap.size ≤ gb274)); have n5_ := Aside0.mk ((by rw [hg]; exact (below_size (by repeat (first | (with_reducible first | exact HB.out | apply below_alloc | apply pw_below_drewN | apply below_drew1 | refine below_set ?_ GE273.out) | exact HB.out))) : w.heap.size ≤ gb274)); have n6_ := Aside0.mk ((by rw [hg]; exact Nat.ne_of_lt (blk_lt (g := gb273) (o := .cells #[.int .i64 0, .int .i64 0, .string (⟨#[]⟩ : ByteArray), .slice none 0 0] 24 (0, 0)) (by (with_reducible repeat (first | refine blk_drewN ?_ _ | refine blk_drew ?_ | refine blk_alloc ?_ _)); exact BK273.out)) : gb273 ≠ gb274)); have n7_ := Aside0.mk ((by rw [hg]; exact Nat.ne_of_gt (blk_lt (g := gb273) (o := .cells #[.int .i64 0, .int .i64 0, .string (⟨#[]⟩ : ByteArray), .slice none 0 0] 24 (0, 0)) (by (with_reducible repeat (first | refine blk_drewN ?_ _ | refine blk_drew ?_ | refine blk_alloc ?_ _)); exact BK273.out)) : gb274 ≠ gb273)); clear HO270; clear BK273; clear HB; have HO270 := n0_; have BK273 := n1_; have HB := n2_; have BK274 := n3_; have GW274 := n4_; have GE274 := n5_; have NB273_274 := n6_; have NB274_273 := n7_; clear n0_ n1_ n2_ n3_ n4_ n5_ n6_ n7_; clear hb hbox hg; have hnb75 := NB273_274.out; have hnc75 := NB274_273.out; have hcz76_0 : w74.cell? ⟨gb273, 0, none⟩ = some (.int .i64 0) := (blk_cell BK273.out 0).trans rfl; have hcz76_1 : w74.cell? ⟨gb273, 1, none⟩ = some (.int .i64 0) := (blk_cell BK273.out 1).trans rfl; have hcz76_2 : w74.cell? ⟨gb273, 2, none⟩ = some (.string (⟨#[]⟩ : ByteArray)) := (blk_cell BK273.out 2).trans rfl; have hcz76_3 : w74.cell? ⟨gb273, 3, none⟩ = some (.slice none 0 0) := (blk_cell BK273.out 3).trans rfl; have hfz76_0 := blk_frozen BK273.out 0; have hfz76_1 := blk_frozen BK273.out 1; have hfz76_2 := blk_frozen BK273.out 2; have hfz76_3 := blk_frozen BK273.out 3; obtain ⟨Ao77, co77, eo77⟩ := Kd.R_slice HO270.out; subst eo77; have hcz78_0 : w74.cell? ⟨gb274, 0, none⟩ = some (.int .i64 0) := (blk_cell BK274.out 0).trans rfl; have hcz78_1 : w74.cell? ⟨gb274, 1, none⟩ = some (.int .i64 0) := (blk_cell BK274.out 1).trans rfl; have hfz78_0 := blk_frozen BK274.out 0; have hfz78_1 := blk_frozen BK274.out 1) | ((with_reducible refine gate_callee (f := 11) rfl ?_); refine goesL_ (some 58) rfl rfl Tryd.func11 (by kernel_rfl) rfl #[.agg #[.int .i64 t265, .int .i64 t266, .string t267, .slice Ao77 t268.length co77]] rfl (by (try simp only [List.map_toArray, List.map_cons, List.map_nil]); first | done | rfl | (simp only [List.length_drop, List.length_take]; rfl)) ?_; (with_reducible refine (report_Text.calls t265 t266 t267 _ _ t268 t275 t276 _ ?side1 ?side2 A69.out (TM.step htab (by repeat (first | (with_reducible first | exact Below.refl _ _ | exact HB.out | apply below_alloc | apply pw_below_drewN | apply below_drew1 | refine below_set ?_ GE273.out | refine below_set ?_ GE274.out | refine below_set ?_ GE285.out) | exact HB.out | exact Below.refl _ _)))).mono ?_); (case side1 => refine (Kd.R_reads' (e := 60) (base := w.heap.size) (ok := fun k_ => True) (n := t268.length) (c := co77) ?_).2.2; exact (by (with_reducible repeat (first | apply Kd.R_alloc | apply Kd.R_drewN | apply Kd.R_drew)); exact (Kd.R_mono (Kd.R_mono (Kd.R_far (p := ⟨gb274, 1, none⟩) (Kd.R_far (p := ⟨gb274, 0, none⟩) (Kd.R_far (p := ⟨gb273, 3, none⟩) (Kd.R_far (p := ⟨gb273, 2, none⟩) (Kd.R_far (p := ⟨gb273, 1, none⟩) (Kd.R_far (p := ⟨gb273, 0, none⟩) (Kd.R_types (Kd.R_types HO270.out BK273.out (by decide)) BK274.out (by decide)) (fun _ hk => hk.1.2) (.int .i64 t265)) (fun _ hk => hk.1.2) (.int .i64 t266)) (fun _ hk => hk.1.2) (.string t267)) (fun _ hk => hk.1.2) (.slice Ao77 t268.length co77)) (fun _ hk => hk.2) (.int .i64 t271)) (fun _ hk => hk.2) (.int .i64 t272)) (fun _ h_ => h_.1)) (fun _ h_ => h_.1)))); (case side2 => exact (Kd.R_reads' HO270.out).2.1); rintro e w79 ⟨rfl, hb⟩; refine ⟨_, rfl, ?_⟩; have n0_ := Aside0.mk (Kd.R_below (by (with_reducible repeat (first | apply Kd.R_alloc | apply Kd.R_drewN | apply Kd.R_drew)); exact (Kd.R_mono (Kd.R_mono (Kd.R_far (p := ⟨gb274, 1, none⟩) (Kd.R_far (p := ⟨gb274, 0, none⟩) (Kd.R_far (p := ⟨gb273, 3, none⟩) (Kd.R_far (p := ⟨gb273, 2, none⟩) (Kd.R_far (p := ⟨gb273, 1, none⟩) (Kd.R_far (p := ⟨gb273, 0, none⟩) (Kd.R_types (Kd.R_types HO270.out BK273.out (by decide)) BK274.out (by decide)) (fun _ hk => hk.1.2) (.int .i64 t265)) (fun _ hk => hk.1.2) (.int .i64 t266)) (fun _ hk => hk.1.2) (.string t267)) (fun _ hk => hk.1.2) (.slice Ao77 t268.length co77)) (fun _ hk => hk.2) (.int .i64 t271)) (fun _ hk => hk.2) (.int .i64 t272)) (fun _ h_ => h_.1)) (fun _ h_ => h_.1))) hb); have n1_ := Aside0.mk (blk_below (g := gb273) (o := .cells #[.int .i64 t265, .int .i64 t266, .string t267, .slice Ao77 t268.length co77] 24 (0, 0)) (by (with_reducible repeat (first | refine blk_drewN ?_ _ | refine blk_drew ?_ | refine blk_alloc ?_ _)); refine blk_far ?_ NB273_274.out _; (with_reducible repeat (first | refine blk_drewN ?_ _ | refine blk_drew ?_ | refine blk_alloc ?_ _)); refine blk_far ?_ NB273_274.out _; (with_reducible repeat (first | refine blk_drewN ?_ _ | refine blk_drew ?_ | refine blk_alloc ?_ _)); refine blk_put (cs := #[.int .i64 t265, .int .i64 t266, .string t267, .slice none 0 0]) ?_ 3 _ rfl; (with_reducible repeat (first | refine blk_drewN ?_ _ | refine blk_drew ?_ | refine blk_alloc ?_ _)); refine blk_put (cs := #[.int .i64 t265, .int .i64 t266, .string (⟨#[]⟩ : ByteArray), .slice none 0 0]) ?_ 2 _ rfl; (with_reducible repeat (first | refine blk_drewN ?_ _ | refine blk_drew ?_ | refine blk_alloc ?_ _)); refine blk_put (cs := #[.int .i64 t265, .int .i64 0, .string (⟨#[]⟩ : ByteArray), .slice none 0 0]) ?_ 1 _ rfl; (with_reducible repeat (first | refine blk_drewN ?_ _ | refine blk_drew ?_ | refine blk_alloc ?_ _)); refine blk_put (cs := #[.int .i64 0, .int .i64 0, .string (⟨#[]⟩ : ByteArray), .slice none 0 0]) ?_ 0 _ rfl; (with_reducible repeat (first | refine blk_drewN ?_ _ | refine blk_drew ?_ | refine blk_alloc ?_ _)); exact BK273.out) hb); have n2_ := Aside0.mk (blk_below (g := gb274) (o := .cells #[.int .i64 t271, .int .i64 t272] 34 (0, 0)) (by (with_reducible repeat (first | refine blk_drewN ?_ _ | refine blk_drew ?_ | refine blk_alloc ?_ _)); refine blk_put (cs := #[.int .i64 t271, .int .i64 0]) ?_ 1 _ rfl; (with_reducible repeat (first | refine blk_drewN ?_ _ | refine blk_drew ?_ | refine blk_alloc ?_ _)); refine blk_put (cs := #[.int .i64 0, .int .i64 0]) ?_ 0 _ rfl; (with_reducible repeat (first | refine blk_drewN ?_ _ | refine blk_drew ?_ | refine blk_alloc ?_ _)); refine blk_far ?_ NB274_273.out _; (with_reducible repeat (first | refine blk_drewN ?_ _ | refine blk_drew ?_ | refine blk_alloc ?_ _)); refine blk_far ?_ NB274_273.out _; (with_reducible repeat (first | refine blk_drewN ?_ _ | refine blk_drew ?_ | refine blk_alloc ?_ _)); refine blk_far ?_ NB274_273.out _; (with_reducible repeat (first | refine blk_drewN ?_ _ | refine blk_drew ?_ | refine blk_alloc ?_ _)); refine blk_far ?_ NB274_273.out _; (with_reducible repeat (first | refine blk_drewN ?_ _ | refine blk_drew ?_ | refine blk_alloc ?_ _)); exact BK274.out) hb); have n3_ := Aside0.mk (below_step (by repeat (first | (with_reducible first | exact HB.out | apply below_alloc | apply pw_below_drewN | apply below_drew1 | refine below_set ?_ GE273.out | refine below_set ?_ GE274.out) | exact HB.out)) hb); clear HO270; clear BK273; clear BK274; clear HB; have HO270 := n0_; have BK273 := n1_; have BK274 := n2_; have HB := n3_; clear n0_ n1_ n2_ n3_; (try clear hb); (try clear hb2); (try clear hk); (try clear hi)))
      (try simp only [Act.put, List.setIfInBounds_toArray, List.set_cons_zero, List.set_cons_succ])
      go_cut [67] (fun v67 wc => ∃ (kq : Nat) (x67_69 : Bool), v67 = .bool x67_69 ∧ Aside0 (dowellaw28_ReportRead.j0 kq a0 a1 x67_69 t265 t266 t267 t268 = some r) ∧ Aside0 (kq ≤ k) ∧ Aside0 (Kd.R k60 60 wc w.heap.size (fun _ => True) (.slice Ao77 t268.length co77) t268) ∧ Aside0 (wc.heap[gb273]? = some (.cells #[.int .i64 t265, .int .i64 t266, .string t267, (.slice Ao77 t268.length co77)] 24 (0, 0))) ∧ Aside0 (wc.heap[gb274]? = some (.cells #[.int .i64 t271, .int .i64 t272] 34 (0, 0))) ∧ Aside0 (Below w.heap.size w wc))
      case first =>
        have H := HC70.out
        clear HC70
        by_cases c80 : t276 = 0
        · rw [if_pos c80] at H
          have c80b0 : (t276 == 0) = true := beq_iff_eq.mpr c80
          have c80b1 : (t276 != 0) = false := bne_eq_false_iff_eq.mpr c80
          clear c80
          (first | rw [c80b0] | (simp only [i64_w, i32_w]; rw [c80b0]) | skip)
          have H' := Aside0.mk H
          clear H
          go_wp2
          go_meet
          case rel => exact ⟨_, ((t275.toList != a0.toList)), (by first | rfl | (simp; done) | (simp [*]; done)), H', ⟨by first | omega | exact Nat.le_refl _⟩, ⟨by (with_reducible repeat (first | apply Kd.R_alloc | apply Kd.R_drewN | apply Kd.R_drew)); exact HO270.out⟩, ⟨by (with_reducible repeat (first | refine blk_drewN ?_ _ | refine blk_drew ?_ | refine blk_alloc ?_ _)); exact BK273.out⟩, ⟨by (with_reducible repeat (first | refine blk_drewN ?_ _ | refine blk_drew ?_ | refine blk_alloc ?_ _)); exact BK274.out⟩, ⟨by repeat (first | (with_reducible first | exact HB.out | apply below_alloc | apply pw_below_drewN | apply below_drew1 | refine below_set ?_ GE273.out | refine below_set ?_ GE274.out) | exact HB.out)⟩⟩
        · rw [if_neg c80] at H
          have c80b0 : (t276 == 0) = false := beq_eq_false_iff_ne.mpr c80
          have c80b1 : (t276 != 0) = true := bne_iff_ne.mpr c80
          (first | rw [c80b0] | (simp only [i64_w, i32_w]; rw [c80b0]) | skip)
          have H' := Aside0.mk H
          clear H
          go_wp2
          go_meet
          case rel => exact ⟨_, (true), (by first | rfl | (simp; done) | (simp [*]; done)), H', ⟨by first | omega | exact Nat.le_refl _⟩, ⟨by (with_reducible repeat (first | apply Kd.R_alloc | apply Kd.R_drewN | apply Kd.R_drew)); exact HO270.out⟩, ⟨by (with_reducible repeat (first | refine blk_drewN ?_ _ | refine blk_drew ?_ | refine blk_alloc ?_ _)); exact BK273.out⟩, ⟨by (with_reducible repeat (first | refine blk_drewN ?_ _ | refine blk_drew ?_ | refine blk_alloc ?_ _)); exact BK274.out⟩, ⟨by repeat (first | (with_reducible first | exact HB.out | apply below_alloc | apply pw_below_drewN | apply below_drew1 | refine below_set ?_ GE273.out | refine below_set ?_ GE274.out) | exact HB.out)⟩⟩
      case rest =>
        clear HC70
        try clear c1
        try clear c2
        try clear p2
        try clear c3
        try clear c4
        try clear c5
        try clear c6
        try clear c6b0
        try clear c7
        try clear c7b0
        try clear c7b1
        try clear c8
        try clear c8b0
        try clear c8b1
        try clear c9
        try clear c9b0
        try clear c9b1
        try clear c10
        try clear c10b0
        try clear c10b1
        try clear c10b2
        try clear c11
        try clear c11b0
        try clear c11b1
        try clear c16
        try clear c20
        try clear c20b0
        try clear c21
        try clear c25
        try clear c33
        try clear c41
        try clear c49
        try clear c57
        try clear c65
        try clear c75
        try clear c80
        try clear c80b0
        try clear c80b1
        try clear hcz17_0
        try clear hcz17_1
        try clear hcz17_2
        try clear hcz17_3
        try clear hcz19_0
        try clear hcz19_1
        try clear hcz26_0
        try clear hcz26_1
        try clear hcz26_2
        try clear hcz26_3
        try clear hcz28_0
        try clear hcz28_1
        try clear hcz34_0
        try clear hcz34_1
        try clear hcz34_2
        try clear hcz34_3
        try clear hcz36_0
        try clear hcz36_1
        try clear hcz42_0
        try clear hcz42_1
        try clear hcz42_2
        try clear hcz42_3
        try clear hcz44_0
        try clear hcz44_1
        try clear hcz50_0
        try clear hcz50_1
        try clear hcz50_2
        try clear hcz50_3
        try clear hcz52_0
        try clear hcz52_1
        try clear hcz58_0
        try clear hcz58_1
        try clear hcz58_2
        try clear hcz58_3
        try clear hcz60_0
        try clear hcz60_1
        try clear hcz66_0
        try clear hcz66_1
        try clear hcz66_2
        try clear hcz66_3
        try clear hcz68_0
        try clear hcz68_1
        try clear hcz76_0
        try clear hcz76_1
        try clear hcz76_2
        try clear hcz76_3
        try clear hcz78_0
        try clear hcz78_1
        try clear hfz17_0
        try clear hfz17_1
        try clear hfz17_2
        try clear hfz17_3
        try clear hfz19_0
        try clear hfz19_1
        try clear hfz26_0
        try clear hfz26_1
        try clear hfz26_2
        try clear hfz26_3
        try clear hfz28_0
        try clear hfz28_1
        try clear hfz34_0
        try clear hfz34_1
        try clear hfz34_2
        try clear hfz34_3
        try clear hfz36_0
        try clear hfz36_1
        try clear hfz42_0
        try clear hfz42_1
        try clear hfz42_2
        try clear hfz42_3
        try clear hfz44_0
        try clear hfz44_1
        try clear hfz50_0
        try clear hfz50_1
        try clear hfz50_2
        try clear hfz50_3
        try clear hfz52_0
        try clear hfz52_1
        try clear hfz58_0
        try clear hfz58_1
        try clear hfz58_2
        try clear hfz58_3
        try clear hfz60_0
        try clear hfz60_1
        try clear hfz66_0
        try clear hfz66_1
        try clear hfz66_2
        try clear hfz66_3
        try clear hfz68_0
        try clear hfz68_1
        try clear hfz76_0
        try clear hfz76_1
        try clear hfz76_2
        try clear hfz76_3
        try clear hfz78_0
        try clear hfz78_1
        obtain ⟨kq, x67_69, rfl, HA, HJ69, HO_274003, BK273, BK274, HB⟩ := hcut
        cases kq with
        | zero => exact absurd HA.out (by simp [dowellaw28_ReportRead.j0])
        | succ kj69 =>
          have H := HA.out
          clear HA
          simp only [dowellaw28_ReportRead.j0] at H
          by_cases c81 : x67_69 = true
          · subst c81
            have H1 : (some false) = some r := by rw [if_pos rfl] at H; exact H
            clear H
            have H := H1
            clear H1
            obtain rfl := Option.some.inj H; exact absurd hr Bool.false_ne_true
          · replace c81 := Bool.eq_false_iff.mpr c81
            subst c81
            have H1 : (if a1.toList = ([] : List UInt8) then (dowellaw28_ReportRead.j1 kj69 a0 a1 true t265 t266 t267 t268) else (dowellaw28_ReportRead.j1 kj69 a0 a1 (decide ((wrap64 ((a0.size : Int) + (a1.size : Int))) > 4194304)) t265 t266 t267 t268)) = some r := by rw [if_neg (show ¬ (false = true) by decide)] at H; exact H
            clear H
            have H := H1
            clear H1
            have HC82 := Aside0.mk H
            clear H
            go_upto_region 9 with (fail)
            go_cut [77] (fun v77 wc => ∃ (kq : Nat) (x77_81 : Bool), v77 = .bool x77_81 ∧ Aside0 (dowellaw28_ReportRead.j1 kq a0 a1 x77_81 t265 t266 t267 t268 = some r) ∧ Aside0 (kq ≤ kj69) ∧ Aside0 (Kd.R k60 60 wc w.heap.size (fun _ => True) (.slice Ao77 t268.length co77) t268) ∧ Aside0 (wc.heap[gb273]? = some (.cells #[.int .i64 t265, .int .i64 t266, .string t267, (.slice Ao77 t268.length co77)] 24 (0, 0))) ∧ Aside0 (wc.heap[gb274]? = some (.cells #[.int .i64 t271, .int .i64 t272] 34 (0, 0))) ∧ Aside0 (Below w.heap.size w wc))
            case first =>
              have H := HC82.out
              clear HC82
              by_cases c83 : a1.toList = ([] : List UInt8)
              · rw [if_pos c83] at H
                have c83b0 : (a1.toList == ([] : List UInt8)) = true := beq_iff_eq.mpr c83
                have c83b1 : (a1.toList != ([] : List UInt8)) = false := bne_eq_false_iff_eq.mpr c83
                clear c83
                (first | rw [c83b0] | (simp only [i64_w, i32_w]; rw [c83b0]) | skip)
                have H' := Aside0.mk H
                clear H
                go_wp2
                go_meet
                case rel => exact ⟨_, (true), (by first | rfl | (simp; done) | (simp [*]; done)), H', ⟨by have := HJ69.out; first | omega | exact Nat.le_refl _⟩, ⟨by (with_reducible repeat (first | apply Kd.R_alloc | apply Kd.R_drewN | apply Kd.R_drew)); exact HO_274003.out⟩, ⟨by (with_reducible repeat (first | refine blk_drewN ?_ _ | refine blk_drew ?_ | refine blk_alloc ?_ _)); exact BK273.out⟩, ⟨by (with_reducible repeat (first | refine blk_drewN ?_ _ | refine blk_drew ?_ | refine blk_alloc ?_ _)); exact BK274.out⟩, ⟨by repeat (first | (with_reducible first | exact HB.out | apply below_alloc | apply pw_below_drewN | apply below_drew1 | refine below_set ?_ GE273.out | refine below_set ?_ GE274.out) | exact HB.out)⟩⟩
              · rw [if_neg c83] at H
                have c83b0 : (a1.toList == ([] : List UInt8)) = false := beq_eq_false_iff_ne.mpr c83
                have c83b1 : (a1.toList != ([] : List UInt8)) = true := bne_iff_ne.mpr c83
                (first | rw [c83b0] | (simp only [i64_w, i32_w]; rw [c83b0]) | skip)
                have H' := Aside0.mk H
                clear H
                go_wp2
                go_meet
                case rel => exact ⟨_, (decide ((wrap64 ((a0.size : Int) + (a1.size : Int))) > 4194304)), (by first | rfl | (simp; done) | (simp [*]; done)), H', ⟨by have := HJ69.out; first | omega | exact Nat.le_refl _⟩, ⟨by (with_reducible repeat (first | apply Kd.R_alloc | apply Kd.R_drewN | apply Kd.R_drew)); exact HO_274003.out⟩, ⟨by (with_reducible repeat (first | refine blk_drewN ?_ _ | refine blk_drew ?_ | refine blk_alloc ?_ _)); exact BK273.out⟩, ⟨by (with_reducible repeat (first | refine blk_drewN ?_ _ | refine blk_drew ?_ | refine blk_alloc ?_ _)); exact BK274.out⟩, ⟨by repeat (first | (with_reducible first | exact HB.out | apply below_alloc | apply pw_below_drewN | apply below_drew1 | refine below_set ?_ GE273.out | refine below_set ?_ GE274.out) | exact HB.out)⟩⟩
            case rest =>
              clear HC82
              try clear c1
              try clear c2
              try clear p2
              try clear c3
              try clear c4
              try clear c5
              try clear c6
              try clear c6b0
              try clear p6
              try clear c7
              try clear c7b0
              try clear c7b1
              try clear c8
              try clear c8b0
              try clear c8b1
              try clear c9
              try clear c9b0
              try clear c9b1
              try clear c10
              try clear c10b0
              try clear c10b1
              try clear c10b2
              try clear c11
              try clear c11b0
              try clear c11b1
              try clear c16
              try clear c20
              try clear c20b0
              try clear c21
              try clear c25
              try clear c33
              try clear c41
              try clear c49
              try clear c57
              try clear p64
              try clear c65
              try clear c75
              try clear c80
              try clear c80b0
              try clear c80b1
              try clear c81
              try clear c83
              try clear c83b0
              try clear c83b1
              try clear hcz17_0
              try clear hcz17_1
              try clear hcz17_2
              try clear hcz17_3
              try clear hcz19_0
              try clear hcz19_1
              try clear hcz26_0
              try clear hcz26_1
              try clear hcz26_2
              try clear hcz26_3
              try clear hcz28_0
              try clear hcz28_1
              try clear hcz34_0
              try clear hcz34_1
              try clear hcz34_2
              try clear hcz34_3
              try clear hcz36_0
              try clear hcz36_1
              try clear hcz42_0
              try clear hcz42_1
              try clear hcz42_2
              try clear hcz42_3
              try clear hcz44_0
              try clear hcz44_1
              try clear hcz50_0
              try clear hcz50_1
              try clear hcz50_2
              try clear hcz50_3
              try clear hcz52_0
              try clear hcz52_1
              try clear hcz58_0
              try clear hcz58_1
              try clear hcz58_2
              try clear hcz58_3
              try clear hcz60_0
              try clear hcz60_1
              try clear hcz66_0
              try clear hcz66_1
              try clear hcz66_2
              try clear hcz66_3
              try clear hcz68_0
              try clear hcz68_1
              try clear hcz76_0
              try clear hcz76_1
              try clear hcz76_2
              try clear hcz76_3
              try clear hcz78_0
              try clear hcz78_1
              try clear hfz17_0
              try clear hfz17_1
              try clear hfz17_2
              try clear hfz17_3
              try clear hfz19_0
              try clear hfz19_1
              try clear hfz26_0
              try clear hfz26_1
              try clear hfz26_2
              try clear hfz26_3
              try clear hfz28_0
              try clear hfz28_1
              try clear hfz34_0
              try clear hfz34_1
              try clear hfz34_2
              try clear hfz34_3
              try clear hfz36_0
              try clear hfz36_1
              try clear hfz42_0
              try clear hfz42_1
              try clear hfz42_2
              try clear hfz42_3
              try clear hfz44_0
              try clear hfz44_1
              try clear hfz50_0
              try clear hfz50_1
              try clear hfz50_2
              try clear hfz50_3
              try clear hfz52_0
              try clear hfz52_1
              try clear hfz58_0
              try clear hfz58_1
              try clear hfz58_2
              try clear hfz58_3
              try clear hfz60_0
              try clear hfz60_1
              try clear hfz66_0
              try clear hfz66_1
              try clear hfz66_2
              try clear hfz66_3
              try clear hfz68_0
              try clear hfz68_1
              try clear hfz76_0
              try clear hfz76_1
              try clear hfz76_2
              try clear hfz76_3
              try clear hfz78_0
              try clear hfz78_1
              try clear p2
              obtain ⟨kq, x77_81, rfl, HA, HJ81, HO_274003, BK273, BK274, HB⟩ := hcut
              cases kq with
              | zero => exact absurd HA.out (by simp [dowellaw28_ReportRead.j1])
              | succ kj81 =>
                have H := HA.out
                clear HA
                simp only [dowellaw28_ReportRead.j1] at H
                by_cases c84 : x77_81 = true
                · subst c84
                  have H1 : (some true) = some r := by rw [if_pos rfl] at H; exact H
                  clear H
                  have H := H1
                  clear H1
                  obtain rfl := Option.some.inj H
                  go_wp2
                  go_ret
                  exact ⟨by first | rfl | (simp [errW_none, errW_some] <;> rfl) | (simp [*, errW_none, errW_some] <;> rfl), by repeat (first | (with_reducible first | exact HB.out | apply below_alloc | apply pw_below_drewN | apply below_drew1 | refine below_set ?_ GE273.out | refine below_set ?_ GE274.out) | exact HB.out)⟩
                · replace c84 := Bool.eq_false_iff.mpr c84
                  subst c84
                  have H1 : (if a0.size + a1.size ≤ 9223372036854775807 then ((report_Parse.f kj81 (a0 ++ a1)).bind fun bt277 => (if t265 = 1 then (if (!(bt277.2.2.2.2.1 == 0) || (!(bt277.2.2.2.2.2 == 0))) = true then (if bt277.2.2.2.2.1 ≥ 0 then (some true) else (if bt277.1 = 1 then (if bt277.2.1 = t266 then (some (decide ((bt277.2.2.2.1.length : Int) > (t268.length : Int)))) else (some false)) else (some false))) else (if bt277.1 = 1 then (if bt277.2.1 = t266 then (some (decide ((bt277.2.2.2.1.length : Int) > (t268.length : Int)))) else (some false)) else (some false))) else (some (bt277.2.2.2.2.1 == (a0.size : Int) && (bt277.2.2.2.2.2 == 280))))) else (none)) = some r := by rw [if_neg (show ¬ (false = true) by decide)] at H; exact H
                  clear H
                  have H := H1
                  clear H1
                  by_cases c85 : a0.size + a1.size ≤ 9223372036854775807
                  · rw [if_pos c85] at H
                    have c85b0 := eq_true c85
                    have c85b1 : decide (a0.size + a1.size ≤ 9223372036854775807) = true := decide_eq_true c85
                    try have c85b2 : (9223372036854775807 < a0.size + a1.size) = False := eq_false (Nat.not_lt.2 c85)
                    replace H := Option.bind_eq_some_iff.mp H
                    obtain ⟨⟨t277, t278, t279, t280, t283, t284⟩, A860, H⟩ := H
                    replace H : (if t265 = 1 then (if (!(t283 == 0) || (!(t284 == 0))) = true then (if t283 ≥ 0 then (some true) else (if t277 = 1 then (if t278 = t266 then (some (decide ((t280.length : Int) > (t268.length : Int)))) else (some false)) else (some false))) else (if t277 = 1 then (if t278 = t266 then (some (decide ((t280.length : Int) > (t268.length : Int)))) else (some false)) else (some false))) else (some (t283 == (a0.size : Int) && (t284 == 280)))) = some r := H
                    have A86 := Aside0.mk A860
                    clear A860
                    by_cases c87 : t265 = 1
                    · rw [if_pos c87] at H
                      have c87b0 : (t265 == 1) = true := beq_iff_eq.mpr c87
                      have c87b1 : (t265 != 1) = false := bne_eq_false_iff_eq.mpr c87
                      clear c87
                      by_cases c88 : (!(t283 == 0) || (!(t284 == 0))) = true
                      · rw [if_pos c88] at H
                        have c88b0 : (!(t283 == 0) || (!(t284 == 0))) = true := c88
                        clear c88
                        by_cases c89 : t283 ≥ 0
                        · rw [if_pos c89] at H
                          have c89b0 : decide (0 ≤ t283) = true := decide_eq_true c89
                          clear c89
                          obtain rfl := Option.some.inj H
                          go_wp2_with (first | ((with_reducible refine gate_callee (f := 16) rfl ?_); refine goesL_ (some 82) rfl rfl Tryd.func16 (by kernel_rfl) rfl #[.string (a0 ++ a1)] rfl (by (try simp only [List.map_toArray, List.map_cons, List.map_nil]); first | done | rfl | (simp only [List.length_drop, List.length_take]; rfl)) ?_; (with_reducible refine (report_Parse.calls kj81 (a0 ++ a1) t277 t278 t279 t280 t283 t284 _ A86.out (TM.step htab (by repeat (first | (with_reducible first | exact Below.refl _ _ | exact HB.out | apply below_alloc | apply pw_below_drewN | apply below_drew1 | refine below_set ?_ GE273.out | refine below_set ?_ GE274.out | refine below_set ?_ GE285.out) | exact HB.out | exact Below.refl _ _)))).mono ?_); rintro e w90 ⟨v281, rfl, ho0, hb⟩; refine ⟨_, rfl, ?_⟩; have n0_ := Aside0.mk (Kd.R_elder' (by (with_reducible repeat (first | apply Kd.R_alloc | apply Kd.R_drewN | apply Kd.R_drew)); exact HO_274003.out) (Kd.R_base ho0) hb); have n1_ := Aside0.mk (Kd.R_lower (Kd.R_new' ho0 (Kd.R_lt (by (with_reducible repeat (first | apply Kd.R_alloc | apply Kd.R_drewN | apply Kd.R_drew)); exact HO_274003.out))) (below_size (by repeat (first | (with_reducible first | exact HB.out | apply below_alloc | apply pw_below_drewN | apply below_drew1 | refine below_set ?_ GE273.out | refine below_set ?_ GE274.out) | exact HB.out)))); have n2_ := Aside0.mk (blk_below (g := gb273) (o := .cells #[.int .i64 t265, .int .i64 t266, .string t267, .slice Ao77 t268.length co77] 24 (0, 0)) (by (with_reducible repeat (first | refine blk_drewN ?_ _ | refine blk_drew ?_ | refine blk_alloc ?_ _)); exact BK273.out) hb); have n3_ := Aside0.mk (blk_below (g := gb274) (o := .cells #[.int .i64 t271, .int .i64 t272] 34 (0, 0)) (by (with_reducible repeat (first | refine blk_drewN ?_ _ | refine blk_drew ?_ | refine blk_alloc ?_ _)); exact BK274.out) hb); have n4_ := Aside0.mk (below_step (by repeat (first | (with_reducible first | exact HB.out | apply below_alloc | apply pw_below_drewN | apply below_drew1 | refine below_set ?_ GE273.out | refine below_set ?_ GE274.out) | exact HB.out)) hb); clear HO_274003; clear BK273; clear BK274; clear HB; have HO_274003 := n0_; have HO282 := n1_; have BK273 := n2_; have BK274 := n3_; have HB := n4_; clear n0_ n1_ n2_ n3_ n4_; (try clear hb); (try clear hb2); (try clear hk); (try clear hi); (try clear ho0)) | ((with_reducible refine gate_dst (N := 9) rfl ?_); (try (refine gate_guard (by rfl) ?_; dsimp only)); refine box_event ?hg (N := 9) ?hd (cs := #[.int .i64 0, .int .i64 0, .string (⟨#[]⟩ : ByteArray), .slice none 0 0]) (t := 24) ?hr ?_; (case hd => rfl); (case hg => rfl); (case hr => first | (go_simp; done) | (go_simp; rfl)); intro gb285 hg w91 hbox hb; have n0_ := Aside0.mk (Kd.R_below (by (with_reducible repeat (first | apply Kd.R_alloc | apply Kd.R_drewN | apply Kd.R_drew)); exact HO_274003.out) hb); have n1_ := Aside0.mk (Kd.R_below (by (with_reducible repeat (first | apply Kd.R_alloc | apply Kd.R_drewN | apply Kd.R_drew)); exact HO282.out) hb); have n2_ := Aside0.mk (blk_below (g := gb273) (o := .cells #[.int .i64 t265, .int .i64 t266, .string t267, .slice Ao77 t268.length co77] 24 (0, 0)) (by (with_reducible repeat (first | refine blk_drewN ?_ _ | refine blk_drew ?_ | refine blk_alloc ?_ _)); exact BK273.out) hb); have n3_ := Aside0.mk (blk_below (g := gb274) (o := .cells #[.int .i64 t271, .int .i64 t272] 34 (0, 0)) (by (with_reducible repeat (first | refine blk_drewN ?_ _ | refine blk_drew ?_ | refine blk_alloc ?_ _)); exact BK274.out) hb); have n4_ := Aside0.mk (below_step (by repeat (first | (with_reducible first | exact HB.out | apply below_alloc | apply pw_below_drewN | apply below_drew1 | refine below_set ?_ GE273.out | refine below_set ?_ GE274.out) | exact HB.out)) hb); have n5_ := Aside0.mk (hbox); have n6_ := Aside0.mk ((by rw [hg]; exact (below_size (by repeat (first | (with_reducible first | exact HB.out | apply below_alloc | apply pw_below_drewN | apply below_drew1 | refine below_set ?_ GE273.out | refine below_set ?_ GE274.out) | exact HB.out))) : w.heap.size ≤ gb285)); have n7_ := Aside0.mk ((by rw [hg]; exact (below_size (by repeat (first | (with_reducible first | exact HB.out | apply below_alloc | apply pw_below_drewN | apply below_drew1 | refine below_set ?_ GE273.out | refine below_set ?_ GE274.out) | exact HB.out))) : w.heap.size ≤ gb285)); have n8_ := Aside0.mk ((by rw [hg]; exact Nat.ne_of_lt (blk_lt (g := gb273) (o := .cells #[.int .i64 t265, .int .i64 t266, .string t267, .slice Ao77 t268.length co77] 24 (0, 0)) (by (with_reducible repeat (first | refine blk_drewN ?_ _ | refine blk_drew ?_ | refine blk_alloc ?_ _)); exact BK273.out)) : gb273 ≠ gb285)); have n9_ := Aside0.mk ((by rw [hg]; exact Nat.ne_of_gt (blk_lt (g := gb273) (o := .cells #[.int .i64 t265, .int .i64 t266, .string t267, .slice Ao77 t268.length co77] 24 (0, 0)) (by (with_reducible repeat (first | refine blk_drewN ?_ _ | refine blk_drew ?_ | refine blk_alloc ?_ _)); exact BK273.out)) : gb285 ≠ gb273)); have n10_ := Aside0.mk ((by rw [hg]; exact Nat.ne_of_lt (blk_lt (g := gb274) (o := .cells #[.int .i64 t271, .int .i64 t272] 34 (0, 0)) (by (with_reducible repeat (first | refine blk_drewN ?_ _ | refine blk_drew ?_ | refine blk_alloc ?_ _)); exact BK274.out)) : gb274 ≠ gb285)); have n11_ := Aside0.mk ((by rw [hg]; exact Nat.ne_of_gt (blk_lt (g := gb274) (o := .cells #[.int .i64 t271, .int .i64 t272] 34 (0, 0)) (by (with_reducible repeat (first | refine blk_drewN ?_ _ | refine blk_drew ?_ | refine blk_alloc ?_ _)); exact BK274.out)) : gb285 ≠ gb274)); clear HO_274003; clear HO282; clear BK273; clear BK274; clear HB; have HO_274003 := n0_; have HO282 := n1_; have BK273 := n2_; have BK274 := n3_; have HB := n4_; have BK285 := n5_; have GW285 := n6_; have GE285 := n7_; have NB273_285 := n8_; have NB285_273 := n9_; have NB274_285 := n10_; have NB285_274 := n11_; clear n0_ n1_ n2_ n3_ n4_ n5_ n6_ n7_ n8_ n9_ n10_ n11_; clear hb hbox hg; have hnb92 := NB285_273.out; have hnc92 := NB273_285.out; have hnb93 := NB285_274.out; have hnc93 := NB274_285.out; have hcz94_0 : w91.cell? ⟨gb285, 0, none⟩ = some (.int .i64 0) := (blk_cell BK285.out 0).trans rfl; have hcz94_1 : w91.cell? ⟨gb285, 1, none⟩ = some (.int .i64 0) := (blk_cell BK285.out 1).trans rfl; have hcz94_2 : w91.cell? ⟨gb285, 2, none⟩ = some (.string (⟨#[]⟩ : ByteArray)) := (blk_cell BK285.out 2).trans rfl; have hcz94_3 : w91.cell? ⟨gb285, 3, none⟩ = some (.slice none 0 0) := (blk_cell BK285.out 3).trans rfl; have hfz94_0 := blk_frozen BK285.out 0; have hfz94_1 := blk_frozen BK285.out 1; have hfz94_2 := blk_frozen BK285.out 2; have hfz94_3 := blk_frozen BK285.out 3; obtain ⟨Ao95, co95, eo95⟩ := Kd.R_slice HO282.out; subst eo95; have hnb96 := NB274_273.out; have hnc96 := NB273_274.out; have hcz97_0 : w91.cell? ⟨gb274, 0, none⟩ = some (.int .i64 t271) := (blk_cell BK274.out 0).trans rfl; have hcz97_1 : w91.cell? ⟨gb274, 1, none⟩ = some (.int .i64 t272) := (blk_cell BK274.out 1).trans rfl; have hfz97_0 := blk_frozen BK274.out 0; have hfz97_1 := blk_frozen BK274.out 1; have hcz98_0 : w91.cell? ⟨gb273, 0, none⟩ = some (.int .i64 t265) := (blk_cell BK273.out 0).trans rfl; have hcz98_1 : w91.cell? ⟨gb273, 1, none⟩ = some (.int .i64 t266) := (blk_cell BK273.out 1).trans rfl; have hcz98_2 : w91.cell? ⟨gb273, 2, none⟩ = some (.string t267) := (blk_cell BK273.out 2).trans rfl; have hcz98_3 : w91.cell? ⟨gb273, 3, none⟩ = some (.slice Ao77 t268.length co77) := (blk_cell BK273.out 3).trans rfl; have hfz98_0 := blk_frozen BK273.out 0; have hfz98_1 := blk_frozen BK273.out 1; have hfz98_2 := blk_frozen BK273.out 2; have hfz98_3 := blk_frozen BK273.out 3))
                          go_ret
                          exact ⟨by first | rfl | (simp [errW_none, errW_some] <;> rfl) | (simp [*, errW_none, errW_some] <;> rfl), by repeat (first | (with_reducible first | exact HB.out | apply below_alloc | apply pw_below_drewN | apply below_drew1 | refine below_set ?_ GE273.out | refine below_set ?_ GE274.out | refine below_set ?_ GE285.out) | exact HB.out)⟩
                        · rw [if_neg c89] at H
                          have c89b0 : decide (0 ≤ t283) = false := decide_eq_false c89
                          clear c89
                          by_cases c99 : t277 = 1
                          · rw [if_pos c99] at H
                            have c99b0 : (t277 == 1) = true := beq_iff_eq.mpr c99
                            have c99b1 : (t277 != 1) = false := bne_eq_false_iff_eq.mpr c99
                            clear c99
                            by_cases c100 : t278 = t266
                            · rw [if_pos c100] at H
                              have c100b0 : (t278 == t266) = true := beq_iff_eq.mpr c100
                              have c100b1 : (t278 != t266) = false := bne_eq_false_iff_eq.mpr c100
                              clear c100
                              obtain rfl := Option.some.inj H
                              go_wp2_with (first | ((with_reducible refine gate_callee (f := 16) rfl ?_); refine goesL_ (some 82) rfl rfl Tryd.func16 (by kernel_rfl) rfl #[.string (a0 ++ a1)] rfl (by (try simp only [List.map_toArray, List.map_cons, List.map_nil]); first | done | rfl | (simp only [List.length_drop, List.length_take]; rfl)) ?_; (with_reducible refine (report_Parse.calls kj81 (a0 ++ a1) t277 t278 t279 t280 t283 t284 _ A86.out (TM.step htab (by repeat (first | (with_reducible first | exact Below.refl _ _ | exact HB.out | apply below_alloc | apply pw_below_drewN | apply below_drew1 | refine below_set ?_ GE273.out | refine below_set ?_ GE274.out | refine below_set ?_ GE285.out) | exact HB.out | exact Below.refl _ _)))).mono ?_); rintro e w101 ⟨v281, rfl, ho0, hb⟩; refine ⟨_, rfl, ?_⟩; have n0_ := Aside0.mk (Kd.R_elder' (by (with_reducible repeat (first | apply Kd.R_alloc | apply Kd.R_drewN | apply Kd.R_drew)); exact HO_274003.out) (Kd.R_base ho0) hb); have n1_ := Aside0.mk (Kd.R_lower (Kd.R_new' ho0 (Kd.R_lt (by (with_reducible repeat (first | apply Kd.R_alloc | apply Kd.R_drewN | apply Kd.R_drew)); exact HO_274003.out))) (below_size (by repeat (first | (with_reducible first | exact HB.out | apply below_alloc | apply pw_below_drewN | apply below_drew1 | refine below_set ?_ GE273.out | refine below_set ?_ GE274.out) | exact HB.out)))); have n2_ := Aside0.mk (blk_below (g := gb273) (o := .cells #[.int .i64 t265, .int .i64 t266, .string t267, .slice Ao77 t268.length co77] 24 (0, 0)) (by (with_reducible repeat (first | refine blk_drewN ?_ _ | refine blk_drew ?_ | refine blk_alloc ?_ _)); exact BK273.out) hb); have n3_ := Aside0.mk (blk_below (g := gb274) (o := .cells #[.int .i64 t271, .int .i64 t272] 34 (0, 0)) (by (with_reducible repeat (first | refine blk_drewN ?_ _ | refine blk_drew ?_ | refine blk_alloc ?_ _)); exact BK274.out) hb); have n4_ := Aside0.mk (below_step (by repeat (first | (with_reducible first | exact HB.out | apply below_alloc | apply pw_below_drewN | apply below_drew1 | refine below_set ?_ GE273.out | refine below_set ?_ GE274.out) | exact HB.out)) hb); clear HO_274003; clear BK273; clear BK274; clear HB; have HO_274003 := n0_; have HO282 := n1_; have BK273 := n2_; have BK274 := n3_; have HB := n4_; clear n0_ n1_ n2_ n3_ n4_; (try clear hb); (try clear hb2); (try clear hk); (try clear hi); (try clear ho0)) | ((with_reducible refine gate_dst (N := 9) rfl ?_); (try (refine gate_guard (by rfl) ?_; dsimp only)); refine box_event ?hg (N := 9) ?hd (cs := #[.int .i64 0, .int .i64 0, .string (⟨#[]⟩ : ByteArray), .slice none 0 0]) (t := 24) ?hr ?_; (case hd => rfl); (case hg => rfl); (case hr => first | (go_simp; done) | (go_simp; rfl)); intro gb285 hg w102 hbox hb; have n0_ := Aside0.mk (Kd.R_below (by (with_reducible repeat (first | apply Kd.R_alloc | apply Kd.R_drewN | apply Kd.R_drew)); exact HO_274003.out) hb); have n1_ := Aside0.mk (Kd.R_below (by (with_reducible repeat (first | apply Kd.R_alloc | apply Kd.R_drewN | apply Kd.R_drew)); exact HO282.out) hb); have n2_ := Aside0.mk (blk_below (g := gb273) (o := .cells #[.int .i64 t265, .int .i64 t266, .string t267, .slice Ao77 t268.length co77] 24 (0, 0)) (by (with_reducible repeat (first | refine blk_drewN ?_ _ | refine blk_drew ?_ | refine blk_alloc ?_ _)); exact BK273.out) hb); have n3_ := Aside0.mk (blk_below (g := gb274) (o := .cells #[.int .i64 t271, .int .i64 t272] 34 (0, 0)) (by (with_reducible repeat (first | refine blk_drewN ?_ _ | refine blk_drew ?_ | refine blk_alloc ?_ _)); exact BK274.out) hb); have n4_ := Aside0.mk (below_step (by repeat (first | (with_reducible first | exact HB.out | apply below_alloc | apply pw_below_drewN | apply below_drew1 | refine below_set ?_ GE273.out | refine below_set ?_ GE274.out) | exact HB.out)) hb); have n5_ := Aside0.mk (hbox); have n6_ := Aside0.mk ((by rw [hg]; exact (below_size (by repeat (first | (with_reducible first | exact HB.out | apply below_alloc | apply pw_below_drewN | apply below_drew1 | refine below_set ?_ GE273.out | refine below_set ?_ GE274.out) | exact HB.out))) : w.heap.size ≤ gb285)); have n7_ := Aside0.mk ((by rw [hg]; exact (below_size (by repeat (first | (with_reducible first | exact HB.out | apply below_alloc | apply pw_below_drewN | apply below_drew1 | refine below_set ?_ GE273.out | refine below_set ?_ GE274.out) | exact HB.out))) : w.heap.size ≤ gb285)); have n8_ := Aside0.mk ((by rw [hg]; exact Nat.ne_of_lt (blk_lt (g := gb273) (o := .cells #[.int .i64 t265, .int .i64 t266, .string t267, .slice Ao77 t268.length co77] 24 (0, 0)) (by (with_reducible repeat (first | refine blk_drewN ?_ _ | refine blk_drew ?_ | refine blk_alloc ?_ _)); exact BK273.out)) : gb273 ≠ gb285)); have n9_ := Aside0.mk ((by rw [hg]; exact Nat.ne_of_gt (blk_lt (g := gb273) (o := .cells #[.int .i64 t265, .int .i64 t266, .string t267, .slice Ao77 t268.length co77] 24 (0, 0)) (by (with_reducible repeat (first | refine blk_drewN ?_ _ | refine blk_drew ?_ | refine blk_alloc ?_ _)); exact BK273.out)) : gb285 ≠ gb273)); have n10_ := Aside0.mk ((by rw [hg]; exact Nat.ne_of_lt (blk_lt (g := gb274) (o := .cells #[.int .i64 t271, .int .i64 t272] 34 (0, 0)) (by (with_reducible repeat (first | refine blk_drewN ?_ _ | refine blk_drew ?_ | refine blk_alloc ?_ _)); exact BK274.out)) : gb274 ≠ gb285)); have n11_ := Aside0.mk ((by rw [hg]; exact Nat.ne_of_gt (blk_lt (g := gb274) (o := .cells #[.int .i64 t271, .int .i64 t272] 34 (0, 0)) (by (with_reducible repeat (first | refine blk_drewN ?_ _ | refine blk_drew ?_ | refine blk_alloc ?_ _)); exact BK274.out)) : gb285 ≠ gb274)); clear HO_274003; clear HO282; clear BK273; clear BK274; clear HB; have HO_274003 := n0_; have HO282 := n1_; have BK273 := n2_; have BK274 := n3_; have HB := n4_; have BK285 := n5_; have GW285 := n6_; have GE285 := n7_; have NB273_285 := n8_; have NB285_273 := n9_; have NB274_285 := n10_; have NB285_274 := n11_; clear n0_ n1_ n2_ n3_ n4_ n5_ n6_ n7_ n8_ n9_ n10_ n11_; clear hb hbox hg; have hnb103 := NB285_273.out; have hnc103 := NB273_285.out; have hnb104 := NB285_274.out; have hnc104 := NB274_285.out; have hcz105_0 : w102.cell? ⟨gb285, 0, none⟩ = some (.int .i64 0) := (blk_cell BK285.out 0).trans rfl; have hcz105_1 : w102.cell? ⟨gb285, 1, none⟩ = some (.int .i64 0) := (blk_cell BK285.out 1).trans rfl; have hcz105_2 : w102.cell? ⟨gb285, 2, none⟩ = some (.string (⟨#[]⟩ : ByteArray)) := (blk_cell BK285.out 2).trans rfl; have hcz105_3 : w102.cell? ⟨gb285, 3, none⟩ = some (.slice none 0 0) := (blk_cell BK285.out 3).trans rfl; have hfz105_0 := blk_frozen BK285.out 0; have hfz105_1 := blk_frozen BK285.out 1; have hfz105_2 := blk_frozen BK285.out 2; have hfz105_3 := blk_frozen BK285.out 3; obtain ⟨Ao106, co106, eo106⟩ := Kd.R_slice HO282.out; subst eo106; have hnb107 := NB274_273.out; have hnc107 := NB273_274.out; have hcz108_0 : w102.cell? ⟨gb274, 0, none⟩ = some (.int .i64 t271) := (blk_cell BK274.out 0).trans rfl; have hcz108_1 : w102.cell? ⟨gb274, 1, none⟩ = some (.int .i64 t272) := (blk_cell BK274.out 1).trans rfl; have hfz108_0 := blk_frozen BK274.out 0; have hfz108_1 := blk_frozen BK274.out 1; have hcz109_0 : w102.cell? ⟨gb273, 0, none⟩ = some (.int .i64 t265) := (blk_cell BK273.out 0).trans rfl; have hcz109_1 : w102.cell? ⟨gb273, 1, none⟩ = some (.int .i64 t266) := (blk_cell BK273.out 1).trans rfl; have hcz109_2 : w102.cell? ⟨gb273, 2, none⟩ = some (.string t267) := (blk_cell BK273.out 2).trans rfl; have hcz109_3 : w102.cell? ⟨gb273, 3, none⟩ = some (.slice Ao77 t268.length co77) := (blk_cell BK273.out 3).trans rfl; have hfz109_0 := blk_frozen BK273.out 0; have hfz109_1 := blk_frozen BK273.out 1; have hfz109_2 := blk_frozen BK273.out 2; have hfz109_3 := blk_frozen BK273.out 3))
                              go_ret
                              exact ⟨by first | rfl | (simp [errW_none, errW_some] <;> rfl) | (simp [*, errW_none, errW_some] <;> rfl), by repeat (first | (with_reducible first | exact HB.out | apply below_alloc | apply pw_below_drewN | apply below_drew1 | refine below_set ?_ GE273.out | refine below_set ?_ GE274.out | refine below_set ?_ GE285.out) | exact HB.out)⟩
                            · rw [if_neg c100] at H
                              have c100b0 : (t278 == t266) = false := beq_eq_false_iff_ne.mpr c100
                              have c100b1 : (t278 != t266) = true := bne_iff_ne.mpr c100
                              obtain rfl := Option.some.inj H; exact absurd hr Bool.false_ne_true
                          · rw [if_neg c99] at H
                            have c99b0 : (t277 == 1) = false := beq_eq_false_iff_ne.mpr c99
                            have c99b1 : (t277 != 1) = true := bne_iff_ne.mpr c99
                            obtain rfl := Option.some.inj H; exact absurd hr Bool.false_ne_true
                      · rw [if_neg c88] at H
                        have c88b0 : (!(t283 == 0) || (!(t284 == 0))) = false := by simpa using c88
                        clear c88
                        by_cases c128 : t277 = 1
                        · rw [if_pos c128] at H
                          have c128b0 : (t277 == 1) = true := beq_iff_eq.mpr c128
                          have c128b1 : (t277 != 1) = false := bne_eq_false_iff_eq.mpr c128
                          clear c128
                          by_cases c129 : t278 = t266
                          · rw [if_pos c129] at H
                            have c129b0 : (t278 == t266) = true := beq_iff_eq.mpr c129
                            have c129b1 : (t278 != t266) = false := bne_eq_false_iff_eq.mpr c129
                            clear c129
                            obtain rfl := Option.some.inj H
                            go_wp2_with (first | ((with_reducible refine gate_callee (f := 16) rfl ?_); refine goesL_ (some 82) rfl rfl Tryd.func16 (by kernel_rfl) rfl #[.string (a0 ++ a1)] rfl (by (try simp only [List.map_toArray, List.map_cons, List.map_nil]); first | done | rfl | (simp only [List.length_drop, List.length_take]; rfl)) ?_; (with_reducible refine (report_Parse.calls kj81 (a0 ++ a1) t277 t278 t279 t280 t283 t284 _ A86.out (TM.step htab (by repeat (first | (with_reducible first | exact Below.refl _ _ | exact HB.out | apply below_alloc | apply pw_below_drewN | apply below_drew1 | refine below_set ?_ GE273.out | refine below_set ?_ GE274.out | refine below_set ?_ GE285.out) | exact HB.out | exact Below.refl _ _)))).mono ?_); rintro e w130 ⟨v281, rfl, ho0, hb⟩; refine ⟨_, rfl, ?_⟩; have n0_ := Aside0.mk (Kd.R_elder' (by (with_reducible repeat (first | apply Kd.R_alloc | apply Kd.R_drewN | apply Kd.R_drew)); exact HO_274003.out) (Kd.R_base ho0) hb); have n1_ := Aside0.mk (Kd.R_lower (Kd.R_new' ho0 (Kd.R_lt (by (with_reducible repeat (first | apply Kd.R_alloc | apply Kd.R_drewN | apply Kd.R_drew)); exact HO_274003.out))) (below_size (by repeat (first | (with_reducible first | exact HB.out | apply below_alloc | apply pw_below_drewN | apply below_drew1 | refine below_set ?_ GE273.out | refine below_set ?_ GE274.out) | exact HB.out)))); have n2_ := Aside0.mk (blk_below (g := gb273) (o := .cells #[.int .i64 t265, .int .i64 t266, .string t267, .slice Ao77 t268.length co77] 24 (0, 0)) (by (with_reducible repeat (first | refine blk_drewN ?_ _ | refine blk_drew ?_ | refine blk_alloc ?_ _)); exact BK273.out) hb); have n3_ := Aside0.mk (blk_below (g := gb274) (o := .cells #[.int .i64 t271, .int .i64 t272] 34 (0, 0)) (by (with_reducible repeat (first | refine blk_drewN ?_ _ | refine blk_drew ?_ | refine blk_alloc ?_ _)); exact BK274.out) hb); have n4_ := Aside0.mk (below_step (by repeat (first | (with_reducible first | exact HB.out | apply below_alloc | apply pw_below_drewN | apply below_drew1 | refine below_set ?_ GE273.out | refine below_set ?_ GE274.out) | exact HB.out)) hb); clear HO_274003; clear BK273; clear BK274; clear HB; have HO_274003 := n0_; have HO282 := n1_; have BK273 := n2_; have BK274 := n3_; have HB := n4_; clear n0_ n1_ n2_ n3_ n4_; (try clear hb); (try clear hb2); (try clear hk); (try clear hi); (try clear ho0)) | ((with_reducible refine gate_dst (N := 9) rfl ?_); (try (refine gate_guard (by rfl) ?_; dsimp only)); refine box_event ?hg (N := 9) ?hd (cs := #[.int .i64 0, .int .i64 0, .string (⟨#[]⟩ : ByteArray), .slice none 0 0]) (t := 24) ?hr ?_; (case hd => rfl); (case hg => rfl); (case hr => first | (go_simp; done) | (go_simp; rfl)); intro gb285 hg w131 hbox hb; have n0_ := Aside0.mk (Kd.R_below (by (with_reducible repeat (first | apply Kd.R_alloc | apply Kd.R_drewN | apply Kd.R_drew)); exact HO_274003.out) hb); have n1_ := Aside0.mk (Kd.R_below (by (with_reducible repeat (first | apply Kd.R_alloc | apply Kd.R_drewN | apply Kd.R_drew)); exact HO282.out) hb); have n2_ := Aside0.mk (blk_below (g := gb273) (o := .cells #[.int .i64 t265, .int .i64 t266, .string t267, .slice Ao77 t268.length co77] 24 (0, 0)) (by (with_reducible repeat (first | refine blk_drewN ?_ _ | refine blk_drew ?_ | refine blk_alloc ?_ _)); exact BK273.out) hb); have n3_ := Aside0.mk (blk_below (g := gb274) (o := .cells #[.int .i64 t271, .int .i64 t272] 34 (0, 0)) (by (with_reducible repeat (first | refine blk_drewN ?_ _ | refine blk_drew ?_ | refine blk_alloc ?_ _)); exact BK274.out) hb); have n4_ := Aside0.mk (below_step (by repeat (first | (with_reducible first | exact HB.out | apply below_alloc | apply pw_below_drewN | apply below_drew1 | refine below_set ?_ GE273.out | refine below_set ?_ GE274.out) | exact HB.out)) hb); have n5_ := Aside0.mk (hbox); have n6_ := Aside0.mk ((by rw [hg]; exact (below_size (by repeat (first | (with_reducible first | exact HB.out | apply below_alloc | apply pw_below_drewN | apply below_drew1 | refine below_set ?_ GE273.out | refine below_set ?_ GE274.out) | exact HB.out))) : w.heap.size ≤ gb285)); have n7_ := Aside0.mk ((by rw [hg]; exact (below_size (by repeat (first | (with_reducible first | exact HB.out | apply below_alloc | apply pw_below_drewN | apply below_drew1 | refine below_set ?_ GE273.out | refine below_set ?_ GE274.out) | exact HB.out))) : w.heap.size ≤ gb285)); have n8_ := Aside0.mk ((by rw [hg]; exact Nat.ne_of_lt (blk_lt (g := gb273) (o := .cells #[.int .i64 t265, .int .i64 t266, .string t267, .slice Ao77 t268.length co77] 24 (0, 0)) (by (with_reducible repeat (first | refine blk_drewN ?_ _ | refine blk_drew ?_ | refine blk_alloc ?_ _)); exact BK273.out)) : gb273 ≠ gb285)); have n9_ := Aside0.mk ((by rw [hg]; exact Nat.ne_of_gt (blk_lt (g := gb273) (o := .cells #[.int .i64 t265, .int .i64 t266, .string t267, .slice Ao77 t268.length co77] 24 (0, 0)) (by (with_reducible repeat (first | refine blk_drewN ?_ _ | refine blk_drew ?_ | refine blk_alloc ?_ _)); exact BK273.out)) : gb285 ≠ gb273)); have n10_ := Aside0.mk ((by rw [hg]; exact Nat.ne_of_lt (blk_lt (g := gb274) (o := .cells #[.int .i64 t271, .int .i64 t272] 34 (0, 0)) (by (with_reducible repeat (first | refine blk_drewN ?_ _ | refine blk_drew ?_ | refine blk_alloc ?_ _)); exact BK274.out)) : gb274 ≠ gb285)); have n11_ := Aside0.mk ((by rw [hg]; exact Nat.ne_of_gt (blk_lt (g := gb274) (o := .cells #[.int .i64 t271, .int .i64 t272] 34 (0, 0)) (by (with_reducible repeat (first | refine blk_drewN ?_ _ | refine blk_drew ?_ | refine blk_alloc ?_ _)); exact BK274.out)) : gb285 ≠ gb274)); clear HO_274003; clear HO282; clear BK273; clear BK274; clear HB; have HO_274003 := n0_; have HO282 := n1_; have BK273 := n2_; have BK274 := n3_; have HB := n4_; have BK285 := n5_; have GW285 := n6_; have GE285 := n7_; have NB273_285 := n8_; have NB285_273 := n9_; have NB274_285 := n10_; have NB285_274 := n11_; clear n0_ n1_ n2_ n3_ n4_ n5_ n6_ n7_ n8_ n9_ n10_ n11_; clear hb hbox hg; have hnb132 := NB285_273.out; have hnc132 := NB273_285.out; have hnb133 := NB285_274.out; have hnc133 := NB274_285.out; have hcz134_0 : w131.cell? ⟨gb285, 0, none⟩ = some (.int .i64 0) := (blk_cell BK285.out 0).trans rfl; have hcz134_1 : w131.cell? ⟨gb285, 1, none⟩ = some (.int .i64 0) := (blk_cell BK285.out 1).trans rfl; have hcz134_2 : w131.cell? ⟨gb285, 2, none⟩ = some (.string (⟨#[]⟩ : ByteArray)) := (blk_cell BK285.out 2).trans rfl; have hcz134_3 : w131.cell? ⟨gb285, 3, none⟩ = some (.slice none 0 0) := (blk_cell BK285.out 3).trans rfl; have hfz134_0 := blk_frozen BK285.out 0; have hfz134_1 := blk_frozen BK285.out 1; have hfz134_2 := blk_frozen BK285.out 2; have hfz134_3 := blk_frozen BK285.out 3; obtain ⟨Ao135, co135, eo135⟩ := Kd.R_slice HO282.out; subst eo135; have hnb136 := NB274_273.out; have hnc136 := NB273_274.out; have hcz137_0 : w131.cell? ⟨gb274, 0, none⟩ = some (.int .i64 t271) := (blk_cell BK274.out 0).trans rfl; have hcz137_1 : w131.cell? ⟨gb274, 1, none⟩ = some (.int .i64 t272) := (blk_cell BK274.out 1).trans rfl; have hfz137_0 := blk_frozen BK274.out 0; have hfz137_1 := blk_frozen BK274.out 1; have hcz138_0 : w131.cell? ⟨gb273, 0, none⟩ = some (.int .i64 t265) := (blk_cell BK273.out 0).trans rfl; have hcz138_1 : w131.cell? ⟨gb273, 1, none⟩ = some (.int .i64 t266) := (blk_cell BK273.out 1).trans rfl; have hcz138_2 : w131.cell? ⟨gb273, 2, none⟩ = some (.string t267) := (blk_cell BK273.out 2).trans rfl; have hcz138_3 : w131.cell? ⟨gb273, 3, none⟩ = some (.slice Ao77 t268.length co77) := (blk_cell BK273.out 3).trans rfl; have hfz138_0 := blk_frozen BK273.out 0; have hfz138_1 := blk_frozen BK273.out 1; have hfz138_2 := blk_frozen BK273.out 2; have hfz138_3 := blk_frozen BK273.out 3))
                            go_ret
                            exact ⟨by first | rfl | (simp [errW_none, errW_some] <;> rfl) | (simp [*, errW_none, errW_some] <;> rfl), by repeat (first | (with_reducible first | exact HB.out | apply below_alloc | apply pw_below_drewN | apply below_drew1 | refine below_set ?_ GE273.out | refine below_set ?_ GE274.out | refine below_set ?_ GE285.out) | exact HB.out)⟩
                          · rw [if_neg c129] at H
                            have c129b0 : (t278 == t266) = false := beq_eq_false_iff_ne.mpr c129
                            have c129b1 : (t278 != t266) = true := bne_iff_ne.mpr c129
                            obtain rfl := Option.some.inj H; exact absurd hr Bool.false_ne_true
                        · rw [if_neg c128] at H
                          have c128b0 : (t277 == 1) = false := beq_eq_false_iff_ne.mpr c128
                          have c128b1 : (t277 != 1) = true := bne_iff_ne.mpr c128
                          obtain rfl := Option.some.inj H; exact absurd hr Bool.false_ne_true
                    · rw [if_neg c87] at H
                      have c87b0 : (t265 == 1) = false := beq_eq_false_iff_ne.mpr c87
                      have c87b1 : (t265 != 1) = true := bne_iff_ne.mpr c87
                      obtain rfl := Option.some.inj H
                      go_wp2_with (first | ((with_reducible refine gate_callee (f := 16) rfl ?_); refine goesL_ (some 82) rfl rfl Tryd.func16 (by kernel_rfl) rfl #[.string (a0 ++ a1)] rfl (by (try simp only [List.map_toArray, List.map_cons, List.map_nil]); first | done | rfl | (simp only [List.length_drop, List.length_take]; rfl)) ?_; (with_reducible refine (report_Parse.calls kj81 (a0 ++ a1) t277 t278 t279 t280 t283 t284 _ A86.out (TM.step htab (by repeat (first | (with_reducible first | exact Below.refl _ _ | exact HB.out | apply below_alloc | apply pw_below_drewN | apply below_drew1 | refine below_set ?_ GE273.out | refine below_set ?_ GE274.out | refine below_set ?_ GE285.out) | exact HB.out | exact Below.refl _ _)))).mono ?_); rintro e w157 ⟨v281, rfl, ho0, hb⟩; refine ⟨_, rfl, ?_⟩; have n0_ := Aside0.mk (Kd.R_elder' (by (with_reducible repeat (first | apply Kd.R_alloc | apply Kd.R_drewN | apply Kd.R_drew)); exact HO_274003.out) (Kd.R_base ho0) hb); have n1_ := Aside0.mk (Kd.R_lower (Kd.R_new' ho0 (Kd.R_lt (by (with_reducible repeat (first | apply Kd.R_alloc | apply Kd.R_drewN | apply Kd.R_drew)); exact HO_274003.out))) (below_size (by repeat (first | (with_reducible first | exact HB.out | apply below_alloc | apply pw_below_drewN | apply below_drew1 | refine below_set ?_ GE273.out | refine below_set ?_ GE274.out) | exact HB.out)))); have n2_ := Aside0.mk (blk_below (g := gb273) (o := .cells #[.int .i64 t265, .int .i64 t266, .string t267, .slice Ao77 t268.length co77] 24 (0, 0)) (by (with_reducible repeat (first | refine blk_drewN ?_ _ | refine blk_drew ?_ | refine blk_alloc ?_ _)); exact BK273.out) hb); have n3_ := Aside0.mk (blk_below (g := gb274) (o := .cells #[.int .i64 t271, .int .i64 t272] 34 (0, 0)) (by (with_reducible repeat (first | refine blk_drewN ?_ _ | refine blk_drew ?_ | refine blk_alloc ?_ _)); exact BK274.out) hb); have n4_ := Aside0.mk (below_step (by repeat (first | (with_reducible first | exact HB.out | apply below_alloc | apply pw_below_drewN | apply below_drew1 | refine below_set ?_ GE273.out | refine below_set ?_ GE274.out) | exact HB.out)) hb); clear HO_274003; clear BK273; clear BK274; clear HB; have HO_274003 := n0_; have HO282 := n1_; have BK273 := n2_; have BK274 := n3_; have HB := n4_; clear n0_ n1_ n2_ n3_ n4_; (try clear hb); (try clear hb2); (try clear hk); (try clear hi); (try clear ho0)) | ((with_reducible refine gate_dst (N := 9) rfl ?_); (try (refine gate_guard (by rfl) ?_; dsimp only)); refine box_event ?hg (N := 9) ?hd (cs := #[.int .i64 0, .int .i64 0, .string (⟨#[]⟩ : ByteArray), .slice none 0 0]) (t := 24) ?hr ?_; (case hd => rfl); (case hg => rfl); (case hr => first | (go_simp; done) | (go_simp; rfl)); intro gb285 hg w158 hbox hb; have n0_ := Aside0.mk (Kd.R_below (by (with_reducible repeat (first | apply Kd.R_alloc | apply Kd.R_drewN | apply Kd.R_drew)); exact HO_274003.out) hb); have n1_ := Aside0.mk (Kd.R_below (by (with_reducible repeat (first | apply Kd.R_alloc | apply Kd.R_drewN | apply Kd.R_drew)); exact HO282.out) hb); have n2_ := Aside0.mk (blk_below (g := gb273) (o := .cells #[.int .i64 t265, .int .i64 t266, .string t267, .slice Ao77 t268.length co77] 24 (0, 0)) (by (with_reducible repeat (first | refine blk_drewN ?_ _ | refine blk_drew ?_ | refine blk_alloc ?_ _)); exact BK273.out) hb); have n3_ := Aside0.mk (blk_below (g := gb274) (o := .cells #[.int .i64 t271, .int .i64 t272] 34 (0, 0)) (by (with_reducible repeat (first | refine blk_drewN ?_ _ | refine blk_drew ?_ | refine blk_alloc ?_ _)); exact BK274.out) hb); have n4_ := Aside0.mk (below_step (by repeat (first | (with_reducible first | exact HB.out | apply below_alloc | apply pw_below_drewN | apply below_drew1 | refine below_set ?_ GE273.out | refine below_set ?_ GE274.out) | exact HB.out)) hb); have n5_ := Aside0.mk (hbox); have n6_ := Aside0.mk ((by rw [hg]; exact (below_size (by repeat (first | (with_reducible first | exact HB.out | apply below_alloc | apply pw_below_drewN | apply below_drew1 | refine below_set ?_ GE273.out | refine below_set ?_ GE274.out) | exact HB.out))) : w.heap.size ≤ gb285)); have n7_ := Aside0.mk ((by rw [hg]; exact (below_size (by repeat (first | (with_reducible first | exact HB.out | apply below_alloc | apply pw_below_drewN | apply below_drew1 | refine below_set ?_ GE273.out | refine below_set ?_ GE274.out) | exact HB.out))) : w.heap.size ≤ gb285)); have n8_ := Aside0.mk ((by rw [hg]; exact Nat.ne_of_lt (blk_lt (g := gb273) (o := .cells #[.int .i64 t265, .int .i64 t266, .string t267, .slice Ao77 t268.length co77] 24 (0, 0)) (by (with_reducible repeat (first | refine blk_drewN ?_ _ | refine blk_drew ?_ | refine blk_alloc ?_ _)); exact BK273.out)) : gb273 ≠ gb285)); have n9_ := Aside0.mk ((by rw [hg]; exact Nat.ne_of_gt (blk_lt (g := gb273) (o := .cells #[.int .i64 t265, .int .i64 t266, .string t267, .slice Ao77 t268.length co77] 24 (0, 0)) (by (with_reducible repeat (first | refine blk_drewN ?_ _ | refine blk_drew ?_ | refine blk_alloc ?_ _)); exact BK273.out)) : gb285 ≠ gb273)); have n10_ := Aside0.mk ((by rw [hg]; exact Nat.ne_of_lt (blk_lt (g := gb274) (o := .cells #[.int .i64 t271, .int .i64 t272] 34 (0, 0)) (by (with_reducible repeat (first | refine blk_drewN ?_ _ | refine blk_drew ?_ | refine blk_alloc ?_ _)); exact BK274.out)) : gb274 ≠ gb285)); have n11_ := Aside0.mk ((by rw [hg]; exact Nat.ne_of_gt (blk_lt (g := gb274) (o := .cells #[.int .i64 t271, .int .i64 t272] 34 (0, 0)) (by (with_reducible repeat (first | refine blk_drewN ?_ _ | refine blk_drew ?_ | refine blk_alloc ?_ _)); exact BK274.out)) : gb285 ≠ gb274)); clear HO_274003; clear HO282; clear BK273; clear BK274; clear HB; have HO_274003 := n0_; have HO282 := n1_; have BK273 := n2_; have BK274 := n3_; have HB := n4_; have BK285 := n5_; have GW285 := n6_; have GE285 := n7_; have NB273_285 := n8_; have NB285_273 := n9_; have NB274_285 := n10_; have NB285_274 := n11_; clear n0_ n1_ n2_ n3_ n4_ n5_ n6_ n7_ n8_ n9_ n10_ n11_; clear hb hbox hg; have hnb159 := NB285_273.out; have hnc159 := NB273_285.out; have hnb160 := NB285_274.out; have hnc160 := NB274_285.out; have hcz161_0 : w158.cell? ⟨gb285, 0, none⟩ = some (.int .i64 0) := (blk_cell BK285.out 0).trans rfl; have hcz161_1 : w158.cell? ⟨gb285, 1, none⟩ = some (.int .i64 0) := (blk_cell BK285.out 1).trans rfl; have hcz161_2 : w158.cell? ⟨gb285, 2, none⟩ = some (.string (⟨#[]⟩ : ByteArray)) := (blk_cell BK285.out 2).trans rfl; have hcz161_3 : w158.cell? ⟨gb285, 3, none⟩ = some (.slice none 0 0) := (blk_cell BK285.out 3).trans rfl; have hfz161_0 := blk_frozen BK285.out 0; have hfz161_1 := blk_frozen BK285.out 1; have hfz161_2 := blk_frozen BK285.out 2; have hfz161_3 := blk_frozen BK285.out 3; obtain ⟨Ao162, co162, eo162⟩ := Kd.R_slice HO282.out; subst eo162; have hnb163 := NB274_273.out; have hnc163 := NB273_274.out; have hcz164_0 : w158.cell? ⟨gb274, 0, none⟩ = some (.int .i64 t271) := (blk_cell BK274.out 0).trans rfl; have hcz164_1 : w158.cell? ⟨gb274, 1, none⟩ = some (.int .i64 t272) := (blk_cell BK274.out 1).trans rfl; have hfz164_0 := blk_frozen BK274.out 0; have hfz164_1 := blk_frozen BK274.out 1; have hcz165_0 : w158.cell? ⟨gb273, 0, none⟩ = some (.int .i64 t265) := (blk_cell BK273.out 0).trans rfl; have hcz165_1 : w158.cell? ⟨gb273, 1, none⟩ = some (.int .i64 t266) := (blk_cell BK273.out 1).trans rfl; have hcz165_2 : w158.cell? ⟨gb273, 2, none⟩ = some (.string t267) := (blk_cell BK273.out 2).trans rfl; have hcz165_3 : w158.cell? ⟨gb273, 3, none⟩ = some (.slice Ao77 t268.length co77) := (blk_cell BK273.out 3).trans rfl; have hfz165_0 := blk_frozen BK273.out 0; have hfz165_1 := blk_frozen BK273.out 1; have hfz165_2 := blk_frozen BK273.out 2; have hfz165_3 := blk_frozen BK273.out 3))
                      go_ret
                      exact ⟨by first | rfl | (simp [errW_none, errW_some] <;> rfl) | (simp [*, errW_none, errW_some] <;> rfl), by repeat (first | (with_reducible first | exact HB.out | apply below_alloc | apply pw_below_drewN | apply below_drew1 | refine below_set ?_ GE273.out | refine below_set ?_ GE274.out | refine below_set ?_ GE285.out) | exact HB.out)⟩
                  · rw [if_neg c85] at H
                    exact absurd H (by simp)
  · replace c4 := Bool.eq_false_iff.mpr c4
    subst c4
    have H1 : (some false) = some r := by rw [if_neg (show ¬ (false = true) by decide)] at H; exact H
    clear H
    have H := H1
    clear H1
    obtain rfl := Option.some.inj H; exact absurd hr Bool.false_ne_true

end Go.Proofs.YtloflodbcdlmpaaDoor.Qall
