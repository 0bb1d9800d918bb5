-- WRITTEN BY A PROGRAM OF THIS SESSION (wip/tools/myprint.py, over the kit's print); Lean checks it.
import Derived.Test.YtkjckdgknbfaiaaQallx0
import Derived.Test.YtkjckdgknbfaiaaQallx1
import Derived.Test.YtkjckdgknbfaiaaQallx5
import Derived.Test.YtkjckdgknbfaiaaQallx9
namespace Go.Proofs.Ytkjckdgknbfaiaa.Qall
open Go.RowKit Go.Proofs.YtkjckdgknbfaiaaW.PrintWords Go.Proofs.YtkjckdgknbfaiaaW.PrintLast Go.Proofs.YtkjckdgknbfaiaaW.PrintMore
attribute [local go_sem] max2_int min2_int max_two min_two max_three min_three max_four min_four   -- for this text's walks alone
set_option linter.unusedVariables false
set_option linter.unusedSimpArgs false

attribute [local go_sem high] eqA23
/-! ### dowellaw02_PlaceRises: function 11 -/
mutual
def dowellaw02_PlaceRises.j0 : Nat → ByteArray → Int → Int → Option (Bool)
  | 0, _, _, _ => none
  | k + 1, x0, x1, x2 => (place_Spot.f k x0 x1).bind fun bt258 => ((place_Spot.f k x0 x2).bind fun bt263 => (if bt258.2.2.2 = 0 then (if bt263.2.2.2 = 0 then (dowellaw02_PlaceRises.j1 k x0 x1 x2 bt258.2.2.2 bt263.2.2.2 (x1 == x2) bt258.1 bt258.2.1 bt258.2.2.1 bt263.1 bt263.2.1 bt263.2.2.1) else (dowellaw02_PlaceRises.j1 k x0 x1 x2 bt258.2.2.2 bt263.2.2.2 true bt258.1 bt258.2.1 bt258.2.2.1 bt263.1 bt263.2.1 bt263.2.2.1)) else (dowellaw02_PlaceRises.j1 k x0 x1 x2 bt258.2.2.2 bt263.2.2.2 true bt258.1 bt258.2.1 bt258.2.2.1 bt263.1 bt263.2.1 bt263.2.2.1)))
def dowellaw02_PlaceRises.j1 : Nat → ByteArray → Int → Int → Int → Int → Bool → Int → Int → Int → Int → Int → Int → Option (Bool)
  | 0, _, _, _, _, _, _, _, _, _, _, _, _ => none
  | k + 1, x0, x1, x2, x8, x10, x40, x263000, x263001, x263002, x268000, x268001, x268002 => if x40 = true then (if x1 < 0 then (if ((x8 != 0) == true) = true then (if x2 < 0 then (if ((x10 != 0) == true) = true then (if x1 = x2 then (some (x263000 == x268000 && (x263001 == x268001 && (x263002 == x268002)))) else (some true)) else (some false)) else (if ((x10 != 0) == (decide (x2 > (x0.size : Int)))) = true then (if x1 = x2 then (some (x263000 == x268000 && (x263001 == x268001 && (x263002 == x268002)))) else (some true)) else (some false))) else (some false)) else (if ((x8 != 0) == (decide (x1 > (x0.size : Int)))) = true then (if x2 < 0 then (if ((x10 != 0) == true) = true then (if x1 = x2 then (some (x263000 == x268000 && (x263001 == x268001 && (x263002 == x268002)))) else (some true)) else (some false)) else (if ((x10 != 0) == (decide (x2 > (x0.size : Int)))) = true then (if x1 = x2 then (some (x263000 == x268000 && (x263001 == x268001 && (x263002 == x268002)))) else (some true)) else (some false))) else (some false))) else (if x263000 = x268000 then (if (wrap64 (x268001 - x263001)) = (wrap64 (x2 - x1)) then (if x263002 ≤ x268002 then (some (decide ((wrap64 (x268002 - x263002)) ≤ (wrap64 (x2 - x1))))) else (some false)) else (some false)) else (if x263000 < x268000 then (if x263001 ≥ 1 then (if x268001 ≥ 1 then (if x268002 ≥ 1 then (some (decide (x268002 ≤ x268001))) else (some false)) else (some false)) else (some false)) else (some false)))
end
def dowellaw02_PlaceRises.f (k : Nat) (a0 : ByteArray) (a1 : Int) (a2 : Int) : Option (Bool) := (dowellaw02_works.f k).bind fun t257 => (if t257 = true then (if a1 > a2 then (dowellaw02_PlaceRises.j0 k a0 a2 a1) else (dowellaw02_PlaceRises.j0 k a0 a1 a2)) else (some false))
theorem dowellaw02_PlaceRises.mono_l : ∀ k, (∀ y0 y1 y2, LeO (dowellaw02_PlaceRises.j0 k y0 y1 y2) (dowellaw02_PlaceRises.j0 (k + 1) y0 y1 y2)) ∧ (∀ y0 y1 y2 y3 y4 y5 y6 y7 y8 y9 y10 y11, LeO (dowellaw02_PlaceRises.j1 k y0 y1 y2 y3 y4 y5 y6 y7 y8 y9 y10 y11) (dowellaw02_PlaceRises.j1 (k + 1) y0 y1 y2 y3 y4 y5 y6 y7 y8 y9 y10 y11))
  | 0 => ⟨fun _ _ _ r h => by simp [dowellaw02_PlaceRises.j0] at h, fun _ _ _ _ _ _ _ _ _ _ _ _ r h => by simp [dowellaw02_PlaceRises.j1] at h⟩
  | k + 1 => by
    obtain ⟨ih0, ih1⟩ := dowellaw02_PlaceRises.mono_l k
    refine ⟨?_, ?_⟩
    · intro y0 y1 y2
      unfold dowellaw02_PlaceRises.j0
      repeat' first
      | (with_reducible exact ih0 _ _ _)
      | (with_reducible exact ih1 _ _ _ _ _ _ _ _ _ _ _ _)
      | (with_reducible exact dowellaw02_works.mono _)
      | (with_reducible exact place_Spot.mono _ _ _)
      | (with_reducible exact LeO.refl _)
      | (with_reducible exact LeO.none _)
      | (with_reducible refine LeO.ite ?_ ?_)
      | (with_reducible refine LeO.bind ?_ (fun _ => ?_))
      | exact ih0 _ _ _
      | exact ih1 _ _ _ _ _ _ _ _ _ _ _ _
      | exact dowellaw02_works.mono _
      | exact place_Spot.mono _ _ _
      | exact LeO.none _
      | refine LeO.ite ?_ ?_
      | refine LeO.bind ?_ (fun _ => ?_)
    · intro y0 y1 y2 y3 y4 y5 y6 y7 y8 y9 y10 y11
      unfold dowellaw02_PlaceRises.j1
      repeat' first
      | (with_reducible exact ih0 _ _ _)
      | (with_reducible exact ih1 _ _ _ _ _ _ _ _ _ _ _ _)
      | (with_reducible exact dowellaw02_works.mono _)
      | (with_reducible exact place_Spot.mono _ _ _)
      | (with_reducible exact LeO.refl _)
      | (with_reducible exact LeO.none _)
      | (with_reducible refine LeO.ite ?_ ?_)
      | (with_reducible refine LeO.bind ?_ (fun _ => ?_))
      | exact ih0 _ _ _
      | exact ih1 _ _ _ _ _ _ _ _ _ _ _ _
      | exact dowellaw02_works.mono _
      | exact place_Spot.mono _ _ _
      | exact LeO.none _
      | refine LeO.ite ?_ ?_
      | refine LeO.bind ?_ (fun _ => ?_)
theorem dowellaw02_PlaceRises.mono : ∀ a0 a1 a2 k, LeO (dowellaw02_PlaceRises.f k a0 a1 a2) (dowellaw02_PlaceRises.f (k + 1) a0 a1 a2) := by
  intro a0 a1 a2 k
  obtain ⟨ih0, ih1⟩ := dowellaw02_PlaceRises.mono_l k
  unfold dowellaw02_PlaceRises.f
  repeat' first
      | (with_reducible exact ih0 _ _ _)
      | (with_reducible exact ih1 _ _ _ _ _ _ _ _ _ _ _ _)
      | (with_reducible exact dowellaw02_works.mono _)
      | (with_reducible exact place_Spot.mono _ _ _)
      | (with_reducible exact LeO.refl _)
      | (with_reducible exact LeO.none _)
      | (with_reducible refine LeO.ite ?_ ?_)
      | (with_reducible refine LeO.bind ?_ (fun _ => ?_))
      | exact ih0 _ _ _
      | exact ih1 _ _ _ _ _ _ _ _ _ _ _ _
      | exact dowellaw02_works.mono _
      | exact place_Spot.mono _ _ _
      | exact LeO.none _
      | refine LeO.ite ?_ ?_
      | refine LeO.bind ?_ (fun _ => ?_)
set_option maxHeartbeats 8000000 in
set_option maxRecDepth 100000 in
theorem dowellaw02_PlaceRises.calls (k : Nat) (a0 : ByteArray) (a1 : Int) (a2 : Int) (r : Bool) (w : World) (h : dowellaw02_PlaceRises.f k a0 a1 a2 = some r) :
    Calls Try.prog 11 #[.string a0, .int .i64 a1, .int .i64 a2] w fun e w' => e = .returned (.bool r) ∧ Below w.heap.size w w' := by
  have hu23 := Try.underlying23
  have HB := Aside0.mk (Below.refl w.heap.size w)
  have H : ((dowellaw02_works.f k).bind fun t257 => (if t257 = true then (if a1 > a2 then (dowellaw02_PlaceRises.j0 k a0 a2 a1) else (dowellaw02_PlaceRises.j0 k a0 a1 a2)) else (some false))) = some r := h
  clear h
  replace H := Option.bind_eq_some_iff.mp H
  obtain ⟨t257, A40, H⟩ := H
  replace H : (if t257 = true then (if a1 > a2 then (dowellaw02_PlaceRises.j0 k a0 a2 a1) else (dowellaw02_PlaceRises.j0 k a0 a1 a2)) else (some false)) = some r := H
  have A4 := Aside0.mk A40
  clear A40
  by_cases c5 : t257 = true
  · subst c5
    have H1 : (if a1 > a2 then (dowellaw02_PlaceRises.j0 k a0 a2 a1) else (dowellaw02_PlaceRises.j0 k a0 a1 a2)) = some r := by rw [if_pos rfl] at H; exact H
    clear H
    have H := H1
    clear H1
    have HC6 := Aside0.mk H
    clear H
    go_enter Try.func11, Try.ntmps11
    go_upto_if 15 with (first | ((with_reducible refine gate_callee (f := 26) rfl ?_); refine goesL_ (some 11) rfl rfl Try.func26 (by kernel_rfl) rfl #[] rfl (by (try simp only [List.map_toArray, List.map_cons, List.map_nil]); first | done | rfl | (simp only [List.length_drop, List.length_take]; rfl)) ?_; (with_reducible refine (dowellaw02_works.calls k  true _ A4.out).mono ?_); rintro e w7 ⟨rfl, hb⟩; refine ⟨_, rfl, ?_⟩; have n0_ := Aside0.mk (below_step (by repeat (first | (with_reducible first | exact HB.out | apply below_alloc | apply pw_below_drewN | apply below_drew1) | exact HB.out)) hb); clear HB; have HB := n0_; clear n0_; (try clear hb); (try clear hb2); (try clear hk); (try clear hi)))
    (try simp only [Act.put, List.setIfInBounds_toArray, List.set_cons_zero, List.set_cons_succ])
    go_cut [1, 2] (fun v1 v2 wc => ∃ (kq : Nat) (x1_5 : Int) (x2_5 : Int), v1 = .int .i64 x1_5 ∧ v2 = .int .i64 x2_5 ∧ Aside0 (dowellaw02_PlaceRises.j0 kq a0 x1_5 x2_5 = some r) ∧ Aside0 (kq ≤ k) ∧ Aside0 (Below w.heap.size w wc))
    case first =>
      have H := HC6.out
      clear HC6
      by_cases c8 : a1 > a2
      · rw [if_pos c8] at H
        have c8b0 : decide (a2 < a1) = true := decide_eq_true c8
        clear c8
        (first | rw [c8b0] | (simp only [i64_w, i32_w]; rw [c8b0]) | skip)
        have H' := Aside0.mk H
        clear H
        go_wp2
        go_meet
        case rel => exact ⟨_, (a2), (a1), (by first | rfl | (simp; done) | (simp [*]; done)), (by first | rfl | (simp; done) | (simp [*]; done)), H', ⟨by first | omega | exact Nat.le_refl _⟩, ⟨by repeat (first | (with_reducible first | exact HB.out | apply below_alloc | apply pw_below_drewN | apply below_drew1) | exact HB.out)⟩⟩
      · rw [if_neg c8] at H
        have c8b0 : decide (a2 < a1) = false := decide_eq_false c8
        clear c8
        (first | rw [c8b0] | (simp only [i64_w, i32_w]; rw [c8b0]) | skip)
        have H' := Aside0.mk H
        clear H
        go_wp2
        go_meet
        case rel => exact ⟨_, (a1), (a2), (by first | rfl | (simp; done) | (simp [*]; done)), (by first | rfl | (simp; done) | (simp [*]; done)), H', ⟨by first | omega | exact Nat.le_refl _⟩, ⟨by repeat (first | (with_reducible first | exact HB.out | apply below_alloc | apply pw_below_drewN | apply below_drew1) | exact HB.out)⟩⟩
    case rest =>
      clear HC6
      try clear c1
      try clear c2
      try clear p2
      try clear c5
      try clear c8
      try clear c8b0
      obtain ⟨kq, x1_5, x2_5, rfl, rfl, HA, HJ5, HB⟩ := hcut
      cases kq with
      | zero => exact absurd HA.out (by simp [dowellaw02_PlaceRises.j0])
      | succ kj5 =>
        have H := HA.out
        clear HA
        simp only [dowellaw02_PlaceRises.j0] at H
        replace H := Option.bind_eq_some_iff.mp H
        obtain ⟨⟨t258, t259, t260, t261⟩, A90, H⟩ := H
        replace H : ((place_Spot.f kj5 a0 x2_5).bind fun bt263 => (if t261 = 0 then (if bt263.2.2.2 = 0 then (dowellaw02_PlaceRises.j1 kj5 a0 x1_5 x2_5 t261 bt263.2.2.2 (x1_5 == x2_5) t258 t259 t260 bt263.1 bt263.2.1 bt263.2.2.1) else (dowellaw02_PlaceRises.j1 kj5 a0 x1_5 x2_5 t261 bt263.2.2.2 true t258 t259 t260 bt263.1 bt263.2.1 bt263.2.2.1)) else (dowellaw02_PlaceRises.j1 kj5 a0 x1_5 x2_5 t261 bt263.2.2.2 true t258 t259 t260 bt263.1 bt263.2.1 bt263.2.2.1))) = some r := H
        have A9 := Aside0.mk A90
        clear A90
        replace H := Option.bind_eq_some_iff.mp H
        obtain ⟨⟨t263, t264, t265, t266⟩, A100, H⟩ := H
        replace H : (if t261 = 0 then (if t266 = 0 then (dowellaw02_PlaceRises.j1 kj5 a0 x1_5 x2_5 t261 t266 (x1_5 == x2_5) t258 t259 t260 t263 t264 t265) else (dowellaw02_PlaceRises.j1 kj5 a0 x1_5 x2_5 t261 t266 true t258 t259 t260 t263 t264 t265)) else (dowellaw02_PlaceRises.j1 kj5 a0 x1_5 x2_5 t261 t266 true t258 t259 t260 t263 t264 t265)) = some r := H
        have A10 := Aside0.mk A100
        clear A100
        have HC11 := Aside0.mk H
        clear H
        go_upto_region 7 with (first | ((with_reducible refine gate_callee (f := 22) rfl ?_); refine goesL_ (some 21) rfl rfl Try.func22 (by kernel_rfl) rfl #[.string a0, .int .i64 x1_5] rfl (by (try simp only [List.map_toArray, List.map_cons, List.map_nil]); first | done | rfl | (simp only [List.length_drop, List.length_take]; rfl)) ?_; (with_reducible refine (place_Spot.calls kj5 a0 x1_5 t258 t259 t260 t261 _ A9.out).mono ?_); rintro e w12 ⟨rfl, hb⟩; refine ⟨_, rfl, ?_⟩; have n0_ := Aside0.mk (below_step (by repeat (first | (with_reducible first | exact HB.out | apply below_alloc | apply pw_below_drewN | apply below_drew1) | exact HB.out)) hb); clear HB; have HB := n0_; clear n0_; (try clear hb); (try clear hb2); (try clear hk); (try clear hi)) | ((with_reducible refine gate_dst (N := 7) rfl ?_); (try (refine gate_guard (by rfl) ?_; dsimp only)); refine box_event ?hg (N := 7) ?hd (cs := #[.int .i64 0, .int .i64 0, .int .i64 0]) (t := 23) ?hr ?_; (case hd => rfl); (case hg => rfl); (case hr => first | (go_simp; done) | (go_simp; rfl)); intro gb262 hg w13 hbox hb; have n0_ := Aside0.mk (below_step (by repeat (first | (with_reducible first | exact HB.out | apply below_alloc | apply pw_below_drewN | apply below_drew1) | exact HB.out)) hb); have n1_ := Aside0.mk (hbox); have n2_ := Aside0.mk ((by rw [hg]; exact (below_size (by repeat (first | (with_reducible first | exact HB.out | apply below_alloc | apply pw_below_drewN | apply below_drew1) | exact HB.out))) : w.heap.size ≤ gb262)); have n3_ := Aside0.mk ((by rw [hg]; exact (below_size (by repeat (first | (with_reducible first | exact HB.out | apply below_alloc | apply pw_below_drewN | apply below_drew1) | exact HB.out))) : w.heap.size ≤ gb262)); clear HB; have HB := n0_; have BK262 := n1_; have GW262 := n2_; have GE262 := n3_; clear n0_ n1_ n2_ n3_; clear hb hbox hg; have hcz14_0 : w13.cell? ⟨gb262, 0, none⟩ = some (.int .i64 0) := (blk_cell BK262.out 0).trans rfl; have hcz14_1 : w13.cell? ⟨gb262, 1, none⟩ = some (.int .i64 0) := (blk_cell BK262.out 1).trans rfl; have hcz14_2 : w13.cell? ⟨gb262, 2, none⟩ = some (.int .i64 0) := (blk_cell BK262.out 2).trans rfl; have hfz14_0 := blk_frozen BK262.out 0; have hfz14_1 := blk_frozen BK262.out 1; have hfz14_2 := blk_frozen BK262.out 2) | ((with_reducible refine gate_callee (f := 22) rfl ?_); refine goesL_ (some 27) rfl rfl Try.func22 (by kernel_rfl) rfl #[.string a0, .int .i64 x2_5] rfl (by (try simp only [List.map_toArray, List.map_cons, List.map_nil]); first | done | rfl | (simp only [List.length_drop, List.length_take]; rfl)) ?_; (with_reducible refine (place_Spot.calls kj5 a0 x2_5 t263 t264 t265 t266 _ A10.out).mono ?_); rintro e w15 ⟨rfl, hb⟩; refine ⟨_, rfl, ?_⟩; have n0_ := Aside0.mk (blk_below (g := gb262) (o := .cells #[.int .i64 t258, .int .i64 t259, .int .i64 t260] 23 (0, 0)) (by (with_reducible repeat (first | refine blk_drewN ?_ _ | refine blk_drew ?_ | refine blk_alloc ?_ _)); refine blk_put (cs := #[.int .i64 t258, .int .i64 t259, .int .i64 0]) ?_ 2 _ rfl; (with_reducible repeat (first | refine blk_drewN ?_ _ | refine blk_drew ?_ | refine blk_alloc ?_ _)); refine blk_put (cs := #[.int .i64 t258, .int .i64 0, .int .i64 0]) ?_ 1 _ rfl; (with_reducible repeat (first | refine blk_drewN ?_ _ | refine blk_drew ?_ | refine blk_alloc ?_ _)); refine blk_put (cs := #[.int .i64 0, .int .i64 0, .int .i64 0]) ?_ 0 _ rfl; (with_reducible repeat (first | refine blk_drewN ?_ _ | refine blk_drew ?_ | refine blk_alloc ?_ _)); exact BK262.out) hb); have n1_ := Aside0.mk (below_step (by repeat (first | (with_reducible first | exact HB.out | apply below_alloc | apply pw_below_drewN | apply below_drew1 | refine below_set ?_ GE262.out) | exact HB.out)) hb); clear BK262; clear HB; have BK262 := n0_; have HB := n1_; clear n0_ n1_; (try clear hb); (try clear hb2); (try clear hk); (try clear hi)) | ((with_reducible refine gate_dst (N := 9) rfl ?_); (try (refine gate_guard (by rfl) ?_; dsimp only)); refine box_event ?hg (N := 9) ?hd (cs := #[.int .i64 0, .int .i64 0, .int .i64 0]) (t := 23) ?hr ?_; (case hd => rfl); (case hg => rfl); (case hr => first | (go_simp; done) | (go_simp; rfl)); intro gb267 hg w16 hbox hb; have n0_ := Aside0.mk (blk_below (g := gb262) (o := .cells #[.int .i64 t258, .int .i64 t259, .int .i64 t260] 23 (0, 0)) (by (with_reducible repeat (first | refine blk_drewN ?_ _ | refine blk_drew ?_ | refine blk_alloc ?_ _)); exact BK262.out) hb); have n1_ := Aside0.mk (below_step (by repeat (first | (with_reducible first | exact HB.out | apply below_alloc | apply pw_below_drewN | apply below_drew1 | refine below_set ?_ GE262.out) | exact HB.out)) hb); have n2_ := Aside0.mk (hbox); have n3_ := Aside0.mk ((by rw [hg]; exact (below_size (by repeat (first | (with_reducible first | exact HB.out | apply below_alloc | apply pw_below_drewN | apply below_drew1 | refine below_set ?_ GE262.out) | exact HB.out))) : w.heap.size ≤ gb267)); have n4_ := Aside0.mk ((by rw [hg]; exact (below_size (by repeat (first | (with_reducible first | exact HB.out | apply below_alloc | apply pw_below_drewN | apply below_drew1 | refine below_set ?_ GE262.out) | exact HB.out))) : w.heap.size ≤ gb267)); have n5_ := Aside0.mk ((by rw [hg]; exact Nat.ne_of_lt (blk_lt (g := gb262) (o := .cells #[.int .i64 t258, .int .i64 t259, .int .i64 t260] 23 (0, 0)) (by (with_reducible repeat (first | refine blk_drewN ?_ _ | refine blk_drew ?_ | refine blk_alloc ?_ _)); exact BK262.out)) : gb262 ≠ gb267)); have n6_ := Aside0.mk ((by rw [hg]; exact Nat.ne_of_gt (blk_lt (g := gb262) (o := .cells #[.int .i64 t258, .int .i64 t259, .int .i64 t260] 23 (0, 0)) (by (with_reducible repeat (first | refine blk_drewN ?_ _ | refine blk_drew ?_ | refine blk_alloc ?_ _)); exact BK262.out)) : gb267 ≠ gb262)); clear BK262; clear HB; have BK262 := n0_; have HB := n1_; have BK267 := n2_; have GW267 := n3_; have GE267 := n4_; have NB262_267 := n5_; have NB267_262 := n6_; clear n0_ n1_ n2_ n3_ n4_ n5_ n6_; clear hb hbox hg; have hnb17 := NB267_262.out; have hnc17 := NB262_267.out; have hcz18_0 : w16.cell? ⟨gb267, 0, none⟩ = some (.int .i64 0) := (blk_cell BK267.out 0).trans rfl; have hcz18_1 : w16.cell? ⟨gb267, 1, none⟩ = some (.int .i64 0) := (blk_cell BK267.out 1).trans rfl; have hcz18_2 : w16.cell? ⟨gb267, 2, none⟩ = some (.int .i64 0) := (blk_cell BK267.out 2).trans rfl; have hfz18_0 := blk_frozen BK267.out 0; have hfz18_1 := blk_frozen BK267.out 1; have hfz18_2 := blk_frozen BK267.out 2))
        (try simp only [Act.put, List.setIfInBounds_toArray, List.set_cons_zero, List.set_cons_succ])
        go_cut [40] (fun v40 wc => ∃ (kq : Nat) (x40_10 : Bool), v40 = .bool x40_10 ∧ Aside0 (dowellaw02_PlaceRises.j1 kq a0 x1_5 x2_5 t261 t266 x40_10 t258 t259 t260 t263 t264 t265 = some r) ∧ Aside0 (kq ≤ kj5) ∧ Aside0 (wc.heap[gb262]? = some (.cells #[.int .i64 t258, .int .i64 t259, .int .i64 t260] 23 (0, 0))) ∧ Aside0 (wc.heap[gb267]? = some (.cells #[.int .i64 t263, .int .i64 t264, .int .i64 t265] 23 (0, 0))) ∧ Aside0 (Below w.heap.size w wc))
        case first =>
          have H := HC11.out
          clear HC11
          by_cases c19 : t261 = 0
          · rw [if_pos c19] at H
            have c19b0 : (t261 == 0) = true := beq_iff_eq.mpr c19
            have c19b1 : (t261 != 0) = false := bne_eq_false_iff_eq.mpr c19
            clear c19
            (first | rw [c19b0] | (simp only [i64_w, i32_w]; rw [c19b0]) | skip)
            by_cases c20 : t266 = 0
            · rw [if_pos c20] at H
              have c20b0 : (t266 == 0) = true := beq_iff_eq.mpr c20
              have c20b1 : (t266 != 0) = false := bne_eq_false_iff_eq.mpr c20
              clear c20
              have H' := Aside0.mk H
              clear H
              go_wp2
              go_meet
              case rel => exact ⟨_, ((x1_5 == x2_5)), (by first | rfl | (simp; done) | (simp [*]; done)), H', ⟨by have := HJ5.out; first | omega | exact Nat.le_refl _⟩, ⟨by (with_reducible repeat (first | refine blk_drewN ?_ _ | refine blk_drew ?_ | refine blk_alloc ?_ _)); refine blk_far ?_ NB262_267.out _; (with_reducible repeat (first | refine blk_drewN ?_ _ | refine blk_drew ?_ | refine blk_alloc ?_ _)); refine blk_far ?_ NB262_267.out _; (with_reducible repeat (first | refine blk_drewN ?_ _ | refine blk_drew ?_ | refine blk_alloc ?_ _)); refine blk_far ?_ NB262_267.out _; (with_reducible repeat (first | refine blk_drewN ?_ _ | refine blk_drew ?_ | refine blk_alloc ?_ _)); exact BK262.out⟩, ⟨by (with_reducible repeat (first | refine blk_drewN ?_ _ | refine blk_drew ?_ | refine blk_alloc ?_ _)); refine blk_put (cs := #[.int .i64 t263, .int .i64 t264, .int .i64 0]) ?_ 2 _ rfl; (with_reducible repeat (first | refine blk_drewN ?_ _ | refine blk_drew ?_ | refine blk_alloc ?_ _)); refine blk_put (cs := #[.int .i64 t263, .int .i64 0, .int .i64 0]) ?_ 1 _ rfl; (with_reducible repeat (first | refine blk_drewN ?_ _ | refine blk_drew ?_ | refine blk_alloc ?_ _)); refine blk_put (cs := #[.int .i64 0, .int .i64 0, .int .i64 0]) ?_ 0 _ rfl; (with_reducible repeat (first | refine blk_drewN ?_ _ | refine blk_drew ?_ | refine blk_alloc ?_ _)); exact BK267.out⟩, ⟨by repeat (first | (with_reducible first | exact HB.out | apply below_alloc | apply pw_below_drewN | apply below_drew1 | refine below_set ?_ GE262.out | refine below_set ?_ GE267.out) | exact HB.out)⟩⟩
            · rw [if_neg c20] at H
              have c20b0 : (t266 == 0) = false := beq_eq_false_iff_ne.mpr c20
              have c20b1 : (t266 != 0) = true := bne_iff_ne.mpr c20
              have H' := Aside0.mk H
              clear H
              go_wp2
              go_meet
              case rel => exact ⟨_, (true), (by first | rfl | (simp; done) | (simp [*]; done)), H', ⟨by have := HJ5.out; first | omega | exact Nat.le_refl _⟩, ⟨by (with_reducible repeat (first | refine blk_drewN ?_ _ | refine blk_drew ?_ | refine blk_alloc ?_ _)); refine blk_far ?_ NB262_267.out _; (with_reducible repeat (first | refine blk_drewN ?_ _ | refine blk_drew ?_ | refine blk_alloc ?_ _)); refine blk_far ?_ NB262_267.out _; (with_reducible repeat (first | refine blk_drewN ?_ _ | refine blk_drew ?_ | refine blk_alloc ?_ _)); refine blk_far ?_ NB262_267.out _; (with_reducible repeat (first | refine blk_drewN ?_ _ | refine blk_drew ?_ | refine blk_alloc ?_ _)); exact BK262.out⟩, ⟨by (with_reducible repeat (first | refine blk_drewN ?_ _ | refine blk_drew ?_ | refine blk_alloc ?_ _)); refine blk_put (cs := #[.int .i64 t263, .int .i64 t264, .int .i64 0]) ?_ 2 _ rfl; (with_reducible repeat (first | refine blk_drewN ?_ _ | refine blk_drew ?_ | refine blk_alloc ?_ _)); refine blk_put (cs := #[.int .i64 t263, .int .i64 0, .int .i64 0]) ?_ 1 _ rfl; (with_reducible repeat (first | refine blk_drewN ?_ _ | refine blk_drew ?_ | refine blk_alloc ?_ _)); refine blk_put (cs := #[.int .i64 0, .int .i64 0, .int .i64 0]) ?_ 0 _ rfl; (with_reducible repeat (first | refine blk_drewN ?_ _ | refine blk_drew ?_ | refine blk_alloc ?_ _)); exact BK267.out⟩, ⟨by repeat (first | (with_reducible first | exact HB.out | apply below_alloc | apply pw_below_drewN | apply below_drew1 | refine below_set ?_ GE262.out | refine below_set ?_ GE267.out) | exact HB.out)⟩⟩
          · rw [if_neg c19] at H
            have c19b0 : (t261 == 0) = false := beq_eq_false_iff_ne.mpr c19
            have c19b1 : (t261 != 0) = true := bne_iff_ne.mpr c19
            (first | rw [c19b0] | (simp only [i64_w, i32_w]; rw [c19b0]) | skip)
            have H' := Aside0.mk H
            clear H
            go_wp2
            go_meet
            case rel => exact ⟨_, (true), (by first | rfl | (simp; done) | (simp [*]; done)), H', ⟨by have := HJ5.out; first | omega | exact Nat.le_refl _⟩, ⟨by (with_reducible repeat (first | refine blk_drewN ?_ _ | refine blk_drew ?_ | refine blk_alloc ?_ _)); refine blk_far ?_ NB262_267.out _; (with_reducible repeat (first | refine blk_drewN ?_ _ | refine blk_drew ?_ | refine blk_alloc ?_ _)); refine blk_far ?_ NB262_267.out _; (with_reducible repeat (first | refine blk_drewN ?_ _ | refine blk_drew ?_ | refine blk_alloc ?_ _)); refine blk_far ?_ NB262_267.out _; (with_reducible repeat (first | refine blk_drewN ?_ _ | refine blk_drew ?_ | refine blk_alloc ?_ _)); exact BK262.out⟩, ⟨by (with_reducible repeat (first | refine blk_drewN ?_ _ | refine blk_drew ?_ | refine blk_alloc ?_ _)); refine blk_put (cs := #[.int .i64 t263, .int .i64 t264, .int .i64 0]) ?_ 2 _ rfl; (with_reducible repeat (first | refine blk_drewN ?_ _ | refine blk_drew ?_ | refine blk_alloc ?_ _)); refine blk_put (cs := #[.int .i64 t263, .int .i64 0, .int .i64 0]) ?_ 1 _ rfl; (with_reducible repeat (first | refine blk_drewN ?_ _ | refine blk_drew ?_ | refine blk_alloc ?_ _)); refine blk_put (cs := #[.int .i64 0, .int .i64 0, .int .i64 0]) ?_ 0 _ rfl; (with_reducible repeat (first | refine blk_drewN ?_ _ | refine blk_drew ?_ | refine blk_alloc ?_ _)); exact BK267.out⟩, ⟨by repeat (first | (with_reducible first | exact HB.out | apply below_alloc | apply pw_below_drewN | apply below_drew1 | refine below_set ?_ GE262.out | refine below_set ?_ GE267.out) | exact HB.out)⟩⟩
        case rest =>
          clear HC11
          try clear c1
          try clear c2
          try clear p2
          try clear c5
          try clear c8
          try clear c8b0
          try clear c11
          try clear c17
          try clear c19
          try clear c19b0
          try clear c19b1
          try clear c20
          try clear c20b0
          try clear c20b1
          try clear hcz14_0
          try clear hcz14_1
          try clear hcz14_2
          try clear hcz18_0
          try clear hcz18_1
          try clear hcz18_2
          try clear hfz14_0
          try clear hfz14_1
          try clear hfz14_2
          try clear hfz18_0
          try clear hfz18_1
          try clear hfz18_2
          try clear p2
          obtain ⟨kq, x40_10, rfl, HA, HJ10, BK262, BK267, HB⟩ := hcut
          cases kq with
          | zero => exact absurd HA.out (by simp [dowellaw02_PlaceRises.j1])
          | succ kj10 =>
            have H := HA.out
            clear HA
            simp only [dowellaw02_PlaceRises.j1] at H
            by_cases c21 : x40_10 = true
            · subst c21
              have H1 : (if x1_5 < 0 then (if ((t261 != 0) == true) = true then (if x2_5 < 0 then (if ((t266 != 0) == true) = true then (if x1_5 = x2_5 then (some (t258 == t263 && (t259 == t264 && (t260 == t265)))) else (some true)) else (some false)) else (if ((t266 != 0) == (decide (x2_5 > (a0.size : Int)))) = true then (if x1_5 = x2_5 then (some (t258 == t263 && (t259 == t264 && (t260 == t265)))) else (some true)) else (some false))) else (some false)) else (if ((t261 != 0) == (decide (x1_5 > (a0.size : Int)))) = true then (if x2_5 < 0 then (if ((t266 != 0) == true) = true then (if x1_5 = x2_5 then (some (t258 == t263 && (t259 == t264 && (t260 == t265)))) else (some true)) else (some false)) else (if ((t266 != 0) == (decide (x2_5 > (a0.size : Int)))) = true then (if x1_5 = x2_5 then (some (t258 == t263 && (t259 == t264 && (t260 == t265)))) else (some true)) else (some false))) else (some false))) = some r := by rw [if_pos rfl] at H; exact H
              clear H
              have H := H1
              clear H1
              by_cases c22 : x1_5 < 0
              · rw [if_pos c22] at H
                have c22b0 : decide (x1_5 < 0) = true := decide_eq_true c22
                clear c22
                by_cases c23 : ((t261 != 0) == true) = true
                · rw [if_pos c23] at H
                  have c23b0 : ((t261 != 0) == true) = true := c23
                  (try (have c23b1 : decide ((t261 != 0) = true) = true := by simpa using c23))
                  (try (have c23b2 : ((t261 != 0) == true) = true := by simpa using c23))
                  clear c23
                  by_cases c24 : x2_5 < 0
                  · rw [if_pos c24] at H
                    have c24b0 : decide (x2_5 < 0) = true := decide_eq_true c24
                    clear c24
                    by_cases c25 : ((t266 != 0) == true) = true
                    · rw [if_pos c25] at H
                      have c25b0 : ((t266 != 0) == true) = true := c25
                      (try (have c25b1 : decide ((t266 != 0) = true) = true := by simpa using c25))
                      (try (have c25b2 : ((t266 != 0) == true) = true := by simpa using c25))
                      clear c25
                      by_cases c26 : x1_5 = x2_5
                      · rw [if_pos c26] at H
                        have c26b0 : (x1_5 == x2_5) = true := beq_iff_eq.mpr c26
                        have c26b1 : (x1_5 != x2_5) = false := bne_eq_false_iff_eq.mpr c26
                        clear c26
                        obtain rfl := Option.some.inj H
                        have hnb27 := NB262_267.out
                        have hnc27 := NB267_262.out
                        have hcz28_0 : wc.cell? ⟨gb262, 0, none⟩ = some (.int .i64 t258) := (blk_cell BK262.out 0).trans rfl
                        have hcz28_1 : wc.cell? ⟨gb262, 1, none⟩ = some (.int .i64 t259) := (blk_cell BK262.out 1).trans rfl
                        have hcz28_2 : wc.cell? ⟨gb262, 2, none⟩ = some (.int .i64 t260) := (blk_cell BK262.out 2).trans rfl
                        have hfz28_0 := blk_frozen BK262.out 0
                        have hfz28_1 := blk_frozen BK262.out 1
                        have hfz28_2 := blk_frozen BK262.out 2
                        have hcz29_0 : wc.cell? ⟨gb267, 0, none⟩ = some (.int .i64 t263) := (blk_cell BK267.out 0).trans rfl
                        have hcz29_1 : wc.cell? ⟨gb267, 1, none⟩ = some (.int .i64 t264) := (blk_cell BK267.out 1).trans rfl
                        have hcz29_2 : wc.cell? ⟨gb267, 2, none⟩ = some (.int .i64 t265) := (blk_cell BK267.out 2).trans rfl
                        have hfz29_0 := blk_frozen BK267.out 0
                        have hfz29_1 := blk_frozen BK267.out 1
                        have hfz29_2 := blk_frozen BK267.out 2
                        go_wp2
                        go_ret
                        exact ⟨by first | rfl | (simp [errW_none, errW_some] <;> rfl) | (simp [*, errW_none, errW_some] <;> rfl), by repeat (first | (with_reducible first | exact HB.out | apply below_alloc | apply pw_below_drewN | apply below_drew1 | refine below_set ?_ GE262.out | refine below_set ?_ GE267.out) | exact HB.out)⟩
                      · rw [if_neg c26] at H
                        have c26b0 : (x1_5 == x2_5) = false := beq_eq_false_iff_ne.mpr c26
                        have c26b1 : (x1_5 != x2_5) = true := bne_iff_ne.mpr c26
                        obtain rfl := Option.some.inj H
                        go_wp2
                        go_ret
                        exact ⟨by first | rfl | (simp [errW_none, errW_some] <;> rfl) | (simp [*, errW_none, errW_some] <;> rfl), by repeat (first | (with_reducible first | exact HB.out | apply below_alloc | apply pw_below_drewN | apply below_drew1 | refine below_set ?_ GE262.out | refine below_set ?_ GE267.out) | exact HB.out)⟩
                    · rw [if_neg c25] at H
                      have c25b0 : ((t266 != 0) == true) = false := by simpa using c25
                      (try (have c25b1 : decide ((t266 != 0) = true) = false := by simpa using c25))
                      (try (have c25b2 : ((t266 != 0) == true) = false := by simpa using c25))
                      (try (have c25b3 : ¬ ((t266 != 0) = true) := by simpa using c25))
                      clear c25
                      obtain rfl := Option.some.inj H
                      go_wp2
                      go_ret
                      exact ⟨by first | rfl | (simp [errW_none, errW_some] <;> rfl) | (simp [*, errW_none, errW_some] <;> rfl), by repeat (first | (with_reducible first | exact HB.out | apply below_alloc | apply pw_below_drewN | apply below_drew1 | refine below_set ?_ GE262.out | refine below_set ?_ GE267.out) | exact HB.out)⟩
                  · rw [if_neg c24] at H
                    have c24b0 : decide (x2_5 < 0) = false := decide_eq_false c24
                    clear c24
                    by_cases c30 : ((t266 != 0) == (decide (x2_5 > (a0.size : Int)))) = true
                    · rw [if_pos c30] at H
                      have c30b0 : ((t266 != 0) == (decide (x2_5 > (a0.size : Int)))) = true := c30
                      (try (have c30b1 : decide ((t266 != 0) = (decide (x2_5 > (a0.size : Int)))) = true := by simpa using c30))
                      (try (have c30b2 : ((t266 != 0) == (decide (x2_5 > (a0.size : Int)))) = true := by simpa using c30))
                      clear c30
                      by_cases c31 : x1_5 = x2_5
                      · rw [if_pos c31] at H
                        have c31b0 : (x1_5 == x2_5) = true := beq_iff_eq.mpr c31
                        have c31b1 : (x1_5 != x2_5) = false := bne_eq_false_iff_eq.mpr c31
                        clear c31
                        obtain rfl := Option.some.inj H
                        have hnb32 := NB262_267.out
                        have hnc32 := NB267_262.out
                        have hcz33_0 : wc.cell? ⟨gb262, 0, none⟩ = some (.int .i64 t258) := (blk_cell BK262.out 0).trans rfl
                        have hcz33_1 : wc.cell? ⟨gb262, 1, none⟩ = some (.int .i64 t259) := (blk_cell BK262.out 1).trans rfl
                        have hcz33_2 : wc.cell? ⟨gb262, 2, none⟩ = some (.int .i64 t260) := (blk_cell BK262.out 2).trans rfl
                        have hfz33_0 := blk_frozen BK262.out 0
                        have hfz33_1 := blk_frozen BK262.out 1
                        have hfz33_2 := blk_frozen BK262.out 2
                        have hcz34_0 : wc.cell? ⟨gb267, 0, none⟩ = some (.int .i64 t263) := (blk_cell BK267.out 0).trans rfl
                        have hcz34_1 : wc.cell? ⟨gb267, 1, none⟩ = some (.int .i64 t264) := (blk_cell BK267.out 1).trans rfl
                        have hcz34_2 : wc.cell? ⟨gb267, 2, none⟩ = some (.int .i64 t265) := (blk_cell BK267.out 2).trans rfl
                        have hfz34_0 := blk_frozen BK267.out 0
                        have hfz34_1 := blk_frozen BK267.out 1
                        have hfz34_2 := blk_frozen BK267.out 2
                        go_wp2
                        go_ret
                        exact ⟨by first | rfl | (simp [errW_none, errW_some] <;> rfl) | (simp [*, errW_none, errW_some] <;> rfl), by repeat (first | (with_reducible first | exact HB.out | apply below_alloc | apply pw_below_drewN | apply below_drew1 | refine below_set ?_ GE262.out | refine below_set ?_ GE267.out) | exact HB.out)⟩
                      · rw [if_neg c31] at H
                        have c31b0 : (x1_5 == x2_5) = false := beq_eq_false_iff_ne.mpr c31
                        have c31b1 : (x1_5 != x2_5) = true := bne_iff_ne.mpr c31
                        obtain rfl := Option.some.inj H
                        go_wp2
                        go_ret
                        exact ⟨by first | rfl | (simp [errW_none, errW_some] <;> rfl) | (simp [*, errW_none, errW_some] <;> rfl), by repeat (first | (with_reducible first | exact HB.out | apply below_alloc | apply pw_below_drewN | apply below_drew1 | refine below_set ?_ GE262.out | refine below_set ?_ GE267.out) | exact HB.out)⟩
                    · rw [if_neg c30] at H
                      have c30b0 : ((t266 != 0) == (decide (x2_5 > (a0.size : Int)))) = false := by simpa using c30
                      (try (have c30b1 : decide ((t266 != 0) = (decide (x2_5 > (a0.size : Int)))) = false := by simpa using c30))
                      (try (have c30b2 : ((t266 != 0) == (decide (x2_5 > (a0.size : Int)))) = false := by simpa using c30))
                      (try (have c30b3 : ¬ ((t266 != 0) = (decide (x2_5 > (a0.size : Int)))) := by simpa using c30))
                      clear c30
                      obtain rfl := Option.some.inj H
                      go_wp2
                      go_ret
                      exact ⟨by first | rfl | (simp [errW_none, errW_some] <;> rfl) | (simp [*, errW_none, errW_some] <;> rfl), by repeat (first | (with_reducible first | exact HB.out | apply below_alloc | apply pw_below_drewN | apply below_drew1 | refine below_set ?_ GE262.out | refine below_set ?_ GE267.out) | exact HB.out)⟩
                · rw [if_neg c23] at H
                  have c23b0 : ((t261 != 0) == true) = false := by simpa using c23
                  (try (have c23b1 : decide ((t261 != 0) = true) = false := by simpa using c23))
                  (try (have c23b2 : ((t261 != 0) == true) = false := by simpa using c23))
                  (try (have c23b3 : ¬ ((t261 != 0) = true) := by simpa using c23))
                  clear c23
                  obtain rfl := Option.some.inj H
                  go_wp2
                  go_ret
                  exact ⟨by first | rfl | (simp [errW_none, errW_some] <;> rfl) | (simp [*, errW_none, errW_some] <;> rfl), by repeat (first | (with_reducible first | exact HB.out | apply below_alloc | apply pw_below_drewN | apply below_drew1 | refine below_set ?_ GE262.out | refine below_set ?_ GE267.out) | exact HB.out)⟩
              · rw [if_neg c22] at H
                have c22b0 : decide (x1_5 < 0) = false := decide_eq_false c22
                clear c22
                by_cases c35 : ((t261 != 0) == (decide (x1_5 > (a0.size : Int)))) = true
                · rw [if_pos c35] at H
                  have c35b0 : ((t261 != 0) == (decide (x1_5 > (a0.size : Int)))) = true := c35
                  (try (have c35b1 : decide ((t261 != 0) = (decide (x1_5 > (a0.size : Int)))) = true := by simpa using c35))
                  (try (have c35b2 : ((t261 != 0) == (decide (x1_5 > (a0.size : Int)))) = true := by simpa using c35))
                  clear c35
                  by_cases c36 : x2_5 < 0
                  · rw [if_pos c36] at H
                    have c36b0 : decide (x2_5 < 0) = true := decide_eq_true c36
                    clear c36
                    by_cases c37 : ((t266 != 0) == true) = true
                    · rw [if_pos c37] at H
                      have c37b0 : ((t266 != 0) == true) = true := c37
                      (try (have c37b1 : decide ((t266 != 0) = true) = true := by simpa using c37))
                      (try (have c37b2 : ((t266 != 0) == true) = true := by simpa using c37))
                      clear c37
                      by_cases c38 : x1_5 = x2_5
                      · rw [if_pos c38] at H
                        have c38b0 : (x1_5 == x2_5) = true := beq_iff_eq.mpr c38
                        have c38b1 : (x1_5 != x2_5) = false := bne_eq_false_iff_eq.mpr c38
                        clear c38
                        obtain rfl := Option.some.inj H
                        have hnb39 := NB262_267.out
                        have hnc39 := NB267_262.out
                        have hcz40_0 : wc.cell? ⟨gb262, 0, none⟩ = some (.int .i64 t258) := (blk_cell BK262.out 0).trans rfl
                        have hcz40_1 : wc.cell? ⟨gb262, 1, none⟩ = some (.int .i64 t259) := (blk_cell BK262.out 1).trans rfl
                        have hcz40_2 : wc.cell? ⟨gb262, 2, none⟩ = some (.int .i64 t260) := (blk_cell BK262.out 2).trans rfl
                        have hfz40_0 := blk_frozen BK262.out 0
                        have hfz40_1 := blk_frozen BK262.out 1
                        have hfz40_2 := blk_frozen BK262.out 2
                        have hcz41_0 : wc.cell? ⟨gb267, 0, none⟩ = some (.int .i64 t263) := (blk_cell BK267.out 0).trans rfl
                        have hcz41_1 : wc.cell? ⟨gb267, 1, none⟩ = some (.int .i64 t264) := (blk_cell BK267.out 1).trans rfl
                        have hcz41_2 : wc.cell? ⟨gb267, 2, none⟩ = some (.int .i64 t265) := (blk_cell BK267.out 2).trans rfl
                        have hfz41_0 := blk_frozen BK267.out 0
                        have hfz41_1 := blk_frozen BK267.out 1
                        have hfz41_2 := blk_frozen BK267.out 2
                        go_wp2
                        go_ret
                        exact ⟨by first | rfl | (simp [errW_none, errW_some] <;> rfl) | (simp [*, errW_none, errW_some] <;> rfl), by repeat (first | (with_reducible first | exact HB.out | apply below_alloc | apply pw_below_drewN | apply below_drew1 | refine below_set ?_ GE262.out | refine below_set ?_ GE267.out) | exact HB.out)⟩
                      · rw [if_neg c38] at H
                        have c38b0 : (x1_5 == x2_5) = false := beq_eq_false_iff_ne.mpr c38
                        have c38b1 : (x1_5 != x2_5) = true := bne_iff_ne.mpr c38
                        obtain rfl := Option.some.inj H
                        go_wp2
                        go_ret
                        exact ⟨by first | rfl | (simp [errW_none, errW_some] <;> rfl) | (simp [*, errW_none, errW_some] <;> rfl), by repeat (first | (with_reducible first | exact HB.out | apply below_alloc | apply pw_below_drewN | apply below_drew1 | refine below_set ?_ GE262.out | refine below_set ?_ GE267.out) | exact HB.out)⟩
                    · rw [if_neg c37] at H
                      have c37b0 : ((t266 != 0) == true) = false := by simpa using c37
                      (try (have c37b1 : decide ((t266 != 0) = true) = false := by simpa using c37))
                      (try (have c37b2 : ((t266 != 0) == true) = false := by simpa using c37))
                      (try (have c37b3 : ¬ ((t266 != 0) = true) := by simpa using c37))
                      clear c37
                      obtain rfl := Option.some.inj H
                      go_wp2
                      go_ret
                      exact ⟨by first | rfl | (simp [errW_none, errW_some] <;> rfl) | (simp [*, errW_none, errW_some] <;> rfl), by repeat (first | (with_reducible first | exact HB.out | apply below_alloc | apply pw_below_drewN | apply below_drew1 | refine below_set ?_ GE262.out | refine below_set ?_ GE267.out) | exact HB.out)⟩
                  · rw [if_neg c36] at H
                    have c36b0 : decide (x2_5 < 0) = false := decide_eq_false c36
                    clear c36
                    by_cases c42 : ((t266 != 0) == (decide (x2_5 > (a0.size : Int)))) = true
                    · rw [if_pos c42] at H
                      have c42b0 : ((t266 != 0) == (decide (x2_5 > (a0.size : Int)))) = true := c42
                      (try (have c42b1 : decide ((t266 != 0) = (decide (x2_5 > (a0.size : Int)))) = true := by simpa using c42))
                      (try (have c42b2 : ((t266 != 0) == (decide (x2_5 > (a0.size : Int)))) = true := by simpa using c42))
                      clear c42
                      by_cases c43 : x1_5 = x2_5
                      · rw [if_pos c43] at H
                        have c43b0 : (x1_5 == x2_5) = true := beq_iff_eq.mpr c43
                        have c43b1 : (x1_5 != x2_5) = false := bne_eq_false_iff_eq.mpr c43
                        clear c43
                        obtain rfl := Option.some.inj H
                        have hnb44 := NB262_267.out
                        have hnc44 := NB267_262.out
                        have hcz45_0 : wc.cell? ⟨gb262, 0, none⟩ = some (.int .i64 t258) := (blk_cell BK262.out 0).trans rfl
                        have hcz45_1 : wc.cell? ⟨gb262, 1, none⟩ = some (.int .i64 t259) := (blk_cell BK262.out 1).trans rfl
                        have hcz45_2 : wc.cell? ⟨gb262, 2, none⟩ = some (.int .i64 t260) := (blk_cell BK262.out 2).trans rfl
                        have hfz45_0 := blk_frozen BK262.out 0
                        have hfz45_1 := blk_frozen BK262.out 1
                        have hfz45_2 := blk_frozen BK262.out 2
                        have hcz46_0 : wc.cell? ⟨gb267, 0, none⟩ = some (.int .i64 t263) := (blk_cell BK267.out 0).trans rfl
                        have hcz46_1 : wc.cell? ⟨gb267, 1, none⟩ = some (.int .i64 t264) := (blk_cell BK267.out 1).trans rfl
                        have hcz46_2 : wc.cell? ⟨gb267, 2, none⟩ = some (.int .i64 t265) := (blk_cell BK267.out 2).trans rfl
                        have hfz46_0 := blk_frozen BK267.out 0
                        have hfz46_1 := blk_frozen BK267.out 1
                        have hfz46_2 := blk_frozen BK267.out 2
                        go_wp2
                        go_ret
                        exact ⟨by first | rfl | (simp [errW_none, errW_some] <;> rfl) | (simp [*, errW_none, errW_some] <;> rfl), by repeat (first | (with_reducible first | exact HB.out | apply below_alloc | apply pw_below_drewN | apply below_drew1 | refine below_set ?_ GE262.out | refine below_set ?_ GE267.out) | exact HB.out)⟩
                      · rw [if_neg c43] at H
                        have c43b0 : (x1_5 == x2_5) = false := beq_eq_false_iff_ne.mpr c43
                        have c43b1 : (x1_5 != x2_5) = true := bne_iff_ne.mpr c43
                        obtain rfl := Option.some.inj H
                        go_wp2
                        go_ret
                        exact ⟨by first | rfl | (simp [errW_none, errW_some] <;> rfl) | (simp [*, errW_none, errW_some] <;> rfl), by repeat (first | (with_reducible first | exact HB.out | apply below_alloc | apply pw_below_drewN | apply below_drew1 | refine below_set ?_ GE262.out | refine below_set ?_ GE267.out) | exact HB.out)⟩
                    · rw [if_neg c42] at H
                      have c42b0 : ((t266 != 0) == (decide (x2_5 > (a0.size : Int)))) = false := by simpa using c42
                      (try (have c42b1 : decide ((t266 != 0) = (decide (x2_5 > (a0.size : Int)))) = false := by simpa using c42))
                      (try (have c42b2 : ((t266 != 0) == (decide (x2_5 > (a0.size : Int)))) = false := by simpa using c42))
                      (try (have c42b3 : ¬ ((t266 != 0) = (decide (x2_5 > (a0.size : Int)))) := by simpa using c42))
                      clear c42
                      obtain rfl := Option.some.inj H
                      go_wp2
                      go_ret
                      exact ⟨by first | rfl | (simp [errW_none, errW_some] <;> rfl) | (simp [*, errW_none, errW_some] <;> rfl), by repeat (first | (with_reducible first | exact HB.out | apply below_alloc | apply pw_below_drewN | apply below_drew1 | refine below_set ?_ GE262.out | refine below_set ?_ GE267.out) | exact HB.out)⟩
                · rw [if_neg c35] at H
                  have c35b0 : ((t261 != 0) == (decide (x1_5 > (a0.size : Int)))) = false := by simpa using c35
                  (try (have c35b1 : decide ((t261 != 0) = (decide (x1_5 > (a0.size : Int)))) = false := by simpa using c35))
                  (try (have c35b2 : ((t261 != 0) == (decide (x1_5 > (a0.size : Int)))) = false := by simpa using c35))
                  (try (have c35b3 : ¬ ((t261 != 0) = (decide (x1_5 > (a0.size : Int)))) := by simpa using c35))
                  clear c35
                  obtain rfl := Option.some.inj H
                  go_wp2
                  go_ret
                  exact ⟨by first | rfl | (simp [errW_none, errW_some] <;> rfl) | (simp [*, errW_none, errW_some] <;> rfl), by repeat (first | (with_reducible first | exact HB.out | apply below_alloc | apply pw_below_drewN | apply below_drew1 | refine below_set ?_ GE262.out | refine below_set ?_ GE267.out) | exact HB.out)⟩
            · replace c21 := Bool.eq_false_iff.mpr c21
              subst c21
              have H1 : (if t258 = t263 then (if (wrap64 (t264 - t259)) = (wrap64 (x2_5 - x1_5)) then (if t260 ≤ t265 then (some (decide ((wrap64 (t265 - t260)) ≤ (wrap64 (x2_5 - x1_5))))) else (some false)) else (some false)) else (if t258 < t263 then (if t259 ≥ 1 then (if t264 ≥ 1 then (if t265 ≥ 1 then (some (decide (t265 ≤ t264))) else (some false)) else (some false)) else (some false)) else (some false))) = some r := by rw [if_neg (show ¬ (false = true) by decide)] at H; exact H
              clear H
              have H := H1
              clear H1
              by_cases c47 : t258 = t263
              · rw [if_pos c47] at H
                have c47b0 : (t258 == t263) = true := beq_iff_eq.mpr c47
                have c47b1 : (t258 != t263) = false := bne_eq_false_iff_eq.mpr c47
                clear c47
                by_cases c48 : (wrap64 (t264 - t259)) = (wrap64 (x2_5 - x1_5))
                · rw [if_pos c48] at H
                  have c48b0 : ((wrap64 (t264 - t259)) == (wrap64 (x2_5 - x1_5))) = true := beq_iff_eq.mpr c48
                  have c48b1 : ((wrap64 (t264 - t259)) != (wrap64 (x2_5 - x1_5))) = false := bne_eq_false_iff_eq.mpr c48
                  clear c48
                  by_cases c49 : t260 ≤ t265
                  · rw [if_pos c49] at H
                    have c49b0 : decide (t260 ≤ t265) = true := decide_eq_true c49
                    clear c49
                    obtain rfl := Option.some.inj H
                    have hnb50 := NB262_267.out
                    have hnc50 := NB267_262.out
                    have hcz51_0 : wc.cell? ⟨gb262, 0, none⟩ = some (.int .i64 t258) := (blk_cell BK262.out 0).trans rfl
                    have hcz51_1 : wc.cell? ⟨gb262, 1, none⟩ = some (.int .i64 t259) := (blk_cell BK262.out 1).trans rfl
                    have hcz51_2 : wc.cell? ⟨gb262, 2, none⟩ = some (.int .i64 t260) := (blk_cell BK262.out 2).trans rfl
                    have hfz51_0 := blk_frozen BK262.out 0
                    have hfz51_1 := blk_frozen BK262.out 1
                    have hfz51_2 := blk_frozen BK262.out 2
                    have hcz52_0 : wc.cell? ⟨gb267, 0, none⟩ = some (.int .i64 t263) := (blk_cell BK267.out 0).trans rfl
                    have hcz52_1 : wc.cell? ⟨gb267, 1, none⟩ = some (.int .i64 t264) := (blk_cell BK267.out 1).trans rfl
                    have hcz52_2 : wc.cell? ⟨gb267, 2, none⟩ = some (.int .i64 t265) := (blk_cell BK267.out 2).trans rfl
                    have hfz52_0 := blk_frozen BK267.out 0
                    have hfz52_1 := blk_frozen BK267.out 1
                    have hfz52_2 := blk_frozen BK267.out 2
                    go_wp2
                    go_ret
                    exact ⟨by first | rfl | (simp [errW_none, errW_some] <;> rfl) | (simp [*, errW_none, errW_some] <;> rfl), by repeat (first | (with_reducible first | exact HB.out | apply below_alloc | apply pw_below_drewN | apply below_drew1 | refine below_set ?_ GE262.out | refine below_set ?_ GE267.out) | exact HB.out)⟩
                  · rw [if_neg c49] at H
                    have c49b0 : decide (t260 ≤ t265) = false := decide_eq_false c49
                    clear c49
                    obtain rfl := Option.some.inj H
                    have hnb53 := NB262_267.out
                    have hnc53 := NB267_262.out
                    have hcz54_0 : wc.cell? ⟨gb262, 0, none⟩ = some (.int .i64 t258) := (blk_cell BK262.out 0).trans rfl
                    have hcz54_1 : wc.cell? ⟨gb262, 1, none⟩ = some (.int .i64 t259) := (blk_cell BK262.out 1).trans rfl
                    have hcz54_2 : wc.cell? ⟨gb262, 2, none⟩ = some (.int .i64 t260) := (blk_cell BK262.out 2).trans rfl
                    have hfz54_0 := blk_frozen BK262.out 0
                    have hfz54_1 := blk_frozen BK262.out 1
                    have hfz54_2 := blk_frozen BK262.out 2
                    have hcz55_0 : wc.cell? ⟨gb267, 0, none⟩ = some (.int .i64 t263) := (blk_cell BK267.out 0).trans rfl
                    have hcz55_1 : wc.cell? ⟨gb267, 1, none⟩ = some (.int .i64 t264) := (blk_cell BK267.out 1).trans rfl
                    have hcz55_2 : wc.cell? ⟨gb267, 2, none⟩ = some (.int .i64 t265) := (blk_cell BK267.out 2).trans rfl
                    have hfz55_0 := blk_frozen BK267.out 0
                    have hfz55_1 := blk_frozen BK267.out 1
                    have hfz55_2 := blk_frozen BK267.out 2
                    go_wp2
                    go_ret
                    exact ⟨by first | rfl | (simp [errW_none, errW_some] <;> rfl) | (simp [*, errW_none, errW_some] <;> rfl), by repeat (first | (with_reducible first | exact HB.out | apply below_alloc | apply pw_below_drewN | apply below_drew1 | refine below_set ?_ GE262.out | refine below_set ?_ GE267.out) | exact HB.out)⟩
                · rw [if_neg c48] at H
                  have c48b0 : ((wrap64 (t264 - t259)) == (wrap64 (x2_5 - x1_5))) = false := beq_eq_false_iff_ne.mpr c48
                  have c48b1 : ((wrap64 (t264 - t259)) != (wrap64 (x2_5 - x1_5))) = true := bne_iff_ne.mpr c48
                  obtain rfl := Option.some.inj H
                  have hnb56 := NB262_267.out
                  have hnc56 := NB267_262.out
                  have hcz57_0 : wc.cell? ⟨gb262, 0, none⟩ = some (.int .i64 t258) := (blk_cell BK262.out 0).trans rfl
                  have hcz57_1 : wc.cell? ⟨gb262, 1, none⟩ = some (.int .i64 t259) := (blk_cell BK262.out 1).trans rfl
                  have hcz57_2 : wc.cell? ⟨gb262, 2, none⟩ = some (.int .i64 t260) := (blk_cell BK262.out 2).trans rfl
                  have hfz57_0 := blk_frozen BK262.out 0
                  have hfz57_1 := blk_frozen BK262.out 1
                  have hfz57_2 := blk_frozen BK262.out 2
                  have hcz58_0 : wc.cell? ⟨gb267, 0, none⟩ = some (.int .i64 t263) := (blk_cell BK267.out 0).trans rfl
                  have hcz58_1 : wc.cell? ⟨gb267, 1, none⟩ = some (.int .i64 t264) := (blk_cell BK267.out 1).trans rfl
                  have hcz58_2 : wc.cell? ⟨gb267, 2, none⟩ = some (.int .i64 t265) := (blk_cell BK267.out 2).trans rfl
                  have hfz58_0 := blk_frozen BK267.out 0
                  have hfz58_1 := blk_frozen BK267.out 1
                  have hfz58_2 := blk_frozen BK267.out 2
                  go_wp2
                  go_ret
                  exact ⟨by first | rfl | (simp [errW_none, errW_some] <;> rfl) | (simp [*, errW_none, errW_some] <;> rfl), by repeat (first | (with_reducible first | exact HB.out | apply below_alloc | apply pw_below_drewN | apply below_drew1 | refine below_set ?_ GE262.out | refine below_set ?_ GE267.out) | exact HB.out)⟩
              · rw [if_neg c47] at H
                have c47b0 : (t258 == t263) = false := beq_eq_false_iff_ne.mpr c47
                have c47b1 : (t258 != t263) = true := bne_iff_ne.mpr c47
                by_cases c59 : t258 < t263
                · rw [if_pos c59] at H
                  have c59b0 : decide (t258 < t263) = true := decide_eq_true c59
                  clear c59
                  by_cases c60 : t259 ≥ 1
                  · rw [if_pos c60] at H
                    have c60b0 : decide (1 ≤ t259) = true := decide_eq_true c60
                    clear c60
                    by_cases c61 : t264 ≥ 1
                    · rw [if_pos c61] at H
                      have c61b0 : decide (1 ≤ t264) = true := decide_eq_true c61
                      clear c61
                      by_cases c62 : t265 ≥ 1
                      · rw [if_pos c62] at H
                        have c62b0 : decide (1 ≤ t265) = true := decide_eq_true c62
                        clear c62
                        obtain rfl := Option.some.inj H
                        have hnb63 := NB262_267.out
                        have hnc63 := NB267_262.out
                        have hcz64_0 : wc.cell? ⟨gb262, 0, none⟩ = some (.int .i64 t258) := (blk_cell BK262.out 0).trans rfl
                        have hcz64_1 : wc.cell? ⟨gb262, 1, none⟩ = some (.int .i64 t259) := (blk_cell BK262.out 1).trans rfl
                        have hcz64_2 : wc.cell? ⟨gb262, 2, none⟩ = some (.int .i64 t260) := (blk_cell BK262.out 2).trans rfl
                        have hfz64_0 := blk_frozen BK262.out 0
                        have hfz64_1 := blk_frozen BK262.out 1
                        have hfz64_2 := blk_frozen BK262.out 2
                        have hcz65_0 : wc.cell? ⟨gb267, 0, none⟩ = some (.int .i64 t263) := (blk_cell BK267.out 0).trans rfl
                        have hcz65_1 : wc.cell? ⟨gb267, 1, none⟩ = some (.int .i64 t264) := (blk_cell BK267.out 1).trans rfl
                        have hcz65_2 : wc.cell? ⟨gb267, 2, none⟩ = some (.int .i64 t265) := (blk_cell BK267.out 2).trans rfl
                        have hfz65_0 := blk_frozen BK267.out 0
                        have hfz65_1 := blk_frozen BK267.out 1
                        have hfz65_2 := blk_frozen BK267.out 2
                        go_wp2
                        go_ret
                        exact ⟨by first | rfl | (simp [errW_none, errW_some] <;> rfl) | (simp [*, errW_none, errW_some] <;> rfl), by repeat (first | (with_reducible first | exact HB.out | apply below_alloc | apply pw_below_drewN | apply below_drew1 | refine below_set ?_ GE262.out | refine below_set ?_ GE267.out) | exact HB.out)⟩
                      · rw [if_neg c62] at H
                        have c62b0 : decide (1 ≤ t265) = false := decide_eq_false c62
                        clear c62
                        obtain rfl := Option.some.inj H
                        have hnb66 := NB262_267.out
                        have hnc66 := NB267_262.out
                        have hcz67_0 : wc.cell? ⟨gb262, 0, none⟩ = some (.int .i64 t258) := (blk_cell BK262.out 0).trans rfl
                        have hcz67_1 : wc.cell? ⟨gb262, 1, none⟩ = some (.int .i64 t259) := (blk_cell BK262.out 1).trans rfl
                        have hcz67_2 : wc.cell? ⟨gb262, 2, none⟩ = some (.int .i64 t260) := (blk_cell BK262.out 2).trans rfl
                        have hfz67_0 := blk_frozen BK262.out 0
                        have hfz67_1 := blk_frozen BK262.out 1
                        have hfz67_2 := blk_frozen BK262.out 2
                        have hcz68_0 : wc.cell? ⟨gb267, 0, none⟩ = some (.int .i64 t263) := (blk_cell BK267.out 0).trans rfl
                        have hcz68_1 : wc.cell? ⟨gb267, 1, none⟩ = some (.int .i64 t264) := (blk_cell BK267.out 1).trans rfl
                        have hcz68_2 : wc.cell? ⟨gb267, 2, none⟩ = some (.int .i64 t265) := (blk_cell BK267.out 2).trans rfl
                        have hfz68_0 := blk_frozen BK267.out 0
                        have hfz68_1 := blk_frozen BK267.out 1
                        have hfz68_2 := blk_frozen BK267.out 2
                        go_wp2
                        go_ret
                        exact ⟨by first | rfl | (simp [errW_none, errW_some] <;> rfl) | (simp [*, errW_none, errW_some] <;> rfl), by repeat (first | (with_reducible first | exact HB.out | apply below_alloc | apply pw_below_drewN | apply below_drew1 | refine below_set ?_ GE262.out | refine below_set ?_ GE267.out) | exact HB.out)⟩
                    · rw [if_neg c61] at H
                      have c61b0 : decide (1 ≤ t264) = false := decide_eq_false c61
                      clear c61
                      obtain rfl := Option.some.inj H
                      have hnb69 := NB262_267.out
                      have hnc69 := NB267_262.out
                      have hcz70_0 : wc.cell? ⟨gb262, 0, none⟩ = some (.int .i64 t258) := (blk_cell BK262.out 0).trans rfl
                      have hcz70_1 : wc.cell? ⟨gb262, 1, none⟩ = some (.int .i64 t259) := (blk_cell BK262.out 1).trans rfl
                      have hcz70_2 : wc.cell? ⟨gb262, 2, none⟩ = some (.int .i64 t260) := (blk_cell BK262.out 2).trans rfl
                      have hfz70_0 := blk_frozen BK262.out 0
                      have hfz70_1 := blk_frozen BK262.out 1
                      have hfz70_2 := blk_frozen BK262.out 2
                      have hcz71_0 : wc.cell? ⟨gb267, 0, none⟩ = some (.int .i64 t263) := (blk_cell BK267.out 0).trans rfl
                      have hcz71_1 : wc.cell? ⟨gb267, 1, none⟩ = some (.int .i64 t264) := (blk_cell BK267.out 1).trans rfl
                      have hcz71_2 : wc.cell? ⟨gb267, 2, none⟩ = some (.int .i64 t265) := (blk_cell BK267.out 2).trans rfl
                      have hfz71_0 := blk_frozen BK267.out 0
                      have hfz71_1 := blk_frozen BK267.out 1
                      have hfz71_2 := blk_frozen BK267.out 2
                      go_wp2
                      go_ret
                      exact ⟨by first | rfl | (simp [errW_none, errW_some] <;> rfl) | (simp [*, errW_none, errW_some] <;> rfl), by repeat (first | (with_reducible first | exact HB.out | apply below_alloc | apply pw_below_drewN | apply below_drew1 | refine below_set ?_ GE262.out | refine below_set ?_ GE267.out) | exact HB.out)⟩
                  · rw [if_neg c60] at H
                    have c60b0 : decide (1 ≤ t259) = false := decide_eq_false c60
                    clear c60
                    obtain rfl := Option.some.inj H
                    have hnb72 := NB262_267.out
                    have hnc72 := NB267_262.out
                    have hcz73_0 : wc.cell? ⟨gb262, 0, none⟩ = some (.int .i64 t258) := (blk_cell BK262.out 0).trans rfl
                    have hcz73_1 : wc.cell? ⟨gb262, 1, none⟩ = some (.int .i64 t259) := (blk_cell BK262.out 1).trans rfl
                    have hcz73_2 : wc.cell? ⟨gb262, 2, none⟩ = some (.int .i64 t260) := (blk_cell BK262.out 2).trans rfl
                    have hfz73_0 := blk_frozen BK262.out 0
                    have hfz73_1 := blk_frozen BK262.out 1
                    have hfz73_2 := blk_frozen BK262.out 2
                    have hcz74_0 : wc.cell? ⟨gb267, 0, none⟩ = some (.int .i64 t263) := (blk_cell BK267.out 0).trans rfl
                    have hcz74_1 : wc.cell? ⟨gb267, 1, none⟩ = some (.int .i64 t264) := (blk_cell BK267.out 1).trans rfl
                    have hcz74_2 : wc.cell? ⟨gb267, 2, none⟩ = some (.int .i64 t265) := (blk_cell BK267.out 2).trans rfl
                    have hfz74_0 := blk_frozen BK267.out 0
                    have hfz74_1 := blk_frozen BK267.out 1
                    have hfz74_2 := blk_frozen BK267.out 2
                    go_wp2
                    go_ret
                    exact ⟨by first | rfl | (simp [errW_none, errW_some] <;> rfl) | (simp [*, errW_none, errW_some] <;> rfl), by repeat (first | (with_reducible first | exact HB.out | apply below_alloc | apply pw_below_drewN | apply below_drew1 | refine below_set ?_ GE262.out | refine below_set ?_ GE267.out) | exact HB.out)⟩
                · rw [if_neg c59] at H
                  have c59b0 : decide (t258 < t263) = false := decide_eq_false c59
                  clear c59
                  obtain rfl := Option.some.inj H
                  have hnb75 := NB262_267.out
                  have hnc75 := NB267_262.out
                  have hcz76_0 : wc.cell? ⟨gb262, 0, none⟩ = some (.int .i64 t258) := (blk_cell BK262.out 0).trans rfl
                  have hcz76_1 : wc.cell? ⟨gb262, 1, none⟩ = some (.int .i64 t259) := (blk_cell BK262.out 1).trans rfl
                  have hcz76_2 : wc.cell? ⟨gb262, 2, none⟩ = some (.int .i64 t260) := (blk_cell BK262.out 2).trans rfl
                  have hfz76_0 := blk_frozen BK262.out 0
                  have hfz76_1 := blk_frozen BK262.out 1
                  have hfz76_2 := blk_frozen BK262.out 2
                  have hcz77_0 : wc.cell? ⟨gb267, 0, none⟩ = some (.int .i64 t263) := (blk_cell BK267.out 0).trans rfl
                  have hcz77_1 : wc.cell? ⟨gb267, 1, none⟩ = some (.int .i64 t264) := (blk_cell BK267.out 1).trans rfl
                  have hcz77_2 : wc.cell? ⟨gb267, 2, none⟩ = some (.int .i64 t265) := (blk_cell BK267.out 2).trans rfl
                  have hfz77_0 := blk_frozen BK267.out 0
                  have hfz77_1 := blk_frozen BK267.out 1
                  have hfz77_2 := blk_frozen BK267.out 2
                  go_wp2
                  go_ret
                  exact ⟨by first | rfl | (simp [errW_none, errW_some] <;> rfl) | (simp [*, errW_none, errW_some] <;> rfl), by repeat (first | (with_reducible first | exact HB.out | apply below_alloc | apply pw_below_drewN | apply below_drew1 | refine below_set ?_ GE262.out | refine below_set ?_ GE267.out) | exact HB.out)⟩
  · replace c5 := Bool.eq_false_iff.mpr c5
    subst c5
    have H1 : (some false) = some r := by rw [if_neg (show ¬ (false = true) by decide)] at H; exact H
    clear H
    have H := H1
    clear H1
    obtain rfl := Option.some.inj H
    go_enter Try.func11, Try.ntmps11
    go_wp2_with (first | ((with_reducible refine gate_callee (f := 26) rfl ?_); refine goesL_ (some 11) rfl rfl Try.func26 (by kernel_rfl) rfl #[] rfl (by (try simp only [List.map_toArray, List.map_cons, List.map_nil]); first | done | rfl | (simp only [List.length_drop, List.length_take]; rfl)) ?_; (with_reducible refine (dowellaw02_works.calls k  false _ A4.out).mono ?_); rintro e w78 ⟨rfl, hb⟩; refine ⟨_, rfl, ?_⟩; have n0_ := Aside0.mk (below_step (by repeat (first | (with_reducible first | exact HB.out | apply below_alloc | apply pw_below_drewN | apply below_drew1) | exact HB.out)) hb); clear HB; have HB := n0_; clear n0_; (try clear hb); (try clear hb2); (try clear hk); (try clear hi)))
    go_ret
    exact ⟨by first | rfl | (simp [errW_none, errW_some] <;> rfl) | (simp [*, errW_none, errW_some] <;> rfl), by repeat (first | (with_reducible first | exact HB.out | apply below_alloc | apply pw_below_drewN | apply below_drew1) | exact HB.out)⟩

-- NOT PRINTED: function 12 (dowellaw02_PlaceTiles)

-- NOT PRINTED: function 13 (dowellaw02_PlaceShows)

end Go.Proofs.Ytkjckdgknbfaiaa.Qall
