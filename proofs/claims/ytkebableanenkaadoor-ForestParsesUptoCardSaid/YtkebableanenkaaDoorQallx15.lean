-- WRITTEN BY A PROGRAM OF THIS SESSION (wip/tools/myprint.py, over the kit's print); Lean checks it.
import Derived.Test.YtkebableanenkaaDoorQallx0
import Derived.Test.YtkebableanenkaaDoorQallx6
import Derived.Test.YtkebableanenkaaDoorQallx13
import Derived.Test.YtkebableanenkaaDoorQallx14
namespace Go.Proofs.YtkebableanenkaaDoor.Qall
open Go.RowKit Go.Proofs.YtkebableanenkaaDoorW.PrintWords Go.Proofs.YtkebableanenkaaDoorW.PrintLast Go.Proofs.YtkebableanenkaaDoorW.PrintMore
attribute [local go_sem] max2_int min2_int max_two min_two max_three min_three max_four min_four   -- for this text's walks alone
set_option linter.unusedVariables false
set_option linter.unusedSimpArgs false

/-! ### dowelref12_line: function 30 -/
mutual
def dowelref12_line.j1 : Nat → ByteArray → Int → Option (Int × ByteArray × Int × Int × Int × Bool)
  | 0, _, _ => none
  | k + 1, x0, x5 => (dowelref12_own.f k x0 x5).bind fun t290 => (if 0 ≤ x5 then (if x5 ≤ t290 then (if t290 ≤ (x0.size : Int) then (if (Int.tmod x5 2) = 0 then ((dowelref04_Own.f k (x0.extract (x5 : Int).toNat (t290 : Int).toNat)).bind fun t292 => (if t292 = true then (if t290 ≥ (x0.size : Int) then (dowelref12_line.j2 k x0 t290 x5 true (x0.extract (x5 : Int).toNat (t290 : Int).toNat) 0 0 0) else (if 0 ≤ t290 then (if t290 < (x0.size : Int) then (dowelref12_line.j2 k x0 t290 x5 ((bt x0 t290) != 32) (x0.extract (x5 : Int).toNat (t290 : Int).toNat) 0 0 0) else (none)) else (none))) else (dowelref12_line.j2 k x0 t290 x5 true (x0.extract (x5 : Int).toNat (t290 : Int).toNat) 0 0 0))) else (dowelref12_line.j2 k x0 t290 x5 true (x0.extract (x5 : Int).toNat (t290 : Int).toNat) 0 0 0)) else (none)) else (none)) else (none))
def dowelref12_line.j2 : Nat → ByteArray → Int → Int → Bool → ByteArray → Int → Int → Int → Option (Int × ByteArray × Int × Int × Int × Bool)
  | 0, _, _, _, _, _, _, _, _ => none
  | k + 1, x0, x5, x6, x53, x292000, x292001, x292002, x292003 => if x53 = true then (some (0, x292000, x292001, x292002, x292003, false)) else ((dowelref12_number.f k x0 (wrap64 (x5 + 1)) 65536).bind fun bt293 => (if bt293.2 = (wrap64 (x5 + 1)) then (dowelref12_line.j3 k x0 x6 bt293.1 bt293.2 true x292000 x292001 x292002 x292003) else (if bt293.2 ≥ (x0.size : Int) then (dowelref12_line.j3 k x0 x6 bt293.1 bt293.2 true x292000 x292001 x292002 x292003) else (if 0 ≤ bt293.2 then (if bt293.2 < (x0.size : Int) then (dowelref12_line.j3 k x0 x6 bt293.1 bt293.2 ((bt x0 bt293.2) != 32) x292000 x292001 x292002 x292003) else (none)) else (none)))))
def dowelref12_line.j3 : Nat → ByteArray → Int → Int → Int → Bool → ByteArray → Int → Int → Int → Option (Int × ByteArray × Int × Int × Int × Bool)
  | 0, _, _, _, _, _, _, _, _, _ => none
  | k + 1, x0, x6, x8, x9, x77, x292000, x292001, x292002, x292003 => if x77 = true then (some (0, x292000, x292001, x292002, x292003, false)) else ((dowelref12_number.f k x0 (wrap64 (x9 + 1)) 65536).bind fun bt295 => (if bt295.2 = (wrap64 (x9 + 1)) then (some (0, x292000, x292001, x292002, x292003, false)) else (if bt295.2 = (x0.size : Int) then (some (wrap64 (Int.tdiv x6 2), x292000, x8, bt295.1, x292003, true)) else (some (0, x292000, x292001, x292002, x292003, false)))))
def dowelref12_line.l0 : Nat → ByteArray → Int → Option (Int × ByteArray × Int × Int × Int × Bool)
  | 0, _, _ => none
  | k + 1, x0, x5 => if x5 < (x0.size : Int) then (if 0 ≤ x5 then (if (bt x0 x5) = 32 then (dowelref12_line.l0 k x0 (wrap64 (x5 + 1))) else (dowelref12_line.j1 k x0 x5)) else (none)) else (dowelref12_line.j1 k x0 x5)
end
def dowelref12_line.f (k : Nat) (a0 : ByteArray) : Option (Int × ByteArray × Int × Int × Int × Bool) := dowelref12_line.l0 k a0 0
theorem dowelref12_line.mono_l : ∀ k, (∀ y0 y1, LeO (dowelref12_line.j1 k y0 y1) (dowelref12_line.j1 (k + 1) y0 y1)) ∧ (∀ y0 y1 y2 y3 y4 y5 y6 y7, LeO (dowelref12_line.j2 k y0 y1 y2 y3 y4 y5 y6 y7) (dowelref12_line.j2 (k + 1) y0 y1 y2 y3 y4 y5 y6 y7)) ∧ (∀ y0 y1 y2 y3 y4 y5 y6 y7 y8, LeO (dowelref12_line.j3 k y0 y1 y2 y3 y4 y5 y6 y7 y8) (dowelref12_line.j3 (k + 1) y0 y1 y2 y3 y4 y5 y6 y7 y8)) ∧ (∀ y0 y1, LeO (dowelref12_line.l0 k y0 y1) (dowelref12_line.l0 (k + 1) y0 y1))
  | 0 => ⟨fun _ _ r h => by simp [dowelref12_line.j1] at h, fun _ _ _ _ _ _ _ _ r h => by simp [dowelref12_line.j2] at h, fun _ _ _ _ _ _ _ _ _ r h => by simp [dowelref12_line.j3] at h, fun _ _ r h => by simp [dowelref12_line.l0] at h⟩
  | k + 1 => by
    obtain ⟨ih0, ih1, ih2, ih3⟩ := dowelref12_line.mono_l k
    refine ⟨?_, ?_, ?_, ?_⟩
    · intro y0 y1
      unfold dowelref12_line.j1
      repeat' first
      | (with_reducible exact ih0 _ _)
      | (with_reducible exact ih1 _ _ _ _ _ _ _ _)
      | (with_reducible exact ih2 _ _ _ _ _ _ _ _ _)
      | (with_reducible exact ih3 _ _)
      | (with_reducible exact dowelref04_Own.mono _ _)
      | (with_reducible exact dowelref12_number.mono _ _ _ _)
      | (with_reducible exact dowelref12_own.mono _ _ _)
      | (with_reducible exact LeO.refl _)
      | (with_reducible exact LeO.none _)
      | (with_reducible refine LeO.ite ?_ ?_)
      | (with_reducible refine LeO.bind ?_ (fun _ => ?_))
      | exact ih0 _ _
      | exact ih1 _ _ _ _ _ _ _ _
      | exact ih2 _ _ _ _ _ _ _ _ _
      | exact ih3 _ _
      | exact dowelref04_Own.mono _ _
      | exact dowelref12_number.mono _ _ _ _
      | exact dowelref12_own.mono _ _ _
      | exact LeO.none _
      | refine LeO.ite ?_ ?_
      | refine LeO.bind ?_ (fun _ => ?_)
    · intro y0 y1 y2 y3 y4 y5 y6 y7
      unfold dowelref12_line.j2
      repeat' first
      | (with_reducible exact ih0 _ _)
      | (with_reducible exact ih1 _ _ _ _ _ _ _ _)
      | (with_reducible exact ih2 _ _ _ _ _ _ _ _ _)
      | (with_reducible exact ih3 _ _)
      | (with_reducible exact dowelref04_Own.mono _ _)
      | (with_reducible exact dowelref12_number.mono _ _ _ _)
      | (with_reducible exact dowelref12_own.mono _ _ _)
      | (with_reducible exact LeO.refl _)
      | (with_reducible exact LeO.none _)
      | (with_reducible refine LeO.ite ?_ ?_)
      | (with_reducible refine LeO.bind ?_ (fun _ => ?_))
      | exact ih0 _ _
      | exact ih1 _ _ _ _ _ _ _ _
      | exact ih2 _ _ _ _ _ _ _ _ _
      | exact ih3 _ _
      | exact dowelref04_Own.mono _ _
      | exact dowelref12_number.mono _ _ _ _
      | exact dowelref12_own.mono _ _ _
      | exact LeO.none _
      | refine LeO.ite ?_ ?_
      | refine LeO.bind ?_ (fun _ => ?_)
    · intro y0 y1 y2 y3 y4 y5 y6 y7 y8
      unfold dowelref12_line.j3
      repeat' first
      | (with_reducible exact ih0 _ _)
      | (with_reducible exact ih1 _ _ _ _ _ _ _ _)
      | (with_reducible exact ih2 _ _ _ _ _ _ _ _ _)
      | (with_reducible exact ih3 _ _)
      | (with_reducible exact dowelref04_Own.mono _ _)
      | (with_reducible exact dowelref12_number.mono _ _ _ _)
      | (with_reducible exact dowelref12_own.mono _ _ _)
      | (with_reducible exact LeO.refl _)
      | (with_reducible exact LeO.none _)
      | (with_reducible refine LeO.ite ?_ ?_)
      | (with_reducible refine LeO.bind ?_ (fun _ => ?_))
      | exact ih0 _ _
      | exact ih1 _ _ _ _ _ _ _ _
      | exact ih2 _ _ _ _ _ _ _ _ _
      | exact ih3 _ _
      | exact dowelref04_Own.mono _ _
      | exact dowelref12_number.mono _ _ _ _
      | exact dowelref12_own.mono _ _ _
      | exact LeO.none _
      | refine LeO.ite ?_ ?_
      | refine LeO.bind ?_ (fun _ => ?_)
    · intro y0 y1
      unfold dowelref12_line.l0
      repeat' first
      | (with_reducible exact ih0 _ _)
      | (with_reducible exact ih1 _ _ _ _ _ _ _ _)
      | (with_reducible exact ih2 _ _ _ _ _ _ _ _ _)
      | (with_reducible exact ih3 _ _)
      | (with_reducible exact dowelref04_Own.mono _ _)
      | (with_reducible exact dowelref12_number.mono _ _ _ _)
      | (with_reducible exact dowelref12_own.mono _ _ _)
      | (with_reducible exact LeO.refl _)
      | (with_reducible exact LeO.none _)
      | (with_reducible refine LeO.ite ?_ ?_)
      | (with_reducible refine LeO.bind ?_ (fun _ => ?_))
      | exact ih0 _ _
      | exact ih1 _ _ _ _ _ _ _ _
      | exact ih2 _ _ _ _ _ _ _ _ _
      | exact ih3 _ _
      | exact dowelref04_Own.mono _ _
      | exact dowelref12_number.mono _ _ _ _
      | exact dowelref12_own.mono _ _ _
      | exact LeO.none _
      | refine LeO.ite ?_ ?_
      | refine LeO.bind ?_ (fun _ => ?_)
theorem dowelref12_line.mono : ∀ a0 k, LeO (dowelref12_line.f k a0) (dowelref12_line.f (k + 1) a0) := by
  intro a0 k
  obtain ⟨ih0, ih1, ih2, ih3⟩ := dowelref12_line.mono_l k
  unfold dowelref12_line.f
  repeat' first
      | (with_reducible exact ih0 _ _)
      | (with_reducible exact ih1 _ _ _ _ _ _ _ _)
      | (with_reducible exact ih2 _ _ _ _ _ _ _ _ _)
      | (with_reducible exact ih3 _ _)
      | (with_reducible exact dowelref04_Own.mono _ _)
      | (with_reducible exact dowelref12_number.mono _ _ _ _)
      | (with_reducible exact dowelref12_own.mono _ _ _)
      | (with_reducible exact LeO.refl _)
      | (with_reducible exact LeO.none _)
      | (with_reducible refine LeO.ite ?_ ?_)
      | (with_reducible refine LeO.bind ?_ (fun _ => ?_))
      | exact ih0 _ _
      | exact ih1 _ _ _ _ _ _ _ _
      | exact ih2 _ _ _ _ _ _ _ _ _
      | exact ih3 _ _
      | exact dowelref04_Own.mono _ _
      | exact dowelref12_number.mono _ _ _ _
      | exact dowelref12_own.mono _ _ _
      | exact LeO.none _
      | refine LeO.ite ?_ ?_
      | refine LeO.bind ?_ (fun _ => ?_)
set_option maxHeartbeats 8000000 in
set_option maxRecDepth 100000 in
theorem dowelref12_line.calls (k : Nat) (a0 : ByteArray) (r1 : Int) (r2 : ByteArray) (r3 : Int) (r4 : Int) (r5 : Int) (r6 : Bool) (w : World) (h : dowelref12_line.f k a0 = some (r1, r2, r3, r4, r5, r6)) :
    Calls Tryd.prog 30 #[.string a0] w fun e w' => e = .returned (.tuple #[.int .i64 r1, .agg #[.string r2, .int .i64 r3, .int .i64 r4, .int .i64 r5], .bool r6]) ∧ Below w.heap.size w w' := by
  have hu37 := Tryd.underlying37
  have HB := Aside0.mk (Below.refl w.heap.size w)
  have H : (dowelref12_line.l0 k a0 0) = some (r1, r2, r3, r4, r5, r6) := h
  clear h
  have HC2 := Aside0.mk H
  clear H
  go_enter Tryd.func30, Tryd.ntmps30
  go_upto_block 0 with (first | ((with_reducible refine gate_dst (N := 3) rfl ?_); (try (refine gate_guard (by rfl) ?_; dsimp only)); refine box_event ?hg (N := 3) ?hd (cs := #[.string (⟨#[]⟩ : ByteArray), .int .i64 0, .int .i64 0, .int .i64 0]) (t := 37) ?hr ?_; (case hd => rfl); (case hg => rfl); (case hr => first | (go_simp; done) | (go_simp; rfl)); intro gb289 hg w3 hbox hb; have n0_ := Aside0.mk (below_step (by repeat (first | (with_reducible first | exact HB.out | apply below_alloc | apply pw_below_drewN | apply below_drew1) | exact HB.out)) hb); have n1_ := Aside0.mk (hbox); have n2_ := Aside0.mk ((by rw [hg]; exact (below_size (by repeat (first | (with_reducible first | exact HB.out | apply below_alloc | apply pw_below_drewN | apply below_drew1) | exact HB.out))) : w.heap.size ≤ gb289)); have n3_ := Aside0.mk ((by rw [hg]; exact (below_size (by repeat (first | (with_reducible first | exact HB.out | apply below_alloc | apply pw_below_drewN | apply below_drew1) | exact HB.out))) : w.heap.size ≤ gb289)); clear HB; have HB := n0_; have BK289 := n1_; have GW289 := n2_; have GE289 := n3_; clear n0_ n1_ n2_ n3_; clear hb hbox hg))
  (try simp only [Act.put, List.setIfInBounds_toArray, List.set_cons_zero, List.set_cons_succ])
  go_cut [5] (fun v5 wc => ∃ (kq : Nat) (x5_1 : Int), v5 = .int .i64 x5_1 ∧ Aside0 (dowelref12_line.j1 kq a0 x5_1 = some (r1, r2, r3, r4, r5, r6)) ∧ Aside0 (kq ≤ k) ∧ Aside0 (wc.heap[gb289]? = some (.cells #[.string (⟨#[]⟩ : ByteArray), .int .i64 0, .int .i64 0, .int .i64 0] 37 (0, 0))) ∧ Aside0 (Below w.heap.size w wc))
  case first =>
    have H := HC2.out
    clear HC2
    have H' := Aside0.mk H
    clear H
    go_wp2
    go_loopg [5] k (fun kq v5 w' => ∃ (x5_1 : Int), v5 = .int .i64 x5_1 ∧ Aside0 (dowelref12_line.l0 kq a0 x5_1 = some (r1, r2, r3, r4, r5, r6)) ∧ Aside0 (kq ≤ k) ∧ Aside0 (w'.heap[gb289]? = some (.cells #[.string (⟨#[]⟩ : ByteArray), .int .i64 0, .int .i64 0, .int .i64 0] 37 (0, 0))) ∧ Aside0 (Below w.heap.size w w'))
    case atStart => exact ⟨(0), (by first | rfl | (simp; done) | (simp [*]; done)), H', ⟨Nat.le_refl _⟩, ⟨by (with_reducible repeat (first | refine blk_drewN ?_ _ | refine blk_drew ?_ | refine blk_alloc ?_ _)); exact BK289.out⟩, ⟨by repeat (first | (with_reducible first | exact HB.out | apply below_alloc | apply pw_below_drewN | apply below_drew1 | refine below_set ?_ GE289.out) | exact HB.out)⟩⟩
    case round =>
      clear H'
      try clear p2
      try clear c3
      obtain ⟨x5_1, rfl, HA, HK1, BK289, HB⟩ := hrel
      cases gk with
      | zero => exact absurd HA.out (by simp [dowelref12_line.l0])
      | succ k1 =>
        have H := HA.out
        clear HA
        simp only [dowelref12_line.l0] at H
        by_cases c4 : x5_1 < (a0.size : Int)
        · rw [if_pos c4] at H
          have c4b0 : decide (x5_1 < (a0.size : Int)) = true := decide_eq_true c4
          clear c4
          (first | rw [c4b0] | (simp only [i64_w, i32_w]; rw [c4b0]) | skip)
          by_cases c5 : 0 ≤ x5_1
          · rw [if_pos c5] at H
            have c5b0 : decide (0 ≤ x5_1) = true := decide_eq_true c5
            clear c5
            by_cases c7 : (bt a0 x5_1) = 32
            · rw [if_pos c7] at H
              have c7b0 : ((bt a0 x5_1) == 32) = true := beq_iff_eq.mpr c7
              have c7b1 : ((bt a0 x5_1) != 32) = false := bne_eq_false_iff_eq.mpr c7
              clear c7
              have H' := Aside0.mk H
              clear H
              have p6 : 0 ≤ (x5_1 : Int) := of_decide_eq_true (by first | (with_reducible assumption) | assumption)
              have q6 : x5_1 < (a0.size : Int) := of_decide_eq_true (by first | (with_reducible assumption) | assumption)
              have hx6 := bt_at a0 x5_1
              replace p6 := eq_true p6
              replace q6 := eq_true q6
              go_wp2
              go_roundg k1
              case measure => have := HK1.out; omega
              case rel => exact ⟨(wrap64 (x5_1 + 1)), (by first | rfl | (simp; done) | (simp [*]; done)), H', ⟨by have := HK1.out; omega⟩, ⟨by (with_reducible repeat (first | refine blk_drewN ?_ _ | refine blk_drew ?_ | refine blk_alloc ?_ _)); exact BK289.out⟩, ⟨by repeat (first | (with_reducible first | exact HB.out | apply below_alloc | apply pw_below_drewN | apply below_drew1 | refine below_set ?_ GE289.out) | exact HB.out)⟩⟩
            · rw [if_neg c7] at H
              have c7b0 : ((bt a0 x5_1) == 32) = false := beq_eq_false_iff_ne.mpr c7
              have c7b1 : ((bt a0 x5_1) != 32) = true := bne_iff_ne.mpr c7
              have H' := Aside0.mk H
              clear H
              have p6 : 0 ≤ (x5_1 : Int) := of_decide_eq_true (by first | (with_reducible assumption) | assumption)
              have q6 : x5_1 < (a0.size : Int) := of_decide_eq_true (by first | (with_reducible assumption) | assumption)
              have hx6 := bt_at a0 x5_1
              replace p6 := eq_true p6
              replace q6 := eq_true q6
              go_wp2
              go_meet
              case rel => exact ⟨_, (x5_1), (by first | rfl | (simp; done) | (simp [*]; done)), H', ⟨by have := HK1.out; first | omega | exact Nat.le_refl _⟩, ⟨by (with_reducible repeat (first | refine blk_drewN ?_ _ | refine blk_drew ?_ | refine blk_alloc ?_ _)); exact BK289.out⟩, ⟨by repeat (first | (with_reducible first | exact HB.out | apply below_alloc | apply pw_below_drewN | apply below_drew1 | refine below_set ?_ GE289.out) | exact HB.out)⟩⟩
          · rw [if_neg c5] at H
            exact absurd H (by simp)
        · rw [if_neg c4] at H
          have c4b0 : decide (x5_1 < (a0.size : Int)) = false := decide_eq_false c4
          clear c4
          (first | rw [c4b0] | (simp only [i64_w, i32_w]; rw [c4b0]) | skip)
          have H' := Aside0.mk H
          clear H
          go_wp2
          go_meet
          case rel => exact ⟨_, (x5_1), (by first | rfl | (simp; done) | (simp [*]; done)), H', ⟨by have := HK1.out; first | omega | exact Nat.le_refl _⟩, ⟨by (with_reducible repeat (first | refine blk_drewN ?_ _ | refine blk_drew ?_ | refine blk_alloc ?_ _)); exact BK289.out⟩, ⟨by repeat (first | (with_reducible first | exact HB.out | apply below_alloc | apply pw_below_drewN | apply below_drew1 | refine below_set ?_ GE289.out) | exact HB.out)⟩⟩
  case rest =>
    clear HC2
    try clear p2
    try clear c3
    try clear c4
    try clear c4b0
    try clear c5
    try clear c5b0
    try clear p6
    try clear q6
    try clear hx6
    try clear c7
    try clear c7b0
    try clear c7b1
    try clear p2
    try clear p6
    try clear q6
    obtain ⟨kq, x5_1, rfl, HA, HJ1, BK289, HB⟩ := hcut
    cases kq with
    | zero => exact absurd HA.out (by simp [dowelref12_line.j1])
    | succ kj1 =>
      have H := HA.out
      clear HA
      simp only [dowelref12_line.j1] at H
      replace H := Option.bind_eq_some_iff.mp H
      obtain ⟨t290, A80, H⟩ := H
      replace H : (if 0 ≤ x5_1 then (if x5_1 ≤ t290 then (if t290 ≤ (a0.size : Int) then (if (Int.tmod x5_1 2) = 0 then ((dowelref04_Own.f kj1 (a0.extract (x5_1 : Int).toNat (t290 : Int).toNat)).bind fun t292 => (if t292 = true then (if t290 ≥ (a0.size : Int) then (dowelref12_line.j2 kj1 a0 t290 x5_1 true (a0.extract (x5_1 : Int).toNat (t290 : Int).toNat) 0 0 0) else (if 0 ≤ t290 then (if t290 < (a0.size : Int) then (dowelref12_line.j2 kj1 a0 t290 x5_1 ((bt a0 t290) != 32) (a0.extract (x5_1 : Int).toNat (t290 : Int).toNat) 0 0 0) else (none)) else (none))) else (dowelref12_line.j2 kj1 a0 t290 x5_1 true (a0.extract (x5_1 : Int).toNat (t290 : Int).toNat) 0 0 0))) else (dowelref12_line.j2 kj1 a0 t290 x5_1 true (a0.extract (x5_1 : Int).toNat (t290 : Int).toNat) 0 0 0)) else (none)) else (none)) else (none)) = some (r1, r2, r3, r4, r5, r6) := H
      have A8 := Aside0.mk A80
      clear A80
      by_cases c9 : 0 ≤ x5_1
      · rw [if_pos c9] at H
        have c9b0 := eq_true c9
        have c9b1 : decide (0 ≤ x5_1) = true := decide_eq_true c9
        clear c9
        by_cases c10 : x5_1 ≤ t290
        · rw [if_pos c10] at H
          have c10b0 := eq_true c10
          have c10b1 : decide (x5_1 ≤ t290) = true := decide_eq_true c10
          clear c10
          by_cases c11 : t290 ≤ (a0.size : Int)
          · rw [if_pos c11] at H
            have c11b0 := eq_true c11
            have c11b1 : decide (t290 ≤ (a0.size : Int)) = true := decide_eq_true c11
            clear c11
            have HC12 := Aside0.mk H
            clear H
            go_upto_region 7 with (first | ((with_reducible refine gate_callee (f := 54) rfl ?_); refine goesL_ (some 27) rfl rfl Tryd.func54 (by kernel_rfl) rfl #[.string a0, .int .i64 x5_1] rfl (by (try simp only [List.map_toArray, List.map_cons, List.map_nil]); first | done | rfl | (simp only [List.length_drop, List.length_take]; rfl)) ?_; (with_reducible refine (dowelref12_own.calls kj1 a0 x5_1 t290 _ A8.out).mono ?_); rintro e w' ⟨rfl, ⟨nd, rfl⟩⟩; refine ⟨_, rfl, ?_⟩; (try (rw [drewN_self wc]; generalize hq_ : World.drewN wc _ = wc; have n0_ : Aside0 (wc.heap[gb289]? = some (.cells #[.string (⟨#[]⟩ : ByteArray), .int .i64 0, .int .i64 0, .int .i64 0] 37 (0, 0))) := ⟨by rw [← hq_]; exact (by (with_reducible repeat (first | refine blk_drewN ?_ _ | refine blk_drew ?_ | refine blk_alloc ?_ _)); exact BK289.out)⟩; have n1_ : Aside0 (Below w.heap.size w wc) := ⟨by rw [← hq_]; exact (by repeat (first | (with_reducible first | exact HB.out | apply below_alloc | apply pw_below_drewN | apply below_drew1 | refine below_set ?_ GE289.out) | exact HB.out))⟩; clear BK289 HB hq_; have BK289 := n0_; have HB := n1_; clear n0_ n1_))) | ((with_reducible refine gate_dst (N := 7) rfl ?_); (try (refine gate_guard (by rfl) ?_; dsimp only)); refine box_event ?hg (N := 7) ?hd (cs := #[.string (⟨#[]⟩ : ByteArray), .int .i64 0, .int .i64 0, .int .i64 0]) (t := 37) ?hr ?_; (case hd => rfl); (case hg => rfl); (case hr => first | (go_simp; done) | (go_simp; rfl)); intro gb291 hg w13 hbox hb; have n0_ := Aside0.mk (blk_below (g := gb289) (o := .cells #[.string (⟨#[]⟩ : ByteArray), .int .i64 0, .int .i64 0, .int .i64 0] 37 (0, 0)) (by (with_reducible repeat (first | refine blk_drewN ?_ _ | refine blk_drew ?_ | refine blk_alloc ?_ _)); exact BK289.out) hb); have n1_ := Aside0.mk (below_step (by repeat (first | (with_reducible first | exact HB.out | apply below_alloc | apply pw_below_drewN | apply below_drew1 | refine below_set ?_ GE289.out) | exact HB.out)) hb); have n2_ := Aside0.mk (hbox); have n3_ := Aside0.mk ((by rw [hg]; exact (below_size (by repeat (first | (with_reducible first | exact HB.out | apply below_alloc | apply pw_below_drewN | apply below_drew1 | refine below_set ?_ GE289.out) | exact HB.out))) : w.heap.size ≤ gb291)); have n4_ := Aside0.mk ((by rw [hg]; exact (below_size (by repeat (first | (with_reducible first | exact HB.out | apply below_alloc | apply pw_below_drewN | apply below_drew1 | refine below_set ?_ GE289.out) | exact HB.out))) : w.heap.size ≤ gb291)); have n5_ := Aside0.mk ((by rw [hg]; exact Nat.ne_of_lt (blk_lt (g := gb289) (o := .cells #[.string (⟨#[]⟩ : ByteArray), .int .i64 0, .int .i64 0, .int .i64 0] 37 (0, 0)) (by (with_reducible repeat (first | refine blk_drewN ?_ _ | refine blk_drew ?_ | refine blk_alloc ?_ _)); exact BK289.out)) : gb289 ≠ gb291)); have n6_ := Aside0.mk ((by rw [hg]; exact Nat.ne_of_gt (blk_lt (g := gb289) (o := .cells #[.string (⟨#[]⟩ : ByteArray), .int .i64 0, .int .i64 0, .int .i64 0] 37 (0, 0)) (by (with_reducible repeat (first | refine blk_drewN ?_ _ | refine blk_drew ?_ | refine blk_alloc ?_ _)); exact BK289.out)) : gb291 ≠ gb289)); clear BK289; clear HB; have BK289 := n0_; have HB := n1_; have BK291 := n2_; have GW291 := n3_; have GE291 := n4_; have NB289_291 := n5_; have NB291_289 := n6_; clear n0_ n1_ n2_ n3_ n4_ n5_ n6_; clear hb hbox hg; have hnb14 := NB291_289.out; have hnc14 := NB289_291.out; have hcz15_0 : w13.cell? ⟨gb291, 0, none⟩ = some (.string (⟨#[]⟩ : ByteArray)) := (blk_cell BK291.out 0).trans rfl; have hcz15_1 : w13.cell? ⟨gb291, 1, none⟩ = some (.int .i64 0) := (blk_cell BK291.out 1).trans rfl; have hcz15_2 : w13.cell? ⟨gb291, 2, none⟩ = some (.int .i64 0) := (blk_cell BK291.out 2).trans rfl; have hcz15_3 : w13.cell? ⟨gb291, 3, none⟩ = some (.int .i64 0) := (blk_cell BK291.out 3).trans rfl; have hfz15_0 := blk_frozen BK291.out 0; have hfz15_1 := blk_frozen BK291.out 1; have hfz15_2 := blk_frozen BK291.out 2; have hfz15_3 := blk_frozen BK291.out 3))
            (try simp only [Act.put, List.setIfInBounds_toArray, List.set_cons_zero, List.set_cons_succ])
            go_cut [53] (fun v53 wc => ∃ (kq : Nat) (x53_11 : Bool), v53 = .bool x53_11 ∧ Aside0 (dowelref12_line.j2 kq a0 t290 x5_1 x53_11 (a0.extract (x5_1 : Int).toNat (t290 : Int).toNat) 0 0 0 = some (r1, r2, r3, r4, r5, r6)) ∧ Aside0 (kq ≤ kj1) ∧ Aside0 (wc.heap[gb289]? = some (.cells #[.string (⟨#[]⟩ : ByteArray), .int .i64 0, .int .i64 0, .int .i64 0] 37 (0, 0))) ∧ Aside0 (wc.heap[gb291]? = some (.cells #[.string (a0.extract (x5_1 : Int).toNat (t290 : Int).toNat), .int .i64 0, .int .i64 0, .int .i64 0] 37 (0, 0))) ∧ Aside0 (Below w.heap.size w wc))
            case first =>
              have H := HC12.out
              clear HC12
              by_cases c16 : (Int.tmod x5_1 2) = 0
              · rw [if_pos c16] at H
                have c16b0 : ((Int.tmod x5_1 2) == 0) = true := beq_iff_eq.mpr c16
                have c16b1 : ((Int.tmod x5_1 2) != 0) = false := bne_eq_false_iff_eq.mpr c16
                clear c16
                (first | rw [c16b0] | (simp only [i64_w, i32_w]; rw [c16b0]) | skip)
                replace H := Option.bind_eq_some_iff.mp H
                obtain ⟨t292, A170, H⟩ := H
                replace H : (if t292 = true then (if t290 ≥ (a0.size : Int) then (dowelref12_line.j2 kj1 a0 t290 x5_1 true (a0.extract (x5_1 : Int).toNat (t290 : Int).toNat) 0 0 0) else (if 0 ≤ t290 then (if t290 < (a0.size : Int) then (dowelref12_line.j2 kj1 a0 t290 x5_1 ((bt a0 t290) != 32) (a0.extract (x5_1 : Int).toNat (t290 : Int).toNat) 0 0 0) else (none)) else (none))) else (dowelref12_line.j2 kj1 a0 t290 x5_1 true (a0.extract (x5_1 : Int).toNat (t290 : Int).toNat) 0 0 0)) = some (r1, r2, r3, r4, r5, r6) := H
                have A17 := Aside0.mk A170
                clear A170
                by_cases c18 : t292 = true
                · subst c18
                  have H1 : (if t290 ≥ (a0.size : Int) then (dowelref12_line.j2 kj1 a0 t290 x5_1 true (a0.extract (x5_1 : Int).toNat (t290 : Int).toNat) 0 0 0) else (if 0 ≤ t290 then (if t290 < (a0.size : Int) then (dowelref12_line.j2 kj1 a0 t290 x5_1 ((bt a0 t290) != 32) (a0.extract (x5_1 : Int).toNat (t290 : Int).toNat) 0 0 0) else (none)) else (none))) = some (r1, r2, r3, r4, r5, r6) := by rw [if_pos rfl] at H; exact H
                  clear H
                  have H := H1
                  clear H1
                  by_cases c19 : t290 ≥ (a0.size : Int)
                  · rw [if_pos c19] at H
                    have c19b0 : decide ((a0.size : Int) ≤ t290) = true := decide_eq_true c19
                    clear c19
                    have H' := Aside0.mk H
                    clear H
                    have hnb20 := NB291_289.out
                    have hnc20 := NB289_291.out
                    have hcz21_0 : w13.cell? ⟨gb291, 0, none⟩ = some (.string (⟨#[]⟩ : ByteArray)) := (blk_cell BK291.out 0).trans rfl
                    have hcz21_1 : w13.cell? ⟨gb291, 1, none⟩ = some (.int .i64 0) := (blk_cell BK291.out 1).trans rfl
                    have hcz21_2 : w13.cell? ⟨gb291, 2, none⟩ = some (.int .i64 0) := (blk_cell BK291.out 2).trans rfl
                    have hcz21_3 : w13.cell? ⟨gb291, 3, none⟩ = some (.int .i64 0) := (blk_cell BK291.out 3).trans rfl
                    have hfz21_0 := blk_frozen BK291.out 0
                    have hfz21_1 := blk_frozen BK291.out 1
                    have hfz21_2 := blk_frozen BK291.out 2
                    have hfz21_3 := blk_frozen BK291.out 3
                    go_wp2_with (first | (go_at_call 55; (with_reducible refine (dowelref04_Own.calls kj1 (a0.extract (x5_1 : Int).toNat (t290 : Int).toNat) true _ A17.out).mono ?_); rintro e w' ⟨rfl, ⟨nd, rfl⟩⟩))
                    go_meet
                    case rel => exact ⟨_, (true), (by first | rfl | (simp; done) | (simp [*]; done)), H', ⟨by have := HJ1.out; first | omega | exact Nat.le_refl _⟩, ⟨by (with_reducible repeat (first | refine blk_drewN ?_ _ | refine blk_drew ?_ | refine blk_alloc ?_ _)); refine blk_far ?_ NB289_291.out _; (with_reducible repeat (first | refine blk_drewN ?_ _ | refine blk_drew ?_ | refine blk_alloc ?_ _)); refine blk_far ?_ NB289_291.out _; (with_reducible repeat (first | refine blk_drewN ?_ _ | refine blk_drew ?_ | refine blk_alloc ?_ _)); refine blk_far ?_ NB289_291.out _; (with_reducible repeat (first | refine blk_drewN ?_ _ | refine blk_drew ?_ | refine blk_alloc ?_ _)); refine blk_far ?_ NB289_291.out _; (with_reducible repeat (first | refine blk_drewN ?_ _ | refine blk_drew ?_ | refine blk_alloc ?_ _)); exact BK289.out⟩, ⟨by (with_reducible repeat (first | refine blk_drewN ?_ _ | refine blk_drew ?_ | refine blk_alloc ?_ _)); refine blk_put (cs := #[.string (a0.extract (x5_1 : Int).toNat (t290 : Int).toNat), .int .i64 0, .int .i64 0, .int .i64 0]) ?_ 3 _ rfl; (with_reducible repeat (first | refine blk_drewN ?_ _ | refine blk_drew ?_ | refine blk_alloc ?_ _)); refine blk_put (cs := #[.string (a0.extract (x5_1 : Int).toNat (t290 : Int).toNat), .int .i64 0, .int .i64 0, .int .i64 0]) ?_ 2 _ rfl; (with_reducible repeat (first | refine blk_drewN ?_ _ | refine blk_drew ?_ | refine blk_alloc ?_ _)); refine blk_put (cs := #[.string (a0.extract (x5_1 : Int).toNat (t290 : Int).toNat), .int .i64 0, .int .i64 0, .int .i64 0]) ?_ 1 _ rfl; (with_reducible repeat (first | refine blk_drewN ?_ _ | refine blk_drew ?_ | refine blk_alloc ?_ _)); refine blk_put (cs := #[.string (⟨#[]⟩ : ByteArray), .int .i64 0, .int .i64 0, .int .i64 0]) ?_ 0 _ rfl; (with_reducible repeat (first | refine blk_drewN ?_ _ | refine blk_drew ?_ | refine blk_alloc ?_ _)); exact BK291.out⟩, ⟨by repeat (first | (with_reducible first | exact HB.out | apply below_alloc | apply pw_below_drewN | apply below_drew1 | refine below_set ?_ GE289.out | refine below_set ?_ GE291.out) | exact HB.out)⟩⟩
                  · rw [if_neg c19] at H
                    have c19b0 : decide ((a0.size : Int) ≤ t290) = false := decide_eq_false c19
                    clear c19
                    by_cases c22 : 0 ≤ t290
                    · rw [if_pos c22] at H
                      have c22b0 : decide (0 ≤ t290) = true := decide_eq_true c22
                      clear c22
                      by_cases c23 : t290 < (a0.size : Int)
                      · rw [if_pos c23] at H
                        have c23b0 : decide (t290 < (a0.size : Int)) = true := decide_eq_true c23
                        clear c23
                        have H' := Aside0.mk H
                        clear H
                        have hnb25 := NB291_289.out
                        have hnc25 := NB289_291.out
                        have hcz26_0 : w13.cell? ⟨gb291, 0, none⟩ = some (.string (⟨#[]⟩ : ByteArray)) := (blk_cell BK291.out 0).trans rfl
                        have hcz26_1 : w13.cell? ⟨gb291, 1, none⟩ = some (.int .i64 0) := (blk_cell BK291.out 1).trans rfl
                        have hcz26_2 : w13.cell? ⟨gb291, 2, none⟩ = some (.int .i64 0) := (blk_cell BK291.out 2).trans rfl
                        have hcz26_3 : w13.cell? ⟨gb291, 3, none⟩ = some (.int .i64 0) := (blk_cell BK291.out 3).trans rfl
                        have hfz26_0 := blk_frozen BK291.out 0
                        have hfz26_1 := blk_frozen BK291.out 1
                        have hfz26_2 := blk_frozen BK291.out 2
                        have hfz26_3 := blk_frozen BK291.out 3
                        go_wp2_with (first | (go_at_call 55; (with_reducible refine (dowelref04_Own.calls kj1 (a0.extract (x5_1 : Int).toNat (t290 : Int).toNat) true _ A17.out).mono ?_); rintro e w' ⟨rfl, ⟨nd, rfl⟩⟩; have p24 : 0 ≤ (t290 : Int) := of_decide_eq_true (by first | (with_reducible assumption) | assumption); have q24 : t290 < (a0.size : Int) := of_decide_eq_true (by first | (with_reducible assumption) | assumption); have hx24 := bt_at a0 t290; replace p24 := eq_true p24; replace q24 := eq_true q24))
                        go_meet
                        case rel => exact ⟨_, (((bt a0 t290) != 32)), (by first | rfl | (simp; done) | (simp [*]; done)), H', ⟨by have := HJ1.out; first | omega | exact Nat.le_refl _⟩, ⟨by (with_reducible repeat (first | refine blk_drewN ?_ _ | refine blk_drew ?_ | refine blk_alloc ?_ _)); refine blk_far ?_ NB289_291.out _; (with_reducible repeat (first | refine blk_drewN ?_ _ | refine blk_drew ?_ | refine blk_alloc ?_ _)); refine blk_far ?_ NB289_291.out _; (with_reducible repeat (first | refine blk_drewN ?_ _ | refine blk_drew ?_ | refine blk_alloc ?_ _)); refine blk_far ?_ NB289_291.out _; (with_reducible repeat (first | refine blk_drewN ?_ _ | refine blk_drew ?_ | refine blk_alloc ?_ _)); refine blk_far ?_ NB289_291.out _; (with_reducible repeat (first | refine blk_drewN ?_ _ | refine blk_drew ?_ | refine blk_alloc ?_ _)); exact BK289.out⟩, ⟨by (with_reducible repeat (first | refine blk_drewN ?_ _ | refine blk_drew ?_ | refine blk_alloc ?_ _)); refine blk_put (cs := #[.string (a0.extract (x5_1 : Int).toNat (t290 : Int).toNat), .int .i64 0, .int .i64 0, .int .i64 0]) ?_ 3 _ rfl; (with_reducible repeat (first | refine blk_drewN ?_ _ | refine blk_drew ?_ | refine blk_alloc ?_ _)); refine blk_put (cs := #[.string (a0.extract (x5_1 : Int).toNat (t290 : Int).toNat), .int .i64 0, .int .i64 0, .int .i64 0]) ?_ 2 _ rfl; (with_reducible repeat (first | refine blk_drewN ?_ _ | refine blk_drew ?_ | refine blk_alloc ?_ _)); refine blk_put (cs := #[.string (a0.extract (x5_1 : Int).toNat (t290 : Int).toNat), .int .i64 0, .int .i64 0, .int .i64 0]) ?_ 1 _ rfl; (with_reducible repeat (first | refine blk_drewN ?_ _ | refine blk_drew ?_ | refine blk_alloc ?_ _)); refine blk_put (cs := #[.string (⟨#[]⟩ : ByteArray), .int .i64 0, .int .i64 0, .int .i64 0]) ?_ 0 _ rfl; (with_reducible repeat (first | refine blk_drewN ?_ _ | refine blk_drew ?_ | refine blk_alloc ?_ _)); exact BK291.out⟩, ⟨by repeat (first | (with_reducible first | exact HB.out | apply below_alloc | apply pw_below_drewN | apply below_drew1 | refine below_set ?_ GE289.out | refine below_set ?_ GE291.out) | exact HB.out)⟩⟩
                      · rw [if_neg c23] at H
                        exact absurd H (by simp)
                    · rw [if_neg c22] at H
                      exact absurd H (by simp)
                · replace c18 := Bool.eq_false_iff.mpr c18
                  subst c18
                  have H1 : (dowelref12_line.j2 kj1 a0 t290 x5_1 true (a0.extract (x5_1 : Int).toNat (t290 : Int).toNat) 0 0 0) = some (r1, r2, r3, r4, r5, r6) := by rw [if_neg (show ¬ (false = true) by decide)] at H; exact H
                  clear H
                  have H := H1
                  clear H1
                  have H' := Aside0.mk H
                  clear H
                  have hnb27 := NB291_289.out
                  have hnc27 := NB289_291.out
                  have hcz28_0 : w13.cell? ⟨gb291, 0, none⟩ = some (.string (⟨#[]⟩ : ByteArray)) := (blk_cell BK291.out 0).trans rfl
                  have hcz28_1 : w13.cell? ⟨gb291, 1, none⟩ = some (.int .i64 0) := (blk_cell BK291.out 1).trans rfl
                  have hcz28_2 : w13.cell? ⟨gb291, 2, none⟩ = some (.int .i64 0) := (blk_cell BK291.out 2).trans rfl
                  have hcz28_3 : w13.cell? ⟨gb291, 3, none⟩ = some (.int .i64 0) := (blk_cell BK291.out 3).trans rfl
                  have hfz28_0 := blk_frozen BK291.out 0
                  have hfz28_1 := blk_frozen BK291.out 1
                  have hfz28_2 := blk_frozen BK291.out 2
                  have hfz28_3 := blk_frozen BK291.out 3
                  go_wp2_with (first | (go_at_call 55; (with_reducible refine (dowelref04_Own.calls kj1 (a0.extract (x5_1 : Int).toNat (t290 : Int).toNat) false _ A17.out).mono ?_); rintro e w' ⟨rfl, ⟨nd, rfl⟩⟩))
                  go_meet
                  case rel => exact ⟨_, (true), (by first | rfl | (simp; done) | (simp [*]; done)), H', ⟨by have := HJ1.out; first | omega | exact Nat.le_refl _⟩, ⟨by (with_reducible repeat (first | refine blk_drewN ?_ _ | refine blk_drew ?_ | refine blk_alloc ?_ _)); refine blk_far ?_ NB289_291.out _; (with_reducible repeat (first | refine blk_drewN ?_ _ | refine blk_drew ?_ | refine blk_alloc ?_ _)); refine blk_far ?_ NB289_291.out _; (with_reducible repeat (first | refine blk_drewN ?_ _ | refine blk_drew ?_ | refine blk_alloc ?_ _)); refine blk_far ?_ NB289_291.out _; (with_reducible repeat (first | refine blk_drewN ?_ _ | refine blk_drew ?_ | refine blk_alloc ?_ _)); refine blk_far ?_ NB289_291.out _; (with_reducible repeat (first | refine blk_drewN ?_ _ | refine blk_drew ?_ | refine blk_alloc ?_ _)); exact BK289.out⟩, ⟨by (with_reducible repeat (first | refine blk_drewN ?_ _ | refine blk_drew ?_ | refine blk_alloc ?_ _)); refine blk_put (cs := #[.string (a0.extract (x5_1 : Int).toNat (t290 : Int).toNat), .int .i64 0, .int .i64 0, .int .i64 0]) ?_ 3 _ rfl; (with_reducible repeat (first | refine blk_drewN ?_ _ | refine blk_drew ?_ | refine blk_alloc ?_ _)); refine blk_put (cs := #[.string (a0.extract (x5_1 : Int).toNat (t290 : Int).toNat), .int .i64 0, .int .i64 0, .int .i64 0]) ?_ 2 _ rfl; (with_reducible repeat (first | refine blk_drewN ?_ _ | refine blk_drew ?_ | refine blk_alloc ?_ _)); refine blk_put (cs := #[.string (a0.extract (x5_1 : Int).toNat (t290 : Int).toNat), .int .i64 0, .int .i64 0, .int .i64 0]) ?_ 1 _ rfl; (with_reducible repeat (first | refine blk_drewN ?_ _ | refine blk_drew ?_ | refine blk_alloc ?_ _)); refine blk_put (cs := #[.string (⟨#[]⟩ : ByteArray), .int .i64 0, .int .i64 0, .int .i64 0]) ?_ 0 _ rfl; (with_reducible repeat (first | refine blk_drewN ?_ _ | refine blk_drew ?_ | refine blk_alloc ?_ _)); exact BK291.out⟩, ⟨by repeat (first | (with_reducible first | exact HB.out | apply below_alloc | apply pw_below_drewN | apply below_drew1 | refine below_set ?_ GE289.out | refine below_set ?_ GE291.out) | exact HB.out)⟩⟩
              · rw [if_neg c16] at H
                have c16b0 : ((Int.tmod x5_1 2) == 0) = false := beq_eq_false_iff_ne.mpr c16
                have c16b1 : ((Int.tmod x5_1 2) != 0) = true := bne_iff_ne.mpr c16
                (first | rw [c16b0] | (simp only [i64_w, i32_w]; rw [c16b0]) | skip)
                have H' := Aside0.mk H
                clear H
                go_wp2
                go_meet
                case rel => exact ⟨_, (true), (by first | rfl | (simp; done) | (simp [*]; done)), H', ⟨by have := HJ1.out; first | omega | exact Nat.le_refl _⟩, ⟨by (with_reducible repeat (first | refine blk_drewN ?_ _ | refine blk_drew ?_ | refine blk_alloc ?_ _)); refine blk_far ?_ NB289_291.out _; (with_reducible repeat (first | refine blk_drewN ?_ _ | refine blk_drew ?_ | refine blk_alloc ?_ _)); refine blk_far ?_ NB289_291.out _; (with_reducible repeat (first | refine blk_drewN ?_ _ | refine blk_drew ?_ | refine blk_alloc ?_ _)); refine blk_far ?_ NB289_291.out _; (with_reducible repeat (first | refine blk_drewN ?_ _ | refine blk_drew ?_ | refine blk_alloc ?_ _)); refine blk_far ?_ NB289_291.out _; (with_reducible repeat (first | refine blk_drewN ?_ _ | refine blk_drew ?_ | refine blk_alloc ?_ _)); exact BK289.out⟩, ⟨by (with_reducible repeat (first | refine blk_drewN ?_ _ | refine blk_drew ?_ | refine blk_alloc ?_ _)); refine blk_put (cs := #[.string (a0.extract (x5_1 : Int).toNat (t290 : Int).toNat), .int .i64 0, .int .i64 0, .int .i64 0]) ?_ 3 _ rfl; (with_reducible repeat (first | refine blk_drewN ?_ _ | refine blk_drew ?_ | refine blk_alloc ?_ _)); refine blk_put (cs := #[.string (a0.extract (x5_1 : Int).toNat (t290 : Int).toNat), .int .i64 0, .int .i64 0, .int .i64 0]) ?_ 2 _ rfl; (with_reducible repeat (first | refine blk_drewN ?_ _ | refine blk_drew ?_ | refine blk_alloc ?_ _)); refine blk_put (cs := #[.string (a0.extract (x5_1 : Int).toNat (t290 : Int).toNat), .int .i64 0, .int .i64 0, .int .i64 0]) ?_ 1 _ rfl; (with_reducible repeat (first | refine blk_drewN ?_ _ | refine blk_drew ?_ | refine blk_alloc ?_ _)); refine blk_put (cs := #[.string (⟨#[]⟩ : ByteArray), .int .i64 0, .int .i64 0, .int .i64 0]) ?_ 0 _ rfl; (with_reducible repeat (first | refine blk_drewN ?_ _ | refine blk_drew ?_ | refine blk_alloc ?_ _)); exact BK291.out⟩, ⟨by repeat (first | (with_reducible first | exact HB.out | apply below_alloc | apply pw_below_drewN | apply below_drew1 | refine below_set ?_ GE289.out | refine below_set ?_ GE291.out) | exact HB.out)⟩⟩
            case rest =>
              clear HC12
              try clear c1
              try clear c2
              try clear p2
              try clear q2
              try clear hx2
              try clear c3
              try clear c4
              try clear c4b0
              try clear c5
              try clear c5b0
              try clear p6
              try clear q6
              try clear hx6
              try clear c7
              try clear c7b0
              try clear c7b1
              try clear c9
              try clear c9b0
              try clear c9b1
              try clear c10
              try clear c10b0
              try clear c10b1
              try clear c11
              try clear c11b0
              try clear c11b1
              try clear c14
              try clear c16
              try clear c16b0
              try clear c16b1
              try clear c18
              try clear c19
              try clear c19b0
              try clear c20
              try clear c22
              try clear c22b0
              try clear c23
              try clear c23b0
              try clear p24
              try clear q24
              try clear hx24
              try clear c25
              try clear c27
              try clear hcz15_0
              try clear hcz15_1
              try clear hcz15_2
              try clear hcz15_3
              try clear hcz21_0
              try clear hcz21_1
              try clear hcz21_2
              try clear hcz21_3
              try clear hcz26_0
              try clear hcz26_1
              try clear hcz26_2
              try clear hcz26_3
              try clear hcz28_0
              try clear hcz28_1
              try clear hcz28_2
              try clear hcz28_3
              try clear hfz15_0
              try clear hfz15_1
              try clear hfz15_2
              try clear hfz15_3
              try clear hfz21_0
              try clear hfz21_1
              try clear hfz21_2
              try clear hfz21_3
              try clear hfz26_0
              try clear hfz26_1
              try clear hfz26_2
              try clear hfz26_3
              try clear hfz28_0
              try clear hfz28_1
              try clear hfz28_2
              try clear hfz28_3
              try clear p2
              try clear p24
              try clear p6
              try clear q24
              try clear q6
              obtain ⟨kq, x53_11, rfl, HA, HJ11, BK289, BK291, HB⟩ := hcut
              cases kq with
              | zero => exact absurd HA.out (by simp [dowelref12_line.j2])
              | succ kj11 =>
                have H := HA.out
                clear HA
                simp only [dowelref12_line.j2] at H
                by_cases c29 : x53_11 = true
                · subst c29
                  have H1 : (some (0, (a0.extract (x5_1 : Int).toNat (t290 : Int).toNat), 0, 0, 0, false)) = some (r1, r2, r3, r4, r5, r6) := by rw [if_pos rfl] at H; exact H
                  clear H
                  have H := H1
                  clear H1
                  simp only [Option.some.injEq, Prod.mk.injEq] at H
                  obtain ⟨rfl, rfl, rfl, rfl, rfl, rfl⟩ := H
                  try go_wp2
                  have n0_ := Aside0.mk (blk_drew BK289.out)
                  have n1_ := Aside0.mk (blk_drew BK291.out)
                  have n2_ := Aside0.mk (below_drew1 HB.out)
                  clear BK289
                  clear BK291
                  clear HB
                  have BK289 := n0_
                  have BK291 := n1_
                  have HB := n2_
                  clear n0_ n1_ n2_
                  refine start_ (n := 4) (S := fun w' => w'.cell? ⟨gb291, 0, none⟩ = some (.string (a0.extract (x5_1 : Int).toNat (t290 : Int).toNat)) ∧ w'.cell? ⟨gb291, 1, none⟩ = some (.int .i64 0) ∧ w'.cell? ⟨gb291, 2, none⟩ = some (.int .i64 0) ∧ w'.cell? ⟨gb291, 3, none⟩ = some (.int .i64 0)) (ds := []) #[false, false, false, false] (by kernel_rfl) rfl rfl ⟨(blk_cell BK291.out 0).trans rfl, (blk_cell BK291.out 1).trans rfl, (blk_cell BK291.out 2).trans rfl, (blk_cell BK291.out 3).trans rfl⟩ (fun hHeld => ?_)
                  generalize wc.drew = w30 at BK289 BK291 HB hHeld ⊢
                  refine pure_ (i := 1) (N := some 2) (v := ?_) (a' := ?_) #[false, true, false, false] rfl rfl (by kernel_rfl) (fun _ _ _ h => h) (Or.inl ⟨by rfl, ?_⟩) ?_ ?_
                  rotate_left
                  · intro w'
                    go_simp
                    first | with_reducible rfl | (rw [if_neg (by intro hl_; simp only [ByteArray.size_append, ByteArray.size_extract, szl_0_, szl_1_, szl_2_, szl_3_, szl_4_, szl_5_, szl_6_] at *; omega)])
                  rotate_left
                  · simp only [Act.put, List.setIfInBounds_toArray, List.set_cons_zero, List.set_cons_succ, i64_w, i32_w]
                    rfl
                  refine take_ (i := 0) (N := some 54) (v := ?_) (a' := ?_) #[true, true, false, false] rfl rfl (by kernel_rfl) (fun _ _ _ h => h) (Or.inl ⟨by rfl, ?_⟩) hHeld ?_ ?_
                  rotate_left
                  · rintro w' ⟨s0, s1, s2, s3⟩
                    go_simp
                    first | with_reducible rfl | (rw [if_neg (by intro hl_; simp only [ByteArray.size_append, ByteArray.size_extract, szl_0_, szl_1_, szl_2_, szl_3_, szl_4_, szl_5_, szl_6_] at *; omega)])
                  rotate_left
                  · simp only [Act.put, List.setIfInBounds_toArray, List.set_cons_zero, List.set_cons_succ, i64_w, i32_w]
                    rfl
                  refine one_ (i := 2) (N := none) #[true, true, true, false] rfl rfl (by kernel_rfl) (by decide) (fun K hK => ?_)
                  have hs31 : w30.cell? ⟨gb289, 0, none⟩ = some (.string (⟨#[]⟩ : ByteArray)) := (blk_cell BK289.out 0).trans rfl
                  have hfs31 := blk_frozen BK289.out 0
                  have hns31_1 := NB291_289.out
                  have hms31_1 := NB289_291.out
                  have hs32 : w30.cell? ⟨gb289, 1, none⟩ = some (.int .i64 0) := (blk_cell BK289.out 1).trans rfl
                  have hfs32 := blk_frozen BK289.out 1
                  have hns32_1 := NB291_289.out
                  have hms32_1 := NB289_291.out
                  have hs33 : w30.cell? ⟨gb289, 2, none⟩ = some (.int .i64 0) := (blk_cell BK289.out 2).trans rfl
                  have hfs33 := blk_frozen BK289.out 2
                  have hns33_1 := NB291_289.out
                  have hms33_1 := NB289_291.out
                  have hs34 : w30.cell? ⟨gb289, 3, none⟩ = some (.int .i64 0) := (blk_cell BK289.out 3).trans rfl
                  have hfs34 := blk_frozen BK289.out 3
                  have hns34_1 := NB291_289.out
                  have hms34_1 := NB289_291.out
                  refine skip_ (w1 := ?_) (by rfl) rfl ?_ ?_
                  rotate_left
                  · go_simp
                    rfl
                  refine hK.out _ _ ⟨((cell_far (p := ⟨gb289, _, none⟩) NB291_289.out _).trans (((cell_far (p := ⟨gb289, _, none⟩) NB291_289.out _).trans (((cell_far (p := ⟨gb289, _, none⟩) NB291_289.out _).trans (((cell_far (p := ⟨gb289, _, none⟩) NB291_289.out _).trans (hHeld.1)))))))), ((cell_far (p := ⟨gb289, _, none⟩) NB291_289.out _).trans (((cell_far (p := ⟨gb289, _, none⟩) NB291_289.out _).trans (((cell_far (p := ⟨gb289, _, none⟩) NB291_289.out _).trans (((cell_far (p := ⟨gb289, _, none⟩) NB291_289.out _).trans (hHeld.2.1)))))))), ((cell_far (p := ⟨gb289, _, none⟩) NB291_289.out _).trans (((cell_far (p := ⟨gb289, _, none⟩) NB291_289.out _).trans (((cell_far (p := ⟨gb289, _, none⟩) NB291_289.out _).trans (((cell_far (p := ⟨gb289, _, none⟩) NB291_289.out _).trans (hHeld.2.2.1)))))))), ((cell_far (p := ⟨gb289, _, none⟩) NB291_289.out _).trans (((cell_far (p := ⟨gb289, _, none⟩) NB291_289.out _).trans (((cell_far (p := ⟨gb289, _, none⟩) NB291_289.out _).trans (((cell_far (p := ⟨gb289, _, none⟩) NB291_289.out _).trans (hHeld.2.2.2))))))))⟩ (fun hHeld => ?_)
                  clear hK K
                  refine pure_ (i := 3) (N := some 4) (v := ?_) (a' := ?_) #[true, true, true, true] rfl rfl (by kernel_rfl) (fun _ _ _ h => h) (Or.inl ⟨by rfl, ?_⟩) ?_ ?_
                  rotate_left
                  · intro w'
                    go_simp
                    first | with_reducible rfl | (rw [if_neg (by intro hl_; simp only [ByteArray.size_append, ByteArray.size_extract, szl_0_, szl_1_, szl_2_, szl_3_, szl_4_, szl_5_, szl_6_] at *; omega)])
                  rotate_left
                  · simp only [Act.put, List.setIfInBounds_toArray, List.set_cons_zero, List.set_cons_succ, i64_w, i32_w]
                    rfl
                  refine done_ (by kernel_rfl) ?_
                  try go_wp2
                  refine bodyPost_ret (results_list (rs := [.tmp 2, .cell 3 37, .tmp 4]) rfl (by simp) (.tmp (.cell gb289 37 #[.string (a0.extract (x5_1 : Int).toNat (t290 : Int).toNat), .int .i64 0, .int .i64 0, .int .i64 0] (0, 0) _ rfl (by (with_reducible repeat (first | refine blk_drewN ?_ _ | refine blk_drew ?_ | refine blk_alloc ?_ _)); refine blk_put (cs := #[.string (a0.extract (x5_1 : Int).toNat (t290 : Int).toNat), .int .i64 0, .int .i64 0, .int .i64 0]) ?_ 3 _ rfl; (with_reducible repeat (first | refine blk_drewN ?_ _ | refine blk_drew ?_ | refine blk_alloc ?_ _)); refine blk_put (cs := #[.string (a0.extract (x5_1 : Int).toNat (t290 : Int).toNat), .int .i64 0, .int .i64 0, .int .i64 0]) ?_ 2 _ rfl; (with_reducible repeat (first | refine blk_drewN ?_ _ | refine blk_drew ?_ | refine blk_alloc ?_ _)); refine blk_put (cs := #[.string (a0.extract (x5_1 : Int).toNat (t290 : Int).toNat), .int .i64 0, .int .i64 0, .int .i64 0]) ?_ 1 _ rfl; (with_reducible repeat (first | refine blk_drewN ?_ _ | refine blk_drew ?_ | refine blk_alloc ?_ _)); refine blk_put (cs := #[.string (⟨#[]⟩ : ByteArray), .int .i64 0, .int .i64 0, .int .i64 0]) ?_ 0 _ rfl; (with_reducible repeat (first | refine blk_drewN ?_ _ | refine blk_drew ?_ | refine blk_alloc ?_ _)); exact BK289.out) Tryd.underlying37 rfl (by kernel_rfl) (.tmp .nil)))) rfl ?_
                  exact ⟨by first | rfl | (simp [errW_none, errW_some] <;> rfl) | (simp [*, errW_none, errW_some] <;> rfl), by repeat (first | (with_reducible first | exact HB.out | apply below_alloc | apply pw_below_drewN | apply below_drew1 | refine below_set ?_ GE289.out | refine below_set ?_ GE291.out) | exact HB.out)⟩
                · replace c29 := Bool.eq_false_iff.mpr c29
                  subst c29
                  have H1 : ((dowelref12_number.f kj11 a0 (wrap64 (t290 + 1)) 65536).bind fun bt293 => (if bt293.2 = (wrap64 (t290 + 1)) then (dowelref12_line.j3 kj11 a0 x5_1 bt293.1 bt293.2 true (a0.extract (x5_1 : Int).toNat (t290 : Int).toNat) 0 0 0) else (if bt293.2 ≥ (a0.size : Int) then (dowelref12_line.j3 kj11 a0 x5_1 bt293.1 bt293.2 true (a0.extract (x5_1 : Int).toNat (t290 : Int).toNat) 0 0 0) else (if 0 ≤ bt293.2 then (if bt293.2 < (a0.size : Int) then (dowelref12_line.j3 kj11 a0 x5_1 bt293.1 bt293.2 ((bt a0 bt293.2) != 32) (a0.extract (x5_1 : Int).toNat (t290 : Int).toNat) 0 0 0) else (none)) else (none))))) = some (r1, r2, r3, r4, r5, r6) := by rw [if_neg (show ¬ (false = true) by decide)] at H; exact H
                  clear H
                  have H := H1
                  clear H1
                  replace H := Option.bind_eq_some_iff.mp H
                  obtain ⟨⟨t293, t294⟩, A350, H⟩ := H
                  replace H : (if t294 = (wrap64 (t290 + 1)) then (dowelref12_line.j3 kj11 a0 x5_1 t293 t294 true (a0.extract (x5_1 : Int).toNat (t290 : Int).toNat) 0 0 0) else (if t294 ≥ (a0.size : Int) then (dowelref12_line.j3 kj11 a0 x5_1 t293 t294 true (a0.extract (x5_1 : Int).toNat (t290 : Int).toNat) 0 0 0) else (if 0 ≤ t294 then (if t294 < (a0.size : Int) then (dowelref12_line.j3 kj11 a0 x5_1 t293 t294 ((bt a0 t294) != 32) (a0.extract (x5_1 : Int).toNat (t290 : Int).toNat) 0 0 0) else (none)) else (none)))) = some (r1, r2, r3, r4, r5, r6) := H
                  have A35 := Aside0.mk A350
                  clear A350
                  have HC36 := Aside0.mk H
                  clear H
                  go_upto_region 10 with (first | ((with_reducible refine gate_callee (f := 56) rfl ?_); refine goesL_ (some 59) rfl rfl Tryd.func56 (by kernel_rfl) rfl #[.string a0, .int .i64 (wrap64 (t290 + 1)), .int .i64 65536] rfl (by (try simp only [List.map_toArray, List.map_cons, List.map_nil]); first | done | rfl | (simp only [List.length_drop, List.length_take]; rfl)) ?_; (with_reducible refine (dowelref12_number.calls kj11 a0 (wrap64 (t290 + 1)) 65536 t293 t294 _ A35.out).mono ?_); rintro e w' ⟨rfl, ⟨nd, rfl⟩⟩; refine ⟨_, rfl, ?_⟩))
                  (try simp only [Act.put, List.setIfInBounds_toArray, List.set_cons_zero, List.set_cons_succ])
                  go_cut [77] (fun v77 wc => ∃ (kq : Nat) (x77_35 : Bool), v77 = .bool x77_35 ∧ Aside0 (dowelref12_line.j3 kq a0 x5_1 t293 t294 x77_35 (a0.extract (x5_1 : Int).toNat (t290 : Int).toNat) 0 0 0 = some (r1, r2, r3, r4, r5, r6)) ∧ Aside0 (kq ≤ kj11) ∧ Aside0 (wc.heap[gb289]? = some (.cells #[.string (⟨#[]⟩ : ByteArray), .int .i64 0, .int .i64 0, .int .i64 0] 37 (0, 0))) ∧ Aside0 (wc.heap[gb291]? = some (.cells #[.string (a0.extract (x5_1 : Int).toNat (t290 : Int).toNat), .int .i64 0, .int .i64 0, .int .i64 0] 37 (0, 0))) ∧ Aside0 (Below w.heap.size w wc))
                  case first =>
                    have H := HC36.out
                    clear HC36
                    by_cases c37 : t294 = (wrap64 (t290 + 1))
                    · rw [if_pos c37] at H
                      have c37b0 : (t294 == (wrap64 (t290 + 1))) = true := beq_iff_eq.mpr c37
                      have c37b1 : (t294 != (wrap64 (t290 + 1))) = false := bne_eq_false_iff_eq.mpr c37
                      clear c37
                      (first | rw [c37b0] | (simp only [i64_w, i32_w]; rw [c37b0]) | skip)
                      have H' := Aside0.mk H
                      clear H
                      go_wp2
                      go_meet
                      case rel => exact ⟨_, (true), (by first | rfl | (simp; done) | (simp [*]; done)), H', ⟨by have := HJ1.out; have := HJ11.out; first | omega | exact Nat.le_refl _⟩, ⟨by (with_reducible repeat (first | refine blk_drewN ?_ _ | refine blk_drew ?_ | refine blk_alloc ?_ _)); exact BK289.out⟩, ⟨by (with_reducible repeat (first | refine blk_drewN ?_ _ | refine blk_drew ?_ | refine blk_alloc ?_ _)); exact BK291.out⟩, ⟨by repeat (first | (with_reducible first | exact HB.out | apply below_alloc | apply pw_below_drewN | apply below_drew1 | refine below_set ?_ GE289.out | refine below_set ?_ GE291.out) | exact HB.out)⟩⟩
                    · rw [if_neg c37] at H
                      have c37b0 : (t294 == (wrap64 (t290 + 1))) = false := beq_eq_false_iff_ne.mpr c37
                      have c37b1 : (t294 != (wrap64 (t290 + 1))) = true := bne_iff_ne.mpr c37
                      (first | rw [c37b0] | (simp only [i64_w, i32_w]; rw [c37b0]) | skip)
                      by_cases c38 : t294 ≥ (a0.size : Int)
                      · rw [if_pos c38] at H
                        have c38b0 : decide ((a0.size : Int) ≤ t294) = true := decide_eq_true c38
                        clear c38
                        have H' := Aside0.mk H
                        clear H
                        go_wp2
                        go_meet
                        case rel => exact ⟨_, (true), (by first | rfl | (simp; done) | (simp [*]; done)), H', ⟨by have := HJ1.out; have := HJ11.out; first | omega | exact Nat.le_refl _⟩, ⟨by (with_reducible repeat (first | refine blk_drewN ?_ _ | refine blk_drew ?_ | refine blk_alloc ?_ _)); exact BK289.out⟩, ⟨by (with_reducible repeat (first | refine blk_drewN ?_ _ | refine blk_drew ?_ | refine blk_alloc ?_ _)); exact BK291.out⟩, ⟨by repeat (first | (with_reducible first | exact HB.out | apply below_alloc | apply pw_below_drewN | apply below_drew1 | refine below_set ?_ GE289.out | refine below_set ?_ GE291.out) | exact HB.out)⟩⟩
                      · rw [if_neg c38] at H
                        have c38b0 : decide ((a0.size : Int) ≤ t294) = false := decide_eq_false c38
                        clear c38
                        by_cases c39 : 0 ≤ t294
                        · rw [if_pos c39] at H
                          have c39b0 : decide (0 ≤ t294) = true := decide_eq_true c39
                          clear c39
                          by_cases c40 : t294 < (a0.size : Int)
                          · rw [if_pos c40] at H
                            have c40b0 : decide (t294 < (a0.size : Int)) = true := decide_eq_true c40
                            clear c40
                            have H' := Aside0.mk H
                            clear H
                            have p41 : 0 ≤ (t294 : Int) := of_decide_eq_true (by first | (with_reducible assumption) | assumption)
                            have q41 : t294 < (a0.size : Int) := of_decide_eq_true (by first | (with_reducible assumption) | assumption)
                            have hx41 := bt_at a0 t294
                            replace p41 := eq_true p41
                            replace q41 := eq_true q41
                            go_wp2
                            go_meet
                            case rel => exact ⟨_, (((bt a0 t294) != 32)), (by first | rfl | (simp; done) | (simp [*]; done)), H', ⟨by have := HJ1.out; have := HJ11.out; first | omega | exact Nat.le_refl _⟩, ⟨by (with_reducible repeat (first | refine blk_drewN ?_ _ | refine blk_drew ?_ | refine blk_alloc ?_ _)); exact BK289.out⟩, ⟨by (with_reducible repeat (first | refine blk_drewN ?_ _ | refine blk_drew ?_ | refine blk_alloc ?_ _)); exact BK291.out⟩, ⟨by repeat (first | (with_reducible first | exact HB.out | apply below_alloc | apply pw_below_drewN | apply below_drew1 | refine below_set ?_ GE289.out | refine below_set ?_ GE291.out) | exact HB.out)⟩⟩
                          · rw [if_neg c40] at H
                            exact absurd H (by simp)
                        · rw [if_neg c39] at H
                          exact absurd H (by simp)
                  case rest =>
                    clear HC36
                    try clear c1
                    try clear c2
                    try clear p2
                    try clear q2
                    try clear hx2
                    try clear c3
                    try clear c4
                    try clear c4b0
                    try clear p4
                    try clear q4
                    try clear hx4
                    try clear c5
                    try clear c5b0
                    try clear p6
                    try clear q6
                    try clear hx6
                    try clear c7
                    try clear c7b0
                    try clear c7b1
                    try clear c9
                    try clear c9b0
                    try clear c9b1
                    try clear c10
                    try clear c10b0
                    try clear c10b1
                    try clear c11
                    try clear c11b0
                    try clear c11b1
                    try clear c14
                    try clear c16
                    try clear c16b0
                    try clear c16b1
                    try clear c18
                    try clear c19
                    try clear c19b0
                    try clear c20
                    try clear c22
                    try clear c22b0
                    try clear c23
                    try clear c23b0
                    try clear p24
                    try clear q24
                    try clear hx24
                    try clear c25
                    try clear c27
                    try clear c29
                    try clear c30
                    try clear c37
                    try clear c37b0
                    try clear c37b1
                    try clear c38
                    try clear c38b0
                    try clear c39
                    try clear c39b0
                    try clear c40
                    try clear c40b0
                    try clear p41
                    try clear q41
                    try clear hx41
                    try clear hcz15_0
                    try clear hcz15_1
                    try clear hcz15_2
                    try clear hcz15_3
                    try clear hcz21_0
                    try clear hcz21_1
                    try clear hcz21_2
                    try clear hcz21_3
                    try clear hcz26_0
                    try clear hcz26_1
                    try clear hcz26_2
                    try clear hcz26_3
                    try clear hcz28_0
                    try clear hcz28_1
                    try clear hcz28_2
                    try clear hcz28_3
                    try clear hfz15_0
                    try clear hfz15_1
                    try clear hfz15_2
                    try clear hfz15_3
                    try clear hfz21_0
                    try clear hfz21_1
                    try clear hfz21_2
                    try clear hfz21_3
                    try clear hfz26_0
                    try clear hfz26_1
                    try clear hfz26_2
                    try clear hfz26_3
                    try clear hfz28_0
                    try clear hfz28_1
                    try clear hfz28_2
                    try clear hfz28_3
                    try clear p2
                    try clear p24
                    try clear p41
                    try clear p6
                    try clear q2
                    try clear q24
                    try clear q41
                    try clear q6
                    obtain ⟨kq, x77_35, rfl, HA, HJ35, BK289, BK291, HB⟩ := hcut
                    cases kq with
                    | zero => exact absurd HA.out (by simp [dowelref12_line.j3])
                    | succ kj35 =>
                      have H := HA.out
                      clear HA
                      simp only [dowelref12_line.j3] at H
                      by_cases c42 : x77_35 = true
                      · subst c42
                        have H1 : (some (0, (a0.extract (x5_1 : Int).toNat (t290 : Int).toNat), 0, 0, 0, false)) = some (r1, r2, r3, r4, r5, r6) := by rw [if_pos rfl] at H; exact H
                        clear H
                        have H := H1
                        clear H1
                        simp only [Option.some.injEq, Prod.mk.injEq] at H
                        obtain ⟨rfl, rfl, rfl, rfl, rfl, rfl⟩ := H
                        try go_wp2
                        have n0_ := Aside0.mk (blk_drew BK289.out)
                        have n1_ := Aside0.mk (blk_drew BK291.out)
                        have n2_ := Aside0.mk (below_drew1 HB.out)
                        clear BK289
                        clear BK291
                        clear HB
                        have BK289 := n0_
                        have BK291 := n1_
                        have HB := n2_
                        clear n0_ n1_ n2_
                        refine start_ (n := 4) (S := fun w' => w'.cell? ⟨gb291, 0, none⟩ = some (.string (a0.extract (x5_1 : Int).toNat (t290 : Int).toNat)) ∧ w'.cell? ⟨gb291, 1, none⟩ = some (.int .i64 0) ∧ w'.cell? ⟨gb291, 2, none⟩ = some (.int .i64 0) ∧ w'.cell? ⟨gb291, 3, none⟩ = some (.int .i64 0)) (ds := []) #[false, false, false, false] (by kernel_rfl) rfl rfl ⟨(blk_cell BK291.out 0).trans rfl, (blk_cell BK291.out 1).trans rfl, (blk_cell BK291.out 2).trans rfl, (blk_cell BK291.out 3).trans rfl⟩ (fun hHeld => ?_)
                        generalize wc.drew = w43 at BK289 BK291 HB hHeld ⊢
                        refine pure_ (i := 1) (N := some 2) (v := ?_) (a' := ?_) #[false, true, false, false] rfl rfl (by kernel_rfl) (fun _ _ _ h => h) (Or.inl ⟨by rfl, ?_⟩) ?_ ?_
                        rotate_left
                        · intro w'
                          go_simp
                          first | with_reducible rfl | (rw [if_neg (by intro hl_; simp only [ByteArray.size_append, ByteArray.size_extract, szl_0_, szl_1_, szl_2_, szl_3_, szl_4_, szl_5_, szl_6_] at *; omega)])
                        rotate_left
                        · simp only [Act.put, List.setIfInBounds_toArray, List.set_cons_zero, List.set_cons_succ, i64_w, i32_w]
                          rfl
                        refine take_ (i := 0) (N := some 78) (v := ?_) (a' := ?_) #[true, true, false, false] rfl rfl (by kernel_rfl) (fun _ _ _ h => h) (Or.inl ⟨by rfl, ?_⟩) hHeld ?_ ?_
                        rotate_left
                        · rintro w' ⟨s0, s1, s2, s3⟩
                          go_simp
                          first | with_reducible rfl | (rw [if_neg (by intro hl_; simp only [ByteArray.size_append, ByteArray.size_extract, szl_0_, szl_1_, szl_2_, szl_3_, szl_4_, szl_5_, szl_6_] at *; omega)])
                        rotate_left
                        · simp only [Act.put, List.setIfInBounds_toArray, List.set_cons_zero, List.set_cons_succ, i64_w, i32_w]
                          rfl
                        refine one_ (i := 2) (N := none) #[true, true, true, false] rfl rfl (by kernel_rfl) (by decide) (fun K hK => ?_)
                        have hs44 : w43.cell? ⟨gb289, 0, none⟩ = some (.string (⟨#[]⟩ : ByteArray)) := (blk_cell BK289.out 0).trans rfl
                        have hfs44 := blk_frozen BK289.out 0
                        have hns44_1 := NB291_289.out
                        have hms44_1 := NB289_291.out
                        have hs45 : w43.cell? ⟨gb289, 1, none⟩ = some (.int .i64 0) := (blk_cell BK289.out 1).trans rfl
                        have hfs45 := blk_frozen BK289.out 1
                        have hns45_1 := NB291_289.out
                        have hms45_1 := NB289_291.out
                        have hs46 : w43.cell? ⟨gb289, 2, none⟩ = some (.int .i64 0) := (blk_cell BK289.out 2).trans rfl
                        have hfs46 := blk_frozen BK289.out 2
                        have hns46_1 := NB291_289.out
                        have hms46_1 := NB289_291.out
                        have hs47 : w43.cell? ⟨gb289, 3, none⟩ = some (.int .i64 0) := (blk_cell BK289.out 3).trans rfl
                        have hfs47 := blk_frozen BK289.out 3
                        have hns47_1 := NB291_289.out
                        have hms47_1 := NB289_291.out
                        refine skip_ (w1 := ?_) (by rfl) rfl ?_ ?_
                        rotate_left
                        · go_simp
                          rfl
                        refine hK.out _ _ ⟨((cell_far (p := ⟨gb289, _, none⟩) NB291_289.out _).trans (((cell_far (p := ⟨gb289, _, none⟩) NB291_289.out _).trans (((cell_far (p := ⟨gb289, _, none⟩) NB291_289.out _).trans (((cell_far (p := ⟨gb289, _, none⟩) NB291_289.out _).trans (hHeld.1)))))))), ((cell_far (p := ⟨gb289, _, none⟩) NB291_289.out _).trans (((cell_far (p := ⟨gb289, _, none⟩) NB291_289.out _).trans (((cell_far (p := ⟨gb289, _, none⟩) NB291_289.out _).trans (((cell_far (p := ⟨gb289, _, none⟩) NB291_289.out _).trans (hHeld.2.1)))))))), ((cell_far (p := ⟨gb289, _, none⟩) NB291_289.out _).trans (((cell_far (p := ⟨gb289, _, none⟩) NB291_289.out _).trans (((cell_far (p := ⟨gb289, _, none⟩) NB291_289.out _).trans (((cell_far (p := ⟨gb289, _, none⟩) NB291_289.out _).trans (hHeld.2.2.1)))))))), ((cell_far (p := ⟨gb289, _, none⟩) NB291_289.out _).trans (((cell_far (p := ⟨gb289, _, none⟩) NB291_289.out _).trans (((cell_far (p := ⟨gb289, _, none⟩) NB291_289.out _).trans (((cell_far (p := ⟨gb289, _, none⟩) NB291_289.out _).trans (hHeld.2.2.2))))))))⟩ (fun hHeld => ?_)
                        clear hK K
                        refine pure_ (i := 3) (N := some 4) (v := ?_) (a' := ?_) #[true, true, true, true] rfl rfl (by kernel_rfl) (fun _ _ _ h => h) (Or.inl ⟨by rfl, ?_⟩) ?_ ?_
                        rotate_left
                        · intro w'
                          go_simp
                          first | with_reducible rfl | (rw [if_neg (by intro hl_; simp only [ByteArray.size_append, ByteArray.size_extract, szl_0_, szl_1_, szl_2_, szl_3_, szl_4_, szl_5_, szl_6_] at *; omega)])
                        rotate_left
                        · simp only [Act.put, List.setIfInBounds_toArray, List.set_cons_zero, List.set_cons_succ, i64_w, i32_w]
                          rfl
                        refine done_ (by kernel_rfl) ?_
                        try go_wp2
                        refine bodyPost_ret (results_list (rs := [.tmp 2, .cell 3 37, .tmp 4]) rfl (by simp) (.tmp (.cell gb289 37 #[.string (a0.extract (x5_1 : Int).toNat (t290 : Int).toNat), .int .i64 0, .int .i64 0, .int .i64 0] (0, 0) _ rfl (by (with_reducible repeat (first | refine blk_drewN ?_ _ | refine blk_drew ?_ | refine blk_alloc ?_ _)); refine blk_put (cs := #[.string (a0.extract (x5_1 : Int).toNat (t290 : Int).toNat), .int .i64 0, .int .i64 0, .int .i64 0]) ?_ 3 _ rfl; (with_reducible repeat (first | refine blk_drewN ?_ _ | refine blk_drew ?_ | refine blk_alloc ?_ _)); refine blk_put (cs := #[.string (a0.extract (x5_1 : Int).toNat (t290 : Int).toNat), .int .i64 0, .int .i64 0, .int .i64 0]) ?_ 2 _ rfl; (with_reducible repeat (first | refine blk_drewN ?_ _ | refine blk_drew ?_ | refine blk_alloc ?_ _)); refine blk_put (cs := #[.string (a0.extract (x5_1 : Int).toNat (t290 : Int).toNat), .int .i64 0, .int .i64 0, .int .i64 0]) ?_ 1 _ rfl; (with_reducible repeat (first | refine blk_drewN ?_ _ | refine blk_drew ?_ | refine blk_alloc ?_ _)); refine blk_put (cs := #[.string (⟨#[]⟩ : ByteArray), .int .i64 0, .int .i64 0, .int .i64 0]) ?_ 0 _ rfl; (with_reducible repeat (first | refine blk_drewN ?_ _ | refine blk_drew ?_ | refine blk_alloc ?_ _)); exact BK289.out) Tryd.underlying37 rfl (by kernel_rfl) (.tmp .nil)))) rfl ?_
                        exact ⟨by first | rfl | (simp [errW_none, errW_some] <;> rfl) | (simp [*, errW_none, errW_some] <;> rfl), by repeat (first | (with_reducible first | exact HB.out | apply below_alloc | apply pw_below_drewN | apply below_drew1 | refine below_set ?_ GE289.out | refine below_set ?_ GE291.out) | exact HB.out)⟩
                      · replace c42 := Bool.eq_false_iff.mpr c42
                        subst c42
                        have H1 : ((dowelref12_number.f kj35 a0 (wrap64 (t294 + 1)) 65536).bind fun bt295 => (if bt295.2 = (wrap64 (t294 + 1)) then (some (0, (a0.extract (x5_1 : Int).toNat (t290 : Int).toNat), 0, 0, 0, false)) else (if bt295.2 = (a0.size : Int) then (some (wrap64 (Int.tdiv x5_1 2), (a0.extract (x5_1 : Int).toNat (t290 : Int).toNat), t293, bt295.1, 0, true)) else (some (0, (a0.extract (x5_1 : Int).toNat (t290 : Int).toNat), 0, 0, 0, false))))) = some (r1, r2, r3, r4, r5, r6) := by rw [if_neg (show ¬ (false = true) by decide)] at H; exact H
                        clear H
                        have H := H1
                        clear H1
                        replace H := Option.bind_eq_some_iff.mp H
                        obtain ⟨⟨t295, t296⟩, A480, H⟩ := H
                        replace H : (if t296 = (wrap64 (t294 + 1)) then (some (0, (a0.extract (x5_1 : Int).toNat (t290 : Int).toNat), 0, 0, 0, false)) else (if t296 = (a0.size : Int) then (some (wrap64 (Int.tdiv x5_1 2), (a0.extract (x5_1 : Int).toNat (t290 : Int).toNat), t293, t295, 0, true)) else (some (0, (a0.extract (x5_1 : Int).toNat (t290 : Int).toNat), 0, 0, 0, false)))) = some (r1, r2, r3, r4, r5, r6) := H
                        have A48 := Aside0.mk A480
                        clear A480
                        by_cases c49 : t296 = (wrap64 (t294 + 1))
                        · rw [if_pos c49] at H
                          have c49b0 : (t296 == (wrap64 (t294 + 1))) = true := beq_iff_eq.mpr c49
                          have c49b1 : (t296 != (wrap64 (t294 + 1))) = false := bne_eq_false_iff_eq.mpr c49
                          clear c49
                          simp only [Option.some.injEq, Prod.mk.injEq] at H
                          obtain ⟨rfl, rfl, rfl, rfl, rfl, rfl⟩ := H
                          try go_wp2_with (first | ((with_reducible refine gate_callee (f := 56) rfl ?_); refine goesL_ (some 83) rfl rfl Tryd.func56 (by kernel_rfl) rfl #[.string a0, .int .i64 (wrap64 (t294 + 1)), .int .i64 65536] rfl (by (try simp only [List.map_toArray, List.map_cons, List.map_nil]); first | done | rfl | (simp only [List.length_drop, List.length_take]; rfl)) ?_; (with_reducible refine (dowelref12_number.calls kj35 a0 (wrap64 (t294 + 1)) 65536 t295 t296 _ A48.out).mono ?_); rintro e w' ⟨rfl, ⟨nd, rfl⟩⟩; refine ⟨_, rfl, ?_⟩; (try (rw [drewN_self wc]; generalize hq_ : World.drewN wc _ = wc; have n0_ : Aside0 (wc.heap[gb289]? = some (.cells #[.string (⟨#[]⟩ : ByteArray), .int .i64 0, .int .i64 0, .int .i64 0] 37 (0, 0))) := ⟨by rw [← hq_]; exact (by (with_reducible repeat (first | refine blk_drewN ?_ _ | refine blk_drew ?_ | refine blk_alloc ?_ _)); exact BK289.out)⟩; have n1_ : Aside0 (wc.heap[gb291]? = some (.cells #[.string (a0.extract (x5_1 : Int).toNat (t290 : Int).toNat), .int .i64 0, .int .i64 0, .int .i64 0] 37 (0, 0))) := ⟨by rw [← hq_]; exact (by (with_reducible repeat (first | refine blk_drewN ?_ _ | refine blk_drew ?_ | refine blk_alloc ?_ _)); exact BK291.out)⟩; have n2_ : Aside0 (Below w.heap.size w wc) := ⟨by rw [← hq_]; exact (by repeat (first | (with_reducible first | exact HB.out | apply below_alloc | apply pw_below_drewN | apply below_drew1 | refine below_set ?_ GE289.out | refine below_set ?_ GE291.out) | exact HB.out))⟩; clear BK289 BK291 HB hq_; have BK289 := n0_; have BK291 := n1_; have HB := n2_; clear n0_ n1_ n2_))))
                          have n0_ := Aside0.mk (blk_drew BK289.out)
                          have n1_ := Aside0.mk (blk_drew BK291.out)
                          have n2_ := Aside0.mk (below_drew1 HB.out)
                          clear BK289
                          clear BK291
                          clear HB
                          have BK289 := n0_
                          have BK291 := n1_
                          have HB := n2_
                          clear n0_ n1_ n2_
                          refine start_ (n := 4) (S := fun w' => w'.cell? ⟨gb291, 0, none⟩ = some (.string (a0.extract (x5_1 : Int).toNat (t290 : Int).toNat)) ∧ w'.cell? ⟨gb291, 1, none⟩ = some (.int .i64 0) ∧ w'.cell? ⟨gb291, 2, none⟩ = some (.int .i64 0) ∧ w'.cell? ⟨gb291, 3, none⟩ = some (.int .i64 0)) (ds := []) #[false, false, false, false] (by kernel_rfl) rfl rfl ⟨(blk_cell BK291.out 0).trans rfl, (blk_cell BK291.out 1).trans rfl, (blk_cell BK291.out 2).trans rfl, (blk_cell BK291.out 3).trans rfl⟩ (fun hHeld => ?_)
                          generalize wc.drew = w50 at BK289 BK291 HB hHeld ⊢
                          refine pure_ (i := 1) (N := some 2) (v := ?_) (a' := ?_) #[false, true, false, false] rfl rfl (by kernel_rfl) (fun _ _ _ h => h) (Or.inl ⟨by rfl, ?_⟩) ?_ ?_
                          rotate_left
                          · intro w'
                            go_simp
                            first | with_reducible rfl | (rw [if_neg (by intro hl_; simp only [ByteArray.size_append, ByteArray.size_extract, szl_0_, szl_1_, szl_2_, szl_3_, szl_4_, szl_5_, szl_6_] at *; omega)])
                          rotate_left
                          · simp only [Act.put, List.setIfInBounds_toArray, List.set_cons_zero, List.set_cons_succ, i64_w, i32_w]
                            rfl
                          refine take_ (i := 0) (N := some 96) (v := ?_) (a' := ?_) #[true, true, false, false] rfl rfl (by kernel_rfl) (fun _ _ _ h => h) (Or.inl ⟨by rfl, ?_⟩) hHeld ?_ ?_
                          rotate_left
                          · rintro w' ⟨s0, s1, s2, s3⟩
                            go_simp
                            first | with_reducible rfl | (rw [if_neg (by intro hl_; simp only [ByteArray.size_append, ByteArray.size_extract, szl_0_, szl_1_, szl_2_, szl_3_, szl_4_, szl_5_, szl_6_] at *; omega)])
                          rotate_left
                          · simp only [Act.put, List.setIfInBounds_toArray, List.set_cons_zero, List.set_cons_succ, i64_w, i32_w]
                            rfl
                          refine one_ (i := 2) (N := none) #[true, true, true, false] rfl rfl (by kernel_rfl) (by decide) (fun K hK => ?_)
                          have hs51 : w50.cell? ⟨gb289, 0, none⟩ = some (.string (⟨#[]⟩ : ByteArray)) := (blk_cell BK289.out 0).trans rfl
                          have hfs51 := blk_frozen BK289.out 0
                          have hns51_1 := NB291_289.out
                          have hms51_1 := NB289_291.out
                          have hs52 : w50.cell? ⟨gb289, 1, none⟩ = some (.int .i64 0) := (blk_cell BK289.out 1).trans rfl
                          have hfs52 := blk_frozen BK289.out 1
                          have hns52_1 := NB291_289.out
                          have hms52_1 := NB289_291.out
                          have hs53 : w50.cell? ⟨gb289, 2, none⟩ = some (.int .i64 0) := (blk_cell BK289.out 2).trans rfl
                          have hfs53 := blk_frozen BK289.out 2
                          have hns53_1 := NB291_289.out
                          have hms53_1 := NB289_291.out
                          have hs54 : w50.cell? ⟨gb289, 3, none⟩ = some (.int .i64 0) := (blk_cell BK289.out 3).trans rfl
                          have hfs54 := blk_frozen BK289.out 3
                          have hns54_1 := NB291_289.out
                          have hms54_1 := NB289_291.out
                          refine skip_ (w1 := ?_) (by rfl) rfl ?_ ?_
                          rotate_left
                          · go_simp
                            rfl
                          refine hK.out _ _ ⟨((cell_far (p := ⟨gb289, _, none⟩) NB291_289.out _).trans (((cell_far (p := ⟨gb289, _, none⟩) NB291_289.out _).trans (((cell_far (p := ⟨gb289, _, none⟩) NB291_289.out _).trans (((cell_far (p := ⟨gb289, _, none⟩) NB291_289.out _).trans (hHeld.1)))))))), ((cell_far (p := ⟨gb289, _, none⟩) NB291_289.out _).trans (((cell_far (p := ⟨gb289, _, none⟩) NB291_289.out _).trans (((cell_far (p := ⟨gb289, _, none⟩) NB291_289.out _).trans (((cell_far (p := ⟨gb289, _, none⟩) NB291_289.out _).trans (hHeld.2.1)))))))), ((cell_far (p := ⟨gb289, _, none⟩) NB291_289.out _).trans (((cell_far (p := ⟨gb289, _, none⟩) NB291_289.out _).trans (((cell_far (p := ⟨gb289, _, none⟩) NB291_289.out _).trans (((cell_far (p := ⟨gb289, _, none⟩) NB291_289.out _).trans (hHeld.2.2.1)))))))), ((cell_far (p := ⟨gb289, _, none⟩) NB291_289.out _).trans (((cell_far (p := ⟨gb289, _, none⟩) NB291_289.out _).trans (((cell_far (p := ⟨gb289, _, none⟩) NB291_289.out _).trans (((cell_far (p := ⟨gb289, _, none⟩) NB291_289.out _).trans (hHeld.2.2.2))))))))⟩ (fun hHeld => ?_)
                          clear hK K
                          refine pure_ (i := 3) (N := some 4) (v := ?_) (a' := ?_) #[true, true, true, true] rfl rfl (by kernel_rfl) (fun _ _ _ h => h) (Or.inl ⟨by rfl, ?_⟩) ?_ ?_
                          rotate_left
                          · intro w'
                            go_simp
                            first | with_reducible rfl | (rw [if_neg (by intro hl_; simp only [ByteArray.size_append, ByteArray.size_extract, szl_0_, szl_1_, szl_2_, szl_3_, szl_4_, szl_5_, szl_6_] at *; omega)])
                          rotate_left
                          · simp only [Act.put, List.setIfInBounds_toArray, List.set_cons_zero, List.set_cons_succ, i64_w, i32_w]
                            rfl
                          refine done_ (by kernel_rfl) ?_
                          try go_wp2
                          refine bodyPost_ret (results_list (rs := [.tmp 2, .cell 3 37, .tmp 4]) rfl (by simp) (.tmp (.cell gb289 37 #[.string (a0.extract (x5_1 : Int).toNat (t290 : Int).toNat), .int .i64 0, .int .i64 0, .int .i64 0] (0, 0) _ rfl (by (with_reducible repeat (first | refine blk_drewN ?_ _ | refine blk_drew ?_ | refine blk_alloc ?_ _)); refine blk_put (cs := #[.string (a0.extract (x5_1 : Int).toNat (t290 : Int).toNat), .int .i64 0, .int .i64 0, .int .i64 0]) ?_ 3 _ rfl; (with_reducible repeat (first | refine blk_drewN ?_ _ | refine blk_drew ?_ | refine blk_alloc ?_ _)); refine blk_put (cs := #[.string (a0.extract (x5_1 : Int).toNat (t290 : Int).toNat), .int .i64 0, .int .i64 0, .int .i64 0]) ?_ 2 _ rfl; (with_reducible repeat (first | refine blk_drewN ?_ _ | refine blk_drew ?_ | refine blk_alloc ?_ _)); refine blk_put (cs := #[.string (a0.extract (x5_1 : Int).toNat (t290 : Int).toNat), .int .i64 0, .int .i64 0, .int .i64 0]) ?_ 1 _ rfl; (with_reducible repeat (first | refine blk_drewN ?_ _ | refine blk_drew ?_ | refine blk_alloc ?_ _)); refine blk_put (cs := #[.string (⟨#[]⟩ : ByteArray), .int .i64 0, .int .i64 0, .int .i64 0]) ?_ 0 _ rfl; (with_reducible repeat (first | refine blk_drewN ?_ _ | refine blk_drew ?_ | refine blk_alloc ?_ _)); exact BK289.out) Tryd.underlying37 rfl (by kernel_rfl) (.tmp .nil)))) rfl ?_
                          exact ⟨by first | rfl | (simp [errW_none, errW_some] <;> rfl) | (simp [*, errW_none, errW_some] <;> rfl), by repeat (first | (with_reducible first | exact HB.out | apply below_alloc | apply pw_below_drewN | apply below_drew1 | refine below_set ?_ GE289.out | refine below_set ?_ GE291.out) | exact HB.out)⟩
                        · rw [if_neg c49] at H
                          have c49b0 : (t296 == (wrap64 (t294 + 1))) = false := beq_eq_false_iff_ne.mpr c49
                          have c49b1 : (t296 != (wrap64 (t294 + 1))) = true := bne_iff_ne.mpr c49
                          by_cases c55 : t296 = (a0.size : Int)
                          · rw [if_pos c55] at H
                            have c55b0 : (t296 == (a0.size : Int)) = true := beq_iff_eq.mpr c55
                            have c55b1 : (t296 != (a0.size : Int)) = false := bne_eq_false_iff_eq.mpr c55
                            clear c55
                            simp only [Option.some.injEq, Prod.mk.injEq] at H
                            obtain ⟨rfl, rfl, rfl, rfl, rfl, rfl⟩ := H
                            try go_wp2_with (first | ((with_reducible refine gate_callee (f := 56) rfl ?_); refine goesL_ (some 83) rfl rfl Tryd.func56 (by kernel_rfl) rfl #[.string a0, .int .i64 (wrap64 (t294 + 1)), .int .i64 65536] rfl (by (try simp only [List.map_toArray, List.map_cons, List.map_nil]); first | done | rfl | (simp only [List.length_drop, List.length_take]; rfl)) ?_; (with_reducible refine (dowelref12_number.calls kj35 a0 (wrap64 (t294 + 1)) 65536 t295 t296 _ A48.out).mono ?_); rintro e w' ⟨rfl, ⟨nd, rfl⟩⟩; refine ⟨_, rfl, ?_⟩; (try (rw [drewN_self wc]; generalize hq_ : World.drewN wc _ = wc; have n0_ : Aside0 (wc.heap[gb289]? = some (.cells #[.string (⟨#[]⟩ : ByteArray), .int .i64 0, .int .i64 0, .int .i64 0] 37 (0, 0))) := ⟨by rw [← hq_]; exact (by (with_reducible repeat (first | refine blk_drewN ?_ _ | refine blk_drew ?_ | refine blk_alloc ?_ _)); exact BK289.out)⟩; have n1_ : Aside0 (wc.heap[gb291]? = some (.cells #[.string (a0.extract (x5_1 : Int).toNat (t290 : Int).toNat), .int .i64 0, .int .i64 0, .int .i64 0] 37 (0, 0))) := ⟨by rw [← hq_]; exact (by (with_reducible repeat (first | refine blk_drewN ?_ _ | refine blk_drew ?_ | refine blk_alloc ?_ _)); exact BK291.out)⟩; have n2_ : Aside0 (Below w.heap.size w wc) := ⟨by rw [← hq_]; exact (by repeat (first | (with_reducible first | exact HB.out | apply below_alloc | apply pw_below_drewN | apply below_drew1 | refine below_set ?_ GE289.out | refine below_set ?_ GE291.out) | exact HB.out))⟩; clear BK289 BK291 HB hq_; have BK289 := n0_; have BK291 := n1_; have HB := n2_; clear n0_ n1_ n2_)); have hnb56 := NB291_289.out; have hnc56 := NB289_291.out; have hcz57_0 : wc.cell? ⟨gb291, 0, none⟩ = some (.string (a0.extract (x5_1 : Int).toNat (t290 : Int).toNat)) := (blk_cell BK291.out 0).trans rfl; have hcz57_1 : wc.cell? ⟨gb291, 1, none⟩ = some (.int .i64 0) := (blk_cell BK291.out 1).trans rfl; have hcz57_2 : wc.cell? ⟨gb291, 2, none⟩ = some (.int .i64 0) := (blk_cell BK291.out 2).trans rfl; have hcz57_3 : wc.cell? ⟨gb291, 3, none⟩ = some (.int .i64 0) := (blk_cell BK291.out 3).trans rfl; have hfz57_0 := blk_frozen BK291.out 0; have hfz57_1 := blk_frozen BK291.out 1; have hfz57_2 := blk_frozen BK291.out 2; have hfz57_3 := blk_frozen BK291.out 3))
                            have n0_ : Aside0 (((wc.setCell ⟨gb291, 1, none⟩ (.int .i64 t293)).setCell ⟨gb291, 2, none⟩ (.int .i64 t295)).heap[gb289]? = some (.cells #[.string (⟨#[]⟩ : ByteArray), .int .i64 0, .int .i64 0, .int .i64 0] 37 (0, 0))) := ⟨by (with_reducible repeat (first | refine blk_drewN ?_ _ | refine blk_drew ?_ | refine blk_alloc ?_ _)); refine blk_far ?_ NB289_291.out _; (with_reducible repeat (first | refine blk_drewN ?_ _ | refine blk_drew ?_ | refine blk_alloc ?_ _)); refine blk_far ?_ NB289_291.out _; (with_reducible repeat (first | refine blk_drewN ?_ _ | refine blk_drew ?_ | refine blk_alloc ?_ _)); exact BK289.out⟩
                            have n1_ : Aside0 (((wc.setCell ⟨gb291, 1, none⟩ (.int .i64 t293)).setCell ⟨gb291, 2, none⟩ (.int .i64 t295)).heap[gb291]? = some (.cells #[.string (a0.extract (x5_1 : Int).toNat (t290 : Int).toNat), .int .i64 t293, .int .i64 t295, .int .i64 0] 37 (0, 0))) := ⟨by (with_reducible repeat (first | refine blk_drewN ?_ _ | refine blk_drew ?_ | refine blk_alloc ?_ _)); refine blk_put (cs := #[.string (a0.extract (x5_1 : Int).toNat (t290 : Int).toNat), .int .i64 t293, .int .i64 0, .int .i64 0]) ?_ 2 _ rfl; (with_reducible repeat (first | refine blk_drewN ?_ _ | refine blk_drew ?_ | refine blk_alloc ?_ _)); refine blk_put (cs := #[.string (a0.extract (x5_1 : Int).toNat (t290 : Int).toNat), .int .i64 0, .int .i64 0, .int .i64 0]) ?_ 1 _ rfl; (with_reducible repeat (first | refine blk_drewN ?_ _ | refine blk_drew ?_ | refine blk_alloc ?_ _)); exact BK291.out⟩
                            have n2_ : Aside0 (Below w.heap.size w ((wc.setCell ⟨gb291, 1, none⟩ (.int .i64 t293)).setCell ⟨gb291, 2, none⟩ (.int .i64 t295))) := ⟨by repeat (first | (with_reducible first | exact HB.out | apply below_alloc | apply pw_below_drewN | apply below_drew1 | refine below_set ?_ GE289.out | refine below_set ?_ GE291.out) | exact HB.out)⟩
                            (try clear BK289)
                            (try clear BK291)
                            (try clear HB)
                            generalize ((wc.setCell ⟨gb291, 1, none⟩ (.int .i64 t293)).setCell ⟨gb291, 2, none⟩ (.int .i64 t295)) = w58 at n0_ n1_ n2_ ⊢
                            have BK289 := n0_
                            have BK291 := n1_
                            have HB := n2_
                            clear n0_ n1_ n2_
                            have n0_ := Aside0.mk (blk_drew BK289.out)
                            have n1_ := Aside0.mk (blk_drew BK291.out)
                            have n2_ := Aside0.mk (below_drew1 HB.out)
                            clear BK289
                            clear BK291
                            clear HB
                            have BK289 := n0_
                            have BK291 := n1_
                            have HB := n2_
                            clear n0_ n1_ n2_
                            refine start_ (n := 6) (S := fun w' => w'.cell? ⟨gb291, 0, none⟩ = some (.string (a0.extract (x5_1 : Int).toNat (t290 : Int).toNat)) ∧ w'.cell? ⟨gb291, 1, none⟩ = some (.int .i64 t293) ∧ w'.cell? ⟨gb291, 2, none⟩ = some (.int .i64 t295) ∧ w'.cell? ⟨gb291, 3, none⟩ = some (.int .i64 0)) (ds := []) #[false, false, false, false, false, false] (by kernel_rfl) rfl rfl ⟨(blk_cell BK291.out 0).trans rfl, (blk_cell BK291.out 1).trans rfl, (blk_cell BK291.out 2).trans rfl, (blk_cell BK291.out 3).trans rfl⟩ (fun hHeld => ?_)
                            generalize w58.drew = w59 at BK289 BK291 HB hHeld ⊢
                            refine pure_ (i := 0) (N := some 101) (v := ?_) (a' := ?_) #[true, false, false, false, false, false] rfl rfl (by kernel_rfl) (fun _ _ _ h => h) (Or.inl ⟨by rfl, ?_⟩) ?_ ?_
                            rotate_left
                            · intro w'
                              go_simp
                              first | with_reducible rfl | (rw [if_neg (by intro hl_; simp only [ByteArray.size_append, ByteArray.size_extract, szl_0_, szl_1_, szl_2_, szl_3_, szl_4_, szl_5_, szl_6_] at *; omega)])
                            rotate_left
                            · simp only [Act.put, List.setIfInBounds_toArray, List.set_cons_zero, List.set_cons_succ, i64_w, i32_w]
                              rfl
                            refine pure_ (i := 1) (N := some 102) (v := ?_) (a' := ?_) #[true, true, false, false, false, false] rfl rfl (by kernel_rfl) (fun _ _ _ h => h) (Or.inl ⟨by rfl, ?_⟩) ?_ ?_
                            rotate_left
                            · intro w'
                              go_simp
                              first | with_reducible rfl | (rw [if_neg (by intro hl_; simp only [ByteArray.size_append, ByteArray.size_extract, szl_0_, szl_1_, szl_2_, szl_3_, szl_4_, szl_5_, szl_6_] at *; omega)])
                            rotate_left
                            · simp only [Act.put, List.setIfInBounds_toArray, List.set_cons_zero, List.set_cons_succ, i64_w, i32_w]
                              rfl
                            refine pure_ (i := 3) (N := some 2) (v := ?_) (a' := ?_) #[true, true, false, true, false, false] rfl rfl (by kernel_rfl) (fun _ _ _ h => h) (Or.inl ⟨by rfl, ?_⟩) ?_ ?_
                            rotate_left
                            · intro w'
                              go_simp
                              first | with_reducible rfl | (rw [if_neg (by intro hl_; simp only [ByteArray.size_append, ByteArray.size_extract, szl_0_, szl_1_, szl_2_, szl_3_, szl_4_, szl_5_, szl_6_] at *; omega)])
                            rotate_left
                            · simp only [Act.put, List.setIfInBounds_toArray, List.set_cons_zero, List.set_cons_succ, i64_w, i32_w]
                              rfl
                            refine take_ (i := 2) (N := some 103) (v := ?_) (a' := ?_) #[true, true, true, true, false, false] rfl rfl (by kernel_rfl) (fun _ _ _ h => h) (Or.inl ⟨by rfl, ?_⟩) hHeld ?_ ?_
                            rotate_left
                            · rintro w' ⟨s0, s1, s2, s3⟩
                              go_simp
                              first | with_reducible rfl | (rw [if_neg (by intro hl_; simp only [ByteArray.size_append, ByteArray.size_extract, szl_0_, szl_1_, szl_2_, szl_3_, szl_4_, szl_5_, szl_6_] at *; omega)])
                            rotate_left
                            · simp only [Act.put, List.setIfInBounds_toArray, List.set_cons_zero, List.set_cons_succ, i64_w, i32_w]
                              rfl
                            refine one_ (i := 4) (N := none) #[true, true, true, true, true, false] rfl rfl (by kernel_rfl) (by decide) (fun K hK => ?_)
                            have hs60 : w59.cell? ⟨gb289, 0, none⟩ = some (.string (⟨#[]⟩ : ByteArray)) := (blk_cell BK289.out 0).trans rfl
                            have hfs60 := blk_frozen BK289.out 0
                            have hns60_1 := NB291_289.out
                            have hms60_1 := NB289_291.out
                            have hs61 : w59.cell? ⟨gb289, 1, none⟩ = some (.int .i64 0) := (blk_cell BK289.out 1).trans rfl
                            have hfs61 := blk_frozen BK289.out 1
                            have hns61_1 := NB291_289.out
                            have hms61_1 := NB289_291.out
                            have hs62 : w59.cell? ⟨gb289, 2, none⟩ = some (.int .i64 0) := (blk_cell BK289.out 2).trans rfl
                            have hfs62 := blk_frozen BK289.out 2
                            have hns62_1 := NB291_289.out
                            have hms62_1 := NB289_291.out
                            have hs63 : w59.cell? ⟨gb289, 3, none⟩ = some (.int .i64 0) := (blk_cell BK289.out 3).trans rfl
                            have hfs63 := blk_frozen BK289.out 3
                            have hns63_1 := NB291_289.out
                            have hms63_1 := NB289_291.out
                            refine skip_ (w1 := ?_) (by rfl) rfl ?_ ?_
                            rotate_left
                            · go_simp
                              rfl
                            refine hK.out _ _ ⟨((cell_far (p := ⟨gb289, _, none⟩) NB291_289.out _).trans (((cell_far (p := ⟨gb289, _, none⟩) NB291_289.out _).trans (((cell_far (p := ⟨gb289, _, none⟩) NB291_289.out _).trans (((cell_far (p := ⟨gb289, _, none⟩) NB291_289.out _).trans (hHeld.1)))))))), ((cell_far (p := ⟨gb289, _, none⟩) NB291_289.out _).trans (((cell_far (p := ⟨gb289, _, none⟩) NB291_289.out _).trans (((cell_far (p := ⟨gb289, _, none⟩) NB291_289.out _).trans (((cell_far (p := ⟨gb289, _, none⟩) NB291_289.out _).trans (hHeld.2.1)))))))), ((cell_far (p := ⟨gb289, _, none⟩) NB291_289.out _).trans (((cell_far (p := ⟨gb289, _, none⟩) NB291_289.out _).trans (((cell_far (p := ⟨gb289, _, none⟩) NB291_289.out _).trans (((cell_far (p := ⟨gb289, _, none⟩) NB291_289.out _).trans (hHeld.2.2.1)))))))), ((cell_far (p := ⟨gb289, _, none⟩) NB291_289.out _).trans (((cell_far (p := ⟨gb289, _, none⟩) NB291_289.out _).trans (((cell_far (p := ⟨gb289, _, none⟩) NB291_289.out _).trans (((cell_far (p := ⟨gb289, _, none⟩) NB291_289.out _).trans (hHeld.2.2.2))))))))⟩ (fun hHeld => ?_)
                            clear hK K
                            refine pure_ (i := 5) (N := some 4) (v := ?_) (a' := ?_) #[true, true, true, true, true, true] rfl rfl (by kernel_rfl) (fun _ _ _ h => h) (Or.inl ⟨by rfl, ?_⟩) ?_ ?_
                            rotate_left
                            · intro w'
                              go_simp
                              first | with_reducible rfl | (rw [if_neg (by intro hl_; simp only [ByteArray.size_append, ByteArray.size_extract, szl_0_, szl_1_, szl_2_, szl_3_, szl_4_, szl_5_, szl_6_] at *; omega)])
                            rotate_left
                            · simp only [Act.put, List.setIfInBounds_toArray, List.set_cons_zero, List.set_cons_succ, i64_w, i32_w]
                              rfl
                            refine done_ (by kernel_rfl) ?_
                            try go_wp2
                            refine bodyPost_ret (results_list (rs := [.tmp 2, .cell 3 37, .tmp 4]) rfl (by simp) (.tmp (.cell gb289 37 #[.string (a0.extract (x5_1 : Int).toNat (t290 : Int).toNat), .int .i64 t293, .int .i64 t295, .int .i64 0] (0, 0) _ rfl (by (with_reducible repeat (first | refine blk_drewN ?_ _ | refine blk_drew ?_ | refine blk_alloc ?_ _)); refine blk_put (cs := #[.string (a0.extract (x5_1 : Int).toNat (t290 : Int).toNat), .int .i64 t293, .int .i64 t295, .int .i64 0]) ?_ 3 _ rfl; (with_reducible repeat (first | refine blk_drewN ?_ _ | refine blk_drew ?_ | refine blk_alloc ?_ _)); refine blk_put (cs := #[.string (a0.extract (x5_1 : Int).toNat (t290 : Int).toNat), .int .i64 t293, .int .i64 0, .int .i64 0]) ?_ 2 _ rfl; (with_reducible repeat (first | refine blk_drewN ?_ _ | refine blk_drew ?_ | refine blk_alloc ?_ _)); refine blk_put (cs := #[.string (a0.extract (x5_1 : Int).toNat (t290 : Int).toNat), .int .i64 0, .int .i64 0, .int .i64 0]) ?_ 1 _ rfl; (with_reducible repeat (first | refine blk_drewN ?_ _ | refine blk_drew ?_ | refine blk_alloc ?_ _)); refine blk_put (cs := #[.string (⟨#[]⟩ : ByteArray), .int .i64 0, .int .i64 0, .int .i64 0]) ?_ 0 _ rfl; (with_reducible repeat (first | refine blk_drewN ?_ _ | refine blk_drew ?_ | refine blk_alloc ?_ _)); exact BK289.out) Tryd.underlying37 rfl (by kernel_rfl) (.tmp .nil)))) rfl ?_
                            exact ⟨by first | rfl | (simp [errW_none, errW_some] <;> rfl) | (simp [*, errW_none, errW_some] <;> rfl), by repeat (first | (with_reducible first | exact HB.out | apply below_alloc | apply pw_below_drewN | apply below_drew1 | refine below_set ?_ GE289.out | refine below_set ?_ GE291.out) | exact HB.out)⟩
                          · rw [if_neg c55] at H
                            have c55b0 : (t296 == (a0.size : Int)) = false := beq_eq_false_iff_ne.mpr c55
                            have c55b1 : (t296 != (a0.size : Int)) = true := bne_iff_ne.mpr c55
                            simp only [Option.some.injEq, Prod.mk.injEq] at H
                            obtain ⟨rfl, rfl, rfl, rfl, rfl, rfl⟩ := H
                            try go_wp2_with (first | ((with_reducible refine gate_callee (f := 56) rfl ?_); refine goesL_ (some 83) rfl rfl Tryd.func56 (by kernel_rfl) rfl #[.string a0, .int .i64 (wrap64 (t294 + 1)), .int .i64 65536] rfl (by (try simp only [List.map_toArray, List.map_cons, List.map_nil]); first | done | rfl | (simp only [List.length_drop, List.length_take]; rfl)) ?_; (with_reducible refine (dowelref12_number.calls kj35 a0 (wrap64 (t294 + 1)) 65536 t295 t296 _ A48.out).mono ?_); rintro e w' ⟨rfl, ⟨nd, rfl⟩⟩; refine ⟨_, rfl, ?_⟩; (try (rw [drewN_self wc]; generalize hq_ : World.drewN wc _ = wc; have n0_ : Aside0 (wc.heap[gb289]? = some (.cells #[.string (⟨#[]⟩ : ByteArray), .int .i64 0, .int .i64 0, .int .i64 0] 37 (0, 0))) := ⟨by rw [← hq_]; exact (by (with_reducible repeat (first | refine blk_drewN ?_ _ | refine blk_drew ?_ | refine blk_alloc ?_ _)); exact BK289.out)⟩; have n1_ : Aside0 (wc.heap[gb291]? = some (.cells #[.string (a0.extract (x5_1 : Int).toNat (t290 : Int).toNat), .int .i64 0, .int .i64 0, .int .i64 0] 37 (0, 0))) := ⟨by rw [← hq_]; exact (by (with_reducible repeat (first | refine blk_drewN ?_ _ | refine blk_drew ?_ | refine blk_alloc ?_ _)); exact BK291.out)⟩; have n2_ : Aside0 (Below w.heap.size w wc) := ⟨by rw [← hq_]; exact (by repeat (first | (with_reducible first | exact HB.out | apply below_alloc | apply pw_below_drewN | apply below_drew1 | refine below_set ?_ GE289.out | refine below_set ?_ GE291.out) | exact HB.out))⟩; clear BK289 BK291 HB hq_; have BK289 := n0_; have BK291 := n1_; have HB := n2_; clear n0_ n1_ n2_))))
                            have n0_ := Aside0.mk (blk_drew BK289.out)
                            have n1_ := Aside0.mk (blk_drew BK291.out)
                            have n2_ := Aside0.mk (below_drew1 HB.out)
                            clear BK289
                            clear BK291
                            clear HB
                            have BK289 := n0_
                            have BK291 := n1_
                            have HB := n2_
                            clear n0_ n1_ n2_
                            refine start_ (n := 4) (S := fun w' => w'.cell? ⟨gb291, 0, none⟩ = some (.string (a0.extract (x5_1 : Int).toNat (t290 : Int).toNat)) ∧ w'.cell? ⟨gb291, 1, none⟩ = some (.int .i64 0) ∧ w'.cell? ⟨gb291, 2, none⟩ = some (.int .i64 0) ∧ w'.cell? ⟨gb291, 3, none⟩ = some (.int .i64 0)) (ds := []) #[false, false, false, false] (by kernel_rfl) rfl rfl ⟨(blk_cell BK291.out 0).trans rfl, (blk_cell BK291.out 1).trans rfl, (blk_cell BK291.out 2).trans rfl, (blk_cell BK291.out 3).trans rfl⟩ (fun hHeld => ?_)
                            generalize wc.drew = w64 at BK289 BK291 HB hHeld ⊢
                            refine pure_ (i := 1) (N := some 2) (v := ?_) (a' := ?_) #[false, true, false, false] rfl rfl (by kernel_rfl) (fun _ _ _ h => h) (Or.inl ⟨by rfl, ?_⟩) ?_ ?_
                            rotate_left
                            · intro w'
                              go_simp
                              first | with_reducible rfl | (rw [if_neg (by intro hl_; simp only [ByteArray.size_append, ByteArray.size_extract, szl_0_, szl_1_, szl_2_, szl_3_, szl_4_, szl_5_, szl_6_] at *; omega)])
                            rotate_left
                            · simp only [Act.put, List.setIfInBounds_toArray, List.set_cons_zero, List.set_cons_succ, i64_w, i32_w]
                              rfl
                            refine take_ (i := 0) (N := some 96) (v := ?_) (a' := ?_) #[true, true, false, false] rfl rfl (by kernel_rfl) (fun _ _ _ h => h) (Or.inl ⟨by rfl, ?_⟩) hHeld ?_ ?_
                            rotate_left
                            · rintro w' ⟨s0, s1, s2, s3⟩
                              go_simp
                              first | with_reducible rfl | (rw [if_neg (by intro hl_; simp only [ByteArray.size_append, ByteArray.size_extract, szl_0_, szl_1_, szl_2_, szl_3_, szl_4_, szl_5_, szl_6_] at *; omega)])
                            rotate_left
                            · simp only [Act.put, List.setIfInBounds_toArray, List.set_cons_zero, List.set_cons_succ, i64_w, i32_w]
                              rfl
                            refine one_ (i := 2) (N := none) #[true, true, true, false] rfl rfl (by kernel_rfl) (by decide) (fun K hK => ?_)
                            have hs65 : w64.cell? ⟨gb289, 0, none⟩ = some (.string (⟨#[]⟩ : ByteArray)) := (blk_cell BK289.out 0).trans rfl
                            have hfs65 := blk_frozen BK289.out 0
                            have hns65_1 := NB291_289.out
                            have hms65_1 := NB289_291.out
                            have hs66 : w64.cell? ⟨gb289, 1, none⟩ = some (.int .i64 0) := (blk_cell BK289.out 1).trans rfl
                            have hfs66 := blk_frozen BK289.out 1
                            have hns66_1 := NB291_289.out
                            have hms66_1 := NB289_291.out
                            have hs67 : w64.cell? ⟨gb289, 2, none⟩ = some (.int .i64 0) := (blk_cell BK289.out 2).trans rfl
                            have hfs67 := blk_frozen BK289.out 2
                            have hns67_1 := NB291_289.out
                            have hms67_1 := NB289_291.out
                            have hs68 : w64.cell? ⟨gb289, 3, none⟩ = some (.int .i64 0) := (blk_cell BK289.out 3).trans rfl
                            have hfs68 := blk_frozen BK289.out 3
                            have hns68_1 := NB291_289.out
                            have hms68_1 := NB289_291.out
                            refine skip_ (w1 := ?_) (by rfl) rfl ?_ ?_
                            rotate_left
                            · go_simp
                              rfl
                            refine hK.out _ _ ⟨((cell_far (p := ⟨gb289, _, none⟩) NB291_289.out _).trans (((cell_far (p := ⟨gb289, _, none⟩) NB291_289.out _).trans (((cell_far (p := ⟨gb289, _, none⟩) NB291_289.out _).trans (((cell_far (p := ⟨gb289, _, none⟩) NB291_289.out _).trans (hHeld.1)))))))), ((cell_far (p := ⟨gb289, _, none⟩) NB291_289.out _).trans (((cell_far (p := ⟨gb289, _, none⟩) NB291_289.out _).trans (((cell_far (p := ⟨gb289, _, none⟩) NB291_289.out _).trans (((cell_far (p := ⟨gb289, _, none⟩) NB291_289.out _).trans (hHeld.2.1)))))))), ((cell_far (p := ⟨gb289, _, none⟩) NB291_289.out _).trans (((cell_far (p := ⟨gb289, _, none⟩) NB291_289.out _).trans (((cell_far (p := ⟨gb289, _, none⟩) NB291_289.out _).trans (((cell_far (p := ⟨gb289, _, none⟩) NB291_289.out _).trans (hHeld.2.2.1)))))))), ((cell_far (p := ⟨gb289, _, none⟩) NB291_289.out _).trans (((cell_far (p := ⟨gb289, _, none⟩) NB291_289.out _).trans (((cell_far (p := ⟨gb289, _, none⟩) NB291_289.out _).trans (((cell_far (p := ⟨gb289, _, none⟩) NB291_289.out _).trans (hHeld.2.2.2))))))))⟩ (fun hHeld => ?_)
                            clear hK K
                            refine pure_ (i := 3) (N := some 4) (v := ?_) (a' := ?_) #[true, true, true, true] rfl rfl (by kernel_rfl) (fun _ _ _ h => h) (Or.inl ⟨by rfl, ?_⟩) ?_ ?_
                            rotate_left
                            · intro w'
                              go_simp
                              first | with_reducible rfl | (rw [if_neg (by intro hl_; simp only [ByteArray.size_append, ByteArray.size_extract, szl_0_, szl_1_, szl_2_, szl_3_, szl_4_, szl_5_, szl_6_] at *; omega)])
                            rotate_left
                            · simp only [Act.put, List.setIfInBounds_toArray, List.set_cons_zero, List.set_cons_succ, i64_w, i32_w]
                              rfl
                            refine done_ (by kernel_rfl) ?_
                            try go_wp2
                            refine bodyPost_ret (results_list (rs := [.tmp 2, .cell 3 37, .tmp 4]) rfl (by simp) (.tmp (.cell gb289 37 #[.string (a0.extract (x5_1 : Int).toNat (t290 : Int).toNat), .int .i64 0, .int .i64 0, .int .i64 0] (0, 0) _ rfl (by (with_reducible repeat (first | refine blk_drewN ?_ _ | refine blk_drew ?_ | refine blk_alloc ?_ _)); refine blk_put (cs := #[.string (a0.extract (x5_1 : Int).toNat (t290 : Int).toNat), .int .i64 0, .int .i64 0, .int .i64 0]) ?_ 3 _ rfl; (with_reducible repeat (first | refine blk_drewN ?_ _ | refine blk_drew ?_ | refine blk_alloc ?_ _)); refine blk_put (cs := #[.string (a0.extract (x5_1 : Int).toNat (t290 : Int).toNat), .int .i64 0, .int .i64 0, .int .i64 0]) ?_ 2 _ rfl; (with_reducible repeat (first | refine blk_drewN ?_ _ | refine blk_drew ?_ | refine blk_alloc ?_ _)); refine blk_put (cs := #[.string (a0.extract (x5_1 : Int).toNat (t290 : Int).toNat), .int .i64 0, .int .i64 0, .int .i64 0]) ?_ 1 _ rfl; (with_reducible repeat (first | refine blk_drewN ?_ _ | refine blk_drew ?_ | refine blk_alloc ?_ _)); refine blk_put (cs := #[.string (⟨#[]⟩ : ByteArray), .int .i64 0, .int .i64 0, .int .i64 0]) ?_ 0 _ rfl; (with_reducible repeat (first | refine blk_drewN ?_ _ | refine blk_drew ?_ | refine blk_alloc ?_ _)); exact BK289.out) Tryd.underlying37 rfl (by kernel_rfl) (.tmp .nil)))) rfl ?_
                            exact ⟨by first | rfl | (simp [errW_none, errW_some] <;> rfl) | (simp [*, errW_none, errW_some] <;> rfl), by repeat (first | (with_reducible first | exact HB.out | apply below_alloc | apply pw_below_drewN | apply below_drew1 | refine below_set ?_ GE289.out | refine below_set ?_ GE291.out) | exact HB.out)⟩
          · rw [if_neg c11] at H
            exact absurd H (by simp)
        · rw [if_neg c10] at H
          exact absurd H (by simp)
      · rw [if_neg c9] at H
        exact absurd H (by simp)

end Go.Proofs.YtkebableanenkaaDoor.Qall
