-- WRITTEN BY A PROGRAM OF THIS SESSION (wip/tools/myprint.py, over the kit's print); Lean checks it.
import Derived.Test.YtloflodbcdlmpaaDoorQallx0
import Derived.Test.YtloflodbcdlmpaaDoorQx42
import Derived.Test.YtloflodbcdlmpaaDoorPl22
import Derived.Test.YtloflodbcdlmpaaDoorPl32
namespace Go.Proofs.YtloflodbcdlmpaaDoor.Qall
open Go.RowKit Go.Proofs.YtloflodbcdlmpaaDoorW.PrintWords Go.Proofs.YtloflodbcdlmpaaDoorW.PrintLast Go.Proofs.YtloflodbcdlmpaaDoorW.PrintMore
attribute [local go_sem] max2_int min2_int max_two min_two max_three min_three max_four min_four   -- for this text's walks alone
set_option linter.unusedVariables false
set_option linter.unusedSimpArgs false

/-! ### report_Notice: function 14 -/
def report_Notice.f (k : Nat) (a0 : ByteArray) (a1 : ByteArray) (a2_0 : Int) (a2_1 : Int) : Option (ByteArray × Int) := (place_Spot.f k a1 a2_0).bind fun bt306 => (if bt306.2.2.2 = 0 then ((place_Excerpt.f a1 a2_0 72).bind fun bt311 => (if bt311.2 = 0 then (if (a0.size : Int) > 4194304 then (some ((⟨#[]⟩ : ByteArray), 2)) else (if a0.size + 1 ≤ 9223372036854775807 then ((strconv_Itoa.f bt306.1).bind fun t313 => (if (a0 ++ (⟨#[58]⟩ : ByteArray)).size + t313.size ≤ 9223372036854775807 then (if ((a0 ++ (⟨#[58]⟩ : ByteArray)) ++ t313).size + 1 ≤ 9223372036854775807 then ((strconv_Itoa.f bt306.2.1).bind fun t314 => (if (((a0 ++ (⟨#[58]⟩ : ByteArray)) ++ t313) ++ (⟨#[58]⟩ : ByteArray)).size + t314.size ≤ 9223372036854775807 then (if ((((a0 ++ (⟨#[58]⟩ : ByteArray)) ++ t313) ++ (⟨#[58]⟩ : ByteArray)) ++ t314).size + 8 ≤ 9223372036854775807 then ((strconv_Itoa.f a2_1).bind fun t315 => (if (((((a0 ++ (⟨#[58]⟩ : ByteArray)) ++ t313) ++ (⟨#[58]⟩ : ByteArray)) ++ t314) ++ (⟨#[58, 32, 101, 114, 114, 111, 114, 32]⟩ : ByteArray)).size + t315.size ≤ 9223372036854775807 then (if ((((((a0 ++ (⟨#[58]⟩ : ByteArray)) ++ t313) ++ (⟨#[58]⟩ : ByteArray)) ++ t314) ++ (⟨#[58, 32, 101, 114, 114, 111, 114, 32]⟩ : ByteArray)) ++ t315).size + 1 ≤ 9223372036854775807 then (if (((((((a0 ++ (⟨#[58]⟩ : ByteArray)) ++ t313) ++ (⟨#[58]⟩ : ByteArray)) ++ t314) ++ (⟨#[58, 32, 101, 114, 114, 111, 114, 32]⟩ : ByteArray)) ++ t315) ++ (⟨#[10]⟩ : ByteArray)).size + bt311.1.size ≤ 9223372036854775807 then (if (((((((((a0 ++ (⟨#[58]⟩ : ByteArray)) ++ t313) ++ (⟨#[58]⟩ : ByteArray)) ++ t314) ++ (⟨#[58, 32, 101, 114, 114, 111, 114, 32]⟩ : ByteArray)) ++ t315) ++ (⟨#[10]⟩ : ByteArray)) ++ bt311.1).size : Int) > 4194304 then (some ((⟨#[]⟩ : ByteArray), 2)) else (some ((((((((a0 ++ (⟨#[58]⟩ : ByteArray)) ++ t313) ++ (⟨#[58]⟩ : ByteArray)) ++ t314) ++ (⟨#[58, 32, 101, 114, 114, 111, 114, 32]⟩ : ByteArray)) ++ t315) ++ (⟨#[10]⟩ : ByteArray)) ++ bt311.1, 0))) else (none)) else (none)) else (none))) else (none)) else (none))) else (none)) else (none))) else (none))) else (some ((⟨#[]⟩ : ByteArray), bt311.2)))) else (some ((⟨#[]⟩ : ByteArray), bt306.2.2.2)))
theorem report_Notice.mono : ∀ a0 a1 a2 a3 k, LeO (report_Notice.f k a0 a1 a2 a3) (report_Notice.f (k + 1) a0 a1 a2 a3) := by
  intro a0 a1 a2 a3 k
  unfold report_Notice.f
  repeat' first
      | (with_reducible exact place_Spot.mono _ _ _)
      | (with_reducible exact LeO.refl _)
      | (with_reducible exact LeO.none _)
      | (with_reducible refine LeO.ite ?_ ?_)
      | (with_reducible refine LeO.bind ?_ (fun _ => ?_))
      | exact place_Spot.mono _ _ _
      | exact LeO.none _
      | refine LeO.ite ?_ ?_
      | refine LeO.bind ?_ (fun _ => ?_)
def report_Notice.T9 : Bool × List (List Nat × List Nat) := (true, [([], []), ([0], [0]), ([], []), ([2], [2]), ([3], [3]), ([1, 4], [1, 4]), ([5], [5]), ([], []), ([7], [7]), ([8, 4], [8]), ([6, 9], [6, 9]), ([10], [10]), ([], []), ([12], [12]), ([13, 9], [13]), ([11, 14], [11, 14]), ([15], [15]), ([], []), ([16, 17], [16, 17]), ([18, 14, 0, 1, 2, 3, 4, 5, 6, 7, 8, 9, 10, 11, 12, 13, 14, 15, 16, 17, 18], [18])])
def report_Notice.B9 : List Nat := [0, 1, 0, 4, 12, 31, 63, 0, 128, 412, 1023, 2047, 0, 4096, 13212, 32767, 65535, 0, 262143, 524287]
theorem report_Notice.tab9 : rtab .any (opsOf Tryd.f14 9) = report_Notice.T9 := by kernel_rfl
theorem report_Notice.bits9 : waitsOk report_Notice.T9.2 report_Notice.B9 = true := by kernel_rfl
set_option maxHeartbeats 8000000 in
set_option maxRecDepth 100000 in
theorem report_Notice.calls (k : Nat) (a0 : ByteArray) (a1 : ByteArray) (a2_0 : Int) (a2_1 : Int) (r1 : ByteArray) (r2 : Int) (w : World) (h : report_Notice.f k a0 a1 a2_0 a2_1 = some (r1, r2)) (htab : Tab w) :
    Calls Tryd.prog 14 #[.string a0, .string a1, .agg #[.int .i64 a2_0, .int .i64 a2_1]] w fun e w' => e = .returned (.tuple #[.string r1, .int .i64 r2]) ∧ Below w.heap.size w w' := by
  have hu34 := Tryd.underlying34
  have hu63 := Tryd.underlying63
  have HB := Aside0.mk (Below.refl w.heap.size w)
  have H : ((place_Spot.f k a1 a2_0).bind fun bt306 => (if bt306.2.2.2 = 0 then ((place_Excerpt.f a1 a2_0 72).bind fun bt311 => (if bt311.2 = 0 then (if (a0.size : Int) > 4194304 then (some ((⟨#[]⟩ : ByteArray), 2)) else (if a0.size + 1 ≤ 9223372036854775807 then ((strconv_Itoa.f bt306.1).bind fun t313 => (if (a0 ++ (⟨#[58]⟩ : ByteArray)).size + t313.size ≤ 9223372036854775807 then (if ((a0 ++ (⟨#[58]⟩ : ByteArray)) ++ t313).size + 1 ≤ 9223372036854775807 then ((strconv_Itoa.f bt306.2.1).bind fun t314 => (if (((a0 ++ (⟨#[58]⟩ : ByteArray)) ++ t313) ++ (⟨#[58]⟩ : ByteArray)).size + t314.size ≤ 9223372036854775807 then (if ((((a0 ++ (⟨#[58]⟩ : ByteArray)) ++ t313) ++ (⟨#[58]⟩ : ByteArray)) ++ t314).size + 8 ≤ 9223372036854775807 then ((strconv_Itoa.f a2_1).bind fun t315 => (if (((((a0 ++ (⟨#[58]⟩ : ByteArray)) ++ t313) ++ (⟨#[58]⟩ : ByteArray)) ++ t314) ++ (⟨#[58, 32, 101, 114, 114, 111, 114, 32]⟩ : ByteArray)).size + t315.size ≤ 9223372036854775807 then (if ((((((a0 ++ (⟨#[58]⟩ : ByteArray)) ++ t313) ++ (⟨#[58]⟩ : ByteArray)) ++ t314) ++ (⟨#[58, 32, 101, 114, 114, 111, 114, 32]⟩ : ByteArray)) ++ t315).size + 1 ≤ 9223372036854775807 then (if (((((((a0 ++ (⟨#[58]⟩ : ByteArray)) ++ t313) ++ (⟨#[58]⟩ : ByteArray)) ++ t314) ++ (⟨#[58, 32, 101, 114, 114, 111, 114, 32]⟩ : ByteArray)) ++ t315) ++ (⟨#[10]⟩ : ByteArray)).size + bt311.1.size ≤ 9223372036854775807 then (if (((((((((a0 ++ (⟨#[58]⟩ : ByteArray)) ++ t313) ++ (⟨#[58]⟩ : ByteArray)) ++ t314) ++ (⟨#[58, 32, 101, 114, 114, 111, 114, 32]⟩ : ByteArray)) ++ t315) ++ (⟨#[10]⟩ : ByteArray)) ++ bt311.1).size : Int) > 4194304 then (some ((⟨#[]⟩ : ByteArray), 2)) else (some ((((((((a0 ++ (⟨#[58]⟩ : ByteArray)) ++ t313) ++ (⟨#[58]⟩ : ByteArray)) ++ t314) ++ (⟨#[58, 32, 101, 114, 114, 111, 114, 32]⟩ : ByteArray)) ++ t315) ++ (⟨#[10]⟩ : ByteArray)) ++ bt311.1, 0))) else (none)) else (none)) else (none))) else (none)) else (none))) else (none)) else (none))) else (none))) else (some ((⟨#[]⟩ : ByteArray), bt311.2)))) else (some ((⟨#[]⟩ : ByteArray), bt306.2.2.2)))) = some (r1, r2) := h
  clear h
  replace H := Option.bind_eq_some_iff.mp H
  obtain ⟨⟨t306, t307, t308, t309⟩, A40, H⟩ := H
  replace H : (if t309 = 0 then ((place_Excerpt.f a1 a2_0 72).bind fun bt311 => (if bt311.2 = 0 then (if (a0.size : Int) > 4194304 then (some ((⟨#[]⟩ : ByteArray), 2)) else (if a0.size + 1 ≤ 9223372036854775807 then ((strconv_Itoa.f t306).bind fun t313 => (if (a0 ++ (⟨#[58]⟩ : ByteArray)).size + t313.size ≤ 9223372036854775807 then (if ((a0 ++ (⟨#[58]⟩ : ByteArray)) ++ t313).size + 1 ≤ 9223372036854775807 then ((strconv_Itoa.f t307).bind fun t314 => (if (((a0 ++ (⟨#[58]⟩ : ByteArray)) ++ t313) ++ (⟨#[58]⟩ : ByteArray)).size + t314.size ≤ 9223372036854775807 then (if ((((a0 ++ (⟨#[58]⟩ : ByteArray)) ++ t313) ++ (⟨#[58]⟩ : ByteArray)) ++ t314).size + 8 ≤ 9223372036854775807 then ((strconv_Itoa.f a2_1).bind fun t315 => (if (((((a0 ++ (⟨#[58]⟩ : ByteArray)) ++ t313) ++ (⟨#[58]⟩ : ByteArray)) ++ t314) ++ (⟨#[58, 32, 101, 114, 114, 111, 114, 32]⟩ : ByteArray)).size + t315.size ≤ 9223372036854775807 then (if ((((((a0 ++ (⟨#[58]⟩ : ByteArray)) ++ t313) ++ (⟨#[58]⟩ : ByteArray)) ++ t314) ++ (⟨#[58, 32, 101, 114, 114, 111, 114, 32]⟩ : ByteArray)) ++ t315).size + 1 ≤ 9223372036854775807 then (if (((((((a0 ++ (⟨#[58]⟩ : ByteArray)) ++ t313) ++ (⟨#[58]⟩ : ByteArray)) ++ t314) ++ (⟨#[58, 32, 101, 114, 114, 111, 114, 32]⟩ : ByteArray)) ++ t315) ++ (⟨#[10]⟩ : ByteArray)).size + bt311.1.size ≤ 9223372036854775807 then (if (((((((((a0 ++ (⟨#[58]⟩ : ByteArray)) ++ t313) ++ (⟨#[58]⟩ : ByteArray)) ++ t314) ++ (⟨#[58, 32, 101, 114, 114, 111, 114, 32]⟩ : ByteArray)) ++ t315) ++ (⟨#[10]⟩ : ByteArray)) ++ bt311.1).size : Int) > 4194304 then (some ((⟨#[]⟩ : ByteArray), 2)) else (some ((((((((a0 ++ (⟨#[58]⟩ : ByteArray)) ++ t313) ++ (⟨#[58]⟩ : ByteArray)) ++ t314) ++ (⟨#[58, 32, 101, 114, 114, 111, 114, 32]⟩ : ByteArray)) ++ t315) ++ (⟨#[10]⟩ : ByteArray)) ++ bt311.1, 0))) else (none)) else (none)) else (none))) else (none)) else (none))) else (none)) else (none))) else (none))) else (some ((⟨#[]⟩ : ByteArray), bt311.2)))) else (some ((⟨#[]⟩ : ByteArray), t309))) = some (r1, r2) := H
  have A4 := Aside0.mk A40
  clear A40
  by_cases c5 : t309 = 0
  · rw [if_pos c5] at H
    have c5b0 : (t309 == 0) = true := beq_iff_eq.mpr c5
    have c5b1 : (t309 != 0) = false := bne_eq_false_iff_eq.mpr c5
    clear c5
    replace H := Option.bind_eq_some_iff.mp H
    obtain ⟨⟨t311, t312⟩, A60, H⟩ := H
    replace H : (if t312 = 0 then (if (a0.size : Int) > 4194304 then (some ((⟨#[]⟩ : ByteArray), 2)) else (if a0.size + 1 ≤ 9223372036854775807 then ((strconv_Itoa.f t306).bind fun t313 => (if (a0 ++ (⟨#[58]⟩ : ByteArray)).size + t313.size ≤ 9223372036854775807 then (if ((a0 ++ (⟨#[58]⟩ : ByteArray)) ++ t313).size + 1 ≤ 9223372036854775807 then ((strconv_Itoa.f t307).bind fun t314 => (if (((a0 ++ (⟨#[58]⟩ : ByteArray)) ++ t313) ++ (⟨#[58]⟩ : ByteArray)).size + t314.size ≤ 9223372036854775807 then (if ((((a0 ++ (⟨#[58]⟩ : ByteArray)) ++ t313) ++ (⟨#[58]⟩ : ByteArray)) ++ t314).size + 8 ≤ 9223372036854775807 then ((strconv_Itoa.f a2_1).bind fun t315 => (if (((((a0 ++ (⟨#[58]⟩ : ByteArray)) ++ t313) ++ (⟨#[58]⟩ : ByteArray)) ++ t314) ++ (⟨#[58, 32, 101, 114, 114, 111, 114, 32]⟩ : ByteArray)).size + t315.size ≤ 9223372036854775807 then (if ((((((a0 ++ (⟨#[58]⟩ : ByteArray)) ++ t313) ++ (⟨#[58]⟩ : ByteArray)) ++ t314) ++ (⟨#[58, 32, 101, 114, 114, 111, 114, 32]⟩ : ByteArray)) ++ t315).size + 1 ≤ 9223372036854775807 then (if (((((((a0 ++ (⟨#[58]⟩ : ByteArray)) ++ t313) ++ (⟨#[58]⟩ : ByteArray)) ++ t314) ++ (⟨#[58, 32, 101, 114, 114, 111, 114, 32]⟩ : ByteArray)) ++ t315) ++ (⟨#[10]⟩ : ByteArray)).size + t311.size ≤ 9223372036854775807 then (if (((((((((a0 ++ (⟨#[58]⟩ : ByteArray)) ++ t313) ++ (⟨#[58]⟩ : ByteArray)) ++ t314) ++ (⟨#[58, 32, 101, 114, 114, 111, 114, 32]⟩ : ByteArray)) ++ t315) ++ (⟨#[10]⟩ : ByteArray)) ++ t311).size : Int) > 4194304 then (some ((⟨#[]⟩ : ByteArray), 2)) else (some ((((((((a0 ++ (⟨#[58]⟩ : ByteArray)) ++ t313) ++ (⟨#[58]⟩ : ByteArray)) ++ t314) ++ (⟨#[58, 32, 101, 114, 114, 111, 114, 32]⟩ : ByteArray)) ++ t315) ++ (⟨#[10]⟩ : ByteArray)) ++ t311, 0))) else (none)) else (none)) else (none))) else (none)) else (none))) else (none)) else (none))) else (none))) else (some ((⟨#[]⟩ : ByteArray), t312))) = some (r1, r2) := H
    have A6 := Aside0.mk A60
    clear A60
    by_cases c7 : t312 = 0
    · rw [if_pos c7] at H
      have c7b0 : (t312 == 0) = true := beq_iff_eq.mpr c7
      have c7b1 : (t312 != 0) = false := bne_eq_false_iff_eq.mpr c7
      clear c7
      by_cases c8 : (a0.size : Int) > 4194304
      · rw [if_pos c8] at H
        have c8b0 : decide (4194304 < (a0.size : Int)) = true := decide_eq_true c8
        have c8b1 : decide (4194304 < a0.size) = true := decide_eq_true (by omega)
        clear c8
        simp only [Option.some.injEq, Prod.mk.injEq] at H
        obtain ⟨rfl, rfl⟩ := H
        go_enter Tryd.func14, Tryd.ntmps14
        go_wp2_with (first | ((with_reducible refine gate_dst (N := 5) rfl ?_); refine box_event ?hg (N := 5) ?hd (cs := #[.int .i64 a2_0, .int .i64 a2_1]) (t := 34) ?hr ?_; (case hd => rfl); (case hg => rfl); (case hr => first | (go_simp; done) | (go_simp; rfl)); intro gb305 hg w9 hbox hb; have n0_ := Aside0.mk (below_step (by repeat (first | (with_reducible first | exact HB.out | apply below_alloc | apply pw_below_drewN | apply below_drew1) | exact HB.out)) hb); have n1_ := Aside0.mk (hbox); have n2_ := Aside0.mk ((by rw [hg]; exact (below_size (by repeat (first | (with_reducible first | exact HB.out | apply below_alloc | apply pw_below_drewN | apply below_drew1) | exact HB.out))) : w.heap.size ≤ gb305)); have n3_ := Aside0.mk ((by rw [hg]; exact (below_size (by repeat (first | (with_reducible first | exact HB.out | apply below_alloc | apply pw_below_drewN | apply below_drew1) | exact HB.out))) : w.heap.size ≤ gb305)); clear HB; have HB := n0_; have BK305 := n1_; have GW305 := n2_; have GE305 := n3_; clear n0_ n1_ n2_ n3_; clear hb hbox hg; have hcz10_0 : w9.cell? ⟨gb305, 0, none⟩ = some (.int .i64 a2_0) := (blk_cell BK305.out 0).trans rfl; have hcz10_1 : w9.cell? ⟨gb305, 1, none⟩ = some (.int .i64 a2_1) := (blk_cell BK305.out 1).trans rfl; have hfz10_0 := blk_frozen BK305.out 0; have hfz10_1 := blk_frozen BK305.out 1) | ((with_reducible refine gate_callee (f := 35) rfl ?_); refine goesL_ (some 16) rfl rfl Tryd.func35 (by kernel_rfl) rfl #[.string a1, .int .i64 a2_0] rfl (by (try simp only [List.map_toArray, List.map_cons, List.map_nil]); first | done | rfl | (simp only [List.length_drop, List.length_take]; rfl)) ?_; (with_reducible refine (place_Spot.calls k a1 a2_0 t306 t307 t308 t309 _ A4.out).mono ?_); rintro e w11 ⟨rfl, hb⟩; refine ⟨_, rfl, ?_⟩; have n0_ := Aside0.mk (blk_below (g := gb305) (o := .cells #[.int .i64 a2_0, .int .i64 a2_1] 34 (0, 0)) (by (with_reducible repeat (first | refine blk_drewN ?_ _ | refine blk_drew ?_ | refine blk_alloc ?_ _)); exact BK305.out) hb); have n1_ := Aside0.mk (below_step (by repeat (first | (with_reducible first | exact HB.out | apply below_alloc | apply pw_below_drewN | apply below_drew1 | refine below_set ?_ GE305.out) | exact HB.out)) hb); clear BK305; clear HB; have BK305 := n0_; have HB := n1_; clear n0_ n1_; (try clear hb); (try clear hb2); (try clear hk); (try clear hi)) | ((with_reducible refine gate_dst (N := 8) rfl ?_); refine box_event ?hg (N := 8) ?hd (cs := #[.int .i64 0, .int .i64 0, .int .i64 0]) (t := 63) ?hr ?_; (case hd => rfl); (case hg => rfl); (case hr => first | (go_simp; done) | (go_simp; rfl)); intro gb310 hg w12 hbox hb; have n0_ := Aside0.mk (blk_below (g := gb305) (o := .cells #[.int .i64 a2_0, .int .i64 a2_1] 34 (0, 0)) (by (with_reducible repeat (first | refine blk_drewN ?_ _ | refine blk_drew ?_ | refine blk_alloc ?_ _)); exact BK305.out) hb); have n1_ := Aside0.mk (below_step (by repeat (first | (with_reducible first | exact HB.out | apply below_alloc | apply pw_below_drewN | apply below_drew1 | refine below_set ?_ GE305.out) | exact HB.out)) hb); have n2_ := Aside0.mk (hbox); have n3_ := Aside0.mk ((by rw [hg]; exact (below_size (by repeat (first | (with_reducible first | exact HB.out | apply below_alloc | apply pw_below_drewN | apply below_drew1 | refine below_set ?_ GE305.out) | exact HB.out))) : w.heap.size ≤ gb310)); have n4_ := Aside0.mk ((by rw [hg]; exact (below_size (by repeat (first | (with_reducible first | exact HB.out | apply below_alloc | apply pw_below_drewN | apply below_drew1 | refine below_set ?_ GE305.out) | exact HB.out))) : w.heap.size ≤ gb310)); have n5_ := Aside0.mk ((by rw [hg]; exact Nat.ne_of_lt (blk_lt (g := gb305) (o := .cells #[.int .i64 a2_0, .int .i64 a2_1] 34 (0, 0)) (by (with_reducible repeat (first | refine blk_drewN ?_ _ | refine blk_drew ?_ | refine blk_alloc ?_ _)); exact BK305.out)) : gb305 ≠ gb310)); have n6_ := Aside0.mk ((by rw [hg]; exact Nat.ne_of_gt (blk_lt (g := gb305) (o := .cells #[.int .i64 a2_0, .int .i64 a2_1] 34 (0, 0)) (by (with_reducible repeat (first | refine blk_drewN ?_ _ | refine blk_drew ?_ | refine blk_alloc ?_ _)); exact BK305.out)) : gb310 ≠ gb305)); clear BK305; clear HB; have BK305 := n0_; have HB := n1_; have BK310 := n2_; have GW310 := n3_; have GE310 := n4_; have NB305_310 := n5_; have NB310_305 := n6_; clear n0_ n1_ n2_ n3_ n4_ n5_ n6_; clear hb hbox hg; have hnb13 := NB310_305.out; have hnc13 := NB305_310.out; have hcz14_0 : w12.cell? ⟨gb310, 0, none⟩ = some (.int .i64 0) := (blk_cell BK310.out 0).trans rfl; have hcz14_1 : w12.cell? ⟨gb310, 1, none⟩ = some (.int .i64 0) := (blk_cell BK310.out 1).trans rfl; have hcz14_2 : w12.cell? ⟨gb310, 2, none⟩ = some (.int .i64 0) := (blk_cell BK310.out 2).trans rfl; have hfz14_0 := blk_frozen BK310.out 0; have hfz14_1 := blk_frozen BK310.out 1; have hfz14_2 := blk_frozen BK310.out 2; have hcz15_0 : w12.cell? ⟨gb305, 0, none⟩ = some (.int .i64 a2_0) := (blk_cell BK305.out 0).trans rfl; have hcz15_1 : w12.cell? ⟨gb305, 1, none⟩ = some (.int .i64 a2_1) := (blk_cell BK305.out 1).trans rfl; have hfz15_0 := blk_frozen BK305.out 0; have hfz15_1 := blk_frozen BK305.out 1) | ((with_reducible refine gate_callee (f := 25) rfl ?_); refine goesL_ (some 26) rfl rfl Tryd.func25 (by kernel_rfl) rfl #[.string a1, .int .i64 a2_0, .int .i64 72] rfl (by (try simp only [List.map_toArray, List.map_cons, List.map_nil]); first | done | rfl | (simp only [List.length_drop, List.length_take]; rfl)) ?_; (with_reducible refine (place_Excerpt.calls a1 a2_0 72 t311 t312 _ A6.out).mono ?_); rintro e w16 ⟨rfl, hb⟩; refine ⟨_, rfl, ?_⟩; have n0_ := Aside0.mk (blk_below (g := gb305) (o := .cells #[.int .i64 a2_0, .int .i64 a2_1] 34 (0, 0)) (by (with_reducible repeat (first | refine blk_drewN ?_ _ | refine blk_drew ?_ | refine blk_alloc ?_ _)); refine blk_far ?_ NB305_310.out _; (with_reducible repeat (first | refine blk_drewN ?_ _ | refine blk_drew ?_ | refine blk_alloc ?_ _)); refine blk_far ?_ NB305_310.out _; (with_reducible repeat (first | refine blk_drewN ?_ _ | refine blk_drew ?_ | refine blk_alloc ?_ _)); refine blk_far ?_ NB305_310.out _; (with_reducible repeat (first | refine blk_drewN ?_ _ | refine blk_drew ?_ | refine blk_alloc ?_ _)); exact BK305.out) hb); have n1_ := Aside0.mk (blk_below (g := gb310) (o := .cells #[.int .i64 t306, .int .i64 t307, .int .i64 t308] 63 (0, 0)) (by (with_reducible repeat (first | refine blk_drewN ?_ _ | refine blk_drew ?_ | refine blk_alloc ?_ _)); refine blk_put (cs := #[.int .i64 t306, .int .i64 t307, .int .i64 0]) ?_ 2 _ rfl; (with_reducible repeat (first | refine blk_drewN ?_ _ | refine blk_drew ?_ | refine blk_alloc ?_ _)); refine blk_put (cs := #[.int .i64 t306, .int .i64 0, .int .i64 0]) ?_ 1 _ rfl; (with_reducible repeat (first | refine blk_drewN ?_ _ | refine blk_drew ?_ | refine blk_alloc ?_ _)); refine blk_put (cs := #[.int .i64 0, .int .i64 0, .int .i64 0]) ?_ 0 _ rfl; (with_reducible repeat (first | refine blk_drewN ?_ _ | refine blk_drew ?_ | refine blk_alloc ?_ _)); exact BK310.out) hb); have n2_ := Aside0.mk (below_step (by repeat (first | (with_reducible first | exact HB.out | apply below_alloc | apply pw_below_drewN | apply below_drew1 | refine below_set ?_ GE305.out | refine below_set ?_ GE310.out) | exact HB.out)) hb); clear BK305; clear BK310; clear HB; have BK305 := n0_; have BK310 := n1_; have HB := n2_; clear n0_ n1_ n2_; (try clear hb); (try clear hb2); (try clear hk); (try clear hi)))
        go_ret2
        exact ⟨by first | rfl | (simp [errW_none, errW_some] <;> rfl) | (simp [*, errW_none, errW_some] <;> rfl), by repeat (first | (with_reducible first | exact HB.out | apply below_alloc | apply pw_below_drewN | apply below_drew1 | refine below_set ?_ GE305.out | refine below_set ?_ GE310.out) | exact HB.out)⟩
      · rw [if_neg c8] at H
        have c8b0 : decide (4194304 < (a0.size : Int)) = false := decide_eq_false c8
        have c8b1 : decide (4194304 < a0.size) = false := decide_eq_false (by omega)
        clear c8
        by_cases c17 : a0.size + 1 ≤ 9223372036854775807
        · rw [if_pos c17] at H
          have c17b0 := eq_true c17
          have c17b1 : decide (a0.size + 1 ≤ 9223372036854775807) = true := decide_eq_true c17
          try have c17b2 : (9223372036854775807 < a0.size + 1) = False := eq_false (Nat.not_lt.2 c17)
          replace H := Option.bind_eq_some_iff.mp H
          obtain ⟨t313, A180, H⟩ := H
          replace H : (if (a0 ++ (⟨#[58]⟩ : ByteArray)).size + t313.size ≤ 9223372036854775807 then (if ((a0 ++ (⟨#[58]⟩ : ByteArray)) ++ t313).size + 1 ≤ 9223372036854775807 then ((strconv_Itoa.f t307).bind fun t314 => (if (((a0 ++ (⟨#[58]⟩ : ByteArray)) ++ t313) ++ (⟨#[58]⟩ : ByteArray)).size + t314.size ≤ 9223372036854775807 then (if ((((a0 ++ (⟨#[58]⟩ : ByteArray)) ++ t313) ++ (⟨#[58]⟩ : ByteArray)) ++ t314).size + 8 ≤ 9223372036854775807 then ((strconv_Itoa.f a2_1).bind fun t315 => (if (((((a0 ++ (⟨#[58]⟩ : ByteArray)) ++ t313) ++ (⟨#[58]⟩ : ByteArray)) ++ t314) ++ (⟨#[58, 32, 101, 114, 114, 111, 114, 32]⟩ : ByteArray)).size + t315.size ≤ 9223372036854775807 then (if ((((((a0 ++ (⟨#[58]⟩ : ByteArray)) ++ t313) ++ (⟨#[58]⟩ : ByteArray)) ++ t314) ++ (⟨#[58, 32, 101, 114, 114, 111, 114, 32]⟩ : ByteArray)) ++ t315).size + 1 ≤ 9223372036854775807 then (if (((((((a0 ++ (⟨#[58]⟩ : ByteArray)) ++ t313) ++ (⟨#[58]⟩ : ByteArray)) ++ t314) ++ (⟨#[58, 32, 101, 114, 114, 111, 114, 32]⟩ : ByteArray)) ++ t315) ++ (⟨#[10]⟩ : ByteArray)).size + t311.size ≤ 9223372036854775807 then (if (((((((((a0 ++ (⟨#[58]⟩ : ByteArray)) ++ t313) ++ (⟨#[58]⟩ : ByteArray)) ++ t314) ++ (⟨#[58, 32, 101, 114, 114, 111, 114, 32]⟩ : ByteArray)) ++ t315) ++ (⟨#[10]⟩ : ByteArray)) ++ t311).size : Int) > 4194304 then (some ((⟨#[]⟩ : ByteArray), 2)) else (some ((((((((a0 ++ (⟨#[58]⟩ : ByteArray)) ++ t313) ++ (⟨#[58]⟩ : ByteArray)) ++ t314) ++ (⟨#[58, 32, 101, 114, 114, 111, 114, 32]⟩ : ByteArray)) ++ t315) ++ (⟨#[10]⟩ : ByteArray)) ++ t311, 0))) else (none)) else (none)) else (none))) else (none)) else (none))) else (none)) else (none)) = some (r1, r2) := H
          have A18 := Aside0.mk A180
          clear A180
          by_cases c19 : (a0 ++ (⟨#[58]⟩ : ByteArray)).size + t313.size ≤ 9223372036854775807
          · rw [if_pos c19] at H
            have c19b0 := eq_true c19
            have c19b1 : decide ((a0 ++ (⟨#[58]⟩ : ByteArray)).size + t313.size ≤ 9223372036854775807) = true := decide_eq_true c19
            try have c19b2 : (9223372036854775807 < (a0 ++ (⟨#[58]⟩ : ByteArray)).size + t313.size) = False := eq_false (Nat.not_lt.2 c19)
            by_cases c20 : ((a0 ++ (⟨#[58]⟩ : ByteArray)) ++ t313).size + 1 ≤ 9223372036854775807
            · rw [if_pos c20] at H
              have c20b0 := eq_true c20
              have c20b1 : decide (((a0 ++ (⟨#[58]⟩ : ByteArray)) ++ t313).size + 1 ≤ 9223372036854775807) = true := decide_eq_true c20
              try have c20b2 : (9223372036854775807 < ((a0 ++ (⟨#[58]⟩ : ByteArray)) ++ t313).size + 1) = False := eq_false (Nat.not_lt.2 c20)
              replace H := Option.bind_eq_some_iff.mp H
              obtain ⟨t314, A210, H⟩ := H
              replace H : (if (((a0 ++ (⟨#[58]⟩ : ByteArray)) ++ t313) ++ (⟨#[58]⟩ : ByteArray)).size + t314.size ≤ 9223372036854775807 then (if ((((a0 ++ (⟨#[58]⟩ : ByteArray)) ++ t313) ++ (⟨#[58]⟩ : ByteArray)) ++ t314).size + 8 ≤ 9223372036854775807 then ((strconv_Itoa.f a2_1).bind fun t315 => (if (((((a0 ++ (⟨#[58]⟩ : ByteArray)) ++ t313) ++ (⟨#[58]⟩ : ByteArray)) ++ t314) ++ (⟨#[58, 32, 101, 114, 114, 111, 114, 32]⟩ : ByteArray)).size + t315.size ≤ 9223372036854775807 then (if ((((((a0 ++ (⟨#[58]⟩ : ByteArray)) ++ t313) ++ (⟨#[58]⟩ : ByteArray)) ++ t314) ++ (⟨#[58, 32, 101, 114, 114, 111, 114, 32]⟩ : ByteArray)) ++ t315).size + 1 ≤ 9223372036854775807 then (if (((((((a0 ++ (⟨#[58]⟩ : ByteArray)) ++ t313) ++ (⟨#[58]⟩ : ByteArray)) ++ t314) ++ (⟨#[58, 32, 101, 114, 114, 111, 114, 32]⟩ : ByteArray)) ++ t315) ++ (⟨#[10]⟩ : ByteArray)).size + t311.size ≤ 9223372036854775807 then (if (((((((((a0 ++ (⟨#[58]⟩ : ByteArray)) ++ t313) ++ (⟨#[58]⟩ : ByteArray)) ++ t314) ++ (⟨#[58, 32, 101, 114, 114, 111, 114, 32]⟩ : ByteArray)) ++ t315) ++ (⟨#[10]⟩ : ByteArray)) ++ t311).size : Int) > 4194304 then (some ((⟨#[]⟩ : ByteArray), 2)) else (some ((((((((a0 ++ (⟨#[58]⟩ : ByteArray)) ++ t313) ++ (⟨#[58]⟩ : ByteArray)) ++ t314) ++ (⟨#[58, 32, 101, 114, 114, 111, 114, 32]⟩ : ByteArray)) ++ t315) ++ (⟨#[10]⟩ : ByteArray)) ++ t311, 0))) else (none)) else (none)) else (none))) else (none)) else (none)) = some (r1, r2) := H
              have A21 := Aside0.mk A210
              clear A210
              by_cases c22 : (((a0 ++ (⟨#[58]⟩ : ByteArray)) ++ t313) ++ (⟨#[58]⟩ : ByteArray)).size + t314.size ≤ 9223372036854775807
              · rw [if_pos c22] at H
                have c22b0 := eq_true c22
                have c22b1 : decide ((((a0 ++ (⟨#[58]⟩ : ByteArray)) ++ t313) ++ (⟨#[58]⟩ : ByteArray)).size + t314.size ≤ 9223372036854775807) = true := decide_eq_true c22
                try have c22b2 : (9223372036854775807 < (((a0 ++ (⟨#[58]⟩ : ByteArray)) ++ t313) ++ (⟨#[58]⟩ : ByteArray)).size + t314.size) = False := eq_false (Nat.not_lt.2 c22)
                by_cases c23 : ((((a0 ++ (⟨#[58]⟩ : ByteArray)) ++ t313) ++ (⟨#[58]⟩ : ByteArray)) ++ t314).size + 8 ≤ 9223372036854775807
                · rw [if_pos c23] at H
                  have c23b0 := eq_true c23
                  have c23b1 : decide (((((a0 ++ (⟨#[58]⟩ : ByteArray)) ++ t313) ++ (⟨#[58]⟩ : ByteArray)) ++ t314).size + 8 ≤ 9223372036854775807) = true := decide_eq_true c23
                  try have c23b2 : (9223372036854775807 < ((((a0 ++ (⟨#[58]⟩ : ByteArray)) ++ t313) ++ (⟨#[58]⟩ : ByteArray)) ++ t314).size + 8) = False := eq_false (Nat.not_lt.2 c23)
                  replace H := Option.bind_eq_some_iff.mp H
                  obtain ⟨t315, A240, H⟩ := H
                  replace H : (if (((((a0 ++ (⟨#[58]⟩ : ByteArray)) ++ t313) ++ (⟨#[58]⟩ : ByteArray)) ++ t314) ++ (⟨#[58, 32, 101, 114, 114, 111, 114, 32]⟩ : ByteArray)).size + t315.size ≤ 9223372036854775807 then (if ((((((a0 ++ (⟨#[58]⟩ : ByteArray)) ++ t313) ++ (⟨#[58]⟩ : ByteArray)) ++ t314) ++ (⟨#[58, 32, 101, 114, 114, 111, 114, 32]⟩ : ByteArray)) ++ t315).size + 1 ≤ 9223372036854775807 then (if (((((((a0 ++ (⟨#[58]⟩ : ByteArray)) ++ t313) ++ (⟨#[58]⟩ : ByteArray)) ++ t314) ++ (⟨#[58, 32, 101, 114, 114, 111, 114, 32]⟩ : ByteArray)) ++ t315) ++ (⟨#[10]⟩ : ByteArray)).size + t311.size ≤ 9223372036854775807 then (if (((((((((a0 ++ (⟨#[58]⟩ : ByteArray)) ++ t313) ++ (⟨#[58]⟩ : ByteArray)) ++ t314) ++ (⟨#[58, 32, 101, 114, 114, 111, 114, 32]⟩ : ByteArray)) ++ t315) ++ (⟨#[10]⟩ : ByteArray)) ++ t311).size : Int) > 4194304 then (some ((⟨#[]⟩ : ByteArray), 2)) else (some ((((((((a0 ++ (⟨#[58]⟩ : ByteArray)) ++ t313) ++ (⟨#[58]⟩ : ByteArray)) ++ t314) ++ (⟨#[58, 32, 101, 114, 114, 111, 114, 32]⟩ : ByteArray)) ++ t315) ++ (⟨#[10]⟩ : ByteArray)) ++ t311, 0))) else (none)) else (none)) else (none)) = some (r1, r2) := H
                  have A24 := Aside0.mk A240
                  clear A240
                  by_cases c25 : (((((a0 ++ (⟨#[58]⟩ : ByteArray)) ++ t313) ++ (⟨#[58]⟩ : ByteArray)) ++ t314) ++ (⟨#[58, 32, 101, 114, 114, 111, 114, 32]⟩ : ByteArray)).size + t315.size ≤ 9223372036854775807
                  · rw [if_pos c25] at H
                    have c25b0 := eq_true c25
                    have c25b1 : decide ((((((a0 ++ (⟨#[58]⟩ : ByteArray)) ++ t313) ++ (⟨#[58]⟩ : ByteArray)) ++ t314) ++ (⟨#[58, 32, 101, 114, 114, 111, 114, 32]⟩ : ByteArray)).size + t315.size ≤ 9223372036854775807) = true := decide_eq_true c25
                    try have c25b2 : (9223372036854775807 < (((((a0 ++ (⟨#[58]⟩ : ByteArray)) ++ t313) ++ (⟨#[58]⟩ : ByteArray)) ++ t314) ++ (⟨#[58, 32, 101, 114, 114, 111, 114, 32]⟩ : ByteArray)).size + t315.size) = False := eq_false (Nat.not_lt.2 c25)
                    by_cases c26 : ((((((a0 ++ (⟨#[58]⟩ : ByteArray)) ++ t313) ++ (⟨#[58]⟩ : ByteArray)) ++ t314) ++ (⟨#[58, 32, 101, 114, 114, 111, 114, 32]⟩ : ByteArray)) ++ t315).size + 1 ≤ 9223372036854775807
                    · rw [if_pos c26] at H
                      have c26b0 := eq_true c26
                      have c26b1 : decide (((((((a0 ++ (⟨#[58]⟩ : ByteArray)) ++ t313) ++ (⟨#[58]⟩ : ByteArray)) ++ t314) ++ (⟨#[58, 32, 101, 114, 114, 111, 114, 32]⟩ : ByteArray)) ++ t315).size + 1 ≤ 9223372036854775807) = true := decide_eq_true c26
                      try have c26b2 : (9223372036854775807 < ((((((a0 ++ (⟨#[58]⟩ : ByteArray)) ++ t313) ++ (⟨#[58]⟩ : ByteArray)) ++ t314) ++ (⟨#[58, 32, 101, 114, 114, 111, 114, 32]⟩ : ByteArray)) ++ t315).size + 1) = False := eq_false (Nat.not_lt.2 c26)
                      by_cases c27 : (((((((a0 ++ (⟨#[58]⟩ : ByteArray)) ++ t313) ++ (⟨#[58]⟩ : ByteArray)) ++ t314) ++ (⟨#[58, 32, 101, 114, 114, 111, 114, 32]⟩ : ByteArray)) ++ t315) ++ (⟨#[10]⟩ : ByteArray)).size + t311.size ≤ 9223372036854775807
                      · rw [if_pos c27] at H
                        have c27b0 := eq_true c27
                        have c27b1 : decide ((((((((a0 ++ (⟨#[58]⟩ : ByteArray)) ++ t313) ++ (⟨#[58]⟩ : ByteArray)) ++ t314) ++ (⟨#[58, 32, 101, 114, 114, 111, 114, 32]⟩ : ByteArray)) ++ t315) ++ (⟨#[10]⟩ : ByteArray)).size + t311.size ≤ 9223372036854775807) = true := decide_eq_true c27
                        try have c27b2 : (9223372036854775807 < (((((((a0 ++ (⟨#[58]⟩ : ByteArray)) ++ t313) ++ (⟨#[58]⟩ : ByteArray)) ++ t314) ++ (⟨#[58, 32, 101, 114, 114, 111, 114, 32]⟩ : ByteArray)) ++ t315) ++ (⟨#[10]⟩ : ByteArray)).size + t311.size) = False := eq_false (Nat.not_lt.2 c27)
                        by_cases c28 : (((((((((a0 ++ (⟨#[58]⟩ : ByteArray)) ++ t313) ++ (⟨#[58]⟩ : ByteArray)) ++ t314) ++ (⟨#[58, 32, 101, 114, 114, 111, 114, 32]⟩ : ByteArray)) ++ t315) ++ (⟨#[10]⟩ : ByteArray)) ++ t311).size : Int) > 4194304
                        · rw [if_pos c28] at H
                          have c28b0 : decide (4194304 < (((((((((a0 ++ (⟨#[58]⟩ : ByteArray)) ++ t313) ++ (⟨#[58]⟩ : ByteArray)) ++ t314) ++ (⟨#[58, 32, 101, 114, 114, 111, 114, 32]⟩ : ByteArray)) ++ t315) ++ (⟨#[10]⟩ : ByteArray)) ++ t311).size : Int)) = true := decide_eq_true c28
                          have c28b1 : decide (4194304 < ((((((((a0 ++ (⟨#[58]⟩ : ByteArray)) ++ t313) ++ (⟨#[58]⟩ : ByteArray)) ++ t314) ++ (⟨#[58, 32, 101, 114, 114, 111, 114, 32]⟩ : ByteArray)) ++ t315) ++ (⟨#[10]⟩ : ByteArray)) ++ t311).size) = true := decide_eq_true (by omega)
                          clear c28
                          simp only [Option.some.injEq, Prod.mk.injEq] at H
                          obtain ⟨rfl, rfl⟩ := H
                          go_enter Tryd.func14, Tryd.ntmps14
                          try go_wp2_with (first | ((with_reducible refine gate_dst (N := 5) rfl ?_); refine box_event ?hg (N := 5) ?hd (cs := #[.int .i64 a2_0, .int .i64 a2_1]) (t := 34) ?hr ?_; (case hd => rfl); (case hg => rfl); (case hr => first | (go_simp; done) | (go_simp; rfl)); intro gb305 hg w29 hbox hb; have n0_ := Aside0.mk (below_step (by repeat (first | (with_reducible first | exact HB.out | apply below_alloc | apply pw_below_drewN | apply below_drew1) | exact HB.out)) hb); have n1_ := Aside0.mk (hbox); have n2_ := Aside0.mk ((by rw [hg]; exact (below_size (by repeat (first | (with_reducible first | exact HB.out | apply below_alloc | apply pw_below_drewN | apply below_drew1) | exact HB.out))) : w.heap.size ≤ gb305)); have n3_ := Aside0.mk ((by rw [hg]; exact (below_size (by repeat (first | (with_reducible first | exact HB.out | apply below_alloc | apply pw_below_drewN | apply below_drew1) | exact HB.out))) : w.heap.size ≤ gb305)); clear HB; have HB := n0_; have BK305 := n1_; have GW305 := n2_; have GE305 := n3_; clear n0_ n1_ n2_ n3_; clear hb hbox hg; have hcz30_0 : w29.cell? ⟨gb305, 0, none⟩ = some (.int .i64 a2_0) := (blk_cell BK305.out 0).trans rfl; have hcz30_1 : w29.cell? ⟨gb305, 1, none⟩ = some (.int .i64 a2_1) := (blk_cell BK305.out 1).trans rfl; have hfz30_0 := blk_frozen BK305.out 0; have hfz30_1 := blk_frozen BK305.out 1) | ((with_reducible refine gate_callee (f := 35) rfl ?_); refine goesL_ (some 16) rfl rfl Tryd.func35 (by kernel_rfl) rfl #[.string a1, .int .i64 a2_0] rfl (by (try simp only [List.map_toArray, List.map_cons, List.map_nil]); first | done | rfl | (simp only [List.length_drop, List.length_take]; rfl)) ?_; (with_reducible refine (place_Spot.calls k a1 a2_0 t306 t307 t308 t309 _ A4.out).mono ?_); rintro e w31 ⟨rfl, hb⟩; refine ⟨_, rfl, ?_⟩; have n0_ := Aside0.mk (blk_below (g := gb305) (o := .cells #[.int .i64 a2_0, .int .i64 a2_1] 34 (0, 0)) (by (with_reducible repeat (first | refine blk_drewN ?_ _ | refine blk_drew ?_ | refine blk_alloc ?_ _)); exact BK305.out) hb); have n1_ := Aside0.mk (below_step (by repeat (first | (with_reducible first | exact HB.out | apply below_alloc | apply pw_below_drewN | apply below_drew1 | refine below_set ?_ GE305.out) | exact HB.out)) hb); clear BK305; clear HB; have BK305 := n0_; have HB := n1_; clear n0_ n1_; (try clear hb); (try clear hb2); (try clear hk); (try clear hi)) | ((with_reducible refine gate_dst (N := 8) rfl ?_); refine box_event ?hg (N := 8) ?hd (cs := #[.int .i64 0, .int .i64 0, .int .i64 0]) (t := 63) ?hr ?_; (case hd => rfl); (case hg => rfl); (case hr => first | (go_simp; done) | (go_simp; rfl)); intro gb310 hg w32 hbox hb; have n0_ := Aside0.mk (blk_below (g := gb305) (o := .cells #[.int .i64 a2_0, .int .i64 a2_1] 34 (0, 0)) (by (with_reducible repeat (first | refine blk_drewN ?_ _ | refine blk_drew ?_ | refine blk_alloc ?_ _)); exact BK305.out) hb); have n1_ := Aside0.mk (below_step (by repeat (first | (with_reducible first | exact HB.out | apply below_alloc | apply pw_below_drewN | apply below_drew1 | refine below_set ?_ GE305.out) | exact HB.out)) hb); have n2_ := Aside0.mk (hbox); have n3_ := Aside0.mk ((by rw [hg]; exact (below_size (by repeat (first | (with_reducible first | exact HB.out | apply below_alloc | apply pw_below_drewN | apply below_drew1 | refine below_set ?_ GE305.out) | exact HB.out))) : w.heap.size ≤ gb310)); have n4_ := Aside0.mk ((by rw [hg]; exact (below_size (by repeat (first | (with_reducible first | exact HB.out | apply below_alloc | apply pw_below_drewN | apply below_drew1 | refine below_set ?_ GE305.out) | exact HB.out))) : w.heap.size ≤ gb310)); have n5_ := Aside0.mk ((by rw [hg]; exact Nat.ne_of_lt (blk_lt (g := gb305) (o := .cells #[.int .i64 a2_0, .int .i64 a2_1] 34 (0, 0)) (by (with_reducible repeat (first | refine blk_drewN ?_ _ | refine blk_drew ?_ | refine blk_alloc ?_ _)); exact BK305.out)) : gb305 ≠ gb310)); have n6_ := Aside0.mk ((by rw [hg]; exact Nat.ne_of_gt (blk_lt (g := gb305) (o := .cells #[.int .i64 a2_0, .int .i64 a2_1] 34 (0, 0)) (by (with_reducible repeat (first | refine blk_drewN ?_ _ | refine blk_drew ?_ | refine blk_alloc ?_ _)); exact BK305.out)) : gb310 ≠ gb305)); clear BK305; clear HB; have BK305 := n0_; have HB := n1_; have BK310 := n2_; have GW310 := n3_; have GE310 := n4_; have NB305_310 := n5_; have NB310_305 := n6_; clear n0_ n1_ n2_ n3_ n4_ n5_ n6_; clear hb hbox hg; have hnb33 := NB310_305.out; have hnc33 := NB305_310.out; have hcz34_0 : w32.cell? ⟨gb310, 0, none⟩ = some (.int .i64 0) := (blk_cell BK310.out 0).trans rfl; have hcz34_1 : w32.cell? ⟨gb310, 1, none⟩ = some (.int .i64 0) := (blk_cell BK310.out 1).trans rfl; have hcz34_2 : w32.cell? ⟨gb310, 2, none⟩ = some (.int .i64 0) := (blk_cell BK310.out 2).trans rfl; have hfz34_0 := blk_frozen BK310.out 0; have hfz34_1 := blk_frozen BK310.out 1; have hfz34_2 := blk_frozen BK310.out 2; have hcz35_0 : w32.cell? ⟨gb305, 0, none⟩ = some (.int .i64 a2_0) := (blk_cell BK305.out 0).trans rfl; have hcz35_1 : w32.cell? ⟨gb305, 1, none⟩ = some (.int .i64 a2_1) := (blk_cell BK305.out 1).trans rfl; have hfz35_0 := blk_frozen BK305.out 0; have hfz35_1 := blk_frozen BK305.out 1) | ((with_reducible refine gate_callee (f := 25) rfl ?_); refine goesL_ (some 26) rfl rfl Tryd.func25 (by kernel_rfl) rfl #[.string a1, .int .i64 a2_0, .int .i64 72] rfl (by (try simp only [List.map_toArray, List.map_cons, List.map_nil]); first | done | rfl | (simp only [List.length_drop, List.length_take]; rfl)) ?_; (with_reducible refine (place_Excerpt.calls a1 a2_0 72 t311 t312 _ A6.out).mono ?_); rintro e w36 ⟨rfl, hb⟩; refine ⟨_, rfl, ?_⟩; have n0_ := Aside0.mk (blk_below (g := gb305) (o := .cells #[.int .i64 a2_0, .int .i64 a2_1] 34 (0, 0)) (by (with_reducible repeat (first | refine blk_drewN ?_ _ | refine blk_drew ?_ | refine blk_alloc ?_ _)); refine blk_far ?_ NB305_310.out _; (with_reducible repeat (first | refine blk_drewN ?_ _ | refine blk_drew ?_ | refine blk_alloc ?_ _)); refine blk_far ?_ NB305_310.out _; (with_reducible repeat (first | refine blk_drewN ?_ _ | refine blk_drew ?_ | refine blk_alloc ?_ _)); refine blk_far ?_ NB305_310.out _; (with_reducible repeat (first | refine blk_drewN ?_ _ | refine blk_drew ?_ | refine blk_alloc ?_ _)); exact BK305.out) hb); have n1_ := Aside0.mk (blk_below (g := gb310) (o := .cells #[.int .i64 t306, .int .i64 t307, .int .i64 t308] 63 (0, 0)) (by (with_reducible repeat (first | refine blk_drewN ?_ _ | refine blk_drew ?_ | refine blk_alloc ?_ _)); refine blk_put (cs := #[.int .i64 t306, .int .i64 t307, .int .i64 0]) ?_ 2 _ rfl; (with_reducible repeat (first | refine blk_drewN ?_ _ | refine blk_drew ?_ | refine blk_alloc ?_ _)); refine blk_put (cs := #[.int .i64 t306, .int .i64 0, .int .i64 0]) ?_ 1 _ rfl; (with_reducible repeat (first | refine blk_drewN ?_ _ | refine blk_drew ?_ | refine blk_alloc ?_ _)); refine blk_put (cs := #[.int .i64 0, .int .i64 0, .int .i64 0]) ?_ 0 _ rfl; (with_reducible repeat (first | refine blk_drewN ?_ _ | refine blk_drew ?_ | refine blk_alloc ?_ _)); exact BK310.out) hb); have n2_ := Aside0.mk (below_step (by repeat (first | (with_reducible first | exact HB.out | apply below_alloc | apply pw_below_drewN | apply below_drew1 | refine below_set ?_ GE305.out | refine below_set ?_ GE310.out) | exact HB.out)) hb); clear BK305; clear BK310; clear HB; have BK305 := n0_; have BK310 := n1_; have HB := n2_; clear n0_ n1_ n2_; (try clear hb); (try clear hb2); (try clear hk); (try clear hi)))
                          have n0_ := Aside0.mk (blk_drew BK305.out)
                          have n1_ := Aside0.mk (blk_drew BK310.out)
                          have n2_ := Aside0.mk (below_drew1 HB.out)
                          clear BK305
                          clear BK310
                          clear HB
                          have BK305 := n0_
                          have BK310 := n1_
                          have HB := n2_
                          clear n0_ n1_ n2_
                          refine start_ (n := 20) (S := fun w' => w'.cell? ⟨gb310, 0, none⟩ = some (.int .i64 t306) ∧ w'.cell? ⟨gb310, 1, none⟩ = some (.int .i64 t307) ∧ w'.cell? ⟨gb310, 2, none⟩ = some (.int .i64 t308) ∧ w'.cell? ⟨gb305, 0, none⟩ = some (.int .i64 a2_0) ∧ w'.cell? ⟨gb305, 1, none⟩ = some (.int .i64 a2_1)) (ds := []) #[false, false, false, false, false, false, false, false, false, false, false, false, false, false, false, false, false, false, false, false] (by kernel_rfl) rfl rfl ⟨(blk_cell BK310.out 0).trans rfl, (blk_cell BK310.out 1).trans rfl, (blk_cell BK310.out 2).trans rfl, (blk_cell BK305.out 0).trans rfl, (blk_cell BK305.out 1).trans rfl⟩ (fun hHeld => ?_); refine with_tabW report_Notice.tab9 report_Notice.bits9 (fun HT_ HW_ => ?_)
                          generalize w36.drew = w37 at BK305 BK310 HB hHeld ⊢
                          refine pure_ (i := 0) (N := some 35) (v := ?_) (a' := ?_) #[true, false, false, false, false, false, false, false, false, false, false, false, false, false, false, false, false, false, false, false] rfl rfl (any_of HT_.out (by kernel_rfl)) (fun _ _ _ h => h) (Or.inl ⟨by rfl, ?_⟩) ?_ ?_
                          rotate_left
                          · intro w'
                            go_simp
                            first | with_reducible rfl | (rw [if_neg (by intro hl_; simp only [ByteArray.size_append, ByteArray.size_extract, szl_0_, szl_1_, szl_2_, szl_3_, szl_4_, szl_5_, szl_6_, szl_7_, szl_8_, szl_9_, szl_10_, szl_11_, szl_12_, szl_13_, szl_14_, szl_15_] at *; omega)])
                          rotate_left
                          · simp only [Act.put, List.setIfInBounds_toArray, List.set_cons_zero, List.set_cons_succ, i64_w, i32_w]
                            rfl
                          refine pure_ (i := 1) (N := some 36) (v := ?_) (a' := ?_) #[true, true, false, false, false, false, false, false, false, false, false, false, false, false, false, false, false, false, false, false] rfl rfl (any_of HT_.out (by kernel_rfl)) (fun _ _ _ h => h) (Or.inl ⟨by rfl, ?_⟩) ?_ ?_
                          rotate_left
                          · intro w'
                            go_simp
                            first | with_reducible rfl | (rw [if_neg (by intro hl_; simp only [ByteArray.size_append, ByteArray.size_extract, szl_0_, szl_1_, szl_2_, szl_3_, szl_4_, szl_5_, szl_6_, szl_7_, szl_8_, szl_9_, szl_10_, szl_11_, szl_12_, szl_13_, szl_14_, szl_15_] at *; omega)])
                          rotate_left
                          · simp only [Act.put, List.setIfInBounds_toArray, List.set_cons_zero, List.set_cons_succ, i64_w, i32_w]
                            rfl
                          refine pure_ (i := 2) (N := some 37) (v := ?_) (a' := ?_) #[true, true, true, false, false, false, false, false, false, false, false, false, false, false, false, false, false, false, false, false] rfl rfl (any_of HT_.out (by kernel_rfl)) (fun _ _ _ h => h) (Or.inl ⟨by rfl, ?_⟩) ?_ ?_
                          rotate_left
                          · intro w'
                            go_simp
                            first | with_reducible rfl | (rw [if_neg (by intro hl_; simp only [ByteArray.size_append, ByteArray.size_extract, szl_0_, szl_1_, szl_2_, szl_3_, szl_4_, szl_5_, szl_6_, szl_7_, szl_8_, szl_9_, szl_10_, szl_11_, szl_12_, szl_13_, szl_14_, szl_15_] at *; omega)])
                          rotate_left
                          · simp only [Act.put, List.setIfInBounds_toArray, List.set_cons_zero, List.set_cons_succ, i64_w, i32_w]
                            rfl
                          refine pure_ (i := 7) (N := some 42) (v := ?_) (a' := ?_) #[true, true, true, false, false, false, false, true, false, false, false, false, false, false, false, false, false, false, false, false] rfl rfl (any_of HT_.out (by kernel_rfl)) (fun _ _ _ h => h) (Or.inl ⟨by rfl, ?_⟩) ?_ ?_
                          rotate_left
                          · intro w'
                            go_simp
                            first | with_reducible rfl | (rw [if_neg (by intro hl_; simp only [ByteArray.size_append, ByteArray.size_extract, szl_0_, szl_1_, szl_2_, szl_3_, szl_4_, szl_5_, szl_6_, szl_7_, szl_8_, szl_9_, szl_10_, szl_11_, szl_12_, szl_13_, szl_14_, szl_15_] at *; omega)])
                          rotate_left
                          · simp only [Act.put, List.setIfInBounds_toArray, List.set_cons_zero, List.set_cons_succ, i64_w, i32_w]
                            rfl
                          refine pure_ (i := 12) (N := some 47) (v := ?_) (a' := ?_) #[true, true, true, false, false, false, false, true, false, false, false, false, true, false, false, false, false, false, false, false] rfl rfl (any_of HT_.out (by kernel_rfl)) (fun _ _ _ h => h) (Or.inl ⟨by rfl, ?_⟩) ?_ ?_
                          rotate_left
                          · intro w'
                            go_simp
                            first | with_reducible rfl | (rw [if_neg (by intro hl_; simp only [ByteArray.size_append, ByteArray.size_extract, szl_0_, szl_1_, szl_2_, szl_3_, szl_4_, szl_5_, szl_6_, szl_7_, szl_8_, szl_9_, szl_10_, szl_11_, szl_12_, szl_13_, szl_14_, szl_15_] at *; omega)])
                          rotate_left
                          · simp only [Act.put, List.setIfInBounds_toArray, List.set_cons_zero, List.set_cons_succ, i64_w, i32_w]
                            rfl
                          refine pure_ (i := 17) (N := some 52) (v := ?_) (a' := ?_) #[true, true, true, false, false, false, false, true, false, false, false, false, true, false, false, false, false, true, false, false] rfl rfl (any_of HT_.out (by kernel_rfl)) (fun _ _ _ h => h) (Or.inl ⟨by rfl, ?_⟩) ?_ ?_
                          rotate_left
                          · intro w'
                            go_simp
                            first | with_reducible rfl | (rw [if_neg (by intro hl_; simp only [ByteArray.size_append, ByteArray.size_extract, szl_0_, szl_1_, szl_2_, szl_3_, szl_4_, szl_5_, szl_6_, szl_7_, szl_8_, szl_9_, szl_10_, szl_11_, szl_12_, szl_13_, szl_14_, szl_15_] at *; omega)])
                          rotate_left
                          · simp only [Act.put, List.setIfInBounds_toArray, List.set_cons_zero, List.set_cons_succ, i64_w, i32_w]
                            rfl
                          refine take_ (i := 3) (N := some 38) (v := ?_) (a' := ?_) #[true, true, true, true, false, false, false, true, false, false, false, false, true, false, false, false, false, true, false, false] rfl rfl (take_ofW HT_.out HW_.out (by kernel_rfl)) (fun _ _ _ h => h) (Or.inl ⟨by rfl, ?_⟩) hHeld ?_ ?_
                          rotate_left
                          · rintro w' ⟨s0, s1, s2, s3, s4⟩
                            go_simp
                            first | with_reducible rfl | (rw [if_neg (by intro hl_; simp only [ByteArray.size_append, ByteArray.size_extract, szl_0_, szl_1_, szl_2_, szl_3_, szl_4_, szl_5_, szl_6_, szl_7_, szl_8_, szl_9_, szl_10_, szl_11_, szl_12_, szl_13_, szl_14_, szl_15_] at *; omega)])
                          rotate_left
                          · simp only [Act.put, List.setIfInBounds_toArray, List.set_cons_zero, List.set_cons_succ, i64_w, i32_w]
                            rfl
                          refine take_ (i := 8) (N := some 43) (v := ?_) (a' := ?_) #[true, true, true, true, false, false, false, true, true, false, false, false, true, false, false, false, false, true, false, false] rfl rfl (take_ofW HT_.out HW_.out (by kernel_rfl)) (fun _ _ _ h => h) (Or.inl ⟨by rfl, ?_⟩) hHeld ?_ ?_
                          rotate_left
                          · rintro w' ⟨s0, s1, s2, s3, s4⟩
                            go_simp
                            first | with_reducible rfl | (rw [if_neg (by intro hl_; simp only [ByteArray.size_append, ByteArray.size_extract, szl_0_, szl_1_, szl_2_, szl_3_, szl_4_, szl_5_, szl_6_, szl_7_, szl_8_, szl_9_, szl_10_, szl_11_, szl_12_, szl_13_, szl_14_, szl_15_] at *; omega)])
                          rotate_left
                          · simp only [Act.put, List.setIfInBounds_toArray, List.set_cons_zero, List.set_cons_succ, i64_w, i32_w]
                            rfl
                          refine take_ (i := 13) (N := some 48) (v := ?_) (a' := ?_) #[true, true, true, true, false, false, false, true, true, false, false, false, true, true, false, false, false, true, false, false] rfl rfl (take_ofW HT_.out HW_.out (by kernel_rfl)) (fun _ _ _ h => h) (Or.inl ⟨by rfl, ?_⟩) hHeld ?_ ?_
                          rotate_left
                          · rintro w' ⟨s0, s1, s2, s3, s4⟩
                            go_simp
                            first | with_reducible rfl | (rw [if_neg (by intro hl_; simp only [ByteArray.size_append, ByteArray.size_extract, szl_0_, szl_1_, szl_2_, szl_3_, szl_4_, szl_5_, szl_6_, szl_7_, szl_8_, szl_9_, szl_10_, szl_11_, szl_12_, szl_13_, szl_14_, szl_15_] at *; omega)])
                          rotate_left
                          · simp only [Act.put, List.setIfInBounds_toArray, List.set_cons_zero, List.set_cons_succ, i64_w, i32_w]
                            rfl
                          refine one_ (i := 4) (N := some 39) #[true, true, true, true, true, false, false, true, true, false, false, false, true, true, false, false, false, true, false, false] rfl rfl (one_of HT_.out (by kernel_rfl)) (by decide) (fun K hK => ?_)
                          refine goes_ Tryd.func36 (by kernel_rfl) rfl #[.int .i64 t306] (by rfl) rfl rfl (by (try simp only [List.map_toArray, List.map_cons, List.map_nil]); first | done | rfl | (simp only [List.length_drop, List.length_take]; rfl)) ?_
                          with_reducible refine (strconv_Itoa.calls t306 t313 _ A18.out (Tab.step htab (by repeat (first | (with_reducible first | exact Below.refl _ _ | exact HB.out | apply below_alloc | apply pw_below_drewN | apply below_drew1) | exact HB.out | exact Below.refl _ _)))).mono ?_
                          rintro e w38 ⟨rfl, hb⟩
                          refine ⟨_, rfl, ?_⟩
                          have n0_ := Aside0.mk (blk_below (g := gb305) (o := .cells #[.int .i64 a2_0, .int .i64 a2_1] 34 (0, 0)) (by (with_reducible repeat (first | refine blk_drewN ?_ _ | refine blk_drew ?_ | refine blk_alloc ?_ _)); exact BK305.out) hb)
                          have n1_ := Aside0.mk (blk_below (g := gb310) (o := .cells #[.int .i64 t306, .int .i64 t307, .int .i64 t308] 63 (0, 0)) (by (with_reducible repeat (first | refine blk_drewN ?_ _ | refine blk_drew ?_ | refine blk_alloc ?_ _)); exact BK310.out) hb)
                          have n2_ := Aside0.mk (below_step (by repeat (first | (with_reducible first | exact HB.out | apply below_alloc | apply pw_below_drewN | apply below_drew1 | refine below_set ?_ GE305.out | refine below_set ?_ GE310.out) | exact HB.out)) hb)
                          clear BK305
                          clear BK310
                          clear HB
                          have BK305 := n0_
                          have BK310 := n1_
                          have HB := n2_
                          clear n0_ n1_ n2_
                          (try clear hb)
                          (try clear hb2)
                          (try clear hk)
                          (try clear hi)
                          refine hK.out _ _ ⟨(blk_cell BK310.out 0).trans rfl, (blk_cell BK310.out 1).trans rfl, (blk_cell BK310.out 2).trans rfl, (blk_cell BK305.out 0).trans rfl, (blk_cell BK305.out 1).trans rfl⟩ (fun hHeld => ?_)
                          clear hK K
                          refine norm_ (a' := ?_) ?_ ?_
                          rotate_left
                          · show Act.put _ (some 39) _ = _
                            simp only [Act.put, List.setIfInBounds_toArray, List.set_cons_zero, List.set_cons_succ, i64_w, i32_w]
                            rfl
                          refine pure_ (i := 5) (N := some 40) (v := ?_) (a' := ?_) #[true, true, true, true, true, true, false, true, true, false, false, false, true, true, false, false, false, true, false, false] rfl rfl (any_of HT_.out (by kernel_rfl)) (fun _ _ _ h => h) (Or.inl ⟨by rfl, ?_⟩) ?_ ?_
                          rotate_left
                          · intro w'
                            go_simp
                            first | with_reducible rfl | (rw [if_neg (by intro hl_; simp only [ByteArray.size_append, ByteArray.size_extract, szl_0_, szl_1_, szl_2_, szl_3_, szl_4_, szl_5_, szl_6_, szl_7_, szl_8_, szl_9_, szl_10_, szl_11_, szl_12_, szl_13_, szl_14_, szl_15_] at *; omega)])
                          rotate_left
                          · simp only [Act.put, List.setIfInBounds_toArray, List.set_cons_zero, List.set_cons_succ, i64_w, i32_w]
                            rfl
                          refine pure_ (i := 6) (N := some 41) (v := ?_) (a' := ?_) #[true, true, true, true, true, true, true, true, true, false, false, false, true, true, false, false, false, true, false, false] rfl rfl (any_of HT_.out (by kernel_rfl)) (fun _ _ _ h => h) (Or.inl ⟨by rfl, ?_⟩) ?_ ?_
                          rotate_left
                          · intro w'
                            go_simp
                            first | with_reducible rfl | (rw [if_neg (by intro hl_; simp only [ByteArray.size_append, ByteArray.size_extract, szl_0_, szl_1_, szl_2_, szl_3_, szl_4_, szl_5_, szl_6_, szl_7_, szl_8_, szl_9_, szl_10_, szl_11_, szl_12_, szl_13_, szl_14_, szl_15_] at *; omega)])
                          rotate_left
                          · simp only [Act.put, List.setIfInBounds_toArray, List.set_cons_zero, List.set_cons_succ, i64_w, i32_w]
                            rfl
                          refine one_ (i := 9) (N := some 44) #[true, true, true, true, true, true, true, true, true, true, false, false, true, true, false, false, false, true, false, false] rfl rfl (one_of HT_.out (by kernel_rfl)) (by decide) (fun K hK => ?_)
                          refine goes_ Tryd.func36 (by kernel_rfl) rfl #[.int .i64 t307] (by rfl) rfl rfl (by (try simp only [List.map_toArray, List.map_cons, List.map_nil]); first | done | rfl | (simp only [List.length_drop, List.length_take]; rfl)) ?_
                          with_reducible refine (strconv_Itoa.calls t307 t314 _ A21.out (Tab.step htab (by repeat (first | (with_reducible first | exact Below.refl _ _ | exact HB.out | apply below_alloc | apply pw_below_drewN | apply below_drew1) | exact HB.out | exact Below.refl _ _)))).mono ?_
                          rintro e w39 ⟨rfl, hb⟩
                          refine ⟨_, rfl, ?_⟩
                          have n0_ := Aside0.mk (blk_below (g := gb305) (o := .cells #[.int .i64 a2_0, .int .i64 a2_1] 34 (0, 0)) (by (with_reducible repeat (first | refine blk_drewN ?_ _ | refine blk_drew ?_ | refine blk_alloc ?_ _)); exact BK305.out) hb)
                          have n1_ := Aside0.mk (blk_below (g := gb310) (o := .cells #[.int .i64 t306, .int .i64 t307, .int .i64 t308] 63 (0, 0)) (by (with_reducible repeat (first | refine blk_drewN ?_ _ | refine blk_drew ?_ | refine blk_alloc ?_ _)); exact BK310.out) hb)
                          have n2_ := Aside0.mk (below_step (by repeat (first | (with_reducible first | exact HB.out | apply below_alloc | apply pw_below_drewN | apply below_drew1 | refine below_set ?_ GE305.out | refine below_set ?_ GE310.out) | exact HB.out)) hb)
                          clear BK305
                          clear BK310
                          clear HB
                          have BK305 := n0_
                          have BK310 := n1_
                          have HB := n2_
                          clear n0_ n1_ n2_
                          (try clear hb)
                          (try clear hb2)
                          (try clear hk)
                          (try clear hi)
                          refine hK.out _ _ ⟨(blk_cell BK310.out 0).trans rfl, (blk_cell BK310.out 1).trans rfl, (blk_cell BK310.out 2).trans rfl, (blk_cell BK305.out 0).trans rfl, (blk_cell BK305.out 1).trans rfl⟩ (fun hHeld => ?_)
                          clear hK K
                          refine norm_ (a' := ?_) ?_ ?_
                          rotate_left
                          · show Act.put _ (some 44) _ = _
                            simp only [Act.put, List.setIfInBounds_toArray, List.set_cons_zero, List.set_cons_succ, i64_w, i32_w]
                            rfl
                          refine pure_ (i := 10) (N := some 45) (v := ?_) (a' := ?_) #[true, true, true, true, true, true, true, true, true, true, true, false, true, true, false, false, false, true, false, false] rfl rfl (any_of HT_.out (by kernel_rfl)) (fun _ _ _ h => h) (Or.inl ⟨by rfl, ?_⟩) ?_ ?_
                          rotate_left
                          · intro w'
                            go_simp
                            first | with_reducible rfl | (rw [if_neg (by intro hl_; simp only [ByteArray.size_append, ByteArray.size_extract, szl_0_, szl_1_, szl_2_, szl_3_, szl_4_, szl_5_, szl_6_, szl_7_, szl_8_, szl_9_, szl_10_, szl_11_, szl_12_, szl_13_, szl_14_, szl_15_] at *; omega)])
                          rotate_left
                          · simp only [Act.put, List.setIfInBounds_toArray, List.set_cons_zero, List.set_cons_succ, i64_w, i32_w]
                            rfl
                          refine pure_ (i := 11) (N := some 46) (v := ?_) (a' := ?_) #[true, true, true, true, true, true, true, true, true, true, true, true, true, true, false, false, false, true, false, false] rfl rfl (any_of HT_.out (by kernel_rfl)) (fun _ _ _ h => h) (Or.inl ⟨by rfl, ?_⟩) ?_ ?_
                          rotate_left
                          · intro w'
                            go_simp
                            first | with_reducible rfl | (rw [if_neg (by intro hl_; simp only [ByteArray.size_append, ByteArray.size_extract, szl_0_, szl_1_, szl_2_, szl_3_, szl_4_, szl_5_, szl_6_, szl_7_, szl_8_, szl_9_, szl_10_, szl_11_, szl_12_, szl_13_, szl_14_, szl_15_] at *; omega)])
                          rotate_left
                          · simp only [Act.put, List.setIfInBounds_toArray, List.set_cons_zero, List.set_cons_succ, i64_w, i32_w]
                            rfl
                          refine one_ (i := 14) (N := some 49) #[true, true, true, true, true, true, true, true, true, true, true, true, true, true, true, false, false, true, false, false] rfl rfl (one_of HT_.out (by kernel_rfl)) (by decide) (fun K hK => ?_)
                          refine goes_ Tryd.func36 (by kernel_rfl) rfl #[.int .i64 a2_1] (by rfl) rfl rfl (by (try simp only [List.map_toArray, List.map_cons, List.map_nil]); first | done | rfl | (simp only [List.length_drop, List.length_take]; rfl)) ?_
                          with_reducible refine (strconv_Itoa.calls a2_1 t315 _ A24.out (Tab.step htab (by repeat (first | (with_reducible first | exact Below.refl _ _ | exact HB.out | apply below_alloc | apply pw_below_drewN | apply below_drew1) | exact HB.out | exact Below.refl _ _)))).mono ?_
                          rintro e w40 ⟨rfl, hb⟩
                          refine ⟨_, rfl, ?_⟩
                          have n0_ := Aside0.mk (blk_below (g := gb305) (o := .cells #[.int .i64 a2_0, .int .i64 a2_1] 34 (0, 0)) (by (with_reducible repeat (first | refine blk_drewN ?_ _ | refine blk_drew ?_ | refine blk_alloc ?_ _)); exact BK305.out) hb)
                          have n1_ := Aside0.mk (blk_below (g := gb310) (o := .cells #[.int .i64 t306, .int .i64 t307, .int .i64 t308] 63 (0, 0)) (by (with_reducible repeat (first | refine blk_drewN ?_ _ | refine blk_drew ?_ | refine blk_alloc ?_ _)); exact BK310.out) hb)
                          have n2_ := Aside0.mk (below_step (by repeat (first | (with_reducible first | exact HB.out | apply below_alloc | apply pw_below_drewN | apply below_drew1 | refine below_set ?_ GE305.out | refine below_set ?_ GE310.out) | exact HB.out)) hb)
                          clear BK305
                          clear BK310
                          clear HB
                          have BK305 := n0_
                          have BK310 := n1_
                          have HB := n2_
                          clear n0_ n1_ n2_
                          (try clear hb)
                          (try clear hb2)
                          (try clear hk)
                          (try clear hi)
                          refine hK.out _ _ ⟨(blk_cell BK310.out 0).trans rfl, (blk_cell BK310.out 1).trans rfl, (blk_cell BK310.out 2).trans rfl, (blk_cell BK305.out 0).trans rfl, (blk_cell BK305.out 1).trans rfl⟩ (fun hHeld => ?_)
                          clear hK K
                          refine norm_ (a' := ?_) ?_ ?_
                          rotate_left
                          · show Act.put _ (some 49) _ = _
                            simp only [Act.put, List.setIfInBounds_toArray, List.set_cons_zero, List.set_cons_succ, i64_w, i32_w]
                            rfl
                          refine pure_ (i := 15) (N := some 50) (v := ?_) (a' := ?_) #[true, true, true, true, true, true, true, true, true, true, true, true, true, true, true, true, false, true, false, false] rfl rfl (any_of HT_.out (by kernel_rfl)) (fun _ _ _ h => h) (Or.inl ⟨by rfl, ?_⟩) ?_ ?_
                          rotate_left
                          · intro w'
                            go_simp
                            first | with_reducible rfl | (rw [if_neg (by intro hl_; simp only [ByteArray.size_append, ByteArray.size_extract, szl_0_, szl_1_, szl_2_, szl_3_, szl_4_, szl_5_, szl_6_, szl_7_, szl_8_, szl_9_, szl_10_, szl_11_, szl_12_, szl_13_, szl_14_, szl_15_] at *; omega)])
                          rotate_left
                          · simp only [Act.put, List.setIfInBounds_toArray, List.set_cons_zero, List.set_cons_succ, i64_w, i32_w]
                            rfl
                          refine pure_ (i := 16) (N := some 51) (v := ?_) (a' := ?_) #[true, true, true, true, true, true, true, true, true, true, true, true, true, true, true, true, true, true, false, false] rfl rfl (any_of HT_.out (by kernel_rfl)) (fun _ _ _ h => h) (Or.inl ⟨by rfl, ?_⟩) ?_ ?_
                          rotate_left
                          · intro w'
                            go_simp
                            first | with_reducible rfl | (rw [if_neg (by intro hl_; simp only [ByteArray.size_append, ByteArray.size_extract, szl_0_, szl_1_, szl_2_, szl_3_, szl_4_, szl_5_, szl_6_, szl_7_, szl_8_, szl_9_, szl_10_, szl_11_, szl_12_, szl_13_, szl_14_, szl_15_] at *; omega)])
                          rotate_left
                          · simp only [Act.put, List.setIfInBounds_toArray, List.set_cons_zero, List.set_cons_succ, i64_w, i32_w]
                            rfl
                          refine pure_ (i := 18) (N := some 53) (v := ?_) (a' := ?_) #[true, true, true, true, true, true, true, true, true, true, true, true, true, true, true, true, true, true, true, false] rfl rfl (any_of HT_.out (by kernel_rfl)) (fun _ _ _ h => h) (Or.inl ⟨by rfl, ?_⟩) ?_ ?_
                          rotate_left
                          · intro w'
                            go_simp
                            first | with_reducible rfl | (rw [if_neg (by intro hl_; simp only [ByteArray.size_append, ByteArray.size_extract, szl_0_, szl_1_, szl_2_, szl_3_, szl_4_, szl_5_, szl_6_, szl_7_, szl_8_, szl_9_, szl_10_, szl_11_, szl_12_, szl_13_, szl_14_, szl_15_] at *; omega)])
                          rotate_left
                          · simp only [Act.put, List.setIfInBounds_toArray, List.set_cons_zero, List.set_cons_succ, i64_w, i32_w]
                            rfl
                          refine pure_ (i := 19) (N := some 11) (v := ?_) (a' := ?_) #[true, true, true, true, true, true, true, true, true, true, true, true, true, true, true, true, true, true, true, true] rfl rfl (any_of HT_.out (by kernel_rfl)) (fun _ _ _ h => h) (Or.inl ⟨by rfl, ?_⟩) ?_ ?_
                          rotate_left
                          · intro w'
                            go_simp
                            first | with_reducible rfl | (rw [if_neg (by intro hl_; simp only [ByteArray.size_append, ByteArray.size_extract, szl_0_, szl_1_, szl_2_, szl_3_, szl_4_, szl_5_, szl_6_, szl_7_, szl_8_, szl_9_, szl_10_, szl_11_, szl_12_, szl_13_, szl_14_, szl_15_] at *; omega)])
                          rotate_left
                          · simp only [Act.put, List.setIfInBounds_toArray, List.set_cons_zero, List.set_cons_succ, i64_w, i32_w]
                            rfl
                          refine done_ (done_of HT_.out (by kernel_rfl)) ?_
                          try go_wp2
                          all_goals (try (exfalso; simp only [ByteArray.size_append, ByteArray.size_extract, szl_0_, szl_1_, szl_2_, szl_3_, szl_4_, szl_5_, szl_6_, szl_7_, szl_8_, szl_9_, szl_10_, szl_11_, szl_12_, szl_13_, szl_14_, szl_15_, decide_eq_true_eq, decide_eq_false_iff_not] at *; (try simp only [Int.natCast_add, Int.cast_ofNat_Int] at *); omega))
                          go_ret2
                          exact ⟨by first | rfl | (simp [errW_none, errW_some] <;> rfl) | (simp [*, errW_none, errW_some] <;> rfl), by repeat (first | (with_reducible first | exact HB.out | apply below_alloc | apply pw_below_drewN | apply below_drew1 | refine below_set ?_ GE305.out | refine below_set ?_ GE310.out) | exact HB.out)⟩
                        · rw [if_neg c28] at H
                          have c28b0 : decide (4194304 < (((((((((a0 ++ (⟨#[58]⟩ : ByteArray)) ++ t313) ++ (⟨#[58]⟩ : ByteArray)) ++ t314) ++ (⟨#[58, 32, 101, 114, 114, 111, 114, 32]⟩ : ByteArray)) ++ t315) ++ (⟨#[10]⟩ : ByteArray)) ++ t311).size : Int)) = false := decide_eq_false c28
                          have c28b1 : decide (4194304 < ((((((((a0 ++ (⟨#[58]⟩ : ByteArray)) ++ t313) ++ (⟨#[58]⟩ : ByteArray)) ++ t314) ++ (⟨#[58, 32, 101, 114, 114, 111, 114, 32]⟩ : ByteArray)) ++ t315) ++ (⟨#[10]⟩ : ByteArray)) ++ t311).size) = false := decide_eq_false (by omega)
                          clear c28
                          simp only [Option.some.injEq, Prod.mk.injEq] at H
                          obtain ⟨rfl, rfl⟩ := H
                          go_enter Tryd.func14, Tryd.ntmps14
                          try go_wp2_with (first | ((with_reducible refine gate_dst (N := 5) rfl ?_); refine box_event ?hg (N := 5) ?hd (cs := #[.int .i64 a2_0, .int .i64 a2_1]) (t := 34) ?hr ?_; (case hd => rfl); (case hg => rfl); (case hr => first | (go_simp; done) | (go_simp; rfl)); intro gb305 hg w41 hbox hb; have n0_ := Aside0.mk (below_step (by repeat (first | (with_reducible first | exact HB.out | apply below_alloc | apply pw_below_drewN | apply below_drew1) | exact HB.out)) hb); have n1_ := Aside0.mk (hbox); have n2_ := Aside0.mk ((by rw [hg]; exact (below_size (by repeat (first | (with_reducible first | exact HB.out | apply below_alloc | apply pw_below_drewN | apply below_drew1) | exact HB.out))) : w.heap.size ≤ gb305)); have n3_ := Aside0.mk ((by rw [hg]; exact (below_size (by repeat (first | (with_reducible first | exact HB.out | apply below_alloc | apply pw_below_drewN | apply below_drew1) | exact HB.out))) : w.heap.size ≤ gb305)); clear HB; have HB := n0_; have BK305 := n1_; have GW305 := n2_; have GE305 := n3_; clear n0_ n1_ n2_ n3_; clear hb hbox hg; have hcz42_0 : w41.cell? ⟨gb305, 0, none⟩ = some (.int .i64 a2_0) := (blk_cell BK305.out 0).trans rfl; have hcz42_1 : w41.cell? ⟨gb305, 1, none⟩ = some (.int .i64 a2_1) := (blk_cell BK305.out 1).trans rfl; have hfz42_0 := blk_frozen BK305.out 0; have hfz42_1 := blk_frozen BK305.out 1) | ((with_reducible refine gate_callee (f := 35) rfl ?_); refine goesL_ (some 16) rfl rfl Tryd.func35 (by kernel_rfl) rfl #[.string a1, .int .i64 a2_0] rfl (by (try simp only [List.map_toArray, List.map_cons, List.map_nil]); first | done | rfl | (simp only [List.length_drop, List.length_take]; rfl)) ?_; (with_reducible refine (place_Spot.calls k a1 a2_0 t306 t307 t308 t309 _ A4.out).mono ?_); rintro e w43 ⟨rfl, hb⟩; refine ⟨_, rfl, ?_⟩; have n0_ := Aside0.mk (blk_below (g := gb305) (o := .cells #[.int .i64 a2_0, .int .i64 a2_1] 34 (0, 0)) (by (with_reducible repeat (first | refine blk_drewN ?_ _ | refine blk_drew ?_ | refine blk_alloc ?_ _)); exact BK305.out) hb); have n1_ := Aside0.mk (below_step (by repeat (first | (with_reducible first | exact HB.out | apply below_alloc | apply pw_below_drewN | apply below_drew1 | refine below_set ?_ GE305.out) | exact HB.out)) hb); clear BK305; clear HB; have BK305 := n0_; have HB := n1_; clear n0_ n1_; (try clear hb); (try clear hb2); (try clear hk); (try clear hi)) | ((with_reducible refine gate_dst (N := 8) rfl ?_); refine box_event ?hg (N := 8) ?hd (cs := #[.int .i64 0, .int .i64 0, .int .i64 0]) (t := 63) ?hr ?_; (case hd => rfl); (case hg => rfl); (case hr => first | (go_simp; done) | (go_simp; rfl)); intro gb310 hg w44 hbox hb; have n0_ := Aside0.mk (blk_below (g := gb305) (o := .cells #[.int .i64 a2_0, .int .i64 a2_1] 34 (0, 0)) (by (with_reducible repeat (first | refine blk_drewN ?_ _ | refine blk_drew ?_ | refine blk_alloc ?_ _)); exact BK305.out) hb); have n1_ := Aside0.mk (below_step (by repeat (first | (with_reducible first | exact HB.out | apply below_alloc | apply pw_below_drewN | apply below_drew1 | refine below_set ?_ GE305.out) | exact HB.out)) hb); have n2_ := Aside0.mk (hbox); have n3_ := Aside0.mk ((by rw [hg]; exact (below_size (by repeat (first | (with_reducible first | exact HB.out | apply below_alloc | apply pw_below_drewN | apply below_drew1 | refine below_set ?_ GE305.out) | exact HB.out))) : w.heap.size ≤ gb310)); have n4_ := Aside0.mk ((by rw [hg]; exact (below_size (by repeat (first | (with_reducible first | exact HB.out | apply below_alloc | apply pw_below_drewN | apply below_drew1 | refine below_set ?_ GE305.out) | exact HB.out))) : w.heap.size ≤ gb310)); have n5_ := Aside0.mk ((by rw [hg]; exact Nat.ne_of_lt (blk_lt (g := gb305) (o := .cells #[.int .i64 a2_0, .int .i64 a2_1] 34 (0, 0)) (by (with_reducible repeat (first | refine blk_drewN ?_ _ | refine blk_drew ?_ | refine blk_alloc ?_ _)); exact BK305.out)) : gb305 ≠ gb310)); have n6_ := Aside0.mk ((by rw [hg]; exact Nat.ne_of_gt (blk_lt (g := gb305) (o := .cells #[.int .i64 a2_0, .int .i64 a2_1] 34 (0, 0)) (by (with_reducible repeat (first | refine blk_drewN ?_ _ | refine blk_drew ?_ | refine blk_alloc ?_ _)); exact BK305.out)) : gb310 ≠ gb305)); clear BK305; clear HB; have BK305 := n0_; have HB := n1_; have BK310 := n2_; have GW310 := n3_; have GE310 := n4_; have NB305_310 := n5_; have NB310_305 := n6_; clear n0_ n1_ n2_ n3_ n4_ n5_ n6_; clear hb hbox hg; have hnb45 := NB310_305.out; have hnc45 := NB305_310.out; have hcz46_0 : w44.cell? ⟨gb310, 0, none⟩ = some (.int .i64 0) := (blk_cell BK310.out 0).trans rfl; have hcz46_1 : w44.cell? ⟨gb310, 1, none⟩ = some (.int .i64 0) := (blk_cell BK310.out 1).trans rfl; have hcz46_2 : w44.cell? ⟨gb310, 2, none⟩ = some (.int .i64 0) := (blk_cell BK310.out 2).trans rfl; have hfz46_0 := blk_frozen BK310.out 0; have hfz46_1 := blk_frozen BK310.out 1; have hfz46_2 := blk_frozen BK310.out 2; have hcz47_0 : w44.cell? ⟨gb305, 0, none⟩ = some (.int .i64 a2_0) := (blk_cell BK305.out 0).trans rfl; have hcz47_1 : w44.cell? ⟨gb305, 1, none⟩ = some (.int .i64 a2_1) := (blk_cell BK305.out 1).trans rfl; have hfz47_0 := blk_frozen BK305.out 0; have hfz47_1 := blk_frozen BK305.out 1) | ((with_reducible refine gate_callee (f := 25) rfl ?_); refine goesL_ (some 26) rfl rfl Tryd.func25 (by kernel_rfl) rfl #[.string a1, .int .i64 a2_0, .int .i64 72] rfl (by (try simp only [List.map_toArray, List.map_cons, List.map_nil]); first | done | rfl | (simp only [List.length_drop, List.length_take]; rfl)) ?_; (with_reducible refine (place_Excerpt.calls a1 a2_0 72 t311 t312 _ A6.out).mono ?_); rintro e w48 ⟨rfl, hb⟩; refine ⟨_, rfl, ?_⟩; have n0_ := Aside0.mk (blk_below (g := gb305) (o := .cells #[.int .i64 a2_0, .int .i64 a2_1] 34 (0, 0)) (by (with_reducible repeat (first | refine blk_drewN ?_ _ | refine blk_drew ?_ | refine blk_alloc ?_ _)); refine blk_far ?_ NB305_310.out _; (with_reducible repeat (first | refine blk_drewN ?_ _ | refine blk_drew ?_ | refine blk_alloc ?_ _)); refine blk_far ?_ NB305_310.out _; (with_reducible repeat (first | refine blk_drewN ?_ _ | refine blk_drew ?_ | refine blk_alloc ?_ _)); refine blk_far ?_ NB305_310.out _; (with_reducible repeat (first | refine blk_drewN ?_ _ | refine blk_drew ?_ | refine blk_alloc ?_ _)); exact BK305.out) hb); have n1_ := Aside0.mk (blk_below (g := gb310) (o := .cells #[.int .i64 t306, .int .i64 t307, .int .i64 t308] 63 (0, 0)) (by (with_reducible repeat (first | refine blk_drewN ?_ _ | refine blk_drew ?_ | refine blk_alloc ?_ _)); refine blk_put (cs := #[.int .i64 t306, .int .i64 t307, .int .i64 0]) ?_ 2 _ rfl; (with_reducible repeat (first | refine blk_drewN ?_ _ | refine blk_drew ?_ | refine blk_alloc ?_ _)); refine blk_put (cs := #[.int .i64 t306, .int .i64 0, .int .i64 0]) ?_ 1 _ rfl; (with_reducible repeat (first | refine blk_drewN ?_ _ | refine blk_drew ?_ | refine blk_alloc ?_ _)); refine blk_put (cs := #[.int .i64 0, .int .i64 0, .int .i64 0]) ?_ 0 _ rfl; (with_reducible repeat (first | refine blk_drewN ?_ _ | refine blk_drew ?_ | refine blk_alloc ?_ _)); exact BK310.out) hb); have n2_ := Aside0.mk (below_step (by repeat (first | (with_reducible first | exact HB.out | apply below_alloc | apply pw_below_drewN | apply below_drew1 | refine below_set ?_ GE305.out | refine below_set ?_ GE310.out) | exact HB.out)) hb); clear BK305; clear BK310; clear HB; have BK305 := n0_; have BK310 := n1_; have HB := n2_; clear n0_ n1_ n2_; (try clear hb); (try clear hb2); (try clear hk); (try clear hi)))
                          have n0_ := Aside0.mk (blk_drew BK305.out)
                          have n1_ := Aside0.mk (blk_drew BK310.out)
                          have n2_ := Aside0.mk (below_drew1 HB.out)
                          clear BK305
                          clear BK310
                          clear HB
                          have BK305 := n0_
                          have BK310 := n1_
                          have HB := n2_
                          clear n0_ n1_ n2_
                          refine start_ (n := 20) (S := fun w' => w'.cell? ⟨gb310, 0, none⟩ = some (.int .i64 t306) ∧ w'.cell? ⟨gb310, 1, none⟩ = some (.int .i64 t307) ∧ w'.cell? ⟨gb310, 2, none⟩ = some (.int .i64 t308) ∧ w'.cell? ⟨gb305, 0, none⟩ = some (.int .i64 a2_0) ∧ w'.cell? ⟨gb305, 1, none⟩ = some (.int .i64 a2_1)) (ds := []) #[false, false, false, false, false, false, false, false, false, false, false, false, false, false, false, false, false, false, false, false] (by kernel_rfl) rfl rfl ⟨(blk_cell BK310.out 0).trans rfl, (blk_cell BK310.out 1).trans rfl, (blk_cell BK310.out 2).trans rfl, (blk_cell BK305.out 0).trans rfl, (blk_cell BK305.out 1).trans rfl⟩ (fun hHeld => ?_); refine with_tabW report_Notice.tab9 report_Notice.bits9 (fun HT_ HW_ => ?_)
                          generalize w48.drew = w49 at BK305 BK310 HB hHeld ⊢
                          refine pure_ (i := 0) (N := some 35) (v := ?_) (a' := ?_) #[true, false, false, false, false, false, false, false, false, false, false, false, false, false, false, false, false, false, false, false] rfl rfl (any_of HT_.out (by kernel_rfl)) (fun _ _ _ h => h) (Or.inl ⟨by rfl, ?_⟩) ?_ ?_
                          rotate_left
                          · intro w'
                            go_simp
                            first | with_reducible rfl | (rw [if_neg (by intro hl_; simp only [ByteArray.size_append, ByteArray.size_extract, szl_0_, szl_1_, szl_2_, szl_3_, szl_4_, szl_5_, szl_6_, szl_7_, szl_8_, szl_9_, szl_10_, szl_11_, szl_12_, szl_13_, szl_14_, szl_15_] at *; omega)])
                          rotate_left
                          · simp only [Act.put, List.setIfInBounds_toArray, List.set_cons_zero, List.set_cons_succ, i64_w, i32_w]
                            rfl
                          refine pure_ (i := 1) (N := some 36) (v := ?_) (a' := ?_) #[true, true, false, false, false, false, false, false, false, false, false, false, false, false, false, false, false, false, false, false] rfl rfl (any_of HT_.out (by kernel_rfl)) (fun _ _ _ h => h) (Or.inl ⟨by rfl, ?_⟩) ?_ ?_
                          rotate_left
                          · intro w'
                            go_simp
                            first | with_reducible rfl | (rw [if_neg (by intro hl_; simp only [ByteArray.size_append, ByteArray.size_extract, szl_0_, szl_1_, szl_2_, szl_3_, szl_4_, szl_5_, szl_6_, szl_7_, szl_8_, szl_9_, szl_10_, szl_11_, szl_12_, szl_13_, szl_14_, szl_15_] at *; omega)])
                          rotate_left
                          · simp only [Act.put, List.setIfInBounds_toArray, List.set_cons_zero, List.set_cons_succ, i64_w, i32_w]
                            rfl
                          refine pure_ (i := 2) (N := some 37) (v := ?_) (a' := ?_) #[true, true, true, false, false, false, false, false, false, false, false, false, false, false, false, false, false, false, false, false] rfl rfl (any_of HT_.out (by kernel_rfl)) (fun _ _ _ h => h) (Or.inl ⟨by rfl, ?_⟩) ?_ ?_
                          rotate_left
                          · intro w'
                            go_simp
                            first | with_reducible rfl | (rw [if_neg (by intro hl_; simp only [ByteArray.size_append, ByteArray.size_extract, szl_0_, szl_1_, szl_2_, szl_3_, szl_4_, szl_5_, szl_6_, szl_7_, szl_8_, szl_9_, szl_10_, szl_11_, szl_12_, szl_13_, szl_14_, szl_15_] at *; omega)])
                          rotate_left
                          · simp only [Act.put, List.setIfInBounds_toArray, List.set_cons_zero, List.set_cons_succ, i64_w, i32_w]
                            rfl
                          refine pure_ (i := 7) (N := some 42) (v := ?_) (a' := ?_) #[true, true, true, false, false, false, false, true, false, false, false, false, false, false, false, false, false, false, false, false] rfl rfl (any_of HT_.out (by kernel_rfl)) (fun _ _ _ h => h) (Or.inl ⟨by rfl, ?_⟩) ?_ ?_
                          rotate_left
                          · intro w'
                            go_simp
                            first | with_reducible rfl | (rw [if_neg (by intro hl_; simp only [ByteArray.size_append, ByteArray.size_extract, szl_0_, szl_1_, szl_2_, szl_3_, szl_4_, szl_5_, szl_6_, szl_7_, szl_8_, szl_9_, szl_10_, szl_11_, szl_12_, szl_13_, szl_14_, szl_15_] at *; omega)])
                          rotate_left
                          · simp only [Act.put, List.setIfInBounds_toArray, List.set_cons_zero, List.set_cons_succ, i64_w, i32_w]
                            rfl
                          refine pure_ (i := 12) (N := some 47) (v := ?_) (a' := ?_) #[true, true, true, false, false, false, false, true, false, false, false, false, true, false, false, false, false, false, false, false] rfl rfl (any_of HT_.out (by kernel_rfl)) (fun _ _ _ h => h) (Or.inl ⟨by rfl, ?_⟩) ?_ ?_
                          rotate_left
                          · intro w'
                            go_simp
                            first | with_reducible rfl | (rw [if_neg (by intro hl_; simp only [ByteArray.size_append, ByteArray.size_extract, szl_0_, szl_1_, szl_2_, szl_3_, szl_4_, szl_5_, szl_6_, szl_7_, szl_8_, szl_9_, szl_10_, szl_11_, szl_12_, szl_13_, szl_14_, szl_15_] at *; omega)])
                          rotate_left
                          · simp only [Act.put, List.setIfInBounds_toArray, List.set_cons_zero, List.set_cons_succ, i64_w, i32_w]
                            rfl
                          refine pure_ (i := 17) (N := some 52) (v := ?_) (a' := ?_) #[true, true, true, false, false, false, false, true, false, false, false, false, true, false, false, false, false, true, false, false] rfl rfl (any_of HT_.out (by kernel_rfl)) (fun _ _ _ h => h) (Or.inl ⟨by rfl, ?_⟩) ?_ ?_
                          rotate_left
                          · intro w'
                            go_simp
                            first | with_reducible rfl | (rw [if_neg (by intro hl_; simp only [ByteArray.size_append, ByteArray.size_extract, szl_0_, szl_1_, szl_2_, szl_3_, szl_4_, szl_5_, szl_6_, szl_7_, szl_8_, szl_9_, szl_10_, szl_11_, szl_12_, szl_13_, szl_14_, szl_15_] at *; omega)])
                          rotate_left
                          · simp only [Act.put, List.setIfInBounds_toArray, List.set_cons_zero, List.set_cons_succ, i64_w, i32_w]
                            rfl
                          refine take_ (i := 3) (N := some 38) (v := ?_) (a' := ?_) #[true, true, true, true, false, false, false, true, false, false, false, false, true, false, false, false, false, true, false, false] rfl rfl (take_ofW HT_.out HW_.out (by kernel_rfl)) (fun _ _ _ h => h) (Or.inl ⟨by rfl, ?_⟩) hHeld ?_ ?_
                          rotate_left
                          · rintro w' ⟨s0, s1, s2, s3, s4⟩
                            go_simp
                            first | with_reducible rfl | (rw [if_neg (by intro hl_; simp only [ByteArray.size_append, ByteArray.size_extract, szl_0_, szl_1_, szl_2_, szl_3_, szl_4_, szl_5_, szl_6_, szl_7_, szl_8_, szl_9_, szl_10_, szl_11_, szl_12_, szl_13_, szl_14_, szl_15_] at *; omega)])
                          rotate_left
                          · simp only [Act.put, List.setIfInBounds_toArray, List.set_cons_zero, List.set_cons_succ, i64_w, i32_w]
                            rfl
                          refine take_ (i := 8) (N := some 43) (v := ?_) (a' := ?_) #[true, true, true, true, false, false, false, true, true, false, false, false, true, false, false, false, false, true, false, false] rfl rfl (take_ofW HT_.out HW_.out (by kernel_rfl)) (fun _ _ _ h => h) (Or.inl ⟨by rfl, ?_⟩) hHeld ?_ ?_
                          rotate_left
                          · rintro w' ⟨s0, s1, s2, s3, s4⟩
                            go_simp
                            first | with_reducible rfl | (rw [if_neg (by intro hl_; simp only [ByteArray.size_append, ByteArray.size_extract, szl_0_, szl_1_, szl_2_, szl_3_, szl_4_, szl_5_, szl_6_, szl_7_, szl_8_, szl_9_, szl_10_, szl_11_, szl_12_, szl_13_, szl_14_, szl_15_] at *; omega)])
                          rotate_left
                          · simp only [Act.put, List.setIfInBounds_toArray, List.set_cons_zero, List.set_cons_succ, i64_w, i32_w]
                            rfl
                          refine take_ (i := 13) (N := some 48) (v := ?_) (a' := ?_) #[true, true, true, true, false, false, false, true, true, false, false, false, true, true, false, false, false, true, false, false] rfl rfl (take_ofW HT_.out HW_.out (by kernel_rfl)) (fun _ _ _ h => h) (Or.inl ⟨by rfl, ?_⟩) hHeld ?_ ?_
                          rotate_left
                          · rintro w' ⟨s0, s1, s2, s3, s4⟩
                            go_simp
                            first | with_reducible rfl | (rw [if_neg (by intro hl_; simp only [ByteArray.size_append, ByteArray.size_extract, szl_0_, szl_1_, szl_2_, szl_3_, szl_4_, szl_5_, szl_6_, szl_7_, szl_8_, szl_9_, szl_10_, szl_11_, szl_12_, szl_13_, szl_14_, szl_15_] at *; omega)])
                          rotate_left
                          · simp only [Act.put, List.setIfInBounds_toArray, List.set_cons_zero, List.set_cons_succ, i64_w, i32_w]
                            rfl
                          refine one_ (i := 4) (N := some 39) #[true, true, true, true, true, false, false, true, true, false, false, false, true, true, false, false, false, true, false, false] rfl rfl (one_of HT_.out (by kernel_rfl)) (by decide) (fun K hK => ?_)
                          refine goes_ Tryd.func36 (by kernel_rfl) rfl #[.int .i64 t306] (by rfl) rfl rfl (by (try simp only [List.map_toArray, List.map_cons, List.map_nil]); first | done | rfl | (simp only [List.length_drop, List.length_take]; rfl)) ?_
                          with_reducible refine (strconv_Itoa.calls t306 t313 _ A18.out (Tab.step htab (by repeat (first | (with_reducible first | exact Below.refl _ _ | exact HB.out | apply below_alloc | apply pw_below_drewN | apply below_drew1) | exact HB.out | exact Below.refl _ _)))).mono ?_
                          rintro e w50 ⟨rfl, hb⟩
                          refine ⟨_, rfl, ?_⟩
                          have n0_ := Aside0.mk (blk_below (g := gb305) (o := .cells #[.int .i64 a2_0, .int .i64 a2_1] 34 (0, 0)) (by (with_reducible repeat (first | refine blk_drewN ?_ _ | refine blk_drew ?_ | refine blk_alloc ?_ _)); exact BK305.out) hb)
                          have n1_ := Aside0.mk (blk_below (g := gb310) (o := .cells #[.int .i64 t306, .int .i64 t307, .int .i64 t308] 63 (0, 0)) (by (with_reducible repeat (first | refine blk_drewN ?_ _ | refine blk_drew ?_ | refine blk_alloc ?_ _)); exact BK310.out) hb)
                          have n2_ := Aside0.mk (below_step (by repeat (first | (with_reducible first | exact HB.out | apply below_alloc | apply pw_below_drewN | apply below_drew1 | refine below_set ?_ GE305.out | refine below_set ?_ GE310.out) | exact HB.out)) hb)
                          clear BK305
                          clear BK310
                          clear HB
                          have BK305 := n0_
                          have BK310 := n1_
                          have HB := n2_
                          clear n0_ n1_ n2_
                          (try clear hb)
                          (try clear hb2)
                          (try clear hk)
                          (try clear hi)
                          refine hK.out _ _ ⟨(blk_cell BK310.out 0).trans rfl, (blk_cell BK310.out 1).trans rfl, (blk_cell BK310.out 2).trans rfl, (blk_cell BK305.out 0).trans rfl, (blk_cell BK305.out 1).trans rfl⟩ (fun hHeld => ?_)
                          clear hK K
                          refine norm_ (a' := ?_) ?_ ?_
                          rotate_left
                          · show Act.put _ (some 39) _ = _
                            simp only [Act.put, List.setIfInBounds_toArray, List.set_cons_zero, List.set_cons_succ, i64_w, i32_w]
                            rfl
                          refine pure_ (i := 5) (N := some 40) (v := ?_) (a' := ?_) #[true, true, true, true, true, true, false, true, true, false, false, false, true, true, false, false, false, true, false, false] rfl rfl (any_of HT_.out (by kernel_rfl)) (fun _ _ _ h => h) (Or.inl ⟨by rfl, ?_⟩) ?_ ?_
                          rotate_left
                          · intro w'
                            go_simp
                            first | with_reducible rfl | (rw [if_neg (by intro hl_; simp only [ByteArray.size_append, ByteArray.size_extract, szl_0_, szl_1_, szl_2_, szl_3_, szl_4_, szl_5_, szl_6_, szl_7_, szl_8_, szl_9_, szl_10_, szl_11_, szl_12_, szl_13_, szl_14_, szl_15_] at *; omega)])
                          rotate_left
                          · simp only [Act.put, List.setIfInBounds_toArray, List.set_cons_zero, List.set_cons_succ, i64_w, i32_w]
                            rfl
                          refine pure_ (i := 6) (N := some 41) (v := ?_) (a' := ?_) #[true, true, true, true, true, true, true, true, true, false, false, false, true, true, false, false, false, true, false, false] rfl rfl (any_of HT_.out (by kernel_rfl)) (fun _ _ _ h => h) (Or.inl ⟨by rfl, ?_⟩) ?_ ?_
                          rotate_left
                          · intro w'
                            go_simp
                            first | with_reducible rfl | (rw [if_neg (by intro hl_; simp only [ByteArray.size_append, ByteArray.size_extract, szl_0_, szl_1_, szl_2_, szl_3_, szl_4_, szl_5_, szl_6_, szl_7_, szl_8_, szl_9_, szl_10_, szl_11_, szl_12_, szl_13_, szl_14_, szl_15_] at *; omega)])
                          rotate_left
                          · simp only [Act.put, List.setIfInBounds_toArray, List.set_cons_zero, List.set_cons_succ, i64_w, i32_w]
                            rfl
                          refine one_ (i := 9) (N := some 44) #[true, true, true, true, true, true, true, true, true, true, false, false, true, true, false, false, false, true, false, false] rfl rfl (one_of HT_.out (by kernel_rfl)) (by decide) (fun K hK => ?_)
                          refine goes_ Tryd.func36 (by kernel_rfl) rfl #[.int .i64 t307] (by rfl) rfl rfl (by (try simp only [List.map_toArray, List.map_cons, List.map_nil]); first | done | rfl | (simp only [List.length_drop, List.length_take]; rfl)) ?_
                          with_reducible refine (strconv_Itoa.calls t307 t314 _ A21.out (Tab.step htab (by repeat (first | (with_reducible first | exact Below.refl _ _ | exact HB.out | apply below_alloc | apply pw_below_drewN | apply below_drew1) | exact HB.out | exact Below.refl _ _)))).mono ?_
                          rintro e w51 ⟨rfl, hb⟩
                          refine ⟨_, rfl, ?_⟩
                          have n0_ := Aside0.mk (blk_below (g := gb305) (o := .cells #[.int .i64 a2_0, .int .i64 a2_1] 34 (0, 0)) (by (with_reducible repeat (first | refine blk_drewN ?_ _ | refine blk_drew ?_ | refine blk_alloc ?_ _)); exact BK305.out) hb)
                          have n1_ := Aside0.mk (blk_below (g := gb310) (o := .cells #[.int .i64 t306, .int .i64 t307, .int .i64 t308] 63 (0, 0)) (by (with_reducible repeat (first | refine blk_drewN ?_ _ | refine blk_drew ?_ | refine blk_alloc ?_ _)); exact BK310.out) hb)
                          have n2_ := Aside0.mk (below_step (by repeat (first | (with_reducible first | exact HB.out | apply below_alloc | apply pw_below_drewN | apply below_drew1 | refine below_set ?_ GE305.out | refine below_set ?_ GE310.out) | exact HB.out)) hb)
                          clear BK305
                          clear BK310
                          clear HB
                          have BK305 := n0_
                          have BK310 := n1_
                          have HB := n2_
                          clear n0_ n1_ n2_
                          (try clear hb)
                          (try clear hb2)
                          (try clear hk)
                          (try clear hi)
                          refine hK.out _ _ ⟨(blk_cell BK310.out 0).trans rfl, (blk_cell BK310.out 1).trans rfl, (blk_cell BK310.out 2).trans rfl, (blk_cell BK305.out 0).trans rfl, (blk_cell BK305.out 1).trans rfl⟩ (fun hHeld => ?_)
                          clear hK K
                          refine norm_ (a' := ?_) ?_ ?_
                          rotate_left
                          · show Act.put _ (some 44) _ = _
                            simp only [Act.put, List.setIfInBounds_toArray, List.set_cons_zero, List.set_cons_succ, i64_w, i32_w]
                            rfl
                          refine pure_ (i := 10) (N := some 45) (v := ?_) (a' := ?_) #[true, true, true, true, true, true, true, true, true, true, true, false, true, true, false, false, false, true, false, false] rfl rfl (any_of HT_.out (by kernel_rfl)) (fun _ _ _ h => h) (Or.inl ⟨by rfl, ?_⟩) ?_ ?_
                          rotate_left
                          · intro w'
                            go_simp
                            first | with_reducible rfl | (rw [if_neg (by intro hl_; simp only [ByteArray.size_append, ByteArray.size_extract, szl_0_, szl_1_, szl_2_, szl_3_, szl_4_, szl_5_, szl_6_, szl_7_, szl_8_, szl_9_, szl_10_, szl_11_, szl_12_, szl_13_, szl_14_, szl_15_] at *; omega)])
                          rotate_left
                          · simp only [Act.put, List.setIfInBounds_toArray, List.set_cons_zero, List.set_cons_succ, i64_w, i32_w]
                            rfl
                          refine pure_ (i := 11) (N := some 46) (v := ?_) (a' := ?_) #[true, true, true, true, true, true, true, true, true, true, true, true, true, true, false, false, false, true, false, false] rfl rfl (any_of HT_.out (by kernel_rfl)) (fun _ _ _ h => h) (Or.inl ⟨by rfl, ?_⟩) ?_ ?_
                          rotate_left
                          · intro w'
                            go_simp
                            first | with_reducible rfl | (rw [if_neg (by intro hl_; simp only [ByteArray.size_append, ByteArray.size_extract, szl_0_, szl_1_, szl_2_, szl_3_, szl_4_, szl_5_, szl_6_, szl_7_, szl_8_, szl_9_, szl_10_, szl_11_, szl_12_, szl_13_, szl_14_, szl_15_] at *; omega)])
                          rotate_left
                          · simp only [Act.put, List.setIfInBounds_toArray, List.set_cons_zero, List.set_cons_succ, i64_w, i32_w]
                            rfl
                          refine one_ (i := 14) (N := some 49) #[true, true, true, true, true, true, true, true, true, true, true, true, true, true, true, false, false, true, false, false] rfl rfl (one_of HT_.out (by kernel_rfl)) (by decide) (fun K hK => ?_)
                          refine goes_ Tryd.func36 (by kernel_rfl) rfl #[.int .i64 a2_1] (by rfl) rfl rfl (by (try simp only [List.map_toArray, List.map_cons, List.map_nil]); first | done | rfl | (simp only [List.length_drop, List.length_take]; rfl)) ?_
                          with_reducible refine (strconv_Itoa.calls a2_1 t315 _ A24.out (Tab.step htab (by repeat (first | (with_reducible first | exact Below.refl _ _ | exact HB.out | apply below_alloc | apply pw_below_drewN | apply below_drew1) | exact HB.out | exact Below.refl _ _)))).mono ?_
                          rintro e w52 ⟨rfl, hb⟩
                          refine ⟨_, rfl, ?_⟩
                          have n0_ := Aside0.mk (blk_below (g := gb305) (o := .cells #[.int .i64 a2_0, .int .i64 a2_1] 34 (0, 0)) (by (with_reducible repeat (first | refine blk_drewN ?_ _ | refine blk_drew ?_ | refine blk_alloc ?_ _)); exact BK305.out) hb)
                          have n1_ := Aside0.mk (blk_below (g := gb310) (o := .cells #[.int .i64 t306, .int .i64 t307, .int .i64 t308] 63 (0, 0)) (by (with_reducible repeat (first | refine blk_drewN ?_ _ | refine blk_drew ?_ | refine blk_alloc ?_ _)); exact BK310.out) hb)
                          have n2_ := Aside0.mk (below_step (by repeat (first | (with_reducible first | exact HB.out | apply below_alloc | apply pw_below_drewN | apply below_drew1 | refine below_set ?_ GE305.out | refine below_set ?_ GE310.out) | exact HB.out)) hb)
                          clear BK305
                          clear BK310
                          clear HB
                          have BK305 := n0_
                          have BK310 := n1_
                          have HB := n2_
                          clear n0_ n1_ n2_
                          (try clear hb)
                          (try clear hb2)
                          (try clear hk)
                          (try clear hi)
                          refine hK.out _ _ ⟨(blk_cell BK310.out 0).trans rfl, (blk_cell BK310.out 1).trans rfl, (blk_cell BK310.out 2).trans rfl, (blk_cell BK305.out 0).trans rfl, (blk_cell BK305.out 1).trans rfl⟩ (fun hHeld => ?_)
                          clear hK K
                          refine norm_ (a' := ?_) ?_ ?_
                          rotate_left
                          · show Act.put _ (some 49) _ = _
                            simp only [Act.put, List.setIfInBounds_toArray, List.set_cons_zero, List.set_cons_succ, i64_w, i32_w]
                            rfl
                          refine pure_ (i := 15) (N := some 50) (v := ?_) (a' := ?_) #[true, true, true, true, true, true, true, true, true, true, true, true, true, true, true, true, false, true, false, false] rfl rfl (any_of HT_.out (by kernel_rfl)) (fun _ _ _ h => h) (Or.inl ⟨by rfl, ?_⟩) ?_ ?_
                          rotate_left
                          · intro w'
                            go_simp
                            first | with_reducible rfl | (rw [if_neg (by intro hl_; simp only [ByteArray.size_append, ByteArray.size_extract, szl_0_, szl_1_, szl_2_, szl_3_, szl_4_, szl_5_, szl_6_, szl_7_, szl_8_, szl_9_, szl_10_, szl_11_, szl_12_, szl_13_, szl_14_, szl_15_] at *; omega)])
                          rotate_left
                          · simp only [Act.put, List.setIfInBounds_toArray, List.set_cons_zero, List.set_cons_succ, i64_w, i32_w]
                            rfl
                          refine pure_ (i := 16) (N := some 51) (v := ?_) (a' := ?_) #[true, true, true, true, true, true, true, true, true, true, true, true, true, true, true, true, true, true, false, false] rfl rfl (any_of HT_.out (by kernel_rfl)) (fun _ _ _ h => h) (Or.inl ⟨by rfl, ?_⟩) ?_ ?_
                          rotate_left
                          · intro w'
                            go_simp
                            first | with_reducible rfl | (rw [if_neg (by intro hl_; simp only [ByteArray.size_append, ByteArray.size_extract, szl_0_, szl_1_, szl_2_, szl_3_, szl_4_, szl_5_, szl_6_, szl_7_, szl_8_, szl_9_, szl_10_, szl_11_, szl_12_, szl_13_, szl_14_, szl_15_] at *; omega)])
                          rotate_left
                          · simp only [Act.put, List.setIfInBounds_toArray, List.set_cons_zero, List.set_cons_succ, i64_w, i32_w]
                            rfl
                          refine pure_ (i := 18) (N := some 53) (v := ?_) (a' := ?_) #[true, true, true, true, true, true, true, true, true, true, true, true, true, true, true, true, true, true, true, false] rfl rfl (any_of HT_.out (by kernel_rfl)) (fun _ _ _ h => h) (Or.inl ⟨by rfl, ?_⟩) ?_ ?_
                          rotate_left
                          · intro w'
                            go_simp
                            first | with_reducible rfl | (rw [if_neg (by intro hl_; simp only [ByteArray.size_append, ByteArray.size_extract, szl_0_, szl_1_, szl_2_, szl_3_, szl_4_, szl_5_, szl_6_, szl_7_, szl_8_, szl_9_, szl_10_, szl_11_, szl_12_, szl_13_, szl_14_, szl_15_] at *; omega)])
                          rotate_left
                          · simp only [Act.put, List.setIfInBounds_toArray, List.set_cons_zero, List.set_cons_succ, i64_w, i32_w]
                            rfl
                          refine pure_ (i := 19) (N := some 11) (v := ?_) (a' := ?_) #[true, true, true, true, true, true, true, true, true, true, true, true, true, true, true, true, true, true, true, true] rfl rfl (any_of HT_.out (by kernel_rfl)) (fun _ _ _ h => h) (Or.inl ⟨by rfl, ?_⟩) ?_ ?_
                          rotate_left
                          · intro w'
                            go_simp
                            first | with_reducible rfl | (rw [if_neg (by intro hl_; simp only [ByteArray.size_append, ByteArray.size_extract, szl_0_, szl_1_, szl_2_, szl_3_, szl_4_, szl_5_, szl_6_, szl_7_, szl_8_, szl_9_, szl_10_, szl_11_, szl_12_, szl_13_, szl_14_, szl_15_] at *; omega)])
                          rotate_left
                          · simp only [Act.put, List.setIfInBounds_toArray, List.set_cons_zero, List.set_cons_succ, i64_w, i32_w]
                            rfl
                          refine done_ (done_of HT_.out (by kernel_rfl)) ?_
                          try go_wp2
                          all_goals (try (exfalso; simp only [ByteArray.size_append, ByteArray.size_extract, szl_0_, szl_1_, szl_2_, szl_3_, szl_4_, szl_5_, szl_6_, szl_7_, szl_8_, szl_9_, szl_10_, szl_11_, szl_12_, szl_13_, szl_14_, szl_15_, decide_eq_true_eq, decide_eq_false_iff_not] at *; (try simp only [Int.natCast_add, Int.cast_ofNat_Int] at *); omega))
                          go_ret2
                          exact ⟨by first | rfl | (simp [errW_none, errW_some] <;> rfl) | (simp [*, errW_none, errW_some] <;> rfl), by repeat (first | (with_reducible first | exact HB.out | apply below_alloc | apply pw_below_drewN | apply below_drew1 | refine below_set ?_ GE305.out | refine below_set ?_ GE310.out) | exact HB.out)⟩
                      · rw [if_neg c27] at H
                        exact absurd H (by simp)
                    · rw [if_neg c26] at H
                      exact absurd H (by simp)
                  · rw [if_neg c25] at H
                    exact absurd H (by simp)
                · rw [if_neg c23] at H
                  exact absurd H (by simp)
              · rw [if_neg c22] at H
                exact absurd H (by simp)
            · rw [if_neg c20] at H
              exact absurd H (by simp)
          · rw [if_neg c19] at H
            exact absurd H (by simp)
        · rw [if_neg c17] at H
          exact absurd H (by simp)
    · rw [if_neg c7] at H
      have c7b0 : (t312 == 0) = false := beq_eq_false_iff_ne.mpr c7
      have c7b1 : (t312 != 0) = true := bne_iff_ne.mpr c7
      simp only [Option.some.injEq, Prod.mk.injEq] at H
      obtain ⟨rfl, rfl⟩ := H
      go_enter Tryd.func14, Tryd.ntmps14
      go_wp2_with (first | ((with_reducible refine gate_dst (N := 5) rfl ?_); refine box_event ?hg (N := 5) ?hd (cs := #[.int .i64 a2_0, .int .i64 a2_1]) (t := 34) ?hr ?_; (case hd => rfl); (case hg => rfl); (case hr => first | (go_simp; done) | (go_simp; rfl)); intro gb305 hg w53 hbox hb; have n0_ := Aside0.mk (below_step (by repeat (first | (with_reducible first | exact HB.out | apply below_alloc | apply pw_below_drewN | apply below_drew1) | exact HB.out)) hb); have n1_ := Aside0.mk (hbox); have n2_ := Aside0.mk ((by rw [hg]; exact (below_size (by repeat (first | (with_reducible first | exact HB.out | apply below_alloc | apply pw_below_drewN | apply below_drew1) | exact HB.out))) : w.heap.size ≤ gb305)); have n3_ := Aside0.mk ((by rw [hg]; exact (below_size (by repeat (first | (with_reducible first | exact HB.out | apply below_alloc | apply pw_below_drewN | apply below_drew1) | exact HB.out))) : w.heap.size ≤ gb305)); clear HB; have HB := n0_; have BK305 := n1_; have GW305 := n2_; have GE305 := n3_; clear n0_ n1_ n2_ n3_; clear hb hbox hg; have hcz54_0 : w53.cell? ⟨gb305, 0, none⟩ = some (.int .i64 a2_0) := (blk_cell BK305.out 0).trans rfl; have hcz54_1 : w53.cell? ⟨gb305, 1, none⟩ = some (.int .i64 a2_1) := (blk_cell BK305.out 1).trans rfl; have hfz54_0 := blk_frozen BK305.out 0; have hfz54_1 := blk_frozen BK305.out 1) | ((with_reducible refine gate_callee (f := 35) rfl ?_); refine goesL_ (some 16) rfl rfl Tryd.func35 (by kernel_rfl) rfl #[.string a1, .int .i64 a2_0] rfl (by (try simp only [List.map_toArray, List.map_cons, List.map_nil]); first | done | rfl | (simp only [List.length_drop, List.length_take]; rfl)) ?_; (with_reducible refine (place_Spot.calls k a1 a2_0 t306 t307 t308 t309 _ A4.out).mono ?_); rintro e w55 ⟨rfl, hb⟩; refine ⟨_, rfl, ?_⟩; have n0_ := Aside0.mk (blk_below (g := gb305) (o := .cells #[.int .i64 a2_0, .int .i64 a2_1] 34 (0, 0)) (by (with_reducible repeat (first | refine blk_drewN ?_ _ | refine blk_drew ?_ | refine blk_alloc ?_ _)); exact BK305.out) hb); have n1_ := Aside0.mk (below_step (by repeat (first | (with_reducible first | exact HB.out | apply below_alloc | apply pw_below_drewN | apply below_drew1 | refine below_set ?_ GE305.out) | exact HB.out)) hb); clear BK305; clear HB; have BK305 := n0_; have HB := n1_; clear n0_ n1_; (try clear hb); (try clear hb2); (try clear hk); (try clear hi)) | ((with_reducible refine gate_dst (N := 8) rfl ?_); refine box_event ?hg (N := 8) ?hd (cs := #[.int .i64 0, .int .i64 0, .int .i64 0]) (t := 63) ?hr ?_; (case hd => rfl); (case hg => rfl); (case hr => first | (go_simp; done) | (go_simp; rfl)); intro gb310 hg w56 hbox hb; have n0_ := Aside0.mk (blk_below (g := gb305) (o := .cells #[.int .i64 a2_0, .int .i64 a2_1] 34 (0, 0)) (by (with_reducible repeat (first | refine blk_drewN ?_ _ | refine blk_drew ?_ | refine blk_alloc ?_ _)); exact BK305.out) hb); have n1_ := Aside0.mk (below_step (by repeat (first | (with_reducible first | exact HB.out | apply below_alloc | apply pw_below_drewN | apply below_drew1 | refine below_set ?_ GE305.out) | exact HB.out)) hb); have n2_ := Aside0.mk (hbox); have n3_ := Aside0.mk ((by rw [hg]; exact (below_size (by repeat (first | (with_reducible first | exact HB.out | apply below_alloc | apply pw_below_drewN | apply below_drew1 | refine below_set ?_ GE305.out) | exact HB.out))) : w.heap.size ≤ gb310)); have n4_ := Aside0.mk ((by rw [hg]; exact (below_size (by repeat (first | (with_reducible first | exact HB.out | apply below_alloc | apply pw_below_drewN | apply below_drew1 | refine below_set ?_ GE305.out) | exact HB.out))) : w.heap.size ≤ gb310)); have n5_ := Aside0.mk ((by rw [hg]; exact Nat.ne_of_lt (blk_lt (g := gb305) (o := .cells #[.int .i64 a2_0, .int .i64 a2_1] 34 (0, 0)) (by (with_reducible repeat (first | refine blk_drewN ?_ _ | refine blk_drew ?_ | refine blk_alloc ?_ _)); exact BK305.out)) : gb305 ≠ gb310)); have n6_ := Aside0.mk ((by rw [hg]; exact Nat.ne_of_gt (blk_lt (g := gb305) (o := .cells #[.int .i64 a2_0, .int .i64 a2_1] 34 (0, 0)) (by (with_reducible repeat (first | refine blk_drewN ?_ _ | refine blk_drew ?_ | refine blk_alloc ?_ _)); exact BK305.out)) : gb310 ≠ gb305)); clear BK305; clear HB; have BK305 := n0_; have HB := n1_; have BK310 := n2_; have GW310 := n3_; have GE310 := n4_; have NB305_310 := n5_; have NB310_305 := n6_; clear n0_ n1_ n2_ n3_ n4_ n5_ n6_; clear hb hbox hg; have hnb57 := NB310_305.out; have hnc57 := NB305_310.out; have hcz58_0 : w56.cell? ⟨gb310, 0, none⟩ = some (.int .i64 0) := (blk_cell BK310.out 0).trans rfl; have hcz58_1 : w56.cell? ⟨gb310, 1, none⟩ = some (.int .i64 0) := (blk_cell BK310.out 1).trans rfl; have hcz58_2 : w56.cell? ⟨gb310, 2, none⟩ = some (.int .i64 0) := (blk_cell BK310.out 2).trans rfl; have hfz58_0 := blk_frozen BK310.out 0; have hfz58_1 := blk_frozen BK310.out 1; have hfz58_2 := blk_frozen BK310.out 2; have hcz59_0 : w56.cell? ⟨gb305, 0, none⟩ = some (.int .i64 a2_0) := (blk_cell BK305.out 0).trans rfl; have hcz59_1 : w56.cell? ⟨gb305, 1, none⟩ = some (.int .i64 a2_1) := (blk_cell BK305.out 1).trans rfl; have hfz59_0 := blk_frozen BK305.out 0; have hfz59_1 := blk_frozen BK305.out 1) | ((with_reducible refine gate_callee (f := 25) rfl ?_); refine goesL_ (some 26) rfl rfl Tryd.func25 (by kernel_rfl) rfl #[.string a1, .int .i64 a2_0, .int .i64 72] rfl (by (try simp only [List.map_toArray, List.map_cons, List.map_nil]); first | done | rfl | (simp only [List.length_drop, List.length_take]; rfl)) ?_; (with_reducible refine (place_Excerpt.calls a1 a2_0 72 t311 t312 _ A6.out).mono ?_); rintro e w60 ⟨rfl, hb⟩; refine ⟨_, rfl, ?_⟩; have n0_ := Aside0.mk (blk_below (g := gb305) (o := .cells #[.int .i64 a2_0, .int .i64 a2_1] 34 (0, 0)) (by (with_reducible repeat (first | refine blk_drewN ?_ _ | refine blk_drew ?_ | refine blk_alloc ?_ _)); refine blk_far ?_ NB305_310.out _; (with_reducible repeat (first | refine blk_drewN ?_ _ | refine blk_drew ?_ | refine blk_alloc ?_ _)); refine blk_far ?_ NB305_310.out _; (with_reducible repeat (first | refine blk_drewN ?_ _ | refine blk_drew ?_ | refine blk_alloc ?_ _)); refine blk_far ?_ NB305_310.out _; (with_reducible repeat (first | refine blk_drewN ?_ _ | refine blk_drew ?_ | refine blk_alloc ?_ _)); exact BK305.out) hb); have n1_ := Aside0.mk (blk_below (g := gb310) (o := .cells #[.int .i64 t306, .int .i64 t307, .int .i64 t308] 63 (0, 0)) (by (with_reducible repeat (first | refine blk_drewN ?_ _ | refine blk_drew ?_ | refine blk_alloc ?_ _)); refine blk_put (cs := #[.int .i64 t306, .int .i64 t307, .int .i64 0]) ?_ 2 _ rfl; (with_reducible repeat (first | refine blk_drewN ?_ _ | refine blk_drew ?_ | refine blk_alloc ?_ _)); refine blk_put (cs := #[.int .i64 t306, .int .i64 0, .int .i64 0]) ?_ 1 _ rfl; (with_reducible repeat (first | refine blk_drewN ?_ _ | refine blk_drew ?_ | refine blk_alloc ?_ _)); refine blk_put (cs := #[.int .i64 0, .int .i64 0, .int .i64 0]) ?_ 0 _ rfl; (with_reducible repeat (first | refine blk_drewN ?_ _ | refine blk_drew ?_ | refine blk_alloc ?_ _)); exact BK310.out) hb); have n2_ := Aside0.mk (below_step (by repeat (first | (with_reducible first | exact HB.out | apply below_alloc | apply pw_below_drewN | apply below_drew1 | refine below_set ?_ GE305.out | refine below_set ?_ GE310.out) | exact HB.out)) hb); clear BK305; clear BK310; clear HB; have BK305 := n0_; have BK310 := n1_; have HB := n2_; clear n0_ n1_ n2_; (try clear hb); (try clear hb2); (try clear hk); (try clear hi)))
      go_ret2
      exact ⟨by first | rfl | (simp [errW_none, errW_some] <;> rfl) | (simp [*, errW_none, errW_some] <;> rfl), by repeat (first | (with_reducible first | exact HB.out | apply below_alloc | apply pw_below_drewN | apply below_drew1 | refine below_set ?_ GE305.out | refine below_set ?_ GE310.out) | exact HB.out)⟩
  · rw [if_neg c5] at H
    have c5b0 : (t309 == 0) = false := beq_eq_false_iff_ne.mpr c5
    have c5b1 : (t309 != 0) = true := bne_iff_ne.mpr c5
    simp only [Option.some.injEq, Prod.mk.injEq] at H
    obtain ⟨rfl, rfl⟩ := H
    go_enter Tryd.func14, Tryd.ntmps14
    go_wp2_with (first | ((with_reducible refine gate_dst (N := 5) rfl ?_); refine box_event ?hg (N := 5) ?hd (cs := #[.int .i64 a2_0, .int .i64 a2_1]) (t := 34) ?hr ?_; (case hd => rfl); (case hg => rfl); (case hr => first | (go_simp; done) | (go_simp; rfl)); intro gb305 hg w61 hbox hb; have n0_ := Aside0.mk (below_step (by repeat (first | (with_reducible first | exact HB.out | apply below_alloc | apply pw_below_drewN | apply below_drew1) | exact HB.out)) hb); have n1_ := Aside0.mk (hbox); have n2_ := Aside0.mk ((by rw [hg]; exact (below_size (by repeat (first | (with_reducible first | exact HB.out | apply below_alloc | apply pw_below_drewN | apply below_drew1) | exact HB.out))) : w.heap.size ≤ gb305)); have n3_ := Aside0.mk ((by rw [hg]; exact (below_size (by repeat (first | (with_reducible first | exact HB.out | apply below_alloc | apply pw_below_drewN | apply below_drew1) | exact HB.out))) : w.heap.size ≤ gb305)); clear HB; have HB := n0_; have BK305 := n1_; have GW305 := n2_; have GE305 := n3_; clear n0_ n1_ n2_ n3_; clear hb hbox hg; have hcz62_0 : w61.cell? ⟨gb305, 0, none⟩ = some (.int .i64 a2_0) := (blk_cell BK305.out 0).trans rfl; have hcz62_1 : w61.cell? ⟨gb305, 1, none⟩ = some (.int .i64 a2_1) := (blk_cell BK305.out 1).trans rfl; have hfz62_0 := blk_frozen BK305.out 0; have hfz62_1 := blk_frozen BK305.out 1) | ((with_reducible refine gate_callee (f := 35) rfl ?_); refine goesL_ (some 16) rfl rfl Tryd.func35 (by kernel_rfl) rfl #[.string a1, .int .i64 a2_0] rfl (by (try simp only [List.map_toArray, List.map_cons, List.map_nil]); first | done | rfl | (simp only [List.length_drop, List.length_take]; rfl)) ?_; (with_reducible refine (place_Spot.calls k a1 a2_0 t306 t307 t308 t309 _ A4.out).mono ?_); rintro e w63 ⟨rfl, hb⟩; refine ⟨_, rfl, ?_⟩; have n0_ := Aside0.mk (blk_below (g := gb305) (o := .cells #[.int .i64 a2_0, .int .i64 a2_1] 34 (0, 0)) (by (with_reducible repeat (first | refine blk_drewN ?_ _ | refine blk_drew ?_ | refine blk_alloc ?_ _)); exact BK305.out) hb); have n1_ := Aside0.mk (below_step (by repeat (first | (with_reducible first | exact HB.out | apply below_alloc | apply pw_below_drewN | apply below_drew1 | refine below_set ?_ GE305.out) | exact HB.out)) hb); clear BK305; clear HB; have BK305 := n0_; have HB := n1_; clear n0_ n1_; (try clear hb); (try clear hb2); (try clear hk); (try clear hi)) | ((with_reducible refine gate_dst (N := 8) rfl ?_); refine box_event ?hg (N := 8) ?hd (cs := #[.int .i64 0, .int .i64 0, .int .i64 0]) (t := 63) ?hr ?_; (case hd => rfl); (case hg => rfl); (case hr => first | (go_simp; done) | (go_simp; rfl)); intro gb310 hg w64 hbox hb; have n0_ := Aside0.mk (blk_below (g := gb305) (o := .cells #[.int .i64 a2_0, .int .i64 a2_1] 34 (0, 0)) (by (with_reducible repeat (first | refine blk_drewN ?_ _ | refine blk_drew ?_ | refine blk_alloc ?_ _)); exact BK305.out) hb); have n1_ := Aside0.mk (below_step (by repeat (first | (with_reducible first | exact HB.out | apply below_alloc | apply pw_below_drewN | apply below_drew1 | refine below_set ?_ GE305.out) | exact HB.out)) hb); have n2_ := Aside0.mk (hbox); have n3_ := Aside0.mk ((by rw [hg]; exact (below_size (by repeat (first | (with_reducible first | exact HB.out | apply below_alloc | apply pw_below_drewN | apply below_drew1 | refine below_set ?_ GE305.out) | exact HB.out))) : w.heap.size ≤ gb310)); have n4_ := Aside0.mk ((by rw [hg]; exact (below_size (by repeat (first | (with_reducible first | exact HB.out | apply below_alloc | apply pw_below_drewN | apply below_drew1 | refine below_set ?_ GE305.out) | exact HB.out))) : w.heap.size ≤ gb310)); have n5_ := Aside0.mk ((by rw [hg]; exact Nat.ne_of_lt (blk_lt (g := gb305) (o := .cells #[.int .i64 a2_0, .int .i64 a2_1] 34 (0, 0)) (by (with_reducible repeat (first | refine blk_drewN ?_ _ | refine blk_drew ?_ | refine blk_alloc ?_ _)); exact BK305.out)) : gb305 ≠ gb310)); have n6_ := Aside0.mk ((by rw [hg]; exact Nat.ne_of_gt (blk_lt (g := gb305) (o := .cells #[.int .i64 a2_0, .int .i64 a2_1] 34 (0, 0)) (by (with_reducible repeat (first | refine blk_drewN ?_ _ | refine blk_drew ?_ | refine blk_alloc ?_ _)); exact BK305.out)) : gb310 ≠ gb305)); clear BK305; clear HB; have BK305 := n0_; have HB := n1_; have BK310 := n2_; have GW310 := n3_; have GE310 := n4_; have NB305_310 := n5_; have NB310_305 := n6_; clear n0_ n1_ n2_ n3_ n4_ n5_ n6_; clear hb hbox hg; have hnb65 := NB310_305.out; have hnc65 := NB305_310.out; have hcz66_0 : w64.cell? ⟨gb310, 0, none⟩ = some (.int .i64 0) := (blk_cell BK310.out 0).trans rfl; have hcz66_1 : w64.cell? ⟨gb310, 1, none⟩ = some (.int .i64 0) := (blk_cell BK310.out 1).trans rfl; have hcz66_2 : w64.cell? ⟨gb310, 2, none⟩ = some (.int .i64 0) := (blk_cell BK310.out 2).trans rfl; have hfz66_0 := blk_frozen BK310.out 0; have hfz66_1 := blk_frozen BK310.out 1; have hfz66_2 := blk_frozen BK310.out 2))
    go_ret2
    exact ⟨by first | rfl | (simp [errW_none, errW_some] <;> rfl) | (simp [*, errW_none, errW_some] <;> rfl), by repeat (first | (with_reducible first | exact HB.out | apply below_alloc | apply pw_below_drewN | apply below_drew1 | refine below_set ?_ GE305.out | refine below_set ?_ GE310.out) | exact HB.out)⟩


end Go.Proofs.YtloflodbcdlmpaaDoor.Qall
