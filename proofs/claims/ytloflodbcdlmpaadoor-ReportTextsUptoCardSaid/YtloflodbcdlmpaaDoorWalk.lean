/- forest.Walk: the iterator's value: it has captured the levels of a forest, nothing else. Conditions: a list of at most 2^21 nodes. -/
import Derived.RangeFuncNested
import Derived.RangeFuncBound
import Derived.RangeFuncCalls
import Derived.RangeFuncLeaves
import Derived.Shelf.Abstract
import Derived.Shelf.RegionOpen
import Derived.WalkKit
import Derived.OwnWalkIn
import Derived.TacticsInMore
import Derived.LoopNIn
import Derived.LoopIn
import Derived.Lib.OthersKept
import Derived.Test.YtloflodbcdlmpaaDoorForX
namespace Go.Proofs.YtloflodbcdlmpaaDoor.Fo
open Go.RowKit Go.Shelf Go.Proofs.YtloflodbcdlmpaaDoor.Qall Go.Proofs.YtloflodbcdlmpaaDoorW.PrintWords Go.Proofs.YtloflodbcdlmpaaDoorW.PrintLast Go.Proofs.YtloflodbcdlmpaaDoorW.PrintMore
set_option linter.unusedSimpArgs false
set_option linter.unusedVariables false
attribute [local go_sem] Oper.semAt_some
theorem bx {n B : Nat} {w W : World} {t : TypeId} {v : Value} (hB : Below n w W) (h : Boxed w B t v) (hlt : B < n) : Boxed W B t v := (hB.block _ hlt).trans h
def walkAns (f : List S60) : List Int := match mach [] (K f) with
  | none => []
  | some ls => toI ls
set_option maxRecDepth 100000 in
set_option maxHeartbeats 4000000 in
theorem fwalk_calls (l : List S60) (hn : l.length ≤ 2097152) (A : Option Addr) (c0 : Nat) (w : World) (hC : Kd.C k60 w A l.length l) (hc0 : l.length ≤ c0) :
    Calls Tryd.prog 60 #[.slice A l.length c0] w fun e w' => ∃ B v, e = .returned (.func (.func 89) #[] #[.pointer (some ⟨B, 0, none⟩)]) ∧ w.heap.size ≤ B ∧ Boxed w' B 78 v ∧ Kd.R (Kd.int .i64) 3 w' w.heap.size (fun k => k ≠ B) v (walkAns l) ∧ Below w.heap.size w w' := by
  obtain ⟨K1, h1⟩ : ∃ K1, ∀ k, K1 ≤ k → forest_ends.f k l = some (absZ (-1) (ex (K l)) 0) := ends_ev l hn
  obtain ⟨K2, h2⟩ : ∃ K2, ∀ k, K2 ≤ k → forest_roots.f k (absZ (-1) (ex (K l)) 0) = some (match rt l.length (ex (K l)) 0 with | none => ([], false) | some l => (l, true)) := roots_ev l hn
  have hen := h1 K1 (Nat.le_refl _)
  have hro := h2 K2 (Nat.le_refl _)
  have hal : (absZ (-1) (ex (K l)) 0).length = l.length := by rw [absZ_length, ex_length, K_length]
  have hrm := rt_mach l
  clear h1 h2
  cases hm : mach [] (K l) with
  | none =>
    have hw : walkAns l = [] := by unfold walkAns; rw [hm]
    rw [hm] at hrm
    cases hr : rt l.length (ex (K l)) 0 with
    | some _ => rw [hr] at hrm; cases hrm
    | none =>
      rw [hr] at hro
      dsimp only at hro
      rw [hw]
      go_enter Tryd.func60, Tryd.ntmps60
      go_wp2_with (first | (go_at_call 48; refine (forest_ends.calls K1 A c0 l _ w hC hc0 hen).mono ?_; rintro e w1 ⟨v0, rfl, hR, hb⟩; obtain ⟨Ae, ce, rfl⟩ := Kd.R_slice hR; have hE := (Kd.R_reads' hR).2) | (go_at_call 49; have hq := forest_roots.calls K2 Ae ce (absZ (-1) (ex (K l)) 0) [] false (w1.alloc (.cells #[.slice none 0 0] 78)) (Kd.C_alloc hE.2 _) hE.1 hro; rw [hal] at hq; refine hq.mono ?_; rintro e w2 ⟨v1, rfl, hR1, hb1⟩; obtain ⟨A1, ce1, rfl⟩ := Kd.R_slice hR1; have bB := bx hb1 (Boxed.new w1 78 (.slice none 0 0)) (by simp); have b2 := (hb.alloc hb.size (.cells #[.slice none 0 0] 78)).trans (hb1.mono (Nat.le_trans hb.size (by simp)))))
      go_ret
      exact ⟨w1.heap.size, _, rfl, hb.size, bB, Kd.R_nil _ _ _ _ _, b2⟩
  | some ls =>
    have hw : walkAns l = toI ls := by unfold walkAns; rw [hm]
    obtain ⟨K3, h3⟩ : ∃ K3, ∀ k, K3 ≤ k → forest_levels.f k l (absZ (-1) (ex (K l)) 0) = some (toI ls) := flev_ev l hn ls hm
    have hlev := h3 K3 (Nat.le_refl _)
    clear h3
    rw [hm] at hrm
    cases hr : rt l.length (ex (K l)) 0 with
    | none => rw [hr] at hrm; cases hrm
    | some rs =>
      rw [hr] at hro
      dsimp only at hro
      rw [hw]
      clear hw hr hrm hm
      go_enter Tryd.func60, Tryd.ntmps60
      go_wp2_with (first | (go_at_call 48; refine (forest_ends.calls K1 A c0 l _ w hC hc0 hen).mono ?_; rintro e w1 ⟨v0, rfl, hR, hb⟩; obtain ⟨Ae, ce, rfl⟩ := Kd.R_slice hR; have hE := (Kd.R_reads' hR).2) | (go_at_call 49; have hq := forest_roots.calls K2 Ae ce (absZ (-1) (ex (K l)) 0) rs true (w1.alloc (.cells #[.slice none 0 0] 78)) (Kd.C_alloc hE.2 _) hE.1 hro; rw [hal] at hq; refine hq.mono ?_; rintro e w2 ⟨v1, rfl, hR1, hb1⟩; obtain ⟨A1, ce1, rfl⟩ := Kd.R_slice hR1; have bB := bx hb1 (Boxed.new w1 78 (.slice none 0 0)) (by simp); have b2 := (hb.alloc hb.size (.cells #[.slice none 0 0] 78)).trans (hb1.mono (Nat.le_trans hb.size (by simp)))) | (go_at_call 88; have hq2 := forest_levels.calls K3 A c0 l Ae ce (absZ (-1) (ex (K l)) 0) (toI ls) w2 (Kd.C_below hC b2) hc0 (Kd.C_below (Kd.C_alloc hE.2 (.cells #[.slice none 0 0] 78)) hb1) hE.1 hlev; rw [hal] at hq2; refine hq2.mono ?_; rintro e w3 ⟨v2, rfl, hR2, hb2⟩; obtain ⟨A2, ce2, rfl⟩ := Kd.R_slice hR2; have bB3 := bx hb2 bB bB.lt; have dB3 := bB3.cell; have eB3 := bB3.frozen))
      go_ret
      have hR3 := Kd.R_far (Kd.R_mono (Kd.R_newB hR2 bB) (fun k hk => hk.2)) (p := ⟨w1.heap.size, 0, none⟩) (fun k hk => hk) (.slice A2 (toI ls).length ce2)
      exact ⟨w1.heap.size, _, rfl, hb.size, bB3.set _, Kd.R_lower hR3 b2.size, (b2.trans (hb2.mono b2.size)).setCell (p := ⟨w1.heap.size, 0, none⟩) hb.size _⟩
end Go.Proofs.YtloflodbcdlmpaaDoor.Fo
