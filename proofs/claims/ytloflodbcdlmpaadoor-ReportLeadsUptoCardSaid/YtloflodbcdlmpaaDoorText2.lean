/- forest.Walk: the iterator's value: it has captured the levels of a forest, nothing else. Conditions: a list of at most 2^21 nodes. || A region that draws its order, within a round of a range over a function: what holds of it without a fence holds of it there, if it defers nothing and lets nothing out. || The iterator that forest.Walk answers, its elements named by their places: what a body keeps may be chosen (Kp), so that it may write a block that lay ahead of the levels. Conditions: at most 2^21 levels. || What forest.Text tells: the plain law. A builder stays one while others' blocks are turned. || The walk of forest.Text: its text and its number. -/
import Derived.RangeFuncNested
import Derived.RangeFuncBound
import Derived.RangeFuncCalls
import Derived.RangeFuncLeaves
import Derived.Shelf.Abstract
import Derived.Shelf.RegionOpen
import Derived.WalkKit
import Derived.OwnWalkIn
import Derived.TacticsInMore
import Derived.LoopNIn
import Derived.LoopIn
import Derived.Lib.OthersKept
import Derived.Test.YtloflodbcdlmpaaDoorFor2
import Derived.OrdersIn
import Derived.OrdersHeld
import Derived.Test.YtloflodbcdlmpaaDoorLend2
import Derived.Test.YtloflodbcdlmpaaDoorShelf
import Derived.Lib.ItoaLen
import Derived.Deep.RegionHeld3
namespace Go.Proofs.YtloflodbcdlmpaaDoor.Fo
open Go.RowKit Go.Shelf Go.Proofs.YtloflodbcdlmpaaDoor.Qall Go.Proofs.YtloflodbcdlmpaaDoorW.PrintWords Go.Proofs.YtloflodbcdlmpaaDoorW.PrintLast Go.Proofs.YtloflodbcdlmpaaDoorW.PrintMore
set_option linter.unusedSimpArgs false
set_option linter.unusedVariables false
attribute [local go_sem] Oper.semAt_some
theorem bx {n B : Nat} {w W : World} {t : TypeId} {v : Value} (hB : Below n w W) (h : Boxed w B t v) (hlt : B < n) : Boxed W B t v := (hB.block _ hlt).trans h
def walkAns (f : List S60) : List Int := match mach [] (K f) with
  | none => []
  | some ls => toI ls
set_option maxRecDepth 100000 in
set_option maxHeartbeats 4000000 in
theorem fwalk_calls (l : List S60) (hn : l.length ≤ 2097152) (A : Option Addr) (c0 : Nat) (w : World) (hC : Kd.C k60 w A l.length l) (hc0 : l.length ≤ c0) :
    Calls Tryd.prog 60 #[.slice A l.length c0] w fun e w' => ∃ B v, e = .returned (.func (.func 89) #[] #[.pointer (some ⟨B, 0, none⟩)]) ∧ w.heap.size ≤ B ∧ Boxed w' B 78 v ∧ Kd.R (Kd.int .i64) 3 w' w.heap.size (fun k => k ≠ B) v (walkAns l) ∧ Below w.heap.size w w' := by
  obtain ⟨K1, h1⟩ : ∃ K1, ∀ k, K1 ≤ k → forest_ends.f k l = some (absZ (-1) (ex (K l)) 0) := ends_ev l hn
  obtain ⟨K2, h2⟩ : ∃ K2, ∀ k, K2 ≤ k → forest_roots.f k (absZ (-1) (ex (K l)) 0) = some (match rt l.length (ex (K l)) 0 with | none => ([], false) | some l => (l, true)) := roots_ev l hn
  have hen := h1 K1 (Nat.le_refl _)
  have hro := h2 K2 (Nat.le_refl _)
  have hal : (absZ (-1) (ex (K l)) 0).length = l.length := by rw [absZ_length, ex_length, K_length]
  have hrm := rt_mach l
  clear h1 h2
  cases hm : mach [] (K l) with
  | none =>
    have hw : walkAns l = [] := by unfold walkAns; rw [hm]
    rw [hm] at hrm
    cases hr : rt l.length (ex (K l)) 0 with
    | some _ => rw [hr] at hrm; cases hrm
    | none =>
      rw [hr] at hro
      dsimp only at hro
      rw [hw]
      go_enter Tryd.func60, Tryd.ntmps60
      go_wp2_with (first | (go_at_call 48; refine (forest_ends.calls K1 A c0 l _ w hC hc0 hen).mono ?_; rintro e w1 ⟨v0, rfl, hR, hb⟩; obtain ⟨Ae, ce, rfl⟩ := Kd.R_slice hR; have hE := (Kd.R_reads' hR).2) | (go_at_call 49; have hq := forest_roots.calls K2 Ae ce (absZ (-1) (ex (K l)) 0) [] false (w1.alloc (.cells #[.slice none 0 0] 78)) (Kd.C_alloc hE.2 _) hE.1 hro; rw [hal] at hq; refine hq.mono ?_; rintro e w2 ⟨v1, rfl, hR1, hb1⟩; obtain ⟨A1, ce1, rfl⟩ := Kd.R_slice hR1; have bB := bx hb1 (Boxed.new w1 78 (.slice none 0 0)) (by simp); have b2 := (hb.alloc hb.size (.cells #[.slice none 0 0] 78)).trans (hb1.mono (Nat.le_trans hb.size (by simp)))))
      go_ret
      exact ⟨w1.heap.size, _, rfl, hb.size, bB, Kd.R_nil _ _ _ _ _, b2⟩
  | some ls =>
    have hw : walkAns l = toI ls := by unfold walkAns; rw [hm]
    obtain ⟨K3, h3⟩ : ∃ K3, ∀ k, K3 ≤ k → forest_levels.f k l (absZ (-1) (ex (K l)) 0) = some (toI ls) := flev_ev l hn ls hm
    have hlev := h3 K3 (Nat.le_refl _)
    clear h3
    rw [hm] at hrm
    cases hr : rt l.length (ex (K l)) 0 with
    | none => rw [hr] at hrm; cases hrm
    | some rs =>
      rw [hr] at hro
      dsimp only at hro
      rw [hw]
      clear hw hr hrm hm
      go_enter Tryd.func60, Tryd.ntmps60
      go_wp2_with (first | (go_at_call 48; refine (forest_ends.calls K1 A c0 l _ w hC hc0 hen).mono ?_; rintro e w1 ⟨v0, rfl, hR, hb⟩; obtain ⟨Ae, ce, rfl⟩ := Kd.R_slice hR; have hE := (Kd.R_reads' hR).2) | (go_at_call 49; have hq := forest_roots.calls K2 Ae ce (absZ (-1) (ex (K l)) 0) rs true (w1.alloc (.cells #[.slice none 0 0] 78)) (Kd.C_alloc hE.2 _) hE.1 hro; rw [hal] at hq; refine hq.mono ?_; rintro e w2 ⟨v1, rfl, hR1, hb1⟩; obtain ⟨A1, ce1, rfl⟩ := Kd.R_slice hR1; have bB := bx hb1 (Boxed.new w1 78 (.slice none 0 0)) (by simp); have b2 := (hb.alloc hb.size (.cells #[.slice none 0 0] 78)).trans (hb1.mono (Nat.le_trans hb.size (by simp)))) | (go_at_call 88; have hq2 := forest_levels.calls K3 A c0 l Ae ce (absZ (-1) (ex (K l)) 0) (toI ls) w2 (Kd.C_below hC b2) hc0 (Kd.C_below (Kd.C_alloc hE.2 (.cells #[.slice none 0 0] 78)) hb1) hE.1 hlev; rw [hal] at hq2; refine hq2.mono ?_; rintro e w3 ⟨v2, rfl, hR2, hb2⟩; obtain ⟨A2, ce2, rfl⟩ := Kd.R_slice hR2; have bB3 := bx hb2 bB bB.lt; have dB3 := bB3.cell; have eB3 := bB3.frozen))
      go_ret
      have hR3 := Kd.R_far (Kd.R_mono (Kd.R_newB hR2 bB) (fun k hk => hk.2)) (p := ⟨w1.heap.size, 0, none⟩) (fun k hk => hk) (.slice A2 (toI ls).length ce2)
      exact ⟨w1.heap.size, _, rfl, hb.size, bB3.set _, Kd.R_lower hR3 b2.size, (b2.trans (hb2.mono b2.size)).setCell (p := ⟨w1.heap.size, 0, none⟩) hb.size _⟩
end Go.Proofs.YtloflodbcdlmpaaDoor.Fo
namespace Go.Proofs.YtloflodbcdlmpaaDoor.RegR
open Go
theorem rowsR {n r : Nat} {P : Program} {row : String} {args : Array Value} {w : World} {R : Value → World → Prop} (h : Rows P row args w R) : RowsIn (Fence.wide.inRound r) n P row args w R :=
  fun c cs _ => let ⟨v, w', hr, s⟩ := h c cs; ⟨v, w', hr, stepsIn_wide.2 s⟩
theorem operR {n r : Nat} {P : Program} {o : Oper} {a : Act} {w : World} {K K' : Act → World → Prop} {Q : Exit → Act → World → Prop} (hd : ∀ c, o.op ≠ .defer c)
    (hK : ∀ a w, K a w → K' a w) (h : o.wp P a w K Q) : o.wpIn (Fence.wide.inRound r) n P a w K' Q := by
  unfold Oper.wpIn
  refine ⟨fun _ _ => trivial, ?_⟩
  rw [Oper.semAt_eq _ _ _ hd]
  unfold Oper.wp at h
  generalize (execOp a.eval o).run P w = x at *
  cases x with
  | ok x w' =>
    cases x <;> simp only [Oper.upon, Oper.uponIn] at h ⊢
    case value v => exact hK _ _ h
    case skip => exact hK _ _ h
    case defer d => exact hK _ _ h
    case enter f args =>
      refine ⟨fun e => (by cases e), (CallsIn.inRound r (callsIn_wide.2 h)).mono fun e w'' he => ?_⟩
      cases e with
      | returned u => exact hK _ _ he
      | panicked c => exact he
      | outgrown => exact he
    case row row args => exact ⟨fun e => (by cases e), (rowsR h).mono fun u w'' he => hK _ _ he⟩
  | halt x w' => cases x <;> simp only [Oper.upon, Oper.uponIn] at h ⊢ <;> exact h
theorem anyR {n r : Nat} {P : Program} {md : Region.Mode} {ops : Array Oper} {Q : Exit → Act → World → Prop} (hd : ∀ (j : Nat) (o : Oper) c, ops[j]? = some o → o.op ≠ .defer c) (hl : ¬ LetsOut Q) :
    ∀ (fuel : Nat) (listed : Array Bool) (a : Act) (w : World), wpAny P md ops Q fuel listed a w → wpAnyIn (Fence.wide.inRound r) n P md ops Q fuel listed a w
  | 0, _, _, _, h => h
  | fuel + 1, listed, a, w, h => ⟨h.1, fun i hi => by
    have h1 := h.2 i hi
    unfold wpOpIn
    unfold wpOp at h1
    split
    · rename_i ho
      rw [ho] at h1
      exact anyR hd hl fuel _ _ _ h1
    · rename_i o ho
      rw [ho] at h1
      dsimp only at h1
      split
      · rename_i hw
        rw [if_pos hw] at h1
        rcases h1 with h1 | ⟨_, h1⟩
        · exact operR (hd i o · ho) (fun a w hh => anyR hd hl fuel _ a w hh) h1
        · exact absurd h1 hl
      · rename_i hw
        rw [if_neg hw] at h1
        exact ⟨fun _ _ => trivial, anyR hd hl fuel _ _ _ h1⟩⟩
def noDefer (ops : Array Oper) : Bool := ops.all fun o => match o.op with | .defer _ => false | _ => true
theorem noDefer_spec {ops : Array Oper} (h : noDefer ops = true) (j : Nat) (o : Oper) (c : Call) (ho : ops[j]? = some o) (hc : o.op = .defer c) : False := by
  obtain ⟨hj, rfl⟩ := Array.getElem?_eq_some_iff.1 ho
  have h1 := (Array.all_eq_true.1 h) j hj
  rw [hc] at h1
  cases h1
/-- The beginning of such a region within a round. -/
theorem regionR {n r : Nat} {P : Program} {id : Nat} {ops : Array Oper} {Q : Exit → Act → World → Prop} {S : World → Prop} {a : Act} {w : World} (hm : P.follows .mixedOrders = true) (hd : noDefer ops = true) (hl : ¬ LetsOut Q)
    (h : wpAnyH P .any ops Q S ops.size (Array.replicate ops.size false) a w.drew) : (Code.region id ops true).wpIn (Fence.wide.inRound r) n P Q a w :=
  wpIn_region_any hm (anyR (fun j o c ho hc => noDefer_spec hd j o c ho hc) hl _ _ _ _ (wpAny_of_held _ _ _ _ h))
end Go.Proofs.YtloflodbcdlmpaaDoor.RegR
namespace Go.Proofs.YtloflodbcdlmpaaDoor.Fo
open Go.RowKit Go.Shelf Go.Proofs.YtloflodbcdlmpaaDoor.Qall Go.Proofs.YtloflodbcdlmpaaDoorW.PrintWords Go.Proofs.YtloflodbcdlmpaaDoorW.PrintLast Go.Proofs.YtloflodbcdlmpaaDoorW.PrintMore
set_option linter.unusedSimpArgs false
set_option linter.unusedVariables false
attribute [local go_sem] Oper.semAt_some
/-- The first k places. -/
def upF (n k : Nat) : List (Fin n) := (List.finRange n).take k
theorem upF_length (n k : Nat) (h : k ≤ n) : (upF n k).length = k := by simp [upF]; omega
theorem upF_succ (n k : Nat) (h : k < n) : upF n (k + 1) = upF n k ++ [⟨k, h⟩] := by
  unfold upF
  rw [List.take_add_one]
  simp [h]
theorem upF_map {α : Type} (n : Nat) (g : Nat → α) : ∀ k, k ≤ n → (upF n k).map (fun i => g i.1) = (List.range k).map g
  | 0, _ => by simp [upF]
  | k + 1, h => by rw [upF_succ n k (by omega), List.map_append, upF_map n g k (by omega), List.range_succ, List.map_append]; rfl
/-- Blocks below n₀ that are neither b nor rows of bytes stay. -/
def KpB (b n₀ : Nat) (W W' : World) : Prop := ∀ (k : Nat) (o : Obj), k < n₀ → W.heap[k]? = some o → k ≠ b → (∀ c fz, o ≠ .cells c 5 fz) → W'.heap[k]? = some o
theorem KpB.refl (b n₀ : Nat) (W : World) : KpB b n₀ W W := fun _ _ _ h _ _ => h
theorem KpB.trans {b n₀ : Nat} {A B C : World} (h : KpB b n₀ A B) (k : KpB b n₀ B C) : KpB b n₀ A C := fun i o hi h1 h2 h3 => k i o hi (h i o hi h1 h2 h3) h2 h3
theorem KpB.put {b n₀ : Nat} (W : World) (l : Nat) (o o' : Obj) (hl : n₀ ≤ l) : KpB b n₀ W (W.putObj l o') := fun i o hi h1 _ _ => by
  rw [World.putObj_heap_other (by omega)]
  exact h1
theorem KpB.of {b n₀ : Nat} {W W' : World} (h : Lib.OthersKept 5 (some b) W W') : KpB b n₀ W W' := fun i o _ h1 h2 h3 => h i o h1 (fun e => h2 (Option.some.inj e)) h3
theorem KpB.below {b n₀ m : Nat} {W W' : World} (h : Below m W W') (hm : n₀ ≤ m) : KpB b n₀ W W' := fun i o hi h1 _ _ => (h.block i (by omega)).trans h1
theorem KpB.mono {b n₀ m : Nat} {W W' : World} (h : KpB b n₀ W W') (hm : m ≤ n₀) : KpB b m W W' := fun i o hi => h i o (by omega)
set_option maxRecDepth 100000 in
set_option maxHeartbeats 4000000 in
theorem walk1_inF (F : Fence) (n : Nat) (hf : F.fn 89) (hro : F.round = none) (hn : 1 ≤ n) (l Bs : Nat) (Kp : World → World → Prop) (hKr : ∀ W, Kp W W) (hKt : ∀ {A B C : World}, Kp A B → Kp B C → Kp A C) (A : Option Addr) (cap : Nat) (zs : List Int) (hz : zs.length ≤ 2097152) (J Jx : List (Fin zs.length) → World → Prop)
    (hY : ∀ pre (x : Fin zs.length) W, J pre W → pre.length < zs.length → YieldAt F (n - 1) Tryd.prog l #[.int .i64 (x.1 : Int), .int .i64 (zs[x.1]?.getD 0)] W fun e W' =>
      (e = .returned (.bool true) ∧ J (pre ++ [x]) W' ∧ Kp W W') ∨ (e = .returned (.bool false) ∧ Jx (pre ++ [x]) W'))
    (W : World) (hBs : W.cell? ⟨Bs, 0, none⟩ = some (.slice A zs.length cap)) (hc : ∀ j, j < zs.length → ∃ ad, A = some ad ∧ ∀ W', Kp W W' → W'.cell? (ad.add j) = some (.int .i64 (zs[j]?.getD 0))) (h0 : J [] W) :
    CallsIn F n Tryd.prog 89 #[.func (.yield l) #[] #[], .pointer (some ⟨Bs, 0, none⟩)] W fun e W' => (∃ v, e = .returned v) ∧
      ((∃ ys, ys = upF zs.length zs.length ∧ J ys W') ∨ (∃ pre, (∃ k, k ≤ zs.length ∧ pre = upF zs.length k) ∧ Jx pre W')) := by
  refine callsIn_of_wp Tryd.func89 rfl hf ?_ hro
  simp only [Tryd.ntmps89, List.size_toArray, List.length_cons, List.length_nil, Nat.reduceAdd, Nat.reduceSub, Array.replicate_succ, Array.replicate_zero, List.push_toArray, List.append_toArray, List.nil_append, List.cons_append]
  gi_wp2
  gi_loopw [7] (fun i wr => ∃ k : Nat, k ≤ zs.length ∧ i = .int .i64 k ∧ J (upF zs.length k) wr ∧ Kp W wr)
    (fun i _ => zs.length - (intOf i).toNat)
  case atStart => exact ⟨0, Nat.zero_le _, rfl, h0, hKr _⟩
  case round =>
    obtain ⟨k, hk, rfl, hJs, hnx⟩ := hrel
    by_cases hlt : k < zs.length
    · obtain ⟨ad, rfl, hcx⟩ := hc k hlt
      have hcs := upF_succ zs.length k hlt
      obtain ⟨fn, tmps, assign, body, hy, hR⟩ := hY _ ⟨k, hlt⟩ wr hJs (by rw [upF_length _ _ hk]; exact hlt)
      dsimp only at hy
      replace hcx := hcx wr hnx
      obtain ⟨z, hz2⟩ : ∃ z, zs[k]?.getD 0 = z := ⟨_, rfl⟩
      rw [hz2] at hcx hy
      have HCS := Aside0.mk hcs
      have HZ2 := Aside0.mk hz2
      clear hcs hz2 hc
      gi_wp2
      refine hR.mono ?_
      rintro e W3 (⟨rfl, hJ3, hk3⟩ | ⟨rfl, hJx3⟩)
      · gi_wp2
        go_roundw
        case rel => exact ⟨k + 1, by omega, by simp, by rw [HCS.out]; exact hJ3, hKt hnx hk3⟩
        case measure => simp [intOf]; omega
      · gi_wp2
        refine bodyPost_ret (results_none rfl _ _ _) rfl ?_
        exact ⟨⟨_, rfl⟩, .inr ⟨_, ⟨k + 1, by omega, HCS.out.symm⟩, hJx3⟩⟩
    · obtain rfl : k = zs.length := by omega
      gi_wp2
      go_end0
      exact ⟨⟨_, rfl⟩, .inl ⟨_, rfl, hJs⟩⟩
/-- b: a block of the caller's that the body writes; n₀: the blocks of which the walk lives lie below it. -/
theorem walk_stopsF (F : Fence) (n : Nat) (hf : F.fn 89) (hro : F.round = none) (hn : 1 ≤ n) (Bs b n₀ : Nat) (A : Option Addr) (cap : Nat) (zs : List Int) (hz : zs.length ≤ 2097152) (w : World) (hn₀ : n₀ ≤ w.heap.size)
    (hBs : Boxed w Bs 78 (.slice A zs.length cap)) (hR : Kd.R (Kd.int .i64) 3 w 0 (fun k => k < n₀ ∧ k ≠ b) (.slice A zs.length cap) zs) :
    SeqStopsK F n Tryd.prog 89 #[.pointer (some ⟨Bs, 0, none⟩)] (fun x : Fin zs.length => #[Value.int .i64 (x.1 : Int), Value.int .i64 (zs[x.1]?.getD 0)]) (KpB b n₀) (fun ys => ys = upF zs.length zs.length)
      (fun pre => ∃ k, k ≤ zs.length ∧ pre = upF zs.length k) zs.length w := fun l J Jx W hW _ _ hY h0 => by
  refine walk1_inF F n hf hro hn l Bs (KpB b n₀) (KpB.refl b n₀) KpB.trans A cap zs hz J Jx hY W ((hW.cell (p := ⟨Bs, 0, none⟩) hBs.lt).trans hBs.cell) (fun j hj => ?_) h0
  have hRW := Kd.R_below hR hW
  have hRW' : ∀ W', KpB b n₀ W W' → Kd.R (Kd.int .i64) 3 W' 0 (fun k => k < n₀ ∧ k ≠ b) (.slice A zs.length cap) zs := fun W' hk => by
    refine Kd.R_mono (Kd.R_move (Kd.R_bound hRW) (fun k hk2 => ?_)) (fun _ h => h.1)
    obtain ⟨⟨h1, h2⟩, _, h3, q, hq, cells, hc⟩ := hk2
    have hq2 : q = 3 := by
      rcases List.mem_cons.1 hq with e | e
      · exact e
      · exact absurd e (by show q ∉ []; simp)
    rw [hc]
    exact hk k _ h1 hc h2 (fun c fz e => by rw [hq2] at e; cases e)
  obtain ⟨ad, rfl, _⟩ := Kd.at_int (Kd.R_reads' (hRW' W (KpB.refl _ _ _))).2.2 (j : Int) (by omega) (by omega)
  refine ⟨ad, rfl, fun W' hk => ?_⟩
  obtain ⟨ad2, e2, hx⟩ := Kd.at_int (Kd.R_reads' (hRW' W' hk)).2.2 (j : Int) (by omega) (by omega)
  cases e2
  rw [Int.toNat_natCast] at hx
  rw [hx]
  unfold rd
  rw [Int.toNat_natCast, List.getD_eq_getElem?_getD]
end Go.Proofs.YtloflodbcdlmpaaDoor.Fo
namespace Go.Proofs.YtloflodbcdlmpaaDoor.Tx
open Go.RowKit Go.Shelf Go.Proofs.YtloflodbcdlmpaaDoor.Qall Go.Proofs.YtloflodbcdlmpaaDoor.Fo Go.Proofs.YtloflodbcdlmpaaDoor.Chk Go.Proofs.YtloflodbcdlmpaaDoorW.PrintWords Go.Proofs.YtloflodbcdlmpaaDoorW.PrintLast Go.Proofs.YtloflodbcdlmpaaDoorW.PrintMore
set_option linter.unusedSimpArgs false
set_option linter.unusedVariables false
/-- A node's line behind its blanks. -/
def lnB (c : S60) : List UInt8 := c.f0.data.toList ++ [32] ++ Lib.itoa c.f1 ++ [32] ++ Lib.itoa c.f2 ++ [10]
/-- A node's line on level z. -/
def ln (c : S60) (z : Int) : List UInt8 := Lib.repeatL [32, 32] z.toNat ++ lnB c
def lnAt (f : List S60) (zs : List Int) (j : Nat) : List UInt8 := ln (rd_T60 f (j : Int)) (zs[j]?.getD 0)
/-- The lines of the nodes at these places. -/
def tx (f : List S60) (zs : List Int) (js : List Nat) : List UInt8 := js.flatMap (lnAt f zs)
theorem tx_snoc (f : List S60) (zs : List Int) (js : List Nat) (j : Nat) : tx f zs (js ++ [j]) = tx f zs js ++ lnAt f zs j := by simp [tx]
def total (f : List S60) (zs : List Int) : List UInt8 := tx f zs (List.range zs.length)
theorem tx_le (f : List S60) (zs : List Int) : ∀ m k, k ≤ m → (tx f zs (List.range k)).length ≤ (tx f zs (List.range m)).length
  | 0, k, h => by
    obtain rfl : k = 0 := by omega
    exact Nat.le_refl _
  | m + 1, k, h => by
    rcases Nat.lt_or_ge m k with h1 | h1
    · obtain rfl : k = m + 1 := by omega
      exact Nat.le_refl _
    · rw [List.range_succ, tx_snoc, List.length_append]
      have := tx_le f zs m k h1
      omega
/-- The answer: a text and a number. -/
def txtAns (f : List S60) : ByteArray × Int :=
  if chkAns f 65536 = 0 then (if (total f (walkAns f)).length ≤ 4194304 then (⟨(total f (walkAns f)).toArray⟩, 0) else (⟨#[]⟩, 2)) else (⟨#[]⟩, chkAns f 65536)
theorem bAtF_kept {T e : TypeId} {B b : Nat} {p : Value} {bs : List Value} {W W' : World} {row : Option Nat} (h : Lib.BuilderAtF T e B b p bs W) (hg : W.grownBy W' row) (hr : ∀ r, row = some r → ∃ o : Obj, W.heap[r]? = some o ∧ o.isCells = false) :
    Lib.BuilderAtF T e B b p bs W' := by
  have hlt := h.lt
  obtain ⟨hB, v, hb, hown, hne⟩ := h
  have hno : ∀ (k : Nat) (cs : Array Value) (t : TypeId) (fz : Nat × Nat), W.heap[k]? = some (.cells cs t fz) → some k ≠ row := fun k cs t fz hk e => by
    obtain ⟨o, ho, hc⟩ := hr k e.symm
    rw [hk] at ho
    cases ho
    cases hc
  refine ⟨hB, v, (hg.block b hlt (hno b _ _ _ hb)).trans hb, hown.kept hg ?_, hne⟩
  rcases hown.2 with ⟨rfl, _⟩ | ⟨g, cap, cur, fz, rfl, _, hg2, _⟩
  · exact .inl rfl
  · exact .inr (hno g _ _ _ hg2)
theorem builder_own (T e : TypeId) (B b : Nat) {β : Type} (g : β → List Value) (B' : Nat) : OwnFrom B' (fun s W => Lib.IsBuilderF T e B b (g s) W) := fun s W W' row hs hg hr =>
  hs.elim (fun x => .inl (bAtF_kept x hg (fun r e => (hr r e).2))) (fun x => .inr (bAtF_kept x hg (fun r e => (hr r e).2)))
/-- A builder's block is cells. -/
theorem builder_blk {T e : TypeId} {B b : Nat} {bs : List Value} {W : World} (h : Lib.IsBuilderF T e B b bs W) : B ≤ b ∧ b < W.heap.size ∧ ∃ cs, W.heap[b]? = some (.cells cs T (0, 0)) := by
  rcases h with h | h <;> exact ⟨h.1, h.lt, _, h.2.choose_spec.1⟩
theorem keeps_of {e T : TypeId} {b : Nat} {cs : Array Value} {fz : Nat × Nat} {W W' : World} (h : Lib.OthersKept e (some b) W W') (hb : W.heap[b]? = some (.cells cs T fz)) (hs : W.heap.size ≤ W'.heap.size) : KeepsOthers W W' :=
  ⟨hs, fun k o hk ho => h k o hk (fun e => by cases e; rw [hb] at hk; cases hk; cases ho) (fun c f2 e => by subst e; cases ho)⟩
theorem keeps_below {W W' : World} (h : Below W.heap.size W W') : KeepsOthers W W' := ⟨h.size, fun k o hk _ => (h.block k (Array.getElem?_eq_some_iff.1 hk).1).trans hk⟩
def mk (D : Nat) : Deferred := { target := .collected D, args := #[] }
/-- Marks with nothing collected are taken, one behind the other. -/
theorem leaves_all {F : Fence} {n : Nat} {P : Program} {fn : Func} {tm : Array Value} {R : Ending → World → Prop} (J : World → Prop) : ∀ (Ds : List Nat) (W : World), (∀ D ∈ Ds, W.heap[D]? = some (.deferred (some []))) → Ds.Nodup → J W →
    (∀ X D, D ∈ Ds → X.heap[D]? = some (.deferred (some [])) → J X → J (X.putObj D (.deferred none))) → (∀ X, J X → ∃ v, (results fn tm).run P X = .ok v X ∧ R (.returned v) X) → LeavesInM F n P fn tm R (Ds.map mk) .returning W
  | [], W, _, _, hJ, _, hE => hE W hJ
  | D :: Ds, W, hD, hN, hJ, hp, hE => by
    have hk := hD D (List.mem_cons_self ..)
    have hN' := List.nodup_cons.1 hN
    refine ⟨by simp, .inl ⟨D, _, rfl, run_takeDeferred hk, ?_⟩⟩
    refine leaves_all J Ds _ (fun E hE' => ?_) hN'.2 (hp W D (List.mem_cons_self ..) hk hJ) (fun X E hE' => hp X E (List.mem_cons_of_mem _ hE')) hE
    rw [World.putObj_heap_other (fun e => hN'.1 (by rw [← e]; exact hE'))]
    exact hD E (List.mem_cons_of_mem _ hE')
/-- Three boxes that were just made, behind a call. -/
theorem boxes3 {w w1 : World} {vA vB vC : Value} {tA tB tC : TypeId} (hb : Below (((w.alloc (.cells #[vA] tA)).alloc (.cells #[vB] tB)).alloc (.cells #[vC] tC)).heap.size (((w.alloc (.cells #[vA] tA)).alloc (.cells #[vB] tB)).alloc (.cells #[vC] tC)) w1) :
    Boxed w1 w.heap.size tA vA ∧ Boxed w1 (w.heap.size + 1) tB vB ∧ Boxed w1 (w.heap.size + 1 + 1) tC vC ∧ Below w.heap.size w w1 ∧ w.heap.size + 3 ≤ w1.heap.size := by
  have s1 : (w.alloc (.cells #[vA] tA)).heap.size = w.heap.size + 1 := World.size_alloc ..
  have s2 : ((w.alloc (.cells #[vA] tA)).alloc (.cells #[vB] tB)).heap.size = w.heap.size + 1 + 1 := by rw [World.size_alloc, s1]
  have s3 : (((w.alloc (.cells #[vA] tA)).alloc (.cells #[vB] tB)).alloc (.cells #[vC] tC)).heap.size = w.heap.size + 1 + 1 + 1 := by rw [World.size_alloc, s2]
  have b1 := ((Boxed.new w tA vA).alloc (.cells #[vB] tB)).alloc (.cells #[vC] tC)
  have b2 := (Boxed.new (w.alloc (.cells #[vA] tA)) tB vB).alloc (.cells #[vC] tC)
  have b3 := Boxed.new ((w.alloc (.cells #[vA] tA)).alloc (.cells #[vB] tB)) tC vC
  rw [s1] at b2
  rw [s2] at b3
  rw [s3] at hb
  refine ⟨bx hb b1 (by omega), bx hb b2 (by omega), bx hb b3 (by omega), ?_, by have := hb.size; omega⟩
  exact ((((Below.refl _ w).alloc (Nat.le_refl _) _).alloc (by omega) _).alloc (by omega) _).trans (hb.mono (by omega))
theorem builder_below {T e : TypeId} {B b : Nat} {bs : List Value} {W W' : World} (h : Lib.IsBuilderF T e B b bs W) (hb : Below W.heap.size W W') : Lib.IsBuilderF T e B b bs W' := by
  have hg : W.grownBy W' none := ⟨hb.os, hb.tape, hb.output, hb.size, fun k hk _ => hb.block k hk⟩
  exact h.elim (fun x => .inl (bAtF_kept x hg (fun r e => by cases e))) (fun x => .inr (bAtF_kept x hg (fun r e => by cases e)))
theorem builder_new (T e : TypeId) (W : World) : Lib.IsBuilderF T e W.heap.size W.heap.size [] (W.alloc (.cells #[.pointer none, .slice none 0 0] T (0, 0))) :=
  .inl ⟨Nat.le_refl _, .slice none 0 0, Free.heap_new W _, World.ownsRowF_nil _ _ _ _, by simp [Value.ownBlock]⟩
theorem pop_len : ∀ st : List Nat, (pop st).length ≤ st.length
  | [] => Nat.le_refl _
  | 0 :: st => Nat.le_trans (pop_len st) (Nat.le_succ _)
  | (a + 1) :: st => Nat.le_refl _
theorem dec_len (st : List Nat) : (dec st).length = st.length := by
  cases st with
  | nil => rfl
  | cons a s => cases a <;> rfl
theorem mach_bound : ∀ (c : List Int) (st ls : List Nat), mach st c = some ls → ∀ x ∈ ls, x ≤ st.length + c.length
  | [], st, ls, h => by
    unfold mach at h
    split at h
    · cases h; intro x hx; cases hx
    · cases h
  | y :: c, st, ls, h => by
    unfold mach at h
    split at h
    · cases h
    · obtain ⟨m, hm, rfl⟩ := Option.map_eq_some_iff.1 h
      have h1 := mach_bound c _ m hm
      have h2 := pop_len st
      intro x hx
      rw [List.length_cons]
      rcases List.mem_cons.1 hx with rfl | hx
      · omega
      · have h3 := h1 x hx
        rw [List.length_cons, dec_len] at h3
        omega
/-- What a right list's walk gives. -/
theorem right_walk (f : List S60) (h : chkAns f 65536 = 0) : f.length ≤ 1048576 ∧ (walkAns f).length = f.length ∧ ∀ j, j < f.length → 0 ≤ (walkAns f)[j]?.getD 0 ∧ (walkAns f)[j]?.getD 0 ≤ f.length := by
  unfold chkAns at h
  rw [if_neg (by omega)] at h
  split at h
  · cases h
  split at h
  · rename_i h1 h2
    unfold rightB at h2
    rw [Bool.and_eq_true] at h2
    obtain ⟨ls, hls⟩ := Option.isSome_iff_exists.1 h2.1
    have hw : walkAns f = toI ls := by unfold walkAns; rw [hls]
    have hl := LawLen.mach_length _ _ _ hls
    rw [K_length] at hl
    have hb := mach_bound _ _ _ hls
    rw [K_length] at hb
    refine ⟨by omega, by rw [hw, toI_length, hl], fun j hj => ?_⟩
    rw [hw]
    unfold toI
    rw [List.getElem?_map]
    have hj2 : j < ls.length := by omega
    rw [List.getElem?_eq_getElem hj2]
    have := hb _ (List.getElem_mem hj2)
    simp at this ⊢
    omega
  · cases h
/-- Four cells, as they are read. -/
def Sr (p0 p1 p2 p3 : Addr) (v0 v1 v2 v3 : Value) (X : World) : Prop := X.cell? p0 = some v0 ∧ X.cell? p1 = some v1 ∧ X.cell? p2 = some v2 ∧ X.cell? p3 = some v3
theorem Sr_stepB {p0 p1 p2 p3 : Addr} {v0 v1 v2 v3 : Value} {X Y : World} {n : Nat} (h : Sr p0 p1 p2 p3 v0 v1 v2 v3 X) (hb : Below n X Y) (h0 : p0.block < n) (h1 : p1.block < n) (h2 : p2.block < n) (h3 : p3.block < n) : Sr p0 p1 p2 p3 v0 v1 v2 v3 Y :=
  ⟨(hb.cell h0).trans h.1, (hb.cell h1).trans h.2.1, (hb.cell h2).trans h.2.2.1, (hb.cell h3).trans h.2.2.2⟩
theorem Sr_step {p0 p1 p2 p3 : Addr} {v0 v1 v2 v3 : Value} {X Y : World} (h : Sr p0 p1 p2 p3 v0 v1 v2 v3 X) (hb : Below X.heap.size X Y) : Sr p0 p1 p2 p3 v0 v1 v2 v3 Y :=
  Sr_stepB h hb (World.block_lt_of_cell? X _ h.1) (World.block_lt_of_cell? X _ h.2.1) (World.block_lt_of_cell? X _ h.2.2.1) (World.block_lt_of_cell? X _ h.2.2.2)
theorem lnB_eq (c : S60) : (c.f0 ++ ⟨#[32]⟩ ++ ⟨(Lib.itoa c.f1).toArray⟩ ++ ⟨#[32]⟩ ++ ⟨(Lib.itoa c.f2).toArray⟩ ++ ⟨#[10]⟩ : ByteArray).data.toList = lnB c := by
  simp [lnB, ByteArray.data_append]
theorem byteCells_append (l r : List UInt8) : Lib.byteCells (l ++ r) = Lib.byteCells l ++ Lib.byteCells r := by simp [Lib.byteCells]
end Go.Proofs.YtloflodbcdlmpaaDoor.Tx
namespace Go.Proofs.YtloflodbcdlmpaaDoor.Tx
open Go.RowKit Go.Shelf Go.Proofs.YtloflodbcdlmpaaDoor.Qall Go.Proofs.YtloflodbcdlmpaaDoor.Fo Go.Proofs.YtloflodbcdlmpaaDoor.Chk Go.Proofs.YtloflodbcdlmpaaDoorW.PrintWords Go.Proofs.YtloflodbcdlmpaaDoorW.PrintLast Go.Proofs.YtloflodbcdlmpaaDoorW.PrintMore
set_option linter.unusedSimpArgs false
set_option linter.unusedVariables false
attribute [local go_sem] Oper.semAt_some
set_option maxRecDepth 100000 in
set_option maxHeartbeats 4000000 in
theorem text_calls (f : List S60) (hn : f.length ≤ 2097152) (M : Nat) (hM : ∀ x ∈ f, x.f0.size ≤ M) (hM2 : M ≤ 1073741824)
    (hw1 : ∀ x ∈ f, -9223372036854775808 ≤ x.f1 ∧ x.f1 ≤ 9223372036854775807) (hw2 : ∀ x ∈ f, -9223372036854775808 ≤ x.f2 ∧ x.f2 ≤ 9223372036854775807)
    (Af : Option Addr) (cf : Nat) (w : World) (hCf : Kd.C k60 w Af f.length f) (hcf : f.length ≤ cf) (htab : Tab w) :
    Calls Tryd.prog 27 #[.slice Af f.length cf] w fun e w' => e = .returned (.tuple #[.string (txtAns f).1, .int .i64 (txtAns f).2]) ∧ Below w.heap.size w w' := by
  refine (callsIn_wide (n := 12)).1 ?_
  refine callsIn_of_wp_marks Tryd.func27 rfl trivial ?_ rfl
  simp only [Tryd.ntmps27, List.size_toArray, List.length_cons, List.length_nil, Nat.reduceAdd, Nat.reduceSub, Array.replicate_succ, Array.replicate_zero, List.push_toArray, List.append_toArray, List.nil_append, List.cons_append]
  have hCf3 := Kd.C_alloc (Kd.C_alloc (Kd.C_alloc hCf (.cells #[.slice Af f.length cf] 22)) (.cells #[.string ⟨#[]⟩] 9)) (.cells #[.int .i64 0] 26)
  have hck := check_calls f hn 65536 M hM hM2 Af cf _ hCf3 hcf
  obtain ⟨ck, hck0⟩ : ∃ ck, chkAns f 65536 = ck := ⟨_, rfl⟩
  rw [hck0] at hck
  have HCK := Aside0.mk hck
  clear hck hCf3
  by_cases hc0 : ck = 0
  · subst hc0
    obtain ⟨hlen, hzl, hzb⟩ := right_walk f hck0
    have hans : txtAns f = if (total f (walkAns f)).length ≤ 4194304 then (⟨(total f (walkAns f)).toArray⟩, 0) else (⟨#[]⟩, 2) := by unfold txtAns; rw [hck0, if_pos rfl]
    rw [hans]
    obtain ⟨zs, hzs⟩ : ∃ zs, walkAns f = zs := ⟨_, rfl⟩
    rw [hzs] at hzl hzb ⊢
    obtain ⟨ta, hta⟩ : ∃ ta, (if (total f zs).length ≤ 4194304 then ((⟨(total f zs).toArray⟩, 0) : ByteArray × Int) else (⟨#[]⟩, 2)) = ta := ⟨_, rfl⟩
    rw [hta]
    have HTA := Aside0.mk hta
    clear hans hck0 hta
    have HZS := Aside0.mk hzs
    have HZB := Aside0.mk hzb
    have HM := Aside0.mk (And.intro hM (And.intro hw1 hw2))
    have HTAB := Aside0.mk htab
    clear hzs hzb hM hw1 hw2 htab
    gi_wp2_with (first | (refine ⟨trivial, ?_⟩; gi_at_call 22; refine (callsIn_wide.2 HCK.out).mono ?_; rintro e w1 ⟨rfl, hb0⟩; obtain ⟨bA, bB, bC, hbW, hs3⟩ := boxes3 hb0; clear hb0; have cA : ∀ o, (w1.alloc o).cell? ⟨w.heap.size, 0, none⟩ = some (.slice Af f.length cf) := fun o => (bA.alloc o).cell) | (refine ⟨trivial, ?_⟩; gi_at_call 60; have hCf1 := Kd.C_alloc (Kd.C_below hCf hbW) (.cells #[.pointer none, .slice none 0 0] 91); refine (callsIn_wide.2 (fwalk_calls f hn Af cf _ hCf1 hcf)).mono ?_; rintro e w2 ⟨fb, v0, rfl, hfb, bF, hR, hb2⟩))
    rw [HZS.out] at hR
    obtain ⟨Aw, cw, rfl⟩ := Kd.R_slice hR
    obtain ⟨b, hbe⟩ : ∃ b, w1.heap.size = b := ⟨_, rfl⟩
    have hsA : (w1.alloc (.cells #[.pointer none, .slice none 0 0] 91)).heap.size = b + 1 := by rw [World.size_alloc, hbe]
    have hbd0 : Lib.IsBuilderF 91 5 b b (Lib.byteCells (tx f zs [])) w2 := by
      have := builder_below (builder_new 91 5 w1) hb2
      rw [hbe] at this
      exact this
    rw [hsA] at hb2 hfb hR
    have hB1 : Below b w1 w2 := ((Below.refl b w1).alloc (by omega) _).trans (hb2.mono (by omega))
    have bA2 := bx hB1 bA (by omega)
    have bB2 := bx hB1 bB (by omega)
    have bC2 := bx hB1 bC (by omega)
    have hbW2 : Below w.heap.size w w2 := hbW.trans (hB1.mono (by omega))
    have hsz2 : b + 1 ≤ w2.heap.size := by have := hb2.size; rw [hsA] at this; exact this
    have hRw : Kd.R (Kd.int .i64) 3 w2 0 (fun k => k < w2.heap.size ∧ k ≠ b) (.slice Aw zs.length cw) zs := Kd.R_lower (Kd.R_mono (Kd.R_bound hR) (fun k hk => ⟨hk.2.2.1, by have := hk.2.1; omega⟩)) (Nat.zero_le _)
    rw [hbe]
    clear hCf1 HCK cA bA bB bC hbW hR hb2 hfb
    refine wpIn_rangeFunc_ownH rfl (by omega) (gf := 89) (lb := #[.pointer (some ⟨fb, 0, none⟩)]) rfl trivial (enters_of Tryd.func89 (by kernel_rfl) rfl)
      (walk_stopsF Fence.wide _ trivial rfl (by omega) fb b w2.heap.size Aw cw zs (by omega) w2 (Nat.le_refl _) bF hRw) KpB.trans (fun W l o o' hl _ _ _ => KpB.put W l o o' hl) (Below.refl _ _) (fun _ => rfl)
      (fun (pre : List (Fin zs.length)) W => Lib.IsBuilderF 91 5 b b (Lib.byteCells (tx f zs (pre.map (·.1)))) W ∧ Below b w2 W ∧ (tx f zs (pre.map (·.1))).length ≤ 4194304 + M + 64)
      (fun c pre W => Boxed W (w.heap.size + 1) 9 (.string ⟨#[]⟩) ∧ Boxed W (w.heap.size + 1 + 1) 26 (.int .i64 2) ∧ Below w.heap.size w W ∧ (c = .ret ∧ 4194304 < (tx f zs (pre.map (·.1))).length))
      (fun pre X Y row hs hg hr => ⟨builder_own 91 5 b b (fun pre : List (Fin zs.length) => Lib.byteCells (tx f zs (pre.map (·.1)))) _ pre X Y row hs.1 hg hr, (ownFrom_below (β := List (Fin zs.length)) (by omega) (by omega)) pre X Y row hs.2.1 hg hr, hs.2.2⟩)
      (fun c pre X Y row hs hg hr => ⟨(Own.from (boxed_own _ _ (fun _ => _)) _) pre X Y row hs.1 hg hr, (Own.from (boxed_own _ _ (fun _ => _)) _) pre X Y row hs.2.1 hg hr, (ownFrom_below (β := List (Fin zs.length)) (Nat.le_refl _) (by omega)) pre X Y row hs.2.2.1 hg hr, hs.2.2.2⟩)
      ⟨hbd0, Below.refl _ _, Nat.zero_le _⟩
      (fun x a' _ => a' = { tmps := #[.slice Af f.length cf, .pointer (some ⟨w.heap.size, 0, none⟩), .pointer (some ⟨w.heap.size + 1, 0, none⟩), .pointer (some ⟨w.heap.size + 1 + 1, 0, none⟩), .int .i64 0, .pointer (some ⟨b, 0, none⟩), .int .i64 (x.1 : Int), .int .i64 (zs[x.1]?.getD 0), .slice Af f.length cf, .int .i64 0, .int .i64 0, .bool false, undef, .slice Af f.length cf, .func (.func 89) #[] #[.pointer (some ⟨fb, 0, none⟩)], .int .i64 (x.1 : Int), .int .i64 (zs[x.1]?.getD 0), undef, undef, undef, undef, undef, undef, undef, undef, undef, undef, undef, undef, undef, undef, undef, undef, undef, undef, undef, undef, undef, undef, undef, undef, undef, undef, undef, undef, undef, undef, undef, undef, undef, undef], defers := [] }) (fun x a' => ownFrom_pure _ _) ?assign ?body ?done ?stop
    case assign =>
      intro l pre x W' K hI hK
      gi_wp2
      exact hK _ _ (KeepsFrom.refl _ _) (KpB.refl _ _ _) hI rfl
    case body =>
      rintro l pre ⟨p, hpl⟩ a' W hl ⟨r, hr⟩ ⟨hbd, hB, hac⟩ rfl hlt
      dsimp only at *
      obtain ⟨z, hz⟩ : ∃ z, zs[p]?.getD 0 = z := ⟨_, rfl⟩
      have hzb : 0 ≤ z ∧ z ≤ f.length := by rw [← hz]; exact HZB.out p (by omega)
      obtain ⟨c, hc⟩ : ∃ c, rd_T60 f (p : Int) = c := ⟨_, rfl⟩
      have hcm : c ∈ f := by
        rw [← hc]
        unfold rd_T60
        rw [Int.toNat_natCast, List.getD_eq_getElem?_getD, List.getElem?_eq_getElem (by omega)]
        exact List.getElem_mem _
      have hcM := HM.out.1 c hcm
      have hc1 := HM.out.2.1 c hcm
      have hc2 := HM.out.2.2 c hcm
      have hnx : tx f zs ((pre ++ [(⟨p, hpl⟩ : Fin zs.length)]).map (·.1)) = tx f zs (pre.map (·.1)) ++ (Lib.repeatL [32, 32] z.toNat ++ lnB c) := by
        rw [List.map_append, List.map_cons, List.map_nil, tx_snoc]
        unfold lnAt ln
        rw [hz, hc]
      obtain ⟨ac, hace⟩ : ∃ ac, tx f zs (pre.map (·.1)) = ac := ⟨_, rfl⟩
      rw [hace] at hbd hac hnx
      have HNX := Aside0.mk hnx
      clear hnx
      have hBl := Tryd.Builder_Len_f b b (Lib.byteCells ac) W hbd
      rw [Lib.byteCells_length] at hBl
      obtain ⟨m, hm⟩ : ∃ m, ac.length = m := ⟨_, rfl⟩
      rw [hm] at hBl hac
      rw [hz]
      have HBL := Aside0.mk hBl
      clear hBl
      by_cases hbig : 4194304 < (m : Int) + 2 * z
      · have kB := bx hB bB2 (by omega)
        have kC := bx hB bC2 (by omega)
        have dB := kB.cell
        have eB := kB.frozen
        have dC := (kC.other (B' := w.heap.size + 1) (by omega) (.string ⟨#[]⟩)).cell
        have eC := (kC.other (B' := w.heap.size + 1) (by omega) (.string ⟨#[]⟩)).frozen
        gi_wp2_with (refine ⟨trivial, ?_⟩; gi_at_call 61; refine (CallsIn.inRound l (callsIn_wide.2 HBL.out)).mono ?_; rintro e w3 ⟨rfl, rfl⟩)
        refine ⟨((KeepsOthers.setCell _ _ _).trans (KeepsOthers.setCell _ _ _)).from _, (kB.set _).other (by omega) _, (kC.other (by omega) _).set _, ((hbW2.trans (hB.mono (by omega))).setCell (p := ⟨w.heap.size + 1, 0, none⟩) (by show w.heap.size ≤ w.heap.size + 1; omega) _).setCell (p := ⟨w.heap.size + 1 + 1, 0, none⟩) (by show w.heap.size ≤ w.heap.size + 1 + 1; omega) _, rfl, ?_⟩
        rw [HNX.out, List.length_append, List.length_append, Lib.repeatL_length, hm]
        show 4194304 < m + (z.toNat * 2 + (lnB c).length)
        omega
      · obtain ⟨q, rfl⟩ : ∃ q : Nat, z = (q : Int) := ⟨z.toNat, by omega⟩
        have hRp := Tryd.strings_Repeat ⟨#[32, 32]⟩ q W (by omega) (by show 2 * q ≤ 140737488355328; omega)
        obtain ⟨rp, hrp⟩ : ∃ rp, Lib.repeatL [32, 32] q = rp := ⟨_, rfl⟩
        have hrpl : rp.length = q * 2 := by rw [← hrp, Lib.repeatL_length]; rfl
        have hRp2 : Calls Tryd.prog 58 #[.string ⟨#[32, 32]⟩, .int .i64 (q : Int)] W fun e w' => e = .returned (.string ⟨rp.toArray⟩) ∧ Below W.heap.size W w' := by rw [← hrp]; exact hRp
        have HRP := Aside0.mk hRp2
        clear hRp hRp2
        gi_wp2_with (first | (refine ⟨trivial, ?_⟩; gi_at_call 61; refine (CallsIn.inRound l (callsIn_wide.2 HBL.out)).mono ?_; rintro e w3 ⟨rfl, rfl⟩) | (refine ⟨trivial, ?_⟩; gi_at_call 58; refine (CallsIn.inRound l (callsIn_wide.2 HRP.out)).mono ?_; rintro e w4 ⟨rfl, hb4⟩) | (refine ⟨trivial, ?_⟩; gi_at_call 55; have hbd4 := builder_below hbd hb4; have hWr := Tryd.Builder_WriteString_k b b (Lib.byteCells ac) ⟨rp.toArray⟩ w4 hbd4 (by rw [Lib.byteCells_length, hm]; show m + rp.toArray.size ≤ 140737488355328; rw [List.size_toArray, hrpl]; omega) (by have := hb4.size; have := hB.size; omega); refine (CallsIn.inRound l (callsIn_wide.2 hWr)).mono ?_; rintro e w5 ⟨rfl, hbd5, hb5, hk5⟩))
        have hs4 := hb4.size
        have hsW := hB.size
        have hB5 : Below b w2 w5 := (hB.trans (hb4.mono (by omega))).trans hb5
        have hbW5 : Below w.heap.size w w5 := hbW2.trans (hB5.mono (by omega))
        have kA5 := (bx hB5 bA2 (by omega)).cell
        have htab5 : Tab w5 := Tab.step HTAB.out hbW5
        have hs5 := hb5.size
        obtain ⟨ad, rfl, y0, y1, y2, _⟩ := at_T60 hCf (p : Int) (by omega) (by omega)
        rw [hc] at y0 y1 y2
        rw [Int.toNat_natCast] at y0 y1 y2
        have hadw := World.block_lt_of_cell? w _ y0
        have hadl : (ad.add (p * 4)).block < b := by omega
        have x0 := (hbW5.cell hadw).trans y0
        have x1 := (hbW5.cell (p := ⟨(ad.add (p * 4)).block, (ad.add (p * 4)).off + 1, none⟩) hadw).trans y1
        have x2 := (hbW5.cell (p := ⟨(ad.add (p * 4)).block, (ad.add (p * 4)).off + 2, none⟩) hadw).trans y2
        clear y0 y1 y2
        have hpf : (p : Int) < (f.length : Int) := by omega
        have hp0 : (0 : Int) ≤ (p : Int) := by omega
        obtain ⟨i1, hi1⟩ : ∃ i1, (⟨(Lib.itoa c.f1).toArray⟩ : ByteArray) = i1 := ⟨_, rfl⟩
        obtain ⟨i2, hi2⟩ : ∃ i2, (⟨(Lib.itoa c.f2).toArray⟩ : ByteArray) = i2 := ⟨_, rfl⟩
        have hl1 : i1.size ≤ 21 := by rw [← hi1]; show (Lib.itoa c.f1).toArray.size ≤ 21; rw [List.size_toArray]; exact Lib.itoa_length_le _ hc1.1 hc1.2
        have hl2 : i2.size ≤ 21 := by rw [← hi2]; show (Lib.itoa c.f2).toArray.size ≤ 21; rw [List.size_toArray]; exact Lib.itoa_length_le _ hc2.1 hc2.2
        have hz1 : ¬ 9223372036854775807 < c.f0.size + 1 := by omega
        have hz2 : ¬ 9223372036854775807 < c.f0.size + 1 + i1.size := by omega
        have hz3 : ¬ 9223372036854775807 < c.f0.size + 1 + i1.size + 1 := by omega
        have hz4 : ¬ 9223372036854775807 < c.f0.size + 1 + i1.size + 1 + i2.size := by omega
        have hz5 : ¬ 9223372036854775807 < c.f0.size + 1 + i1.size + 1 + i2.size + 1 := by omega
        clear hWr HRP HBL
        refine RegR.regionR (S := Sr (⟨w.heap.size, 0, none⟩) (ad.add (p * 4)) (⟨(ad.add (p * 4)).block, (ad.add (p * 4)).off + 1, none⟩) (⟨(ad.add (p * 4)).block, (ad.add (p * 4)).off + 2, none⟩) (.slice (some ad) f.length cf) (.string c.f0) (.int .i64 c.f1) (.int .i64 c.f2)) (by kernel_rfl) (by kernel_rfl) (fun ⟨_, _, h⟩ => h) ?_
        have hS0 : Sr (⟨w.heap.size, 0, none⟩) (ad.add (p * 4)) (⟨(ad.add (p * 4)).block, (ad.add (p * 4)).off + 1, none⟩) (⟨(ad.add (p * 4)).block, (ad.add (p * 4)).off + 2, none⟩) (.slice (some ad) f.length cf) (.string c.f0) (.int .i64 c.f1) (.int .i64 c.f2) w5.drew := ⟨kA5, x0, x1, x2⟩
        refine wpAnyH_take (i := 0) (v := ?vv0) rfl (by kernel_rfl) (by kernel_rfl) (by kernel_rfl) (fun _ _ _ h => h) (Or.inl ⟨by rfl, ?hy0⟩) (by assumption) ?rs0
        case hy0 => intro W' hS'; obtain ⟨h1, h2, h3, h4⟩ := hS'; go_simp; all_goals (with_reducible rfl)
        simp only [Act.put, List.setIfInBounds_toArray, List.set_cons_zero, List.set_cons_succ]
        refine wpAnyH_take (i := 1) (v := ?vv1) rfl (by kernel_rfl) (by kernel_rfl) (by kernel_rfl) (fun _ _ _ h => h) (Or.inl ⟨by rfl, ?hy1⟩) (by assumption) ?rs1
        case hy1 => intro W' hS'; obtain ⟨h1, h2, h3, h4⟩ := hS'; go_simp; all_goals (with_reducible rfl)
        simp only [Act.put, List.setIfInBounds_toArray, List.set_cons_zero, List.set_cons_succ]
        refine wpAnyH_take (i := 2) (v := ?vv2) rfl (by kernel_rfl) (by kernel_rfl) (by kernel_rfl) (fun _ _ _ h => h) (Or.inl ⟨by rfl, ?hy2⟩) (by assumption) ?rs2
        case hy2 => intro W' hS'; obtain ⟨h1, h2, h3, h4⟩ := hS'; go_simp; all_goals (with_reducible rfl)
        simp only [Act.put, List.setIfInBounds_toArray, List.set_cons_zero, List.set_cons_succ]
        refine wpAnyH_take (i := 3) (v := ?vv3) rfl (by kernel_rfl) (by kernel_rfl) (by kernel_rfl) (fun _ _ _ h => h) (Or.inl ⟨by rfl, ?hy3⟩) (by assumption) ?rs3
        case hy3 => intro W' hS'; obtain ⟨h1, h2, h3, h4⟩ := hS'; go_simp; all_goals (with_reducible rfl)
        simp only [Act.put, List.setIfInBounds_toArray, List.set_cons_zero, List.set_cons_succ]
        refine wpAnyH_take (i := 4) (v := ?vv4) rfl (by kernel_rfl) (by kernel_rfl) (by kernel_rfl) (fun _ _ _ h => h) (Or.inl ⟨by rfl, ?hy4⟩) (by assumption) ?rs4
        case hy4 => intro W' hS'; obtain ⟨h1, h2, h3, h4⟩ := hS'; go_simp; all_goals (with_reducible rfl)
        simp only [Act.put, List.setIfInBounds_toArray, List.set_cons_zero, List.set_cons_succ]
        refine wpAnyH_take (i := 5) (v := ?vv5) rfl (by kernel_rfl) (by kernel_rfl) (by kernel_rfl) (fun _ _ _ h => h) (Or.inl ⟨by rfl, ?hy5⟩) (by assumption) ?rs5
        case hy5 => intro W' hS'; obtain ⟨h1, h2, h3, h4⟩ := hS'; go_simp; all_goals (with_reducible rfl)
        simp only [Act.put, List.setIfInBounds_toArray, List.set_cons_zero, List.set_cons_succ]
        refine wpAnyH_take (i := 6) (v := ?vv6) rfl (by kernel_rfl) (by kernel_rfl) (by kernel_rfl) (fun _ _ _ h => h) (Or.inl ⟨by rfl, ?hy6⟩) (by assumption) ?rs6
        case hy6 => intro W' hS'; obtain ⟨h1, h2, h3, h4⟩ := hS'; go_simp; all_goals (with_reducible rfl)
        simp only [Act.put, List.setIfInBounds_toArray, List.set_cons_zero, List.set_cons_succ]
        refine wpAnyH_take (i := 7) (v := ?vv7) rfl (by kernel_rfl) (by kernel_rfl) (by kernel_rfl) (fun _ _ _ h => h) (Or.inl ⟨by rfl, ?hy7⟩) (by assumption) ?rs7
        case hy7 => intro W' hS'; obtain ⟨h1, h2, h3, h4⟩ := hS'; go_simp; all_goals (with_reducible rfl)
        simp only [Act.put, List.setIfInBounds_toArray, List.set_cons_zero, List.set_cons_succ]
        refine wpAnyH_take (i := 8) (v := ?vv8) rfl (by kernel_rfl) (by kernel_rfl) (by kernel_rfl) (fun _ _ _ h => h) (Or.inl ⟨by rfl, ?hy8⟩) (by assumption) ?rs8
        case hy8 => intro W' hS'; obtain ⟨h1, h2, h3, h4⟩ := hS'; go_simp; all_goals (with_reducible rfl)
        simp only [Act.put, List.setIfInBounds_toArray, List.set_cons_zero, List.set_cons_succ]
        refine wpAnyH_take (i := 9) (v := ?vv9) rfl (by kernel_rfl) (by kernel_rfl) (by kernel_rfl) (fun _ _ _ h => h) (Or.inl ⟨by rfl, ?hy9⟩) (by assumption) ?rs9
        case hy9 => intro W' hS'; obtain ⟨h1, h2, h3, h4⟩ := hS'; go_simp; all_goals (with_reducible rfl)
        simp only [Act.put, List.setIfInBounds_toArray, List.set_cons_zero, List.set_cons_succ]
        refine wpAnyH_take (i := 10) (v := ?vv10) rfl (by kernel_rfl) (by kernel_rfl) (by kernel_rfl) (fun _ _ _ h => h) (Or.inl ⟨by rfl, ?hy10⟩) (by assumption) ?rs10
        case hy10 => intro W' hS'; obtain ⟨h1, h2, h3, h4⟩ := hS'; go_simp; all_goals (with_reducible rfl)
        simp only [Act.put, List.setIfInBounds_toArray, List.set_cons_zero, List.set_cons_succ]
        refine wpAnyH_take (i := 14) (v := ?vv14) rfl (by kernel_rfl) (by kernel_rfl) (by kernel_rfl) (fun _ _ _ h => h) (Or.inl ⟨by rfl, ?hy14⟩) (by assumption) ?rs14
        case hy14 => intro W' hS'; obtain ⟨h1, h2, h3, h4⟩ := hS'; go_simp; all_goals (with_reducible rfl)
        simp only [Act.put, List.setIfInBounds_toArray, List.set_cons_zero, List.set_cons_succ]
        refine wpAnyH_take (i := 15) (v := ?vv15) rfl (by kernel_rfl) (by kernel_rfl) (by kernel_rfl) (fun _ _ _ h => h) (Or.inl ⟨by rfl, ?hy15⟩) (by assumption) ?rs15
        case hy15 => intro W' hS'; obtain ⟨h1, h2, h3, h4⟩ := hS'; go_simp; all_goals (with_reducible rfl)
        simp only [Act.put, List.setIfInBounds_toArray, List.set_cons_zero, List.set_cons_succ]
        refine wpAnyH_take (i := 16) (v := ?vv16) rfl (by kernel_rfl) (by kernel_rfl) (by kernel_rfl) (fun _ _ _ h => h) (Or.inl ⟨by rfl, ?hy16⟩) (by assumption) ?rs16
        case hy16 => intro W' hS'; obtain ⟨h1, h2, h3, h4⟩ := hS'; go_simp; all_goals (with_reducible rfl)
        simp only [Act.put, List.setIfInBounds_toArray, List.set_cons_zero, List.set_cons_succ]
        refine wpAnyH_take (i := 17) (v := ?vv17) rfl (by kernel_rfl) (by kernel_rfl) (by kernel_rfl) (fun _ _ _ h => h) (Or.inl ⟨by rfl, ?hy17⟩) (by assumption) ?rs17
        case hy17 => intro W' hS'; obtain ⟨h1, h2, h3, h4⟩ := hS'; go_simp; all_goals (with_reducible rfl)
        simp only [Act.put, List.setIfInBounds_toArray, List.set_cons_zero, List.set_cons_succ]
        refine wpAnyH_take (i := 18) (v := ?vv18) rfl (by kernel_rfl) (by kernel_rfl) (by kernel_rfl) (fun _ _ _ h => h) (Or.inl ⟨by rfl, ?hy18⟩) (by assumption) ?rs18
        case hy18 => intro W' hS'; obtain ⟨h1, h2, h3, h4⟩ := hS'; go_simp; all_goals (with_reducible rfl)
        simp only [Act.put, List.setIfInBounds_toArray, List.set_cons_zero, List.set_cons_succ]
        refine wpAnyH_ready (rs := [11]) (by kernel_rfl) (by simp) ?_
        refine AllReadyH.cons (o := { dst := some 36, op := Op.call { callee := Callee.value (Operand.func 36), args := #[Operand.tmp 35], argTypes := #[3] }, type := 9, pos := "text.go:21", after := #[{ on := 10, ground := Ground.data }], guard := none }) rfl (fun K hK => ?_) AllReadyH.nil
        go_simp
        refine (strconv_Itoa.calls c.f1 i1 _ (by unfold strconv_Itoa.f; rw [if_pos hc1, hi1]) (Tab.step htab5 ((Below.refl _ w5).drew))).mono ?_
        rintro e w6 ⟨rfl, hb6⟩
        try dsimp only
        refine hK.out _ _ (Sr_step hS0 hb6) (fun hHeld => ?_)
        clear hK K
        try simp only [Act.put, List.setIfInBounds_toArray, List.set_cons_zero, List.set_cons_succ]
        refine wpAnyH_take (i := 12) (v := ?vv12) rfl (by kernel_rfl) (by kernel_rfl) (by kernel_rfl) (fun _ _ _ h => h) (Or.inl ⟨by rfl, ?hy12⟩) (by assumption) ?rs12
        case hy12 => intro W' hS'; obtain ⟨h1, h2, h3, h4⟩ := hS'; go_simp; all_goals (with_reducible rfl)
        simp only [Act.put, List.setIfInBounds_toArray, List.set_cons_zero, List.set_cons_succ]
        refine wpAnyH_take (i := 13) (v := ?vv13) rfl (by kernel_rfl) (by kernel_rfl) (by kernel_rfl) (fun _ _ _ h => h) (Or.inl ⟨by rfl, ?hy13⟩) (by assumption) ?rs13
        case hy13 => intro W' hS'; obtain ⟨h1, h2, h3, h4⟩ := hS'; go_simp; all_goals (with_reducible rfl)
        simp only [Act.put, List.setIfInBounds_toArray, List.set_cons_zero, List.set_cons_succ]
        refine wpAnyH_ready (rs := [19]) (by kernel_rfl) (by simp) ?_
        refine AllReadyH.cons (o := { dst := some 44, op := Op.call { callee := Callee.value (Operand.func 36), args := #[Operand.tmp 43], argTypes := #[3] }, type := 9, pos := "text.go:21", after := #[{ on := 18, ground := Ground.data }, { on := 11, ground := Ground.chain }], guard := none }) rfl (fun K hK => ?_) AllReadyH.nil
        go_simp
        refine (strconv_Itoa.calls c.f2 i2 _ (by unfold strconv_Itoa.f; rw [if_pos hc2, hi2]) (Tab.step (Tab.step htab5 ((Below.refl _ w5).drew)) hb6)).mono ?_
        rintro e w7 ⟨rfl, hb7⟩
        try dsimp only
        refine hK.out _ _ (Sr_step (Sr_step hS0 hb6) hb7) (fun hHeld => ?_)
        clear hK K
        try simp only [Act.put, List.setIfInBounds_toArray, List.set_cons_zero, List.set_cons_succ]
        refine wpAnyH_take (i := 20) (v := ?vv20) rfl (by kernel_rfl) (by kernel_rfl) (by kernel_rfl) (fun _ _ _ h => h) (Or.inl ⟨by rfl, ?hy20⟩) (by assumption) ?rs20
        case hy20 => intro W' hS'; obtain ⟨h1, h2, h3, h4⟩ := hS'; go_simp; all_goals (with_reducible rfl)
        simp only [Act.put, List.setIfInBounds_toArray, List.set_cons_zero, List.set_cons_succ]
        refine wpAnyH_take (i := 21) (v := ?vv21) rfl (by kernel_rfl) (by kernel_rfl) (by kernel_rfl) (fun _ _ _ h => h) (Or.inl ⟨by rfl, ?hy21⟩) (by assumption) ?rs21
        case hy21 => intro W' hS'; obtain ⟨h1, h2, h3, h4⟩ := hS'; go_simp; all_goals (with_reducible rfl)
        simp only [Act.put, List.setIfInBounds_toArray, List.set_cons_zero, List.set_cons_succ]
        have hd5 := (Below.refl w5.heap.size w5).drew
        have hbd7 := builder_below (builder_below (builder_below (Or.inr hbd5 : Lib.IsBuilderF 91 5 b b _ w5) hd5) hb6) hb7
        have hs6 := hb6.size
        have hs7 := hb7.size
        have hs5d := hd5.size
        have hWs := Tryd.Builder_WriteString_k b b (Lib.byteCells ac ++ Lib.byteCells rp) (c.f0 ++ ⟨#[32]⟩ ++ i1 ++ ⟨#[32]⟩ ++ i2 ++ ⟨#[10]⟩) w7 hbd7 (by rw [List.length_append, Lib.byteCells_length, Lib.byteCells_length, hm, hrpl]; simp only [ByteArray.size_append]; show m + q * 2 + (c.f0.size + 1 + i1.size + 1 + i2.size + 1) ≤ 140737488355328; omega) (by omega)
        have HWS := Aside0.mk hWs
        clear hWs
        refine wpAnyH_ready (rs := [22]) (by kernel_rfl) (by simp) ?_
        refine AllReadyH.cons (o := _) rfl (fun K hK => ?_) AllReadyH.nil
        go_simp
        refine HWS.out.mono ?_
        rintro e w8 ⟨rfl, hbd8, hb8, hk8⟩
        try dsimp only
        refine hK.out _ _ (Sr_stepB (Sr_step (Sr_step hS0 hb6) hb7) hb8 (by show w.heap.size < b; omega) hadl hadl hadl) (fun hHeld => ?_)
        clear hK K
        try simp only [Act.put, List.setIfInBounds_toArray, List.set_cons_zero, List.set_cons_succ]
        refine wpAnyH_done (by kernel_rfl) ?_ _
        have hs8 := hb8.size
        obtain ⟨_, _, cs4, hcs4⟩ := builder_blk hbd4
        obtain ⟨_, _, cs7, hcs7⟩ := builder_blk hbd7
        have ebytes : Lib.byteCells (ac ++ (Lib.repeatL [32, 32] ((q : Int)).toNat ++ lnB c)) = Lib.byteCells ac ++ Lib.byteCells rp ++ Lib.byteCells (c.f0 ++ ⟨#[32]⟩ ++ i1 ++ ⟨#[32]⟩ ++ i2 ++ ⟨#[10]⟩ : ByteArray).data.toList := by
          rw [← hi1, ← hi2, lnB_eq, byteCells_append, byteCells_append, Int.toNat_natCast, hrp, List.append_assoc]
        have elen : (lnB c).length = c.f0.size + 1 + i1.size + 1 + i2.size + 1 := by
          rw [← lnB_eq, hi1, hi2, Array.length_toList]
          show (c.f0 ++ ⟨#[32]⟩ ++ i1 ++ ⟨#[32]⟩ ++ i2 ++ ⟨#[10]⟩ : ByteArray).size = _
          simp only [ByteArray.size_append]
          rfl
        refine (⟨?_, ?_, ?_, ?_, ?_⟩ : KeepsFrom _ _ _ ∧ KpB _ _ _ _ ∧ (_ ∧ _ ∧ _))
        · exact (((((((keeps_below hb4).trans (keeps_of hk5 hcs4 hs5)).trans (KeepsOthers.drew _)).trans (keeps_below hb6)).trans (keeps_below hb7)).trans (keeps_of hk8 hcs7 hs8))).from _
        · exact ((((KpB.below hb4 (by omega)).trans (KpB.of hk5)).trans (KpB.below hd5 (by omega))).trans (KpB.below hb6 (by omega))).trans ((KpB.below hb7 (by omega)).trans (KpB.of hk8))
        · show Lib.IsBuilderF 91 5 b b (Lib.byteCells (tx f zs ((pre ++ [(⟨p, hpl⟩ : Fin zs.length)]).map (·.1)))) w8
          rw [HNX.out, ebytes]
          exact .inr hbd8
        · exact (((hB5.trans (hd5.mono (by omega))).trans (hb6.mono (by omega))).trans (hb7.mono (by omega))).trans hb8
        · rw [HNX.out, List.length_append, List.length_append, elen, Int.toNat_natCast, hrp, hm, hrpl]
          omega
    case done =>
      rintro D xs W hD rfl ⟨hbd, hB, hac⟩ hDk
      have e1 : tx f zs ((upF zs.length zs.length).map (·.1)) = total f zs := by
        unfold total
        congr 1
        have := upF_map zs.length id zs.length (Nat.le_refl _)
        simpa using this
      rw [e1] at hbd hac
      have hsW := hB.size
      obtain ⟨T, hT⟩ : ∃ T, total f zs = T := ⟨_, rfl⟩
      rw [hT] at hbd hac
      have hBl := Tryd.Builder_Len_f b b (Lib.byteCells T) W hbd
      rw [Lib.byteCells_length] at hBl
      obtain ⟨m, hm⟩ : ∃ m, T.length = m := ⟨_, rfl⟩
      rw [hm] at hBl hac
      have HBL := Aside0.mk hBl
      clear hBl
      have kB := bx hB bB2 (by omega)
      have kC := bx hB bC2 (by omega)
      have hbW' := hbW2.trans (hB.mono (by omega))
      have HT := Aside0.mk hT
      clear hT e1
      by_cases hbig : (m : Int) ≤ 4194304
      · have HST := Aside0.mk (Tryd.Builder_String_any_k b b T W hbd (by omega))
        gi_wp2_with (first | (refine ⟨trivial, ?_⟩; gi_at_call 61; refine (callsIn_wide.2 HBL.out).mono ?_; rintro e w3 ⟨rfl, rfl⟩) | (refine ⟨trivial, ?_⟩; gi_at_call 57; refine (callsIn_wide.2 HST.out).mono ?_; rintro e w4 ⟨rfl, hbd4, hb4, hk4⟩; have qB := bx hb4 kB (by omega); have qC := bx hb4 kC (by omega); have dB := qB.cell; have eB := qB.frozen; have dC := (qC.other (B' := w.heap.size + 1) (by omega) (.string ⟨T.toArray⟩)).cell; have eC := (qC.other (B' := w.heap.size + 1) (by omega) (.string ⟨T.toArray⟩)).frozen))
        refine leaves_all (fun X => Boxed X (w.heap.size + 1) 9 (.string ⟨T.toArray⟩) ∧ Boxed X (w.heap.size + 1 + 1) 26 (.int .i64 0) ∧ Below w.heap.size w X) [D] _ (fun E hE => ?hD) (by simp) ?hJ (fun X E hE hk hJ => ?hP) (fun X hJ => ⟨.tuple #[.string ⟨T.toArray⟩, .int .i64 0], ?hR, ?hV, hJ.2.2⟩)
        case hD =>
          obtain rfl : E = D := by simpa using hE
          exact (((KeepsOthers.setCell _ _ _).trans (KeepsOthers.setCell _ _ _)).same E _ (hk4 E _ hDk (fun e => by cases e; omega) (fun _ _ e => by cases e)) rfl)
        case hJ => exact ⟨(qB.set _).other (by omega) _, (qC.other (by omega) _).set _, ((hbW'.trans (hb4.mono (by omega))).setCell (p := ⟨w.heap.size + 1, 0, none⟩) (by show w.heap.size ≤ w.heap.size + 1; omega) _).setCell (p := ⟨w.heap.size + 1 + 1, 0, none⟩) (by show w.heap.size ≤ w.heap.size + 1 + 1; omega) _⟩
        case hP =>
          obtain rfl : E = D := by simpa using hE
          exact ⟨hJ.1.kept (grownBy_putObj' X E _) (fun e => by cases e; have h1 := hJ.1; rw [show X.heap[_]? = _ from h1] at hk; cases hk), hJ.2.1.kept (grownBy_putObj' X E _) (fun e => by cases e; have h1 := hJ.2.1; rw [show X.heap[_]? = _ from h1] at hk; cases hk), hJ.2.2.trans (belowK_b (w := w) (Nat.le_refl _) X E _ _ (by omega) hk rfl rfl)⟩
        case hR =>
          have h1 := hJ.1.cell
          have h2 := hJ.2.1.cell
          simp [results, Tryd.f27, go_sem, h1, h2]
        case hV => (rw [← HTA.out, HT.out, if_pos (by omega)])
      · have dB := kB.cell
        have eB := kB.frozen
        have dC := (kC.other (B' := w.heap.size + 1) (by omega) (.string ⟨#[]⟩)).cell
        have eC := (kC.other (B' := w.heap.size + 1) (by omega) (.string ⟨#[]⟩)).frozen
        gi_wp2_with (refine ⟨trivial, ?_⟩; gi_at_call 61; refine (callsIn_wide.2 HBL.out).mono ?_; rintro e w3 ⟨rfl, rfl⟩)
        refine leaves_all (fun X => Boxed X (w.heap.size + 1) 9 (.string ⟨#[]⟩) ∧ Boxed X (w.heap.size + 1 + 1) 26 (.int .i64 2) ∧ Below w.heap.size w X) [D] _ (fun E hE => ?hD) (by simp) ?hJ (fun X E hE hk hJ => ?hP) (fun X hJ => ⟨.tuple #[.string ⟨#[]⟩, .int .i64 2], ?hR, ?hV, hJ.2.2⟩)
        case hD =>
          obtain rfl : E = D := by simpa using hE
          exact (((KeepsOthers.setCell _ _ _).trans (KeepsOthers.setCell _ _ _)).same E _ hDk rfl)
        case hJ => exact ⟨(kB.set _).other (by omega) _, (kC.other (by omega) _).set _, (hbW'.setCell (p := ⟨w.heap.size + 1, 0, none⟩) (by show w.heap.size ≤ w.heap.size + 1; omega) _).setCell (p := ⟨w.heap.size + 1 + 1, 0, none⟩) (by show w.heap.size ≤ w.heap.size + 1 + 1; omega) _⟩
        case hP =>
          obtain rfl : E = D := by simpa using hE
          exact ⟨hJ.1.kept (grownBy_putObj' X E _) (fun e => by cases e; have h1 := hJ.1; rw [show X.heap[_]? = _ from h1] at hk; cases hk), hJ.2.1.kept (grownBy_putObj' X E _) (fun e => by cases e; have h1 := hJ.2.1; rw [show X.heap[_]? = _ from h1] at hk; cases hk), hJ.2.2.trans (belowK_b (w := w) (Nat.le_refl _) X E _ _ (by omega) hk rfl rfl)⟩
        case hR =>
          have h1 := hJ.1.cell
          have h2 := hJ.2.1.cell
          simp [results, Tryd.f27, go_sem, h1, h2]
        case hV => (rw [← HTA.out, HT.out, if_neg (by omega)])
    case stop =>
      rintro D c pre W hD ⟨kk, hkk, rfl⟩ ⟨kB, kC, hB, rfl, hbig⟩ hDk
      have e1 : (upF zs.length kk).map (·.1) = List.range kk := by
        have := upF_map zs.length id kk hkk
        simpa using this
      rw [e1] at hbig
      have hbig2 : ¬ (total f zs).length ≤ 4194304 := by
        have := tx_le f zs zs.length kk hkk
        unfold total
        omega
      gi_wp2
      refine leaves_all (fun X => Boxed X (w.heap.size + 1) 9 (.string ⟨#[]⟩) ∧ Boxed X (w.heap.size + 1 + 1) 26 (.int .i64 2) ∧ Below w.heap.size w X) [D] _ (fun E hE => ?hD) (by simp) ?hJ (fun X E hE hk hJ => ?hP) (fun X hJ => ⟨.tuple #[.string ⟨#[]⟩, .int .i64 2], ?hR, ?hV, hJ.2.2⟩)
      case hD =>
        obtain rfl : E = D := by simpa using hE
        exact hDk
      case hJ => exact ⟨kB, kC, hB⟩
      case hP =>
        obtain rfl : E = D := by simpa using hE
        exact ⟨hJ.1.kept (grownBy_putObj' X E _) (fun e => by cases e; have h1 := hJ.1; rw [show X.heap[_]? = _ from h1] at hk; cases hk), hJ.2.1.kept (grownBy_putObj' X E _) (fun e => by cases e; have h1 := hJ.2.1; rw [show X.heap[_]? = _ from h1] at hk; cases hk), hJ.2.2.trans (belowK_b (w := w) (Nat.le_refl _) X E _ _ (by omega) hk rfl rfl)⟩
      case hR =>
        have h1 := hJ.1.cell
        have h2 := hJ.2.1.cell
        simp [results, Tryd.f27, go_sem, h1, h2]
      case hV => (rw [← HTA.out, if_neg hbig2])
  · have hans : txtAns f = (⟨#[]⟩, ck) := by unfold txtAns; rw [hck0, if_neg hc0]
    rw [hans]
    dsimp only
    have hb1 : (ck == 0) = false := beq_eq_false_iff_ne.mpr hc0
    have hb2 : (ck != 0) = true := bne_iff_ne.mpr hc0
    have HC0 := Aside0.mk hc0
    clear hc0
    gi_wp2_with (refine ⟨trivial, ?_⟩; gi_at_call 22; refine (callsIn_wide.2 HCK.out).mono ?_; rintro e w1 ⟨rfl, hb0⟩; obtain ⟨bA, bB, bC, hbW, hs3⟩ := boxes3 hb0; have cB := bB.cell; have cC := (bC.other (B' := w.heap.size + 1) (by omega) (.string ⟨#[]⟩)).cell; have dB := bB.frozen; have dC := (bC.other (B' := w.heap.size + 1) (by omega) (.string ⟨#[]⟩)).frozen; clear hb0)
    refine leaves_all (fun X => Boxed X (w.heap.size + 1) 9 (.string ⟨#[]⟩) ∧ Boxed X (w.heap.size + 1 + 1) 26 (.int .i64 ck) ∧ Below w.heap.size w X) [] _ (fun D hD => by cases hD) List.nodup_nil ⟨(bB.set _).other (by omega) _, (bC.other (by omega) _).set _, (hbW.setCell (p := ⟨w.heap.size + 1, 0, none⟩) (by show w.heap.size ≤ w.heap.size + 1; omega) _).setCell (p := ⟨w.heap.size + 1 + 1, 0, none⟩) (by show w.heap.size ≤ w.heap.size + 1 + 1; omega) _⟩ (fun X D hD => by cases hD) (fun X hJ => ⟨.tuple #[.string ⟨#[]⟩, .int .i64 ck], ?_, rfl, hJ.2.2⟩)
    have h1 := hJ.1.cell
    have h2 := hJ.2.1.cell
    simp [results, Tryd.f27, go_sem, h1, h2]
end Go.Proofs.YtloflodbcdlmpaaDoor.Tx
