/- The iterator that place.Runes answers: what it hands to the body of a range over it: the text's characters, in order. Conditions: a text of at most 2^62 bytes. -/
import Derived.RangeFuncNested
import Derived.RangeFuncBound
import Derived.RangeFuncCalls
import Derived.RangeFuncLeaves
import Derived.Shelf.Abstract
import Derived.Shelf.RegionOpen
import Derived.WalkKit
import Derived.OwnWalkIn
import Derived.TacticsInMore
import Derived.LoopNIn
import Derived.LoopIn
import Derived.Lib.OthersKept
import Derived.Test.YtkjckdgknbfaiaaPureD
namespace Go.Proofs.Ytkjckdgknbfaiaa.Iter
open Go.RowKit Go.Shelf Go.Proofs.Ytkjckdgknbfaiaa.Qall
attribute [local go_sem] Oper.semAt_some

/-- A place and the character that begins there. -/
structure Rn where
  pos : Nat
  c : Nat
  hpos : pos < 4611686018427387904
  hc : c < 1114112
theorem decode_lt (s : ByteArray) (p : Nat) : (Utf8.decode s p).1 < 1114112 := by
  have l0 := by_lt s.data.toList p
  rw [decode_decN]
  unfold decN
  repeat' split
  all_goals (try dsimp only)
  all_goals (try simp only [Bool.and_eq_true, decide_eq_true_eq, valid_iff] at *)
  all_goals omega
def enc (x : Rn) : Array Value := #[.int .i64 (x.pos : Int), .int .i32 (x.c : Int)]
def runesFrom (s : ByteArray) (hs : s.size ≤ 4611686018427387904) : Nat → Nat → List Rn
  | 0, _ => []
  | f + 1, p => if h : p < s.size then ⟨p, (Utf8.decode s p).1, by omega, decode_lt s p⟩ :: runesFrom s hs f (p + (Utf8.decode s p).2) else []
def runes (s : ByteArray) (hs : s.size ≤ 4611686018427387904) : List Rn := runesFrom s hs s.size 0
theorem runesFrom_end (s : ByteArray) (hs) (f p : Nat) (h : ¬ p < s.size) : runesFrom s hs f p = [] := by cases f <;> simp [runesFrom, h]
theorem grownBy_iterAt (w : World) (k : Nat) (s : ByteArray) (p : Nat) : w.grownBy (w.iterAt k s p) (some k) :=
  ⟨rfl, rfl, rfl, by simp [World.iterAt], fun i _ hi => by
    have hne : k ≠ i := fun e => hi (by rw [e])
    simp [World.iterAt, Array.getElem?_setIfInBounds_ne hne]⟩
set_option maxRecDepth 100000 in
set_option maxHeartbeats 4000000 in
theorem runes_in (F : Fence) (n : Nat) (hf : F.fn 28) (hro : F.round = none) (hn : 1 ≤ n) (l Bs : Nat) (s : ByteArray) (hs : s.size ≤ 4611686018427387904) (J Jx : List Rn → World → Prop) (W : World)
    (hJ : AbidesFrom W.heap.size J) (_hJx : AbidesFrom W.heap.size Jx)
    (hY : ∀ pre x W1, J pre W1 → pre.length < (runes s hs).length → YieldAt F (n - 1) Try.prog l #[.int .i64 (x.pos : Int), .int .i32 (x.c : Int)] W1 fun e W' =>
      (e = .returned (.bool true) ∧ J (pre ++ [x]) W' ∧ KeepsWalks W1 W') ∨ (e = .returned (.bool false) ∧ Jx (pre ++ [x]) W'))
    (hBs : W.cell? ⟨Bs, 0, none⟩ = some (.string s)) (h0 : J [] W) :
    CallsIn F n Try.prog 28 #[.func (.yield l) #[] #[], .pointer (some ⟨Bs, 0, none⟩)] W fun e W' => (∃ v, e = .returned v) ∧
      ((∃ xs, xs = runes s hs ∧ J xs W') ∨ (∃ pre, pre <+: runes s hs ∧ Jx pre W')) := by
  refine callsIn_of_wp Try.func28 rfl hf ?_ hro
  simp only [Try.ntmps28, List.size_toArray, List.length_cons, List.length_nil, Nat.reduceAdd, Nat.reduceSub, Array.replicate_succ, Array.replicate_zero, List.push_toArray, List.append_toArray, List.nil_append, List.cons_append]
  gi_wp2
  have hJ1 : J [] (W.alloc (.stringIter s 0)) := hJ [] W _ none h0 (World.grownBy_alloc W _ none) (fun r e => by cases e)
  gi_loopw [3] (fun _ wr => ∃ (pre : List Rn) (pos b : Nat), wr.heap[W.heap.size]? = some (.stringIter s pos) ∧ runes s hs = pre ++ runesFrom s hs b pos ∧ s.size ≤ pos + b ∧ J pre wr)
    (fun _ wr => s.size - wr.iterPos W.heap.size)
  case atStart => exact ⟨[], 0, s.size, World.alloc_heap_new W _, rfl, by omega, hJ1⟩
  case round =>
    obtain ⟨pre, pos, b, hit, hx, hb, hJs⟩ := hrel
    by_cases hp : pos < s.size
    · have hnx : ∀ ty, (Instr.next (.pointer (some ⟨W.heap.size, 0, none⟩)) true ty).run Try.prog wr = _ := fun ty => Lib.run_next_any_at wr W.heap.size s pos ty hit hp
      have hwd := Lib.decode_width_pos s pos hp
      cases b with
      | zero => omega
      | succ b =>
        have hx2 : runes s hs = (pre ++ [⟨pos, (Utf8.decode s pos).1, by omega, decode_lt s pos⟩]) ++ runesFrom s hs b (pos + (Utf8.decode s pos).2) := by
          rw [hx, runesFrom, dif_pos hp]
          simp
        have hJ2 : J pre (wr.iterAt W.heap.size s (pos + (Utf8.decode s pos).2)) := hJ pre wr _ (some W.heap.size) hJs (grownBy_iterAt _ _ _ _) (fun r e => by cases e; exact ⟨Nat.le_refl _, _, hit, rfl⟩)
        have hit2 := Lib.iterAt_heap wr W.heap.size s pos (pos + (Utf8.decode s pos).2) hit
        obtain ⟨fn, tmps, assign, body, hy, hR⟩ := hY pre ⟨pos, (Utf8.decode s pos).1, by omega, decode_lt s pos⟩ _ hJ2 (by rw [hx2]; simp)
        dsimp only at hy
        gi_wp2
        refine hR.mono ?_
        rintro e W3 (⟨rfl, hJ3, hk3⟩ | ⟨rfl, hJx3⟩)
        · gi_wp2
          go_roundw
          case rel => exact ⟨_, pos + (Utf8.decode s pos).2, b, hk3.same _ _ hit2 rfl, hx2, by omega, hJ3⟩
          case measure =>
            have e1 : W3.iterPos W.heap.size = pos + (Utf8.decode s pos).2 := by simp [World.iterPos, hk3.same _ _ hit2 rfl]
            have e2 : wr.iterPos W.heap.size = pos := by simp [World.iterPos, hit]
            rw [e1, e2]
            omega
        · gi_wp2
          refine bodyPost_ret (results_none rfl _ _ _) rfl ?_
          exact ⟨⟨_, rfl⟩, .inr ⟨_, ⟨_, hx2.symm⟩, hJx3⟩⟩
    · have hnx : ∀ ty, (Instr.next (.pointer (some ⟨W.heap.size, 0, none⟩)) true ty).run Try.prog wr = _ := fun ty => Lib.run_next_end_at wr W.heap.size s pos ty hit hp
      gi_wp2
      go_end0
      exact ⟨⟨_, rfl⟩, .inl ⟨pre, by rw [hx, runesFrom_end s hs b pos hp, List.append_nil], hJs⟩⟩
/-- place.Runes: the text is boxed; the function value captures the box. -/
theorem Runes_in (F : Fence) (n : Nat) (hf : F.fn 15) (hro : F.round = none) (s : ByteArray) (w : World) :
    CallsIn F n Try.prog 15 #[.string s] w fun e w' => e = .returned (.func (.func 28) #[] #[.pointer (some ⟨w.heap.size, 0, none⟩)]) ∧ w' = w.alloc (.cells #[.string s] 9) := by
  refine callsIn_of_wp Try.func15 rfl hf ?_ hro
  simp only [Try.ntmps15, List.size_toArray, List.length_cons, List.length_nil, Nat.reduceAdd, Nat.reduceSub, Array.replicate_succ, Array.replicate_zero, List.push_toArray, List.append_toArray, List.nil_append, List.cons_append]
  gi_wp2
  go_ret
  exact ⟨rfl, rfl⟩
theorem runes_stops (F : Fence) (n : Nat) (hf : F.fn 28) (hro : F.round = none) (hn : 1 ≤ n) (Bs : Nat) (s : ByteArray) (hs : s.size ≤ 4611686018427387904) (w : World) (hlt : Bs < w.heap.size) (hc : w.cell? ⟨Bs, 0, none⟩ = some (.string s)) :
    SeqStopsK F n Try.prog 28 #[.pointer (some ⟨Bs, 0, none⟩)] (fun x : Rn => #[.int .i64 (x.pos : Int), .int .i32 (x.c : Int)]) KeepsWalks (fun xs => xs = runes s hs) (fun pre => pre <+: runes s hs) (runes s hs).length w := fun l J Jx W hW hJ hJx hY h0 =>
  runes_in F n hf hro hn l Bs s hs J Jx W hJ hJx hY ((hW.cell (p := ⟨Bs, 0, none⟩) hlt).trans hc) h0
end Go.Proofs.Ytkjckdgknbfaiaa.Iter
