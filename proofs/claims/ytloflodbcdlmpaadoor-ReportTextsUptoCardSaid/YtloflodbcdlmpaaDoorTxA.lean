/- The text of an outcome in plain words, and the contracts of what the print does not take (for ReportTexts alone). -/
import Derived.Test.YtloflodbcdlmpaaDoorCheck
import Derived.Test.YtloflodbcdlmpaaDoorTextX
import Derived.Test.YtloflodbcdlmpaaDoorQallx4
import Derived.Lib.ItoaLen
namespace Go.Proofs.YtloflodbcdlmpaaDoor.Rp
open Go.RowKit Go.Proofs.YtloflodbcdlmpaaDoor.Qall Go.Proofs.YtloflodbcdlmpaaDoor.Chk Go.Proofs.YtloflodbcdlmpaaDoor.Tx Go.Proofs.YtloflodbcdlmpaaDoorW.PrintWords Go.Proofs.YtloflodbcdlmpaaDoorW.PrintLast Go.Proofs.YtloflodbcdlmpaaDoorW.PrintMore
open Go.Proofs.YtloflodbcdlmpaaDoor.Fo hiding val
set_option linter.unusedSimpArgs false
set_option linter.unusedVariables false
def fld : List UInt8 := [102, 97, 105, 108, 101, 100]
def mtc : List UInt8 := [109, 97, 116, 99, 104, 101, 100]
def thr : List UInt8 := [116, 104, 114, 111, 119, 110]
/-- Is an outcome right? -/
def rgt (k e : Int) (l : ByteArray) (f : List S60) : Bool :=
  if k = 0 then decide (e = 0 ∧ l.size = 0 ∧ f.length = 0)
  else if k = 1 then decide (l.size = 0 ∧ chkAns f e = 0)
  else if k = 2 then decide (Own.nameOk l = true ∧ f.length = 0 ∧ 0 ≤ e ∧ e ≤ 65536)
  else false
def headL (k e : Int) (l : List UInt8) : List UInt8 :=
  if k = 1 then mtc ++ 32 :: (Lib.itoa e ++ [10]) else if k = 2 then thr ++ 32 :: (l ++ 32 :: (Lib.itoa e ++ [10])) else fld ++ [10]
def headB (k e : Int) (l : ByteArray) : ByteArray := ⟨(headL k e l.data.toList).toArray⟩
def outAns (k e : Int) (l : ByteArray) (f : List S60) : ByteArray × Int :=
  if rgt k e l f = true then
    if (txtAns f).2 = 0 then (if (headB k e l ++ (txtAns f).1).size ≤ 4194304 then (headB k e l ++ (txtAns f).1, 0) else (⟨#[]⟩, 2)) else (⟨#[]⟩, (txtAns f).2)
  else (⟨#[]⟩, 6)
/-- A forest of one node is right just if its name is. -/
theorem chk_one (s : ByteArray) : chkAns [⟨s, 0, 0, 0⟩] 0 = if Own.nameOk s = true then 0 else 6 := by
  unfold chkAns
  rw [if_neg (by omega), if_neg (by simp)]
  have h : rightB [⟨s, 0, 0, 0⟩] 0 = Own.nameOk s := by
    unfold rightB
    have hm : (mach [] (K [⟨s, 0, 0, 0⟩])).isSome = true := rfl
    rw [hm, Bool.true_and]
    show Nest.nst Own.nameOk [⟨s, 0, 0, 0⟩] _ 1 0 [((1 : Nat), 0, 0)] = _
    unfold Nest.nst
    rw [List.dropWhile_cons_of_neg (by simp)]
    have e : rd_T60 [⟨s, 0, 0, 0⟩] ((0 : Nat) : Int) = ⟨s, 0, 0, 0⟩ := rfl
    dsimp only
    rw [e]
    cases Own.nameOk s with
    | false => rfl
    | true => rfl
  rw [h]
set_option maxRecDepth 100000 in
set_option maxHeartbeats 4000000 in
/-- A forest of one node with a name. -/
theorem own_calls (s : ByteArray) (hs : s.size ≤ 4194304) (w : World) :
    Calls Tryd.prog 59 #[.string s] w fun e w' => e = .returned (.bool (Own.nameOk s)) ∧ Below w.heap.size w w' := by
  have hck := fun (A : Option Addr) (c : Nat) (W : World) (hC : Kd.C k60 W A 1 [⟨s, 0, 0, 0⟩]) (h : 1 ≤ c) => check_calls [⟨s, 0, 0, 0⟩] (by simp) 0 4194304 (fun x hx => by rw [List.mem_singleton.1 hx]; exact hs) (by decide) A c W hC h
  rw [chk_one] at hck
  have HCK := Aside0.mk hck
  clear hck
  have hC : Kd.C k60 (w.alloc (.cells #[.string s, .int .i64 0, .int .i64 0, .int .i64 0] 60)) (some ⟨w.heap.size, 0, none⟩) 1 [⟨s, 0, 0, 0⟩] := by
    have hR : Kd.R k60 60 (w.alloc (.cells #[.string s, .int .i64 0, .int .i64 0, .int .i64 0] 60)) 0 (fun _ => True) (.slice (some ⟨w.heap.size, 0, none⟩) 1 1) [⟨s, 0, 0, 0⟩] := by
      refine ⟨fun k hk => trivial, [.string s, .int .i64 0, .int .i64 0, .int .i64 0], ⟨rfl, .inr ⟨w.heap.size, 1, _, rfl, Nat.zero_le _, Array.getElem?_push_size, Nat.le_refl _, by unfold maxLen; decide, rfl, rfl⟩⟩, ⟨rfl, fun j p hp => ?_⟩⟩
      obtain ⟨hlt, rfl⟩ := List.getElem?_eq_some_iff.1 hp
      obtain rfl : j = 0 := by simpa using hlt
      exact k60_mkM _ 0 _ ⟨s, 0, 0, 0⟩
    exact (Kd.R_reads' hR).2.2
  have HC := Aside0.mk hC
  clear hC
  go_enter Tryd.func59, Tryd.ntmps59
  go_wp2_with fail
  go_at_call 22
  refine (HCK.out (some ⟨w.heap.size, 0, none⟩) 1 _ HC.out (Nat.le_refl _)).mono ?_
  rintro e w1 ⟨rfl, hb⟩
  have HB := Aside0.mk (((Below.refl w.heap.size w).alloc (Nat.le_refl _) _).trans (hb.mono (by simp)))
  clear hb HC HCK
  cases hk : Own.nameOk s with
  | true =>
    go_wp2
    go_ret
    exact ⟨by first | rfl | (simp; done) | (simp [*]; done), HB.out⟩
  | false =>
    go_wp2
    go_ret
    exact ⟨by first | rfl | (simp; done) | (simp [*]; done), HB.out⟩
end Go.Proofs.YtloflodbcdlmpaaDoor.Rp
namespace Go.Proofs.YtloflodbcdlmpaaDoor.Qall
open Go.RowKit Go.Proofs.YtloflodbcdlmpaaDoor.Chk Go.Proofs.YtloflodbcdlmpaaDoor.Tx Go.Proofs.YtloflodbcdlmpaaDoor.Rp Go.Proofs.YtloflodbcdlmpaaDoorW.PrintWords Go.Proofs.YtloflodbcdlmpaaDoorW.PrintLast Go.Proofs.YtloflodbcdlmpaaDoorW.PrintMore
set_option linter.unusedSimpArgs false
set_option linter.unusedVariables false
/-- An outcome, as it is handed in. -/
structure S24 where
  f0 : Int
  f1 : Int
  f2 : ByteArray
  f3 : List (S60)
def k24 : Kd S24 := Kd.iso (Kd.pair (Kd.int .i64) (Kd.pair (Kd.int .i64) (Kd.pair Kd.string (Kd.slice 60 k60)))) (fun x : S24 => (x.f0, x.f1, x.f2, x.f3))
theorem k24_open {w : World} {x : S24} {cs : List Value} (h : k24.K w x cs) : ∃ A c, cs = [.int .i64 x.f0, .int .i64 x.f1, .string x.f2, .slice A x.f3.length c] ∧ x.f3.length ≤ c ∧ Kd.C k60 w A x.f3.length x.f3 := by
  obtain ⟨_, _, rfl, rfl, ⟨_, _, rfl, rfl, ⟨_, _, rfl, rfl, ⟨A, c, rfl, hl, hC⟩⟩⟩⟩ := h
  exact ⟨A, c, rfl, hl, hC⟩
def TM (w : World) : Prop := Tab w
theorem TM.step {w w' : World} (h : TM w) (hb : Below w.heap.size w w') : TM w' := Tab.step h hb
theorem TM.tab {w : World} (h : TM w) : Tab w := h
def few (l : List (S60)) : Bool := decide (l.length ≤ 2097152) && l.all fun x => decide (x.f0.size ≤ 1073741824 ∧ (-9223372036854775808 ≤ x.f1 ∧ x.f1 ≤ 9223372036854775807) ∧ (-9223372036854775808 ≤ x.f2 ∧ x.f2 ≤ 9223372036854775807))
theorem few_iff (l : List (S60)) : few l = true ↔ l.length ≤ 2097152 ∧ (∀ x ∈ l, x.f0.size ≤ 1073741824) ∧ (∀ x ∈ l, -9223372036854775808 ≤ x.f1 ∧ x.f1 ≤ 9223372036854775807) ∧ (∀ x ∈ l, -9223372036854775808 ≤ x.f2 ∧ x.f2 ≤ 9223372036854775807) := by
  unfold few
  rw [Bool.and_eq_true, decide_eq_true_eq, List.all_eq_true]
  exact ⟨fun h => ⟨h.1, fun x hx => (of_decide_eq_true (h.2 x hx)).1, fun x hx => (of_decide_eq_true (h.2 x hx)).2.1, fun x hx => (of_decide_eq_true (h.2 x hx)).2.2⟩, fun h => ⟨h.1, fun x hx => decide_eq_true ⟨h.2.1 x hx, h.2.2.1 x hx, h.2.2.2 x hx⟩⟩⟩
def forest_Check.f (l0 : List (S60)) (a1 : Int) : Option Int := if few l0 = true then some (chkAns l0 a1) else none
theorem forest_Check.calls (A0 : Option Addr) (c0 : Nat) (l0 : List (S60)) (a1 : Int) (r : Int) (w : World) (hr0 : Kd.C k60 w A0 l0.length l0) (hc0 : l0.length ≤ c0) (h : forest_Check.f l0 a1 = some r) :
    Calls Tryd.prog 22 #[.slice A0 l0.length c0, .int .i64 a1] w fun e w' => e = .returned (.int .i64 r) ∧ Below w.heap.size w w' := by
  unfold forest_Check.f at h
  split at h
  · rename_i hf
    rw [few_iff] at hf
    cases h
    exact check_calls l0 hf.1 a1 1073741824 hf.2.1 (Nat.le_refl _) A0 c0 w hr0 hc0
  · cases h
def forest_Text.f (l0 : List (S60)) : Option (ByteArray × Int) := if few l0 = true then some (txtAns l0) else none
theorem forest_Text.calls (A0 : Option Addr) (c0 : Nat) (l0 : List (S60)) (r1 : ByteArray) (r2 : Int) (w : World) (hr0 : Kd.C k60 w A0 l0.length l0) (hc0 : l0.length ≤ c0) (h : forest_Text.f l0 = some (r1, r2)) (htab : Tab w) :
    Calls Tryd.prog 27 #[.slice A0 l0.length c0] w fun e w' => e = .returned (.tuple #[.string r1, .int .i64 r2]) ∧ Below w.heap.size w w' := by
  unfold forest_Text.f at h
  split at h
  · rename_i hf
    rw [few_iff] at hf
    have hx := text_calls l0 hf.1 1073741824 hf.2.1 (Nat.le_refl _) hf.2.2.1 hf.2.2.2 A0 c0 w hr0 hc0 htab
    rw [Option.some.inj h] at hx
    exact hx
  · cases h
def report_own.f (a0 : ByteArray) : Option Bool := if a0.size ≤ 4194304 then some (Own.nameOk a0) else none
theorem report_own.calls (a0 : ByteArray) (r : Bool) (w : World) (h : report_own.f a0 = some r) :
    Calls Tryd.prog 59 #[.string a0] w fun e w' => e = .returned (.bool r) ∧ Below w.heap.size w w' := by
  unfold report_own.f at h
  split at h
  · rename_i hf
    cases h
    exact own_calls a0 hf w
  · cases h
end Go.Proofs.YtloflodbcdlmpaaDoor.Qall
