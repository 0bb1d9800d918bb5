/- Plain laws for the characters of a text: the reference's table reads as Go's own decoding of UTF-8. Conditions: as each theorem states. -/
import Derived.Test.YtkjckdgknbfaiaaPureB
namespace Go.Proofs.Ytkjckdgknbfaiaa.Qall
open Go.RowKit Go.Proofs.YtkjckdgknbfaiaaW.PrintWords Go.Proofs.YtkjckdgknbfaiaaW.PrintLast Go.Proofs.YtkjckdgknbfaiaaW.PrintMore
set_option linter.unusedSimpArgs false

theorem get_by (s : ByteArray) (i : Nat) : (s.get! i).toNat = by_ s.data.toList i := by
  unfold by_
  show (s.data[i]!).toNat = _
  rw [List.getD_eq_getElem?_getD, Array.getElem?_toList, getElem!_def]
  cases h : s.data[i]? <;> rfl
def decN (b0 b1 b2 b3 : Nat) (p1 p2 p3 : Bool) : Nat × Nat :=
  if b0 < 0x80 then (b0, 1)
  else if b0 / 32 == 6 && (p1 && b1 / 64 == 2) then
    (if (b0 % 32) * 64 + b1 % 64 ≥ 0x80 then ((b0 % 32) * 64 + b1 % 64, 2) else (0xFFFD, 1))
  else if b0 / 16 == 14 && (p1 && b1 / 64 == 2) && (p2 && b2 / 64 == 2) then
    (if (b0 % 16) * 4096 + (b1 % 64) * 64 + b2 % 64 ≥ 0x800 && Utf8.valid (((b0 % 16) * 4096 + (b1 % 64) * 64 + b2 % 64 : Nat) : Int) then ((b0 % 16) * 4096 + (b1 % 64) * 64 + b2 % 64, 3) else (0xFFFD, 1))
  else if b0 / 8 == 30 && (p1 && b1 / 64 == 2) && (p2 && b2 / 64 == 2) && (p3 && b3 / 64 == 2) then
    (if (b0 % 8) * 262144 + (b1 % 64) * 4096 + (b2 % 64) * 64 + b3 % 64 ≥ 0x10000 && Utf8.valid (((b0 % 8) * 262144 + (b1 % 64) * 4096 + (b2 % 64) * 64 + b3 % 64 : Nat) : Int) then ((b0 % 8) * 262144 + (b1 % 64) * 4096 + (b2 % 64) * 64 + b3 % 64, 4) else (0xFFFD, 1))
  else (0xFFFD, 1)
theorem decode_decN (s : ByteArray) (i : Nat) : Utf8.decode s i = decN (by_ s.data.toList i) (by_ s.data.toList (i + 1)) (by_ s.data.toList (i + 2)) (by_ s.data.toList (i + 3)) (decide (i + 1 < s.size)) (decide (i + 2 < s.size)) (decide (i + 3 < s.size)) := by
  unfold Utf8.decode decN
  simp only [get_by, Nat.add_zero]
  rfl
def inn (b lo hi : Nat) (p : Bool) : Bool := p && (decide (lo ≤ b) && decide (b ≤ hi))
theorem in_eq (s : ByteArray) (p lo hi : Nat) : dowelref02_in.f s (p : Int) (lo : Int) (hi : Int) = some (inn (by_ s.data.toList p) lo hi (decide (p < s.size))) := by
  unfold dowelref02_in.f inn
  rw [bt_by, Int.toNat_natCast]
  by_cases h : p < s.size
  · rw [if_pos (by omega), if_pos (by omega)]
    by_cases h1 : lo ≤ by_ s.data.toList p
    · rw [if_pos (by omega)]
      simp [h, h1]
    · rw [if_neg (by omega)]
      simp [h, h1]
  · rw [if_neg (by omega)]
    simp [h]
theorem tmod_byte (a m : Nat) (h : a < 256) : Int.tmod (wrap64 (a : Int)) (m : Int) = ((a % m : Nat) : Int) := by
  rw [wrap_of (by omega) (by omega)]
  rfl
theorem bits_eq (a : Nat) (h : a < 256) : dowelref02_bits.f (a : Int) = some ((a % 64 : Nat) : Int) := by
  unfold dowelref02_bits.f
  rw [show (64 : Int) = ((64 : Nat) : Int) from rfl, tmod_byte a 64 h]
/-- what the table says: the value and the length -/
def tab (b0 b1 b2 b3 : Nat) (s t f : Bool) : Nat × Nat :=
  if b0 ≤ 127 then (b0, 1)
  else if 194 ≤ b0 ∧ b0 ≤ 223 ∧ s = true then (b0 % 32 * 64 + b1 % 64, 2)
  else if 224 ≤ b0 ∧ b0 ≤ 239 ∧ s = true ∧ t = true then (b0 % 16 * 4096 + b1 % 64 * 64 + b2 % 64, 3)
  else if 240 ≤ b0 ∧ b0 ≤ 244 ∧ s = true ∧ t = true ∧ f = true then (b0 % 8 * 262144 + b1 % 64 * 4096 + b2 % 64 * 64 + b3 % 64, 4)
  else (65533, 1)
theorem inn_lt {b lo hi : Nat} {p : Bool} (h : inn b lo hi p = true) : p = true := by unfold inn at h; simp at h; exact h.1
theorem j3_eq (s : ByteArray) (hn : s.size ≤ 1073741824) (k p b0 : Nat) (hb0 : b0 < 256) (x : Bool) (h1 : x = true → p + 3 < s.size) :
    dowelref02_one.j3 (k + 1) s (p : Int) (b0 : Int) x = some (if x = true then ((p : Int), 4, ((b0 % 8 * 262144 + by_ s.data.toList (p + 1) % 64 * 4096 + by_ s.data.toList (p + 2) % 64 * 64 + by_ s.data.toList (p + 3) % 64 : Nat) : Int)) else ((p : Int), 1, 65533)) := by
  rw [dowelref02_one.j3]
  cases x with
  | false => rfl
  | true =>
    have hp := h1 rfl
    have l1 := by_lt s.data.toList (p + 1)
    have l2 := by_lt s.data.toList (p + 2)
    have l3 := by_lt s.data.toList (p + 3)
    have w1 : wrap64 ((p : Int) + 1) = ((p + 1 : Nat) : Int) := by rw [wrap_of (by omega) (by omega)]; rfl
    have w2 : wrap64 ((p : Int) + 2) = ((p + 2 : Nat) : Int) := by rw [wrap_of (by omega) (by omega)]; rfl
    have w3 : wrap64 ((p : Int) + 3) = ((p + 3 : Nat) : Int) := by rw [wrap_of (by omega) (by omega)]; rfl
    have hm : Int.tmod (wrap64 (b0 : Int)) 8 = ((b0 % 8 : Nat) : Int) := tmod_byte b0 8 hb0
    have e8 : b0 % 8 < 8 := Nat.mod_lt _ (by omega)
    rw [if_pos rfl, if_pos rfl, w1, w2, w3, if_pos (by omega), if_pos (by omega), bt_by, Int.toNat_natCast, bits_eq _ l1, Option.bind_some, if_pos (by omega), if_pos (by omega), bt_by, Int.toNat_natCast, bits_eq _ l2, Option.bind_some, if_pos (by omega), if_pos (by omega), bt_by, Int.toNat_natCast, bits_eq _ l3, Option.bind_some, hm]
    congr 3
    rw [wrap_of (i := ((b0 % 8 : Nat) : Int) * 262144) (by omega) (by omega), wrap_of (i := ((by_ s.data.toList (p + 1) % 64 : Nat) : Int) * 4096) (by omega) (by omega), wrap_of (i := ((by_ s.data.toList (p + 2) % 64 : Nat) : Int) * 64) (by omega) (by omega), wrap_of (i := ((b0 % 8 : Nat) : Int) * 262144 + ((by_ s.data.toList (p + 1) % 64 : Nat) : Int) * 4096) (by omega) (by omega), wrap_of (i := ((b0 % 8 : Nat) : Int) * 262144 + ((by_ s.data.toList (p + 1) % 64 : Nat) : Int) * 4096 + ((by_ s.data.toList (p + 2) % 64 : Nat) : Int) * 64) (by omega) (by omega), wrap_of (by omega) (by omega)]
    omega
theorem j2_eq (s : ByteArray) (hn : s.size ≤ 1073741824) (k p b0 : Nat) (hb0 : b0 < 256) (sc th fo x : Bool) (h1 : x = true → p + 2 < s.size) (h2 : sc = true → th = true → fo = true → p + 3 < s.size) :
    dowelref02_one.j2 (k + 2) s (p : Int) (b0 : Int) sc th fo x = some (if x = true then ((p : Int), 3, ((b0 % 16 * 4096 + by_ s.data.toList (p + 1) % 64 * 64 + by_ s.data.toList (p + 2) % 64 : Nat) : Int))
      else if 240 ≤ b0 ∧ b0 ≤ 244 ∧ sc = true ∧ th = true ∧ fo = true then ((p : Int), 4, ((b0 % 8 * 262144 + by_ s.data.toList (p + 1) % 64 * 4096 + by_ s.data.toList (p + 2) % 64 * 64 + by_ s.data.toList (p + 3) % 64 : Nat) : Int)) else ((p : Int), 1, 65533)) := by
  rw [dowelref02_one.j2]
  cases x with
  | true =>
    have hp := h1 rfl
    have l1 := by_lt s.data.toList (p + 1)
    have l2 := by_lt s.data.toList (p + 2)
    have w1 : wrap64 ((p : Int) + 1) = ((p + 1 : Nat) : Int) := by rw [wrap_of (by omega) (by omega)]; rfl
    have w2 : wrap64 ((p : Int) + 2) = ((p + 2 : Nat) : Int) := by rw [wrap_of (by omega) (by omega)]; rfl
    have hm : Int.tmod (wrap64 (b0 : Int)) 16 = ((b0 % 16 : Nat) : Int) := tmod_byte b0 16 hb0
    have e8 : b0 % 16 < 16 := Nat.mod_lt _ (by omega)
    rw [if_pos rfl, if_pos rfl, w1, w2, if_pos (by omega), if_pos (by omega), bt_by, Int.toNat_natCast, bits_eq _ l1, Option.bind_some, if_pos (by omega), if_pos (by omega), bt_by, Int.toNat_natCast, bits_eq _ l2, Option.bind_some, hm]
    congr 3
    rw [wrap_of (i := ((b0 % 16 : Nat) : Int) * 4096) (by omega) (by omega), wrap_of (i := ((by_ s.data.toList (p + 1) % 64 : Nat) : Int) * 64) (by omega) (by omega), wrap_of (i := ((b0 % 16 : Nat) : Int) * 4096 + ((by_ s.data.toList (p + 1) % 64 : Nat) : Int) * 64) (by omega) (by omega), wrap_of (by omega) (by omega)]
    omega
  | false =>
    rw [if_neg (by simp)]
    have go : ∀ x, (x = true → p + 3 < s.size) → dowelref02_one.j3 (k + 1) s (p : Int) (b0 : Int) x = _ := fun x hx => j3_eq s hn k p b0 hb0 x hx
    by_cases c1 : 240 ≤ b0
    · rw [if_pos (by omega)]
      by_cases c2 : b0 ≤ 244
      · rw [if_pos (by omega)]
        cases sc with
        | false => simp [go]
        | true =>
          cases th with
          | false => simp [go]
          | true =>
            cases fo with
            | false => simp [go]
            | true =>
              rw [if_pos rfl, if_pos rfl, go true (fun _ => h2 rfl rfl rfl)]
              simp [c1, c2]
      · rw [if_neg (by omega), go false (by simp)]
        simp [c2]
    · rw [if_neg (by omega), go false (by simp)]
      simp [c1]
theorem j1_eq (s : ByteArray) (hn : s.size ≤ 1073741824) (k p b0 : Nat) (hb0 : b0 < 256) (sc th fo x : Bool) (h0 : x = true → p + 1 < s.size) (h1 : sc = true → th = true → p + 2 < s.size) (h2 : sc = true → th = true → fo = true → p + 3 < s.size) :
    dowelref02_one.j1 (k + 3) s (p : Int) (b0 : Int) sc th fo x = some (if x = true then ((p : Int), 2, ((b0 % 32 * 64 + by_ s.data.toList (p + 1) % 64 : Nat) : Int))
      else if 224 ≤ b0 ∧ b0 ≤ 239 ∧ sc = true ∧ th = true then ((p : Int), 3, ((b0 % 16 * 4096 + by_ s.data.toList (p + 1) % 64 * 64 + by_ s.data.toList (p + 2) % 64 : Nat) : Int))
      else if 240 ≤ b0 ∧ b0 ≤ 244 ∧ sc = true ∧ th = true ∧ fo = true then ((p : Int), 4, ((b0 % 8 * 262144 + by_ s.data.toList (p + 1) % 64 * 4096 + by_ s.data.toList (p + 2) % 64 * 64 + by_ s.data.toList (p + 3) % 64 : Nat) : Int)) else ((p : Int), 1, 65533)) := by
  rw [dowelref02_one.j1]
  cases x with
  | true =>
    have hp := h0 rfl
    have l1 := by_lt s.data.toList (p + 1)
    have w1 : wrap64 ((p : Int) + 1) = ((p + 1 : Nat) : Int) := by rw [wrap_of (by omega) (by omega)]; rfl
    have hm : Int.tmod (wrap64 (b0 : Int)) 32 = ((b0 % 32 : Nat) : Int) := tmod_byte b0 32 hb0
    have e8 : b0 % 32 < 32 := Nat.mod_lt _ (by omega)
    rw [if_pos rfl, if_pos rfl, w1, if_pos (by omega), if_pos (by omega), bt_by, Int.toNat_natCast, bits_eq _ l1, Option.bind_some, hm]
    congr 3
    rw [wrap_of (i := ((b0 % 32 : Nat) : Int) * 64) (by omega) (by omega), wrap_of (by omega) (by omega)]
    omega
  | false =>
    rw [if_neg (show ¬ (false = true) by simp), if_neg (show ¬ (false = true) by simp)]
    have go : ∀ x, (x = true → p + 2 < s.size) → dowelref02_one.j2 (k + 2) s (p : Int) (b0 : Int) sc th fo x = _ := fun x hx => j2_eq s hn k p b0 hb0 sc th fo x hx h2
    by_cases c1 : 224 ≤ b0
    · rw [if_pos (by omega)]
      by_cases c2 : b0 ≤ 239
      · rw [if_pos (by omega)]
        cases hs : sc with
        | false =>
          subst hs
          rw [if_neg (by simp), go false (by simp)]
          simp
        | true =>
          subst hs
          cases ht : th with
          | false =>
            subst ht
            rw [if_pos rfl, go false (by simp)]
            simp
          | true =>
            subst ht
            rw [if_pos rfl, go true (fun _ => h1 rfl rfl), if_pos rfl, if_pos ⟨c1, c2, rfl, rfl⟩]
      · rw [if_neg (by omega), go false (by simp), if_neg (show ¬ (false = true) by simp), if_neg (show ¬ (224 ≤ b0 ∧ b0 ≤ 239 ∧ sc = true ∧ th = true) from fun h => c2 h.2.1)]
    · rw [if_neg (by omega), go false (by simp), if_neg (show ¬ (false = true) by simp), if_neg (show ¬ (224 ≤ b0 ∧ b0 ≤ 239 ∧ sc = true ∧ th = true) from fun h => c1 h.1)]
theorem j0_eq (s : ByteArray) (hn : s.size ≤ 1073741824) (k p b0 lo hi : Nat) (hp : p < s.size) (hb0 : b0 < 256) :
    dowelref02_one.j0 (k + 4) s (p : Int) (b0 : Int) (lo : Int) (hi : Int) =
      some ((p : Int), ((tab b0 (by_ s.data.toList (p + 1)) (by_ s.data.toList (p + 2)) (by_ s.data.toList (p + 3)) (inn (by_ s.data.toList (p + 1)) lo hi (decide (p + 1 < s.size))) (inn (by_ s.data.toList (p + 2)) 128 191 (decide (p + 2 < s.size))) (inn (by_ s.data.toList (p + 3)) 128 191 (decide (p + 3 < s.size)))).2 : Int),
        ((tab b0 (by_ s.data.toList (p + 1)) (by_ s.data.toList (p + 2)) (by_ s.data.toList (p + 3)) (inn (by_ s.data.toList (p + 1)) lo hi (decide (p + 1 < s.size))) (inn (by_ s.data.toList (p + 2)) 128 191 (decide (p + 2 < s.size))) (inn (by_ s.data.toList (p + 3)) 128 191 (decide (p + 3 < s.size)))).1 : Int)) := by
  rw [dowelref02_one.j0]
  have w1 : wrap64 ((p : Int) + 1) = ((p + 1 : Nat) : Int) := by rw [wrap_of (by omega) (by omega)]; rfl
  have w2 : wrap64 ((p : Int) + 2) = ((p + 2 : Nat) : Int) := by rw [wrap_of (by omega) (by omega)]; rfl
  have w3 : wrap64 ((p : Int) + 3) = ((p + 3 : Nat) : Int) := by rw [wrap_of (by omega) (by omega)]; rfl
  have i2 := in_eq s (p + 2) 128 191
  have i3 := in_eq s (p + 3) 128 191
  rw [w1, w2, w3, in_eq, Option.bind_some, show (128 : Int) = ((128 : Nat) : Int) from rfl, show (191 : Int) = ((191 : Nat) : Int) from rfl, i2, Option.bind_some, i3, Option.bind_some]
  have q1 : inn (by_ s.data.toList (p + 1)) lo hi (decide (p + 1 < s.size)) = true → p + 1 < s.size := fun h => of_decide_eq_true (inn_lt h)
  have q2 : inn (by_ s.data.toList (p + 2)) 128 191 (decide (p + 2 < s.size)) = true → p + 2 < s.size := fun h => of_decide_eq_true (inn_lt h)
  have q3 : inn (by_ s.data.toList (p + 3)) 128 191 (decide (p + 3 < s.size)) = true → p + 3 < s.size := fun h => of_decide_eq_true (inn_lt h)
  generalize inn (by_ s.data.toList (p + 1)) lo hi (decide (p + 1 < s.size)) = sc at q1 ⊢
  generalize inn (by_ s.data.toList (p + 2)) 128 191 (decide (p + 2 < s.size)) = th at q2 ⊢
  generalize inn (by_ s.data.toList (p + 3)) 128 191 (decide (p + 3 < s.size)) = fo at q3 ⊢
  unfold tab
  by_cases c0 : b0 ≤ 127
  · rw [if_pos (by omega), if_pos c0, wrap_of (by omega) (by omega)]
    rfl
  · rw [if_neg (by omega), if_neg c0]
    have go : ∀ x, (x = true → p + 1 < s.size) → dowelref02_one.j1 (k + 3) s (p : Int) (b0 : Int) sc th fo x = _ := fun x hx => j1_eq s hn k p b0 hb0 sc th fo x hx (fun _ h => q2 h) (fun _ _ h => q3 h)
    have fin : ∀ x : Bool, (x = true ↔ (194 ≤ b0 ∧ b0 ≤ 223 ∧ sc = true)) → (if x = true then ((p : Int), (2 : Int), ((b0 % 32 * 64 + by_ s.data.toList (p + 1) % 64 : Nat) : Int))
      else if 224 ≤ b0 ∧ b0 ≤ 239 ∧ sc = true ∧ th = true then ((p : Int), 3, ((b0 % 16 * 4096 + by_ s.data.toList (p + 1) % 64 * 64 + by_ s.data.toList (p + 2) % 64 : Nat) : Int))
      else if 240 ≤ b0 ∧ b0 ≤ 244 ∧ sc = true ∧ th = true ∧ fo = true then ((p : Int), 4, ((b0 % 8 * 262144 + by_ s.data.toList (p + 1) % 64 * 4096 + by_ s.data.toList (p + 2) % 64 * 64 + by_ s.data.toList (p + 3) % 64 : Nat) : Int)) else ((p : Int), 1, 65533)) =
      ((p : Int), ((if 194 ≤ b0 ∧ b0 ≤ 223 ∧ sc = true then (b0 % 32 * 64 + by_ s.data.toList (p + 1) % 64, 2)
        else if 224 ≤ b0 ∧ b0 ≤ 239 ∧ sc = true ∧ th = true then (b0 % 16 * 4096 + by_ s.data.toList (p + 1) % 64 * 64 + by_ s.data.toList (p + 2) % 64, 3)
        else if 240 ≤ b0 ∧ b0 ≤ 244 ∧ sc = true ∧ th = true ∧ fo = true then (b0 % 8 * 262144 + by_ s.data.toList (p + 1) % 64 * 4096 + by_ s.data.toList (p + 2) % 64 * 64 + by_ s.data.toList (p + 3) % 64, 4)
        else (65533, 1) : Nat × Nat).2 : Int), ((if 194 ≤ b0 ∧ b0 ≤ 223 ∧ sc = true then (b0 % 32 * 64 + by_ s.data.toList (p + 1) % 64, 2)
        else if 224 ≤ b0 ∧ b0 ≤ 239 ∧ sc = true ∧ th = true then (b0 % 16 * 4096 + by_ s.data.toList (p + 1) % 64 * 64 + by_ s.data.toList (p + 2) % 64, 3)
        else if 240 ≤ b0 ∧ b0 ≤ 244 ∧ sc = true ∧ th = true ∧ fo = true then (b0 % 8 * 262144 + by_ s.data.toList (p + 1) % 64 * 4096 + by_ s.data.toList (p + 2) % 64 * 64 + by_ s.data.toList (p + 3) % 64, 4)
        else (65533, 1) : Nat × Nat).1 : Int)) := by
      intro x hx
      by_cases g1 : 194 ≤ b0 ∧ b0 ≤ 223 ∧ sc = true
      · rw [if_pos (hx.2 g1), if_pos g1]; rfl
      · rw [if_neg (fun h => g1 (hx.1 h)), if_neg g1]
        by_cases g2 : 224 ≤ b0 ∧ b0 ≤ 239 ∧ sc = true ∧ th = true
        · rw [if_pos g2, if_pos g2]; rfl
        · rw [if_neg g2, if_neg g2]
          by_cases g3 : 240 ≤ b0 ∧ b0 ≤ 244 ∧ sc = true ∧ th = true ∧ fo = true
          · rw [if_pos g3, if_pos g3]; rfl
          · rw [if_neg g3, if_neg g3]; rfl
    by_cases c1 : 194 ≤ b0
    · rw [if_pos (by omega)]
      by_cases c2 : b0 ≤ 223
      · rw [if_pos (by omega), go sc q1, fin sc (by simp [c1, c2])]
      · rw [if_neg (by omega), go false (by simp), fin false (by simp [c2])]
    · rw [if_neg (by omega), go false (by simp), fin false (by simp [c1])]
theorem valid_iff (c : Nat) : Utf8.valid (c : Int) = true ↔ (c < 0xD800 ∨ (0xE000 ≤ c ∧ c ≤ 0x10FFFF)) := by
  unfold Utf8.valid
  simp
  omega
def lowOf (b0 : Nat) : Nat := if b0 = 224 then 160 else if b0 = 240 then 144 else 128
def highOf (b0 : Nat) : Nat := if b0 = 237 then 159 else if b0 = 244 then 143 else 191
theorem inn_iff (b lo hi : Nat) (p : Bool) : inn b lo hi p = true ↔ (p = true ∧ lo ≤ b ∧ b ≤ hi) := by unfold inn; simp
theorem tab_decN (b0 b1 b2 b3 : Nat) (h0 : b0 < 256) (h1 : b1 < 256) (h2 : b2 < 256) (h3 : b3 < 256) (p1 p2 p3 : Bool) :
    tab b0 b1 b2 b3 (inn b1 (lowOf b0) (highOf b0) p1) (inn b2 128 191 p2) (inn b3 128 191 p3) = decN b0 b1 b2 b3 p1 p2 p3 := by
  have c1 : (p1 && b1 / 64 == 2) = true ↔ (p1 = true ∧ 128 ≤ b1 ∧ b1 ≤ 191) := by simp; intro _; omega
  have c2 : (p2 && b2 / 64 == 2) = true ↔ (p2 = true ∧ 128 ≤ b2 ∧ b2 ≤ 191) := by simp; intro _; omega
  have c3 : (p3 && b3 / 64 == 2) = true ↔ (p3 = true ∧ 128 ≤ b3 ∧ b3 ≤ 191) := by simp; intro _; omega
  unfold tab decN
  by_cases a0 : b0 ≤ 127
  · rw [if_pos a0, if_pos (show b0 < 128 by omega)]
  · rw [if_neg a0, if_neg (show ¬ b0 < 128 by omega)]
    generalize hq1 : (p1 && b1 / 64 == 2) = q1 at c1
    generalize hq2 : (p2 && b2 / 64 == 2) = q2 at c2
    generalize hq3 : (p3 && b3 / 64 == 2) = q3 at c3
    by_cases a1 : b0 < 224
    · rw [if_neg (show ¬ (224 ≤ b0 ∧ _) from fun h => absurd h.1 (by omega)), if_neg (show ¬ (240 ≤ b0 ∧ _) from fun h => absurd h.1 (by omega))]
      by_cases a2 : 194 ≤ b0
      · have elo : lowOf b0 = 128 := by unfold lowOf; rw [if_neg (by omega), if_neg (by omega)]
        have ehi : highOf b0 = 191 := by unfold highOf; rw [if_neg (by omega), if_neg (by omega)]
        rw [elo, ehi]
        have e6 : (b0 / 32 == 6) = true := by rw [beq_iff_eq]; omega
        cases hq : q1 with
        | true =>
          obtain ⟨z1, z2, z3⟩ := c1.1 hq
          rw [if_pos ⟨a2, by omega, (inn_iff _ _ _ _).2 ⟨z1, z2, z3⟩⟩, if_pos (by simp [e6]), if_pos (by omega)]
        | false =>
          rw [if_neg (fun h => by
            have := c1.2 ((inn_iff _ _ _ _).1 h.2.2)
            rw [hq] at this; cases this), if_neg (by simp), if_neg (by simp), if_neg (by simp)]
      · rw [if_neg (fun h => by omega)]
        by_cases e6 : b0 / 32 = 6
        · cases q1 with
          | true => rw [if_pos (by simp [e6]), if_neg (by omega)]
          | false => rw [if_neg (by simp), if_neg (by simp), if_neg (by simp)]
        · rw [if_neg (by simp [e6]), if_neg (by simp; intro h; omega), if_neg (by simp; intro h; omega)]
    · rw [if_neg (show ¬ (194 ≤ b0 ∧ b0 ≤ 223 ∧ _) from fun h => absurd h.2.1 (by omega)), if_neg (show ¬ ((b0 / 32 == 6 && q1) = true) from fun h => by simp at h; omega)]
      by_cases a2 : b0 ≤ 239
      · rw [if_neg (show ¬ (240 ≤ b0 ∧ _) from fun h => absurd h.1 (by omega))]
        have e14 : (b0 / 16 == 14) = true := by rw [beq_iff_eq]; omega
        cases hq : q1 with
        | false =>
          have hne : ¬ inn b1 (lowOf b0) (highOf b0) p1 = true := fun h => by
            obtain ⟨z1, z2, z3⟩ := (inn_iff _ _ _ _).1 h
            have hl : 128 ≤ lowOf b0 := by unfold lowOf; split <;> (try split) <;> omega
            have hh : highOf b0 ≤ 191 := by unfold highOf; split <;> (try split) <;> omega
            have := c1.2 ⟨z1, by omega, by omega⟩
            rw [hq] at this; cases this
          rw [if_neg (fun h => hne h.2.2.1), if_neg (by simp), if_neg (by simp)]
        | true =>
          obtain ⟨z1, z2, z3⟩ := c1.1 hq
          cases hr : q2 with
          | false =>
            rw [if_neg (fun h => by
              have := c2.2 ((inn_iff _ _ _ _).1 h.2.2.2)
              rw [hr] at this; cases this), if_neg (by simp), if_neg (by simp)]
          | true =>
            obtain ⟨y1, y2, y3⟩ := c2.1 hr
            rw [if_pos (show (b0 / 16 == 14 && true && true) = true by simp [e14])]
            have hv := valid_iff (b0 % 16 * 4096 + b1 % 64 * 64 + b2 % 64)
            by_cases hin : lowOf b0 ≤ b1 ∧ b1 ≤ highOf b0
            · rw [if_pos ⟨by omega, a2, (inn_iff _ _ _ _).2 ⟨z1, hin.1, hin.2⟩, (inn_iff _ _ _ _).2 ⟨y1, y2, y3⟩⟩, if_pos]
              rw [Bool.and_eq_true, decide_eq_true_iff, hv]
              obtain ⟨i1, i2⟩ := hin
              unfold lowOf at i1
              unfold highOf at i2
              split at i1
              · split at i2 <;> (try split at i2) <;> omega
              · split at i1
                · omega
                · split at i2 <;> (try split at i2) <;> omega
            · rw [if_neg (fun h => hin (by obtain ⟨w1, w2, w3⟩ := (inn_iff _ _ _ _).1 h.2.2.1; exact ⟨w2, w3⟩)), if_neg]
              rw [Bool.and_eq_true, decide_eq_true_iff, hv]
              intro hc
              apply hin
              unfold lowOf highOf
              constructor
              · split
                · omega
                · split <;> omega
              · split
                · omega
                · split <;> omega
      · rw [if_neg (show ¬ (224 ≤ b0 ∧ b0 ≤ 239 ∧ _) from fun h => absurd h.2.1 (by omega)), if_neg (show ¬ ((b0 / 16 == 14 && q1 && q2) = true) from fun h => by simp at h; omega)]
        cases hq : q1 with
        | false =>
          have hne : ¬ inn b1 (lowOf b0) (highOf b0) p1 = true := fun h => by
            obtain ⟨z1, z2, z3⟩ := (inn_iff _ _ _ _).1 h
            have hl : 128 ≤ lowOf b0 := by unfold lowOf; split <;> (try split) <;> omega
            have hh : highOf b0 ≤ 191 := by unfold highOf; split <;> (try split) <;> omega
            have := c1.2 ⟨z1, by omega, by omega⟩
            rw [hq] at this; cases this
          rw [if_neg (fun h => hne h.2.2.1), if_neg (by simp)]
        | true =>
          obtain ⟨z1, z2, z3⟩ := c1.1 hq
          cases hr : q2 with
          | false =>
            rw [if_neg (fun h => by
              have := c2.2 ((inn_iff _ _ _ _).1 h.2.2.2.1)
              rw [hr] at this; cases this), if_neg (by simp)]
          | true =>
            obtain ⟨y1, y2, y3⟩ := c2.1 hr
            cases ht : q3 with
            | false =>
              rw [if_neg (fun h => by
                have := c3.2 ((inn_iff _ _ _ _).1 h.2.2.2.2)
                rw [ht] at this; cases this), if_neg (by simp)]
            | true =>
              obtain ⟨x1, x2, x3⟩ := c3.1 ht
              by_cases e30 : b0 / 8 = 30
              · rw [if_pos (show (b0 / 8 == 30 && true && true && true) = true by simp [e30])]
                have hv := valid_iff (b0 % 8 * 262144 + b1 % 64 * 4096 + b2 % 64 * 64 + b3 % 64)
                by_cases hin : b0 ≤ 244 ∧ lowOf b0 ≤ b1 ∧ b1 ≤ highOf b0
                · rw [if_pos ⟨by omega, hin.1, (inn_iff _ _ _ _).2 ⟨z1, hin.2.1, hin.2.2⟩, (inn_iff _ _ _ _).2 ⟨y1, y2, y3⟩, (inn_iff _ _ _ _).2 ⟨x1, x2, x3⟩⟩, if_pos]
                  rw [Bool.and_eq_true, decide_eq_true_iff, hv]
                  obtain ⟨i0, i1, i2⟩ := hin
                  unfold lowOf at i1
                  unfold highOf at i2
                  split at i1
                  · omega
                  · split at i1
                    · split at i2 <;> (try split at i2) <;> omega
                    · split at i2 <;> (try split at i2) <;> omega
                · rw [if_neg (fun h => hin (by obtain ⟨w1, w2, w3⟩ := (inn_iff _ _ _ _).1 h.2.2.1; exact ⟨h.2.1, w2, w3⟩)), if_neg]
                  rw [Bool.and_eq_true, decide_eq_true_iff, hv]
                  intro hc
                  apply hin
                  unfold lowOf highOf
                  refine ⟨by omega, ?_, ?_⟩
                  · split
                    · omega
                    · split <;> omega
                  · split
                    · omega
                    · split <;> omega
              · rw [if_neg (show ¬ (240 ≤ b0 ∧ b0 ≤ 244 ∧ _) from fun h => absurd h (fun h => by have h1 := h.1; have h2 := h.2.1; omega)), if_neg (by simp [e30])]
theorem one_eq (s : ByteArray) (hn : s.size ≤ 1073741824) (k p : Nat) (hp : p < s.size) : dowelref02_one.f (k + 4) s (p : Int) = some ((p : Int), ((Utf8.decode s p).2 : Int), ((Utf8.decode s p).1 : Int)) := by
  have hb := by_lt s.data.toList p
  unfold dowelref02_one.f
  rw [if_pos (by omega), if_pos (by omega), bt_by, Int.toNat_natCast]
  have key : dowelref02_one.j0 (k + 4) s (p : Int) (by_ s.data.toList p : Int) (lowOf (by_ s.data.toList p) : Int) (highOf (by_ s.data.toList p) : Int) = some ((p : Int), ((Utf8.decode s p).2 : Int), ((Utf8.decode s p).1 : Int)) := by
    rw [j0_eq s hn k p _ _ _ hp hb, tab_decN _ _ _ _ hb (by_lt _ _) (by_lt _ _) (by_lt _ _), ← decode_decN]
  rw [← key]
  unfold lowOf highOf
  by_cases e1 : by_ s.data.toList p = 224
  · rw [if_pos (by omega), if_pos e1, if_neg (by omega), if_neg (by omega)]; rfl
  · rw [if_neg (by omega), if_neg e1]
    by_cases e2 : by_ s.data.toList p = 237
    · rw [if_pos (by omega), if_neg (by omega), if_pos e2]; rfl
    · rw [if_neg (by omega), if_neg e2]
      by_cases e3 : by_ s.data.toList p = 240
      · rw [if_pos (by omega), if_pos e3, if_neg (by omega)]; rfl
      · rw [if_neg (by omega), if_neg e3]
        by_cases e4 : by_ s.data.toList p = 244
        · rw [if_pos (by omega), if_pos e4]; rfl
        · rw [if_neg (by omega), if_neg e4]; rfl
theorem width_pos (s : ByteArray) (p : Nat) (hp : p < s.size) : 1 ≤ (Utf8.decode s p).2 := Lib.decode_width_pos s p hp
theorem width_le (s : ByteArray) (p : Nat) (hp : p < s.size) : p + (Utf8.decode s p).2 ≤ s.size := by
  rw [decode_decN]
  unfold decN
  repeat' split
  all_goals simp_all
  all_goals omega
theorem width_four (s : ByteArray) (p : Nat) : (Utf8.decode s p).2 ≤ 4 := by
  rw [decode_decN]
  unfold decN
  repeat' split
  all_goals simp_all
end Go.Proofs.Ytkjckdgknbfaiaa.Qall
