/- A printed line is read back: the plain law. -/
import Derived.Test.YtkebableanenkaaDoorLine2
import Derived.Test.YtkebableanenkaaDoorText2
import Derived.Lib.ItoaNum
namespace Go.Proofs.YtkebableanenkaaDoor.Bk
open Go.RowKit Go.Proofs.YtkebableanenkaaDoor.Qall Go.Proofs.YtkebableanenkaaDoor.Ln Go.Proofs.YtkebableanenkaaDoor.Tx Go.Proofs.YtkebableanenkaaDoorW.PrintWords Go.Proofs.YtkebableanenkaaDoorW.PrintLast Go.Proofs.YtkebableanenkaaDoorW.PrintMore
set_option linter.unusedSimpArgs false
set_option linter.unusedVariables false
theorem u8_of (n : Nat) (h : n < 10) : (UInt8.ofNat (48 + n)).toNat = 48 + n := by
  simp [UInt8.toNat_ofNat']
  omega
theorem dig_of (n : Nat) (h : n < 10) : isDig (UInt8.ofNat (48 + n)) = true := by
  unfold isDig
  rw [u8_of n h]
  exact decide_eq_true (by omega)
theorem dd_dig : ∀ (m u : Nat), u ≤ m → ∀ b ∈ Lib.decDigits u, isDig b = true
  | m, u, hm, b, hb => by
    rw [Lib.decDigits] at hb
    split at hb
    · rename_i h
      rw [List.mem_singleton.1 hb]
      exact dig_of u h
    · rename_i h
      rcases List.mem_append.1 hb with hb | hb
      · cases m with
        | zero => omega
        | succ m => exact dd_dig m (u / 10) (by omega) b hb
      · rw [List.mem_singleton.1 hb]
        exact dig_of (u % 10) (by omega)
theorem val_snoc : ∀ (l : List UInt8) (b : UInt8) (n : Nat), val (l ++ [b]) n = 10 * val l n + (b.toNat - 48)
  | [], b, n => by simp [val]
  | a :: l, b, n => by rw [List.cons_append, val, val, val_snoc l b]
theorem dd_val : ∀ (m u : Nat), u ≤ m → val (Lib.decDigits u) 0 = u
  | m, u, hm => by
    rw [Lib.decDigits]
    split
    · rename_i h
      simp only [val]
      rw [u8_of u h]
      omega
    · rename_i h
      cases m with
      | zero => omega
      | succ m =>
        rw [val_snoc, dd_val m (u / 10) (by omega), u8_of (u % 10) (by omega)]
        omega
theorem dd_ne (u : Nat) : Lib.decDigits u ≠ [] := by
  rw [Lib.decDigits]
  split <;> simp
theorem dd_head : ∀ (m u : Nat), u ≤ m → 1 ≤ u → (Lib.decDigits u).head? ≠ some 48
  | m, u, hm, h1 => by
    rw [Lib.decDigits]
    split
    · rename_i h
      intro e
      have e2 : UInt8.ofNat (48 + u) = 48 := Option.some.inj e
      have := u8_of u h
      rw [e2] at this
      have h3 : (48 : UInt8).toNat = 48 := rfl
      omega
    · rename_i h
      cases m with
      | zero => omega
      | succ m =>
        have ih := dd_head m (u / 10) (by omega) (by omega)
        obtain ⟨x, l, hx⟩ := List.exists_cons_of_ne_nil (dd_ne (u / 10))
        rw [hx] at ih ⊢
        exact ih
theorem good_itoa (n : Int) (h0 : 0 ≤ n) (h1 : n ≤ 65536) : good (Lib.itoa n) ∧ val (Lib.itoa n) 0 = n.toNat := by
  have e : Lib.itoa n = Lib.decDigits n.toNat := by unfold Lib.itoa; rw [if_neg (by omega)]
  rw [e]
  have hv := dd_val n.toNat n.toNat (Nat.le_refl _)
  refine ⟨⟨dd_ne _, dd_dig n.toNat n.toNat (Nat.le_refl _), by omega, fun h => ?_⟩, hv⟩
  by_cases h2 : 1 ≤ n.toNat
  · exact dd_head n.toNat n.toNat (Nat.le_refl _) h2 h.1
  · have h3 : n.toNat = 0 := by omega
    rw [h3, Lib.decDigits, dif_pos (by omega)] at h
    simp at h
theorem num_itoa (n : Int) (h0 : 0 ≤ n) (h1 : n ≤ 65536) (s : ByteArray) (hs : s.data.toList = Lib.itoa n) : numAns s = (n, true) := by
  obtain ⟨hg, hv⟩ := good_itoa n h0 h1
  have h := numAns_good s
  rw [hs] at h
  have h2 := h.1.2 hg
  have h3 := h.2 h2
  rw [hv] at h3
  have h4 : (numAns s).1 = n := by omega
  exact Prod.ext h4 h2
theorem lead_rep (b : UInt8) (l : List UInt8) (hb : b ≠ 32) : ∀ z, lead (Lib.repeatL [32, 32] z ++ b :: l) = z
  | 0 => by
    show lead (b :: l) = 0
    cases l with
    | nil => rfl
    | cons c l => rw [lead, if_neg (fun h => hb h.1)]
  | z + 1 => by
    show lead (32 :: 32 :: (Lib.repeatL [32, 32] z ++ b :: l)) = z + 1
    rw [lead, if_pos ⟨rfl, rfl⟩, lead_rep b l hb z]
theorem drop_rep (l : List UInt8) (z : Nat) : (Lib.repeatL [32, 32] z ++ l).drop (2 * z) = l := by
  have h : (Lib.repeatL [32, 32] z).length = 2 * z := by rw [Lib.repeatL_length]; simp; omega
  rw [← h, List.drop_left]
/-- A line without its LF. -/
def bodyOf (c : S37) (z : Nat) : List UInt8 := Lib.repeatL [32, 32] z ++ (c.f0.data.toList ++ 32 :: (Lib.itoa c.f1 ++ 32 :: Lib.itoa c.f2))
theorem ln_body (c : S37) (z : Nat) : ln c (z : Int) = bodyOf c z ++ [10] := by
  unfold ln lnB bodyOf
  rw [Int.toNat_natCast]
  simp
theorem line_read (c : S37) (z : Nat) (hn : Own.nameOk c.f0 = true) (h1 : 0 ≤ c.f1 ∧ c.f1 ≤ 65536) (h2 : 0 ≤ c.f2 ∧ c.f2 ≤ 65536) (s : ByteArray) (hs : s.data.toList = bodyOf c z) :
    lineAns s = ((z : Int), c.f0, c.f1, c.f2, true) := by
  obtain ⟨hne, hall⟩ := nameOk_all c.f0 hn
  obtain ⟨b, nm, hnm⟩ : ∃ b nm, c.f0.data.toList = b :: nm := by
    cases h : c.f0.data.toList with
    | nil => exfalso; apply hne; rw [← data_length, h]; rfl
    | cons b nm => exact ⟨b, nm, rfl⟩
  have hb : b ≠ 32 := fun e => own_no _ hall (by rw [hnm, e]; exact List.mem_cons_self ..)
  have hlead : lead s.data.toList = z := by rw [hs]; unfold bodyOf; rw [hnm]; exact lead_rep b _ hb z
  have hrest : (restOf s).data.toList = c.f0.data.toList ++ 32 :: (Lib.itoa c.f1 ++ 32 :: Lib.itoa c.f2) := by
    unfold restOf
    rw [hlead, hs]
    exact drop_rep _ z
  have g1 := good_itoa c.f1 h1.1 h1.2
  have g2 := good_itoa c.f2 h2.1 h2.2
  have h3 := (three_iff (restOf s) c.f0.data.toList (Lib.itoa c.f1) (Lib.itoa c.f2)).2 ⟨hrest, own_no _ hall, dig_no _ g1.1.2.1, dig_no _ g2.1.2.1⟩
  obtain ⟨wa, wb, wc, hw, ea, eb, ec⟩ : ∃ wa wb wc, wordsOf (restOf s) = [wa, wb, wc] ∧ wa.data.toList = c.f0.data.toList ∧ wb.data.toList = Lib.itoa c.f1 ∧ wc.data.toList = Lib.itoa c.f2 := by
    match hw : wordsOf (restOf s) with
    | [] => rw [hw] at h3; cases h3
    | [_] => rw [hw] at h3; simp at h3
    | [_, _] => rw [hw] at h3; simp at h3
    | [wa, wb, wc] => rw [hw] at h3; simp only [List.map_cons, List.map_nil, List.cons.injEq, and_true] at h3; exact ⟨wa, wb, wc, rfl, h3.1, h3.2.1, h3.2.2⟩
    | _ :: _ :: _ :: _ :: _ => rw [hw] at h3; simp at h3
  have ea2 : wa = c.f0 := ByteArray.ext (Array.toList_inj.1 ea)
  have eb2 := num_itoa c.f1 h1.1 h1.2 wb eb
  have ec2 := num_itoa c.f2 h2.1 h2.2 wc ec
  unfold lineAns
  rw [hw]
  dsimp only
  rw [ea2, if_pos hn, eb2, ec2, hlead]
  rfl
theorem body_nolf (c : S37) (z : Nat) (hn : Own.nameOk c.f0 = true) (h1 : 0 ≤ c.f1 ∧ c.f1 ≤ 65536) (h2 : 0 ≤ c.f2 ∧ c.f2 ≤ 65536) : ∀ b ∈ bodyOf c z, (b != 10) = true := by
  have g1 := (good_itoa c.f1 h1.1 h1.2).1.2.1
  have g2 := (good_itoa c.f2 h2.1 h2.2).1.2.1
  have hd : ∀ b, isDig b = true → (b != 10) = true := fun b h => by
    have := of_decide_eq_true h
    refine bne_iff_ne.2 (fun e => ?_)
    rw [e] at this
    exact absurd this.1 (by decide)
  have hrep : ∀ z, ∀ b ∈ Lib.repeatL [32, 32] z, b = 32 := by
    intro z
    induction z with
    | zero => intro b hb; cases hb
    | succ z ih =>
      intro b hb
      rcases List.mem_append.1 hb with hb | hb
      · simpa using hb
      · exact ih b hb
  intro b hb
  unfold bodyOf at hb
  rcases List.mem_append.1 hb with hb | hb
  · rw [hrep z b hb]; decide
  · rcases List.mem_append.1 hb with hb | hb
    · have := of_decide_eq_true ((nameOk_all c.f0 hn).2 b hb)
      refine bne_iff_ne.2 (fun e => ?_)
      rw [e] at this
      exact absurd this (by decide)
    · rcases List.mem_cons.1 hb with rfl | hb
      · decide
      · rcases List.mem_append.1 hb with hb | hb
        · exact hd b (g1 b hb)
        · rcases List.mem_cons.1 hb with rfl | hb
          · decide
          · exact hd b (g2 b hb)
end Go.Proofs.YtkebableanenkaaDoor.Bk
