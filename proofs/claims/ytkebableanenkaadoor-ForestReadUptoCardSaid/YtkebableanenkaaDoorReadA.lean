/- A line that is read is the line that is printed of it: the plain law. -/
import Derived.Test.YtkebableanenkaaDoorBackA
namespace Go.Proofs.YtkebableanenkaaDoor.Rdb
open Go.RowKit Go.Proofs.YtkebableanenkaaDoor.Qall Go.Proofs.YtkebableanenkaaDoor.Ln Go.Proofs.YtkebableanenkaaDoor.Tx Go.Proofs.YtkebableanenkaaDoor.Bk Go.Proofs.YtkebableanenkaaDoorW.PrintWords Go.Proofs.YtkebableanenkaaDoorW.PrintLast Go.Proofs.YtkebableanenkaaDoorW.PrintMore
set_option linter.unusedSimpArgs false
set_option linter.unusedVariables false
theorem lead_split : ∀ (n : Nat) (l : List UInt8), l.length ≤ n → l = Lib.repeatL [32, 32] (lead l) ++ l.drop (2 * lead l)
  | 0, l, h => by
    obtain rfl : l = [] := List.length_eq_zero_iff.1 (by omega)
    rfl
  | n + 1, [], _ => rfl
  | n + 1, [a], _ => rfl
  | n + 1, a :: b :: l, h => by
    rw [lead]
    split
    · rename_i hab
      have ih := lead_split n l (by simp at h; omega)
      show _ = 32 :: 32 :: (Lib.repeatL [32, 32] (lead l) ++ (a :: b :: l).drop (2 * (lead l + 1)))
      rw [show 2 * (lead l + 1) = 2 * lead l + 1 + 1 by omega, List.drop_succ_cons, List.drop_succ_cons, ← ih, hab.1, hab.2]
    · rfl
theorem val_pos : ∀ (l : List UInt8) (n : Nat), 1 ≤ n → 1 ≤ val l n
  | [], n, h => h
  | b :: l, n, h => by
    rw [val]
    exact val_pos l _ (by omega)
/-- Digits without a needless 0 ahead are the number's own. -/
theorem dd_back : ∀ (n : Nat) (l : List UInt8), l.length ≤ n → l ≠ [] → (∀ b ∈ l, isDig b = true) → ¬ (l.head? = some 48 ∧ 1 < l.length) → Lib.decDigits (val l 0) = l
  | 0, l, h, hne, _, _ => by exact absurd (List.length_eq_zero_iff.1 (by omega)) hne
  | n + 1, l, h, hne, hd, h0 => by
    obtain ⟨m, b, rfl⟩ : ∃ m b, l = m ++ [b] := ⟨l.dropLast, l.getLast hne, (List.dropLast_concat_getLast hne).symm⟩
    have hb := of_decide_eq_true (hd b (by simp))
    rw [val_snoc]
    have hbe : UInt8.ofNat (48 + (b.toNat - 48)) = b := by
      apply UInt8.toNat_inj.1
      rw [u8_of _ (by omega)]
      omega
    by_cases hm : m = []
    · subst hm
      simp only [val, List.nil_append]
      rw [Nat.mul_zero, Nat.zero_add, Lib.decDigits, dif_pos (by omega), hbe]
    · obtain ⟨x, r, rfl⟩ := List.exists_cons_of_ne_nil hm
      have hx48 : x ≠ 48 := fun e => h0 ⟨by rw [e]; rfl, by simp⟩
      have hx := of_decide_eq_true (hd x (by simp))
      have hx2 : x.toNat ≠ 48 := fun e => hx48 (UInt8.toNat_inj.1 e)
      have hpos : 1 ≤ val (x :: r) 0 := by rw [val]; exact val_pos r _ (by omega)
      have ih := dd_back n (x :: r) (by simp at h ⊢; omega) (by simp) (fun c hc => hd c (List.mem_append_left _ hc)) (fun hh => hx48 (Option.some.inj hh.1))
      rw [Lib.decDigits, dif_neg (by omega), show (10 * val (x :: r) 0 + (b.toNat - 48)) / 10 = val (x :: r) 0 by omega, ih, show (10 * val (x :: r) 0 + (b.toNat - 48)) % 10 = b.toNat - 48 by omega, hbe]
theorem num_back (s : ByteArray) (h : (numAns s).2 = true) : s.data.toList = Lib.itoa (numAns s).1 ∧ 0 ≤ (numAns s).1 ∧ (numAns s).1 ≤ 65536 := by
  obtain ⟨hg, hv⟩ := numAns_good s
  have g := hg.1 h
  rw [hv h]
  refine ⟨?_, by omega, by have := g.2.2.1; omega⟩
  unfold Lib.itoa
  rw [if_neg (by omega), Int.toNat_natCast]
  exact (dd_back _ s.data.toList (Nat.le_refl _) g.1 g.2.1 g.2.2.2).symm
theorem line_ok (s : ByteArray) (h : (lineAns s).2.2.2.2 = true) : ∃ a b c, wordsOf (restOf s) = [a, b, c] ∧ Own.nameOk a = true ∧ (numAns b).2 = true ∧ (numAns c).2 = true ∧ lineAns s = ((lead s.data.toList : Int), a, (numAns b).1, (numAns c).1, true) := by
  unfold lineAns at h ⊢
  split at h
  · rename_i a b c hw
    by_cases hn : Own.nameOk a = true
    · rw [if_pos hn] at h
      have h2 : ((numAns b).2 && (numAns c).2) = true := h
      have h3 := Bool.and_eq_true_iff.1 h2
      exact ⟨a, b, c, hw, hn, h3.1, h3.2, by rw [if_pos hn, h2]⟩
    · rw [if_neg hn] at h
      cases h
  · cases h
theorem line_back2 (s : ByteArray) (h : (lineAns s).2.2.2.2 = true) : ∃ d : Nat, (lineAns s).1 = (d : Int) ∧ s.data.toList = bodyOf ⟨(lineAns s).2.1, (lineAns s).2.2.1, (lineAns s).2.2.2.1, 0⟩ d ∧
    Own.nameOk (lineAns s).2.1 = true ∧ (0 ≤ (lineAns s).2.2.1 ∧ (lineAns s).2.2.1 ≤ 65536) ∧ (0 ≤ (lineAns s).2.2.2.1 ∧ (lineAns s).2.2.2.1 ≤ 65536) := by
  obtain ⟨a, b, c, hw, hn, hb, hc, hans⟩ := line_ok s h
  rw [hans]
  have h3 := (three_iff (restOf s) a.data.toList b.data.toList c.data.toList).1 (by rw [hw]; rfl)
  obtain ⟨eb, b1, b2⟩ := num_back b hb
  obtain ⟨ec, c1, c2⟩ := num_back c hc
  refine ⟨lead s.data.toList, rfl, ?_, hn, ⟨b1, b2⟩, ⟨c1, c2⟩⟩
  unfold bodyOf
  dsimp only
  rw [← eb, ← ec, ← h3.1]
  have := lead_split _ s.data.toList (Nat.le_refl _)
  unfold restOf
  exact this
end Go.Proofs.YtkebableanenkaaDoor.Rdb
