/- The pure statements of PlaceSpots, PlaceBack, PlaceRises and PlaceJoins: the printed laws answer true. Conditions: a text of at most 2^30 bytes; numbers are Go ints. -/
import Derived.Test.YtkjckdgknbfaiaaPureE
import Derived.Test.YtkjckdgknbfaiaaSayPlaceSpots
import Derived.Test.YtkjckdgknbfaiaaSayPlaceBack
import Derived.Test.YtkjckdgknbfaiaaSayPlaceRises
import Derived.Test.YtkjckdgknbfaiaaSayPlaceJoins
namespace Go.Proofs.Ytkjckdgknbfaiaa.Qall
open Go.RowKit Go.Proofs.YtkjckdgknbfaiaaW.PrintWords Go.Proofs.YtkjckdgknbfaiaaW.PrintLast Go.Proofs.YtkjckdgknbfaiaaW.PrintMore
set_option linter.unusedSimpArgs false

theorem spotAns_ok (s : ByteArray) (at_ : Int) : (spotAns s at_).2.2.2 = if at_ < 0 ∨ (s.size : Int) < at_ then 5 else 0 := by
  unfold spotAns
  split <;> rfl
theorem PlaceSpots_any (s : ByteArray) (hn : s.size ≤ 1073741824) (at_ : Int) : ∃ k, dowellaw02_PlaceSpots.f k s at_ = some true := by
  refine ⟨s.size + 10, ?_⟩
  unfold dowellaw02_PlaceSpots.f
  rw [spot_eq s hn at_ _ (by omega), Option.bind_some, refSpot_eq s hn at_ _ (by omega), Option.bind_some, if_neg (by simp), show s.size + 10 = (s.size + 9) + 1 from rfl, dowellaw02_PlaceSpots.j0, if_neg (by simp), spot_eq s hn _ _ (by omega), Option.bind_some, refSpot_eq s hn _ _ (by omega), Option.bind_some, if_pos (by rw [spotAns_ok, if_neg (by omega)])]
  simp
theorem PlaceSpots_pure : PlaceSpots.Upto := fun s at_ hm _ => PlaceSpots_any s (by omega) at_
theorem works_ev : ∃ k, dowellaw02_works.f k = some true := ⟨24, by decide +kernel⟩
theorem works_at : ∃ K, ∀ k, K ≤ k → dowellaw02_works.f k = some true := by
  obtain ⟨k, h⟩ := works_ev
  exact Ev.of dowellaw02_works.mono h
theorem ls_const (l : List UInt8) (b : Nat) : ∀ d, (∀ j, b ≤ j → j < b + d → by_ l j ≠ 10) → ls l (b + d) = ls l b
  | 0, _ => rfl
  | d + 1, h => by
    rw [← Nat.add_assoc, ls, if_neg (h (b + d) (by omega) (by omega))]
    exact ls_const l b d (fun j h1 h2 => h j h1 (by omega))
/-- places of one line -/
theorem in_line (l : List UInt8) (b n : Nat) (hb : b ≤ n) (hn : n ≤ nextLF l b) (hl : n ≤ l.length) : ls l n = ls l b ∧ cnt l n = cnt l b := by
  have hf : ∀ j, b ≤ j → j < b + (n - b) → by_ l j ≠ 10 := fun j h1 h2 => nextLF_free l b j h1 (by omega)
  have e1 := ls_const l b (n - b) hf
  have e2 := cnt_free l b (n - b) (by omega) hf
  rw [show b + (n - b) = n from by omega] at e1 e2
  exact ⟨e1, e2⟩
theorem at_spot (s : ByteArray) (a : Nat) (ha : a ≤ s.size) : atAns s.data.toList ((cnt s.data.toList a : Int) + 1) ((a : Int) - ls s.data.toList a + 1) = ((a : Int), 0) := by
  have hl := ls_le s.data.toList a
  have hg := nextLF_ge s.data.toList a
  have hst := start_ls s.data.toList a (by rw [← size_list]; exact ha)
  have hnl := nextLF_ls s.data.toList a (by rw [← size_list]; exact ha)
  have e : lineAt s.data.toList ((cnt s.data.toList a : Int) + 1) = some (ls s.data.toList a) := by
    unfold lineAt
    rw [if_neg (by omega), show ((cnt s.data.toList a : Int) + 1 - 1).toNat = cnt s.data.toList a from by omega, hst]
  unfold atAns
  rw [e]
  show (if (a : Int) - ls s.data.toList a + 1 < 1 ∨ (nextLF s.data.toList (ls s.data.toList a) : Int) - ls s.data.toList a + 1 < (a : Int) - ls s.data.toList a + 1 then _ else _) = _
  rw [hnl, if_neg (by omega)]
  congr 1
  omega
theorem spot_at (s : ByteArray) (line col : Int) (h : (atAns s.data.toList line col).2 = 0) : (spotAns s (atAns s.data.toList line col).1).2.2.2 = 0 ∧ (spotAns s (atAns s.data.toList line col).1).1 = line ∧ (spotAns s (atAns s.data.toList line col).1).2.1 = col := by
  unfold atAns at h ⊢
  cases hb : lineAt s.data.toList line with
  | none => rw [hb] at h; cases h
  | some b =>
    rw [hb] at h
    dsimp +instances only at h ⊢
    have h1 := lineAt_le _ _ _ hb
    have hle := nextLF_le s.data.toList b h1
    have hl1 : ¬ line < 1 := by intro hc; unfold lineAt at hb; rw [if_pos hc] at hb; cases hb
    have hs : start s.data.toList (line - 1).toNat = some b := by unfold lineAt at hb; rw [if_neg hl1] at hb; exact hb
    obtain ⟨c1, c2⟩ := start_cnt _ _ _ hs
    by_cases c : col < 1 ∨ (nextLF s.data.toList b : Int) - b + 1 < col
    · rw [if_pos c] at h; cases h
    · rw [if_neg c]
      dsimp only
      obtain ⟨n, hn⟩ : ∃ n : Nat, (b : Int) + col - 1 = n := ⟨((b : Int) + col - 1).toNat, by omega⟩
      rw [hn]
      have hge := nextLF_ge s.data.toList b
      have hnn : n ≤ nextLF s.data.toList b := by omega
      obtain ⟨d1, d2⟩ := in_line s.data.toList b n (by omega) hnn (by omega)
      rw [← size_list] at hle
      unfold spotAns
      rw [if_neg (by omega), Int.toNat_natCast]
      dsimp only
      rw [d1, d2, c1, c2]
      omega
theorem PlaceBack_any (s : ByteArray) (hn : s.size ≤ 1073741824) (at_ line col : Int) (hl : line ≤ 9223372036854775807) (hc : col ≤ 9223372036854775807) : ∃ k, dowellaw02_PlaceBack.f k s at_ line col = some true := by
  obtain ⟨K, hw⟩ := works_at
  refine ⟨K + s.size + 10, ?_⟩
  have hj1 : ∀ k, s.size + 3 < k → dowellaw02_PlaceBack.j1 k s line col = some true := by
    intro k hk
    obtain ⟨k, rfl⟩ : ∃ m, k = m + 1 := ⟨k - 1, by omega⟩
    rw [dowellaw02_PlaceBack.j1, at_eq s hn line col hl hc k (by omega), Option.bind_some]
    by_cases h : (atAns s.data.toList line col).2 = 0
    · obtain ⟨h1, h2, h3⟩ := spot_at s line col h
      rw [if_pos h, spot_eq s hn _ k (by omega), Option.bind_some, if_pos h1, if_pos h2, h3]
      simp
    · rw [if_neg h]
      have : (atAns s.data.toList line col).1 = 0 := by
        unfold atAns at h ⊢
        cases hb : lineAt s.data.toList line with
        | none => rfl
        | some b =>
          rw [hb] at h
          by_cases c : col < 1 ∨ (nextLF s.data.toList b : Int) - b + 1 < col
          · show (if col < 1 ∨ (nextLF s.data.toList b : Int) - b + 1 < col then ((0 : Int), (20 : Int)) else ((b : Int) + col - 1, 0)).1 = 0
            rw [if_pos c]
          · exact absurd (show (if col < 1 ∨ (nextLF s.data.toList b : Int) - b + 1 < col then ((0 : Int), (20 : Int)) else ((b : Int) + col - 1, 0)).2 = 0 by rw [if_neg c]) h
      rw [this]
      rfl
  unfold dowellaw02_PlaceBack.f
  rw [hw _ (by omega), Option.bind_some, if_pos rfl, spot_eq s hn at_ _ (by omega), Option.bind_some]
  have hx : ((spotAns s at_).2.2.2 == 0) = decide (¬ (at_ < 0 ∨ (s.size : Int) < at_)) := by
    rw [spotAns_ok]
    by_cases c : at_ < 0 ∨ (s.size : Int) < at_
    · rw [if_pos c]; simp [c]
    · rw [if_neg c]; simp [c]
  have hj0 : ∀ x, x = false → dowellaw02_PlaceBack.j0 (K + s.size + 10) s at_ line col (spotAns s at_).2.2.2 x (spotAns s at_).1 (spotAns s at_).2.1 (spotAns s at_).2.2.1 = some true := by
    rintro x rfl
    rw [show K + s.size + 10 = (K + s.size + 9) + 1 from rfl, dowellaw02_PlaceBack.j0, if_neg (by simp), spotAns_ok]
    by_cases c : at_ < 0 ∨ (s.size : Int) < at_
    · rw [if_pos c, if_neg (by omega)]
      exact hj1 _ (by omega)
    · rw [if_neg c, if_pos rfl]
      obtain ⟨a, rfl⟩ : ∃ a : Nat, at_ = a := ⟨at_.toNat, by omega⟩
      have ha : a ≤ s.size := by omega
      have e1 : (spotAns s (a : Int)).1 = (cnt s.data.toList a : Int) + 1 := by unfold spotAns; rw [if_neg c]; rfl
      have e2 : (spotAns s (a : Int)).2.1 = (a : Int) - ls s.data.toList a + 1 := by unfold spotAns; rw [if_neg c]; rfl
      have hcl := cnt_le s.data.toList a
      have hl2 := ls_le s.data.toList a
      rw [e1, e2, at_eq s hn _ _ (by omega) (by omega) _ (by omega), Option.bind_some, at_spot s a ha, if_pos rfl, if_pos rfl]
      exact hj1 _ (by omega)
  by_cases c0 : at_ ≥ 0
  · rw [if_pos c0]
    apply hj0
    rw [hx]
    by_cases c1 : at_ ≤ (s.size : Int)
    · rw [decide_eq_true (show ¬ (at_ < 0 ∨ (s.size : Int) < at_) by omega), decide_eq_true c1]; rfl
    · rw [decide_eq_false (show ¬ ¬ (at_ < 0 ∨ (s.size : Int) < at_) by omega), decide_eq_false c1]; rfl
  · rw [if_neg c0]
    apply hj0
    rw [hx, decide_eq_false (show ¬ ¬ (at_ < 0 ∨ (s.size : Int) < at_) by omega)]
    rfl
theorem PlaceBack_pure : PlaceBack.Upto := fun s at_ line col hm _ h1 h2 => PlaceBack_any s (by omega) at_ line col (wf64 h1).2 (wf64 h2).2
theorem ends_mono (s : ByteArray) {a b : Nat} (h : a ≤ b) : ∀ f pos, ends s a f pos ≤ ends s b f pos
  | 0, _ => Nat.le_refl _
  | f + 1, pos => by
    have ih := ends_mono s h f (pos + (Utf8.decode s pos).2)
    rw [ends, ends]
    split
    · split <;> split <;> omega
    · omega
theorem ends_step (s : ByteArray) (a b : Nat) (h : a ≤ b) : ∀ f pos, ends s b f pos ≤ ends s a f pos + (b - max a pos)
  | 0, _ => by simp [ends]
  | f + 1, pos => by
    have ih := ends_step s a b h f (pos + (Utf8.decode s pos).2)
    rw [ends, ends]
    split
    · rename_i hp
      have hw := width_pos s pos hp
      by_cases c1 : pos + (Utf8.decode s pos).2 ≤ a
      · rw [if_pos (by omega), if_pos c1]; omega
      · rw [if_neg c1]
        by_cases c2 : pos + (Utf8.decode s pos).2 ≤ b
        · rw [if_pos c2]; omega
        · rw [if_neg c2]; omega
    · omega
theorem ends_zero (s : ByteArray) : ∀ f pos, ends s 0 f pos = 0
  | 0, _ => rfl
  | f + 1, pos => by
    have ih := ends_zero s f (pos + (Utf8.decode s pos).2)
    rw [ends]
    split
    · rename_i hp
      have hw := width_pos s pos hp
      rw [if_neg (by omega), ih]
    · rfl
theorem ends_at (s : ByteArray) (a f : Nat) : ends s a f 0 ≤ a := by
  have := ends_step s 0 a (by omega) f 0
  rw [ends_zero] at this
  omega
theorem same_line (l : List UInt8) (a b : Nat) (h : a ≤ b) (hb : b ≤ l.length) (hc : cnt l a = cnt l b) : ls l a = ls l b ∧ nextLF l a = nextLF l b := by
  have hf : ∀ j, a ≤ j → j < b → by_ l j ≠ 10 := by
    intro j h1 h2 h3
    have e := cnt_succ l j (by omega)
    rw [if_pos h3] at e
    have m1 := cnt_mono l h1
    have m2 := cnt_mono l (i := j + 1) (j := b) (by omega)
    omega
  have e1 := ls_const l a (b - a) (fun j h1 h2 => hf j h1 (by omega))
  rw [show a + (b - a) = b from by omega] at e1
  refine ⟨e1.symm, nextLF_eq l a _ (by have := nextLF_ge l b; omega) (nextLF_le l b hb) (fun m g1 g2 => ?_) (fun g => nextLF_hit l b g)⟩
  by_cases c : m < b
  · exact hf m g1 c
  · exact nextLF_free l b m (by omega) g2
theorem rises_j1 (s : ByteArray) (hn : s.size ≤ 1073741824) (a b : Int) (hab : a ≤ b) (k : Nat) (x : Bool) (hx : x = false → 0 ≤ a ∧ a < b ∧ b ≤ s.size) :
    dowellaw02_PlaceRises.j1 (k + 1) s a b (spotAns s a).2.2.2 (spotAns s b).2.2.2 x (spotAns s a).1 (spotAns s a).2.1 (spotAns s a).2.2.1 (spotAns s b).1 (spotAns s b).2.1 (spotAns s b).2.2.1 = some true := by
  rw [dowellaw02_PlaceRises.j1]
  cases x with
  | true =>
    rw [if_pos rfl, spotAns_ok, spotAns_ok]
    have fin : (if a = b then some ((spotAns s a).1 == (spotAns s b).1 && ((spotAns s a).2.1 == (spotAns s b).2.1 && ((spotAns s a).2.2.1 == (spotAns s b).2.2.1))) else some true) = some true := by
      by_cases e : a = b
      · rw [if_pos e, e]; simp
      · rw [if_neg e]
    by_cases a0 : a < 0
    · rw [if_pos a0, if_pos (show a < 0 ∨ _ from .inl a0), if_pos (by decide)]
      by_cases b0 : b < 0
      · rw [if_pos b0, if_pos (show b < 0 ∨ _ from .inl b0), if_pos (by decide), fin]
      · rw [if_neg b0]
        by_cases b1 : (s.size : Int) < b
        · rw [if_pos (show b < 0 ∨ (s.size : Int) < b from .inr b1), if_pos (by simp; omega), fin]
        · rw [if_neg (show ¬ (b < 0 ∨ (s.size : Int) < b) by omega), if_pos (by simp; omega), fin]
    · rw [if_neg a0]
      have b0 : ¬ b < 0 := by omega
      by_cases a1 : (s.size : Int) < a
      · have b1 : (s.size : Int) < b := by omega
        rw [if_pos (show a < 0 ∨ (s.size : Int) < a from .inr a1), if_pos (by simp; omega), if_neg b0, if_pos (show b < 0 ∨ (s.size : Int) < b from .inr b1), if_pos (by simp; omega), fin]
      · rw [if_neg (show ¬ (a < 0 ∨ (s.size : Int) < a) by omega), if_pos (by simp; omega), if_neg b0]
        by_cases b1 : (s.size : Int) < b
        · rw [if_pos (show b < 0 ∨ (s.size : Int) < b from .inr b1), if_pos (by simp; omega), fin]
        · rw [if_neg (show ¬ (b < 0 ∨ (s.size : Int) < b) by omega), if_pos (by simp; omega), fin]
  | false =>
    obtain ⟨h1, h2, h3⟩ := hx rfl
    rw [if_neg (by simp)]
    obtain ⟨p, rfl⟩ : ∃ p : Nat, a = p := ⟨a.toNat, by omega⟩
    obtain ⟨q, rfl⟩ : ∃ p : Nat, b = p := ⟨b.toNat, by omega⟩
    have e1 : spotAns s (p : Int) = ((cnt s.data.toList p : Int) + 1, (p : Int) - ls s.data.toList p + 1, 1 + (ends (lineOf s p) (p - ls s.data.toList p) (lineOf s p).size 0 : Int), 0) := by unfold spotAns; rw [if_neg (by omega)]; rfl
    have e2 : spotAns s (q : Int) = ((cnt s.data.toList q : Int) + 1, (q : Int) - ls s.data.toList q + 1, 1 + (ends (lineOf s q) (q - ls s.data.toList q) (lineOf s q).size 0 : Int), 0) := by unfold spotAns; rw [if_neg (by omega)]; rfl
    rw [e1, e2]
    dsimp only
    have lp := ls_le s.data.toList p
    have lq := ls_le s.data.toList q
    have cp := cnt_le s.data.toList p
    have cq := cnt_le s.data.toList q
    have cm := cnt_mono s.data.toList (i := p) (j := q) (by omega)
    have ep := ends_at (lineOf s p) (p - ls s.data.toList p) (lineOf s p).size
    have eq := ends_at (lineOf s q) (q - ls s.data.toList q) (lineOf s q).size
    by_cases c : cnt s.data.toList p = cnt s.data.toList q
    · obtain ⟨g1, g2⟩ := same_line s.data.toList p q (by omega) (by rw [← size_list]; omega) c
      have el : lineOf s p = lineOf s q := by unfold lineOf; rw [g1, g2]
      have m1 := ends_mono (lineOf s q) (a := p - ls s.data.toList q) (b := q - ls s.data.toList q) (by omega) (lineOf s q).size 0
      have m2 := ends_step (lineOf s q) (p - ls s.data.toList q) (q - ls s.data.toList q) (by omega) (lineOf s q).size 0
      rw [g1, el] at ep ⊢
      have w1 : wrap64 ((q : Int) - ls s.data.toList q + 1 - ((p : Int) - ls s.data.toList q + 1)) = (q : Int) - p := by rw [wrap_of (by omega) (by omega)]; omega
      have w2 : wrap64 ((q : Int) - (p : Int)) = (q : Int) - p := wrap_of (by omega) (by omega)
      rw [if_pos (by omega), if_pos (by rw [w1, w2]), if_pos (by omega), w2, wrap_of (by omega) (by omega), decide_eq_true (by omega)]
    · rw [if_neg (by omega), if_pos (by omega), if_pos (by omega), if_pos (by omega), if_pos (by omega), decide_eq_true (by omega)]
theorem rises_j0 (s : ByteArray) (hn : s.size ≤ 1073741824) (a b : Int) (hab : a ≤ b) (k : Nat) : dowellaw02_PlaceRises.j0 (k + 3) s a b = some true := by
  rw [dowellaw02_PlaceRises.j0, spot_eq s hn _ _ (by omega), Option.bind_some, spot_eq s hn _ _ (by omega), Option.bind_some]
  have o1 := spotAns_ok s a
  have o2 := spotAns_ok s b
  by_cases h1 : (spotAns s a).2.2.2 = 0
  · rw [if_pos h1]
    by_cases h2 : (spotAns s b).2.2.2 = 0
    · rw [if_pos h2]
      refine rises_j1 s hn a b hab (k + 1) (a == b) (fun h => ?_)
      rw [h1] at o1
      rw [h2] at o2
      have : a ≠ b := by simpa using h
      split at o1
      · cases o1
      · split at o2
        · cases o2
        · omega
    · rw [if_neg h2]
      exact rises_j1 s hn a b hab (k + 1) true (fun h => by cases h)
  · rw [if_neg h1]
    exact rises_j1 s hn a b hab (k + 1) true (fun h => by cases h)
theorem PlaceRises_any (s : ByteArray) (hn : s.size ≤ 1073741824) (a b : Int) : ∃ k, dowellaw02_PlaceRises.f k s a b = some true := by
  obtain ⟨K, hw⟩ := works_at
  refine ⟨K + 3, ?_⟩
  unfold dowellaw02_PlaceRises.f
  rw [hw _ (by omega), Option.bind_some, if_pos rfl]
  by_cases c : a > b
  · rw [if_pos c]; exact rises_j0 s hn b a (by omega) K
  · rw [if_neg c]; exact rises_j0 s hn a b (by omega) K
theorem PlaceRises_pure : PlaceRises.Upto := fun s a b hm _ _ => PlaceRises_any s (by omega) a b
end Go.Proofs.Ytkjckdgknbfaiaa.Qall
