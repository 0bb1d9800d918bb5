/- What forest.path reads, in plain words: step by step. || The steps of the paths that the law ForestPaths asks: the plain law. -/
import Derived.Test.YtkebableanenkaaDoorPth
import Derived.Lib.Strings
namespace Go.Proofs.YtkebableanenkaaDoor.Pa
open Go.RowKit Go.Proofs.YtkebableanenkaaDoor.Qall Go.Proofs.YtkebableanenkaaDoorW.PrintWords Go.Proofs.YtkebableanenkaaDoorW.PrintLast Go.Proofs.YtkebableanenkaaDoorW.PrintMore
set_option linter.unusedSimpArgs false
set_option linter.unusedVariables false
abbrev ST := S94
theorem wrap_of {i : Int} (h0 : -9223372036854775808 ≤ i) (h1 : i ≤ 9223372036854775807) : wrap64 i = i := by
  unfold wrap64
  omega
theorem LeO.at_least {α : Type} {f : Nat → Option α} (hm : ∀ k, LeO (f k) (f (k + 1))) {K0 : Nat} {r : α} (h : f K0 = some r) : ∀ k, K0 ≤ k → f k = some r := by
  intro k hk
  induction k with
  | zero => obtain rfl : K0 = 0 := by omega
            exact h
  | succ k ih =>
    by_cases e : K0 = k + 1
    · rw [← e]; exact h
    · exact hm k r (ih (by omega))
def isL (b : Int) : Bool := decide (97 ≤ b ∧ b ≤ 122) || decide (65 ≤ b ∧ b ≤ 90) || b == 95
def isD (b : Int) : Bool := decide (48 ≤ b ∧ b ≤ 57)
theorem letter_ev (b : Int) : forest_letter.f b = some (isL b) := by
  unfold forest_letter.f isL
  by_cases h1 : b ≥ 97 <;> by_cases h2 : b ≤ 122 <;> by_cases h3 : b ≥ 65 <;> by_cases h4 : b ≤ 90 <;> simp [h1, h2, h3, h4] <;> omega
theorem digit_ev (b : Int) : forest_digit.f b = some (isD b) := by
  unfold forest_digit.f isD
  by_cases h1 : b ≥ 48 <;> by_cases h2 : b ≤ 57 <;> simp [h1, h2]
/-- The end of the name at a place. -/
def nmEnd (s : ByteArray) (a : Nat) : Nat → Nat → Nat
  | 0, k => k
  | d + 1, k => if k < s.size ∧ (isL (bt s (k : Int)) = true ∨ (a < k ∧ isD (bt s (k : Int)) = true)) then nmEnd s a d (k + 1) else k
theorem nmEnd_le (s : ByteArray) (a : Nat) : ∀ d k, k ≤ s.size → k ≤ nmEnd s a d k ∧ nmEnd s a d k ≤ s.size
  | 0, k, h => ⟨Nat.le_refl _, h⟩
  | d + 1, k, h => by
    unfold nmEnd
    split
    · rename_i hc
      have := nmEnd_le s a d (k + 1) (by omega)
      omega
    · exact ⟨Nat.le_refl _, h⟩
def namedAns (s : ByteArray) (a : Nat) : ByteArray × Nat × Bool :=
  if a < s.size ∧ bt s (a : Int) = 42 then (⟨#[42]⟩, a + 1, true) else (s.extract a (nmEnd s a (s.size - a) a), nmEnd s a (s.size - a) a, decide (a < nmEnd s a (s.size - a) a ∧ nmEnd s a (s.size - a) a - a ≤ 64))
theorem named_l0 (s : ByteArray) (hs : s.size ≤ 65536) (a : Nat) : ∀ d k, s.size ≤ k + d → a ≤ k → k ≤ s.size → ∃ K0, forest_named.l0 K0 s (a : Int) (k : Int) = some (s.extract a (nmEnd s a d k), ((nmEnd s a d k : Nat) : Int), decide (a < nmEnd s a d k ∧ nmEnd s a d k - a ≤ 64))
  | 0, k, hd, ha, hk => by
    refine ⟨1, ?_⟩
    rw [forest_named.l0, if_neg (by omega), if_pos (by omega), if_pos (by omega), if_pos (by omega)]
    show (if _ then _ else _) = some (s.extract a k, ((k : Nat) : Int), decide (a < k ∧ k - a ≤ 64))
    rw [wrap_of (by omega) (by omega), Int.toNat_natCast, Int.toNat_natCast]
    by_cases h : a < k
    · rw [if_pos (by omega)]
      congr 3
      exact decide_eq_decide.mpr (by omega)
    · rw [if_neg (by omega)]
      congr 3
      exact (decide_eq_false (by omega)).symm
  | d + 1, k, hd, ha, hk => by
    by_cases hlt : k < s.size
    · by_cases hc : isL (bt s (k : Int)) = true ∨ (a < k ∧ isD (bt s (k : Int)) = true)
      · obtain ⟨K0, h0⟩ := named_l0 s hs a d (k + 1) (by omega) (by omega) (by omega)
        refine ⟨K0 + 1, ?_⟩
        have he : nmEnd s a (d + 1) k = nmEnd s a d (k + 1) := by rw [nmEnd, if_pos ⟨hlt, hc⟩]
        rw [he, forest_named.l0, if_pos (by omega), if_pos (by omega), letter_ev, Option.bind_some, wrap_of (by omega) (by omega)]
        by_cases hl : isL (bt s (k : Int)) = true
        · rw [if_pos hl]
          exact h0
        · rw [if_neg hl, if_pos (by rcases hc with hc | hc; exact absurd hc hl; omega), digit_ev, Option.bind_some, if_pos (by rcases hc with hc | hc; exact absurd hc hl; exact hc.2)]
          exact h0
      · have he : nmEnd s a (d + 1) k = k := by rw [nmEnd, if_neg (fun h => hc h.2)]
        refine ⟨1, ?_⟩
        rw [he, forest_named.l0, if_pos (by omega), if_pos (by omega), letter_ev, Option.bind_some, if_neg (fun h => hc (.inl h)), Int.toNat_natCast, Int.toNat_natCast]
        by_cases h : a < k
        · rw [if_pos (by omega), digit_ev, Option.bind_some, if_neg (fun h2 => hc (.inr ⟨h, h2⟩)), if_pos (by omega), if_pos (by omega), if_pos (by omega), wrap_of (by omega) (by omega)]
          congr 3
          exact decide_eq_decide.mpr (by omega)
        · rw [if_neg (by omega), if_pos (by omega), if_pos (by omega), if_pos (by omega)]
          congr 3
          exact (decide_eq_false (by omega)).symm
    · have he : nmEnd s a (d + 1) k = k := by rw [nmEnd, if_neg (fun h => hlt h.1)]
      rw [he]
      have := named_l0 s hs a 0 k (by omega) ha hk
      exact this
theorem named_ev (s : ByteArray) (hs : s.size ≤ 65536) (a : Nat) (ha : a ≤ s.size) : ∃ K0, forest_named.f K0 s (a : Int) = some ((namedAns s a).1, (((namedAns s a).2.1 : Nat) : Int), (namedAns s a).2.2) := by
  obtain ⟨K0, h0⟩ := named_l0 s hs a (s.size - a) a (by omega) (Nat.le_refl _) ha
  unfold namedAns
  refine ⟨K0 + 1, ?_⟩
  unfold forest_named.f
  by_cases hlt : a < s.size
  · rw [if_pos (by omega), if_pos (by omega), forest_named.j0]
    by_cases hb : bt s (a : Int) = 42
    · rw [if_pos (beq_iff_eq.2 hb), if_pos ⟨hlt, hb⟩, wrap_of (by omega) (by omega)]
      rfl
    · rw [if_neg (fun h => hb (beq_iff_eq.1 h)), if_neg (fun h => hb h.2)]
      exact h0
  · rw [if_neg (by omega), forest_named.j0, if_neg (by decide), if_neg (fun h => hlt h.1)]
    exact h0
/-- The digits at a place, as long as their number is not too big. -/
def pk (s : ByteArray) : Nat → Int → Nat → Int × Nat
  | 0, n, k => (n, k)
  | d + 1, n, k => if k < s.size ∧ isD (bt s (k : Int)) = true ∧ n ≤ 1048576 then pk s d (10 * n + (bt s (k : Int) - 48)) (k + 1) else (n, k)
def pkOk (s : ByteArray) (a : Nat) (r : Int × Nat) : Bool := decide (r.2 < s.size ∧ bt s (r.2 : Int) = 93 ∧ a + 1 < r.2 ∧ bt s ((a + 1 : Nat) : Int) ≠ 48 ∧ r.1 ≤ 1048576)
def pickedAns (s : ByteArray) (a : Nat) : Int × Nat × Bool :=
  if a < s.size ∧ bt s (a : Int) = 91 then ((pk s (s.size - (a + 1)) 0 (a + 1)).1, (pk s (s.size - (a + 1)) 0 (a + 1)).2 + 1, pkOk s a (pk s (s.size - (a + 1)) 0 (a + 1))) else (0, a, true)
theorem pk_le (s : ByteArray) : ∀ d n k, k ≤ s.size → k ≤ (pk s d n k).2 ∧ (pk s d n k).2 ≤ s.size
  | 0, n, k, h => ⟨Nat.le_refl _, h⟩
  | d + 1, n, k, h => by
    unfold pk
    split
    · rename_i hc
      have := pk_le s d (10 * n + (bt s (k : Int) - 48)) (k + 1) (by omega)
      omega
    · exact ⟨Nat.le_refl _, h⟩
theorem picked_stop (s : ByteArray) (hs : s.size ≤ 65536) (a k : Nat) (n : Int) (hk : k ≤ s.size) (ha : a + 1 ≤ k) (h : ¬ (k < s.size ∧ isD (bt s (k : Int)) = true ∧ n ≤ 1048576)) : forest_picked.l0 1 s (a : Int) n (k : Int) = some (n, ((k + 1 : Nat) : Int), pkOk s a (n, k)) := by
  have w1 : wrap64 ((k : Int) + 1) = ((k + 1 : Nat) : Int) := wrap_of (by omega) (by omega)
  have w2 : wrap64 ((a : Int) + 1) = ((a + 1 : Nat) : Int) := wrap_of (by omega) (by omega)
  have hfin : ∀ b : Bool, pkOk s a (n, k) = b → (if bt s (k : Int) = 93 then (if (k : Int) > ((a + 1 : Nat) : Int) then (if 0 ≤ ((a + 1 : Nat) : Int) then (if ((a + 1 : Nat) : Int) < (s.size : Int) then (if bt s ((a + 1 : Nat) : Int) = 48 then (some (n, ((k + 1 : Nat) : Int), false)) else (some (n, ((k + 1 : Nat) : Int), decide (n ≤ 1048576)))) else none) else none) else (some (n, ((k + 1 : Nat) : Int), false))) else (some (n, ((k + 1 : Nat) : Int), false))) = some (n, ((k + 1 : Nat) : Int), b) ∨ ¬ k < s.size := by
    intro b hb
    by_cases hlt : k < s.size
    · left
      unfold pkOk at hb
      by_cases h1 : bt s (k : Int) = 93
      · by_cases h2 : a + 1 < k
        · rw [if_pos h1, if_pos (by omega), if_pos (by omega), if_pos (by omega)]
          by_cases h3 : bt s ((a + 1 : Nat) : Int) = 48
          · rw [if_pos h3, ← hb]
            congr 3
            exact (decide_eq_false (fun h => h.2.2.2.1 h3)).symm
          · rw [if_neg h3, ← hb]
            congr 3
            exact decide_eq_decide.mpr ⟨fun g => ⟨hlt, h1, h2, h3, g⟩, fun g => g.2.2.2.2⟩
        · rw [if_pos h1, if_neg (by omega), ← hb]
          congr 3
          exact (decide_eq_false (fun h => h2 h.2.2.1)).symm
      · rw [if_neg h1, ← hb]
        congr 3
        exact (decide_eq_false (fun h => h1 h.2.1)).symm
    · exact .inr hlt
  rw [forest_picked.l0, w1, w2]
  by_cases hlt : k < s.size
  · have hf := (hfin _ rfl).resolve_right (fun g => g hlt)
    rw [if_pos (by omega), if_pos (by omega), digit_ev, Option.bind_some]
    by_cases hd : isD (bt s (k : Int)) = true
    · rw [if_pos hd, if_neg (fun g => h ⟨hlt, hd, g⟩)]
      exact hf
    · rw [if_neg hd]
      exact hf
  · rw [if_neg (by omega)]
    congr 3
    unfold pkOk
    exact (decide_eq_false (fun h => hlt h.1)).symm
theorem picked_l0 (s : ByteArray) (hs : s.size ≤ 65536) (a : Nat) : ∀ (d k : Nat) (n : Int), s.size ≤ k + d → a + 1 ≤ k → k ≤ s.size → 0 ≤ n → n ≤ 1048576 * 10 + 9 → ∃ K0, forest_picked.l0 K0 s (a : Int) n (k : Int) = some ((pk s d n k).1, (((pk s d n k).2 + 1 : Nat) : Int), pkOk s a (pk s d n k))
  | 0, k, n, hd, ha, hk, h0, h1 => ⟨1, picked_stop s hs a k n hk ha (fun h => by omega)⟩
  | d + 1, k, n, hd, ha, hk, h0, h1 => by
    by_cases hc : k < s.size ∧ isD (bt s (k : Int)) = true ∧ n ≤ 1048576
    · have hdg : 48 ≤ bt s (k : Int) ∧ bt s (k : Int) ≤ 57 := of_decide_eq_true hc.2.1
      obtain ⟨K0, e0⟩ := picked_l0 s hs a d (k + 1) (10 * n + (bt s (k : Int) - 48)) (by omega) (by omega) (by omega) (by omega) (by omega)
      refine ⟨K0 + 1, ?_⟩
      have he : pk s (d + 1) n k = pk s d (10 * n + (bt s (k : Int) - 48)) (k + 1) := by rw [pk, if_pos hc]
      rw [he, forest_picked.l0, if_pos (by omega), if_pos (by omega), digit_ev, Option.bind_some, if_pos hc.2.1, if_pos hc.2.2]
      have w0 : (bt s (k : Int) - 48) % 256 = bt s (k : Int) - 48 := by omega
      have w2 : wrap64 (10 * n) = 10 * n := wrap_of (by omega) (by omega)
      rw [w0, w2]
      have w3 : wrap64 (10 * n + (bt s (k : Int) - 48)) = 10 * n + (bt s (k : Int) - 48) := wrap_of (by omega) (by omega)
      rw [w3]
      have w1 : wrap64 ((k : Int) + 1) = ((k + 1 : Nat) : Int) := wrap_of (by omega) (by omega)
      rw [w1]
      exact e0
    · have he : pk s (d + 1) n k = (n, k) := by rw [pk, if_neg hc]
      rw [he]
      exact ⟨1, picked_stop s hs a k n hk ha hc⟩
theorem picked_ev (s : ByteArray) (hs : s.size ≤ 65536) (a : Nat) (ha : a ≤ s.size) : ∃ K0, forest_picked.f K0 s (a : Int) = some ((pickedAns s a).1, (((pickedAns s a).2.1 : Nat) : Int), (pickedAns s a).2.2) := by
  unfold pickedAns
  unfold forest_picked.f
  by_cases hlt : a < s.size
  · by_cases hb : bt s (a : Int) = 91
    · obtain ⟨K0, h0⟩ := picked_l0 s hs a (s.size - (a + 1)) (a + 1) 0 (by omega) (Nat.le_refl _) (by omega) (by omega) (by omega)
      refine ⟨K0 + 1, ?_⟩
      have w2 : wrap64 ((a : Int) + 1) = ((a + 1 : Nat) : Int) := wrap_of (by omega) (by omega)
      rw [if_neg (by omega), if_pos (by omega), if_pos (by omega), if_pos ⟨hlt, hb⟩, forest_picked.j0, if_neg (by simp [hb]), w2]
      exact h0
    · refine ⟨1, ?_⟩
      rw [if_neg (by omega), if_pos (by omega), if_pos (by omega), if_neg (fun h => hb h.2), forest_picked.j0, if_pos (bne_iff_ne.2 hb)]
  · refine ⟨1, ?_⟩
    rw [if_pos (by omega), if_neg (fun h => hlt h.1), forest_picked.j0, if_pos rfl]
/-- How a step begins: whether it goes down at will, and where its name stands; none: it is no step. -/
def slash (s : ByteArray) (a : Nat) (one : Bool) : Option (Bool × Nat) :=
  if a + 1 < s.size ∧ bt s (a : Int) = 47 ∧ bt s ((a + 1 : Nat) : Int) = 47 then some (true, a + 2) else if a < s.size ∧ bt s (a : Int) = 47 then some (false, a + 1) else if one = true then some (false, a) else none
def stepOf (s : ByteArray) (deep : Bool) (k : Nat) : Option (ST × Nat) :=
  if (namedAns s k).2.2 = true then (if (pickedAns s (namedAns s k).2.1).2.2 = true then some (⟨deep, (namedAns s k).1, (pickedAns s (namedAns s k).2.1).1⟩, (pickedAns s (namedAns s k).2.1).2.1) else none) else none
def stepP (s : ByteArray) (a : Nat) (one : Bool) : Option (ST × Nat) := (slash s a one).bind fun x => stepOf s x.1 x.2
def pathGo (s : ByteArray) : Nat → Nat → List ST → List ST × Int × Int
  | 0, _, l => (l, 0, 0)
  | d + 1, a, l => if a < s.size ∨ l = [] then (match stepP s a l.isEmpty with
    | none => ([], (a : Int), 121)
    | some r => pathGo s d r.2 (l ++ [r.1])) else (l, 0, 0)
def pathAns (s : ByteArray) : List ST × Int × Int := pathGo s (s.size + 1) 0 []
theorem bt_nat (s : ByteArray) (k : Nat) : bt s (k : Int) = (((s.data.toList.getD k 0).toNat : Nat) : Int) := by
  unfold bt
  rw [Int.toNat_natCast]
  split
  · rename_i h
    have h2 : k < s.data.toList.length := by simpa using h
    rw [List.getD_eq_getElem?_getD, List.getElem?_eq_getElem h2]
    rfl
  · rename_i h
    have h2 : ¬ k < s.data.toList.length := by simpa using h
    rw [List.getD_eq_getElem?_getD, List.getElem?_eq_none (by omega)]
    rfl
theorem ext_toList (t : ByteArray) (a b : Nat) : (t.extract a b).toList = (t.data.toList.drop a).take (b - a) := by
  rw [Lib.toList_data]
  simp [ByteArray.data_extract, Array.toList_extract, List.extract]
theorem ext_size (t : ByteArray) (a : Nat) (h : a ≤ t.size) : (t.extract a t.size).size = t.size - a := by
  rw [ByteArray.size_extract]; omega
theorem getD_byte (s : ByteArray) (k : Nat) (c : UInt8) (h : k < s.size) : s.data.toList.getD k 0 = c ↔ bt s (k : Int) = (c.toNat : Int) := by
  rw [bt_nat]
  constructor
  · intro e; rw [e]
  · intro e; exact UInt8.toNat_inj.1 (by omega)
theorem drop_two (l : List UInt8) (a : Nat) (h : a + 1 < l.length) : (l.drop a).take 2 = [l.getD a 0, l.getD (a + 1) 0] := by
  rw [List.drop_eq_getElem_cons (by omega), List.take_succ_cons, List.drop_eq_getElem_cons h, List.take_succ_cons, List.take_zero, List.getD_eq_getElem?_getD, List.getD_eq_getElem?_getD, List.getElem?_eq_getElem h, List.getElem?_eq_getElem (by omega)]
  rfl
theorem drop_one (l : List UInt8) (a : Nat) (h : a < l.length) : (l.drop a).take 1 = [l.getD a 0] := by
  rw [List.drop_eq_getElem_cons h, List.take_succ_cons, List.take_zero, List.getD_eq_getElem?_getD, List.getElem?_eq_getElem h]
  rfl
theorem len_data (s : ByteArray) : s.data.toList.length = s.size := by simp
theorem prefix_ev (x y : ByteArray) : strings_HasPrefix.f x y = some (decide (y.size ≤ x.size) && ((x.extract 0 y.size).toList == y.toList)) := by
  unfold strings_HasPrefix.f stringslite_HasPrefix.f
  by_cases h : y.size ≤ x.size
  · rw [if_pos (by omega), if_pos (by omega), if_pos (by omega), Option.bind_some, decide_eq_true h, Bool.true_and, Int.toNat_natCast]
  · rw [if_neg (by omega), Option.bind_some, decide_eq_false h, Bool.false_and]
theorem two_ev (s : ByteArray) (a : Nat) (ha : a ≤ s.size) : strings_HasPrefix.f (s.extract a s.size) (⟨#[47, 47]⟩ : ByteArray) = some (decide (a + 1 < s.size ∧ bt s (a : Int) = 47 ∧ bt s ((a + 1 : Nat) : Int) = 47)) := by
  rw [prefix_ev, ext_size s a ha]
  congr 1
  have h2 : (⟨#[47, 47]⟩ : ByteArray).size = 2 := rfl
  have hl : (⟨#[47, 47]⟩ : ByteArray).toList = [47, 47] := by rw [Lib.toList_data]
  rw [h2, hl, ext_toList, Nat.sub_zero, List.drop_zero]
  have he : (s.extract a s.size).data.toList = s.data.toList.drop a := by
    have := ext_toList s a s.size
    rw [Lib.toList_data] at this
    rw [this, List.take_of_length_le (by rw [List.length_drop, len_data]; omega)]
  rw [he, Bool.eq_iff_iff, Bool.and_eq_true, decide_eq_true_iff, decide_eq_true_iff]
  constructor
  · rintro ⟨h1, h3⟩
    rw [drop_two _ _ (by rw [len_data]; omega)] at h3
    have h4 := beq_iff_eq.1 h3
    injection h4 with h5 h6
    injection h6 with h6 _
    exact ⟨by omega, (getD_byte s a 47 (by omega)).1 h5, (getD_byte s (a + 1) 47 (by omega)).1 h6⟩
  · rintro ⟨h1, h3, h4⟩
    refine ⟨by omega, ?_⟩
    rw [drop_two _ _ (by rw [len_data]; omega), (getD_byte s a 47 (by omega)).2 h3, (getD_byte s (a + 1) 47 (by omega)).2 h4]
    rfl
theorem one_ev (s : ByteArray) (a : Nat) (ha : a ≤ s.size) : strings_HasPrefix.f (s.extract a s.size) (⟨#[47]⟩ : ByteArray) = some (decide (a < s.size ∧ bt s (a : Int) = 47)) := by
  rw [prefix_ev, ext_size s a ha]
  congr 1
  have h2 : (⟨#[47]⟩ : ByteArray).size = 1 := rfl
  have hl : (⟨#[47]⟩ : ByteArray).toList = [47] := by rw [Lib.toList_data]
  rw [h2, hl, ext_toList, Nat.sub_zero, List.drop_zero]
  have he : (s.extract a s.size).data.toList = s.data.toList.drop a := by
    have := ext_toList s a s.size
    rw [Lib.toList_data] at this
    rw [this, List.take_of_length_le (by rw [List.length_drop, len_data]; omega)]
  rw [he, Bool.eq_iff_iff, Bool.and_eq_true, decide_eq_true_iff, decide_eq_true_iff]
  constructor
  · rintro ⟨h1, h3⟩
    rw [drop_one _ _ (by rw [len_data]; omega)] at h3
    have h4 := beq_iff_eq.1 h3
    injection h4 with h5 _
    exact ⟨by omega, (getD_byte s a 47 (by omega)).1 h5⟩
  · rintro ⟨h1, h3⟩
    refine ⟨by omega, ?_⟩
    rw [drop_one _ _ (by rw [len_data]; omega), (getD_byte s a 47 (by omega)).2 h3]
    rfl
theorem named_lt (s : ByteArray) (k : Nat) (hk : k ≤ s.size) (h : (namedAns s k).2.2 = true) : k < (namedAns s k).2.1 ∧ (namedAns s k).2.1 ≤ s.size := by
  unfold namedAns at h ⊢
  split
  · rename_i hc
    exact ⟨by show k < k + 1; omega, by show k + 1 ≤ _; omega⟩
  · rename_i hc
    rw [if_neg hc] at h
    have h1 := of_decide_eq_true h
    have h2 := nmEnd_le s k (s.size - k) k hk
    exact ⟨h1.1, h2.2⟩
theorem picked_lt (s : ByteArray) (k : Nat) (hk : k ≤ s.size) (h : (pickedAns s k).2.2 = true) : k ≤ (pickedAns s k).2.1 ∧ (pickedAns s k).2.1 ≤ s.size := by
  unfold pickedAns at h ⊢
  split
  · rename_i hc
    rw [if_pos hc] at h
    have h1 := of_decide_eq_true h
    have h2 := pk_le s (s.size - (k + 1)) 0 (k + 1) (by omega)
    exact ⟨by show k ≤ _ + 1; omega, by show _ + 1 ≤ _; omega⟩
  · exact ⟨Nat.le_refl _, hk⟩
theorem slash_le (s : ByteArray) (a : Nat) (one : Bool) (ha : a ≤ s.size) (x : Bool × Nat) (h : slash s a one = some x) : a ≤ x.2 ∧ x.2 ≤ s.size := by
  unfold slash at h
  split at h
  · injection h with h; subst h; exact ⟨by show a ≤ a + 2; omega, by show a + 2 ≤ _; omega⟩
  · split at h
    · injection h with h; subst h; exact ⟨by show a ≤ a + 1; omega, by show a + 1 ≤ _; omega⟩
    · split at h
      · injection h with h; subst h; exact ⟨Nat.le_refl _, ha⟩
      · cases h
theorem step_lt (s : ByteArray) (a : Nat) (one : Bool) (ha : a ≤ s.size) (r : ST × Nat) (h : stepP s a one = some r) : a < r.2 ∧ r.2 ≤ s.size := by
  unfold stepP at h
  obtain ⟨x, h1, h2⟩ := Option.bind_eq_some_iff.1 h
  have h3 := slash_le s a one ha x h1
  unfold stepOf at h2
  split at h2
  · rename_i hn
    have h4 := named_lt s x.2 h3.2 hn
    split at h2
    · rename_i hp
      have h5 := picked_lt s _ h4.2 hp
      injection h2 with h2
      subst h2
      exact ⟨by show a < (pickedAns s _).2.1; omega, h5.2⟩
    · cases h2
  · cases h2
theorem path_l0 (s : ByteArray) (hs : s.size ≤ 65536) : ∀ (d a : Nat) (l : List ST), s.size < d + a → a ≤ s.size → l.length ≤ a → ∃ K0, ∀ k, K0 ≤ k → forest_path.l0 k s l (a : Int) = some (pathGo s d a l)
  | 0, a, l, hd, ha, hl => by omega
  | d + 1, a, l, hd, ha, hl => by
    have hbeg : ∀ k, forest_path.l0 (k + 1) s l (a : Int) = forest_path.j1 k s l (a : Int) (decide (a < s.size ∨ l = [])) := by
      intro k
      rw [forest_path.l0]
      by_cases h : a < s.size
      · rw [if_pos (by omega), decide_eq_true (Or.inl h)]
      · rw [if_neg (by omega)]
        congr 1
        cases l with
        | nil => simp
        | cons x l =>
          rw [beq_eq_false_iff_ne.2 (by rw [List.length_cons]; omega), decide_eq_false (by rintro (g | g); exact h g; cases g)]
    by_cases hc : a < s.size ∨ l = []
    · -- the step
      have hj2 : ∀ (x : Bool × Nat), x.2 ≤ s.size → a ≤ x.2 → ∃ K0, ∀ k, K0 ≤ k → forest_path.j2 k s l (x.2 : Int) (a : Int) x.1 (⟨#[]⟩ : ByteArray) 0 = some (match stepOf s x.1 x.2 with | none => ([], (a : Int), 121) | some r => pathGo s d r.2 (l ++ [r.1])) := by
        intro x hx1 hx2
        obtain ⟨Kn, hKn⟩ := named_ev s hs x.2 hx1
        have hKn2 : ∀ k, Kn ≤ k → forest_named.f k s (x.2 : Int) = some ((namedAns s x.2).1, (((namedAns s x.2).2.1 : Nat) : Int), (namedAns s x.2).2.2) := LeO.at_least (fun k => forest_named.mono _ _ k) hKn
        by_cases hn : (namedAns s x.2).2.2 = true
        · have h4 := named_lt s x.2 hx1 hn
          obtain ⟨Kp, hKp⟩ := picked_ev s hs (namedAns s x.2).2.1 h4.2
          have hKp2 : ∀ k, Kp ≤ k → forest_picked.f k s (((namedAns s x.2).2.1 : Nat) : Int) = some ((pickedAns s (namedAns s x.2).2.1).1, (((pickedAns s (namedAns s x.2).2.1).2.1 : Nat) : Int), (pickedAns s (namedAns s x.2).2.1).2.2) := LeO.at_least (fun k => forest_picked.mono _ _ k) hKp
          by_cases hp : (pickedAns s (namedAns s x.2).2.1).2.2 = true
          · have h5 := picked_lt s _ h4.2 hp
            obtain ⟨K0, h0⟩ := path_l0 s hs d (pickedAns s (namedAns s x.2).2.1).2.1 (l ++ [⟨x.1, (namedAns s x.2).1, (pickedAns s (namedAns s x.2).2.1).1⟩]) (by omega) h5.2 (by simp; omega)
            refine ⟨K0 + Kn + Kp + 1, fun k hk => ?_⟩
            obtain ⟨k, rfl⟩ : ∃ k', k = k' + 1 := ⟨k - 1, by omega⟩
            rw [forest_path.j2, hKn2 k (by omega), Option.bind_some, if_pos hn, hKp2 k (by omega), Option.bind_some, if_pos hp, if_pos (by omega), h0 k (by omega)]
            unfold stepOf
            rw [if_pos hn, if_pos hp]
          · refine ⟨Kn + Kp + 1, fun k hk => ?_⟩
            obtain ⟨k, rfl⟩ : ∃ k', k = k' + 1 := ⟨k - 1, by omega⟩
            rw [forest_path.j2, hKn2 k (by omega), Option.bind_some, if_pos hn, hKp2 k (by omega), Option.bind_some, if_neg hp]
            unfold stepOf
            rw [if_pos hn, if_neg hp]
        · refine ⟨Kn + 1, fun k hk => ?_⟩
          obtain ⟨k, rfl⟩ : ∃ k', k = k' + 1 := ⟨k - 1, by omega⟩
          rw [forest_path.j2, hKn2 k (by omega), Option.bind_some, if_neg hn]
          unfold stepOf
          rw [if_neg hn]
      have hgo : pathGo s (d + 1) a l = (match stepP s a l.isEmpty with | none => ([], (a : Int), 121) | some r => pathGo s d r.2 (l ++ [r.1])) := by rw [pathGo, if_pos hc]
      rw [hgo]
      have w1 : wrap64 ((a : Int) + 1) = ((a + 1 : Nat) : Int) := wrap_of (by omega) (by omega)
      have w2 : wrap64 ((a : Int) + 2) = ((a + 2 : Nat) : Int) := wrap_of (by omega) (by omega)
      have hj1 : ∀ k, forest_path.l0 (k + 2) s l (a : Int) = (if (a + 1 < s.size ∧ bt s (a : Int) = 47 ∧ bt s ((a + 1 : Nat) : Int) = 47) then forest_path.j2 k s l ((a + 2 : Nat) : Int) (a : Int) true (⟨#[]⟩ : ByteArray) 0 else if (a < s.size ∧ bt s (a : Int) = 47) then forest_path.j2 k s l ((a + 1 : Nat) : Int) (a : Int) false (⟨#[]⟩ : ByteArray) 0 else if (l.length : Int) > 0 then some ([], (a : Int), 121) else forest_path.j2 k s l (a : Int) (a : Int) false (⟨#[]⟩ : ByteArray) 0) := by
        intro k
        rw [hbeg, forest_path.j1, if_pos (decide_eq_true hc), if_pos (by omega), if_pos (by omega), Int.toNat_natCast, two_ev s a ha, Option.bind_some, one_ev s a ha, Option.bind_some, w1, w2]
        by_cases q1 : (a + 1 < s.size ∧ bt s (a : Int) = 47 ∧ bt s ((a + 1 : Nat) : Int) = 47)
        · rw [if_pos (decide_eq_true q1), if_pos q1]
        · rw [if_neg (fun h => q1 (of_decide_eq_true h)), if_neg q1]
          by_cases q2 : (a < s.size ∧ bt s (a : Int) = 47)
          · rw [if_pos (decide_eq_true q2), if_pos q2]
          · rw [if_neg (fun h => q2 (of_decide_eq_true h)), if_neg q2]
      have hsl : ∀ x, slash s a l.isEmpty = some x → stepP s a l.isEmpty = stepOf s x.1 x.2 := fun x hx => by unfold stepP; rw [hx]; rfl
      by_cases q1 : (a + 1 < s.size ∧ bt s (a : Int) = 47 ∧ bt s ((a + 1 : Nat) : Int) = 47)
      · have hx : slash s a l.isEmpty = some (true, a + 2) := by unfold slash; rw [if_pos q1]
        obtain ⟨K0, h0⟩ := hj2 (true, a + 2) (show a + 2 ≤ _ by omega) (show a ≤ a + 2 by omega)
        refine ⟨K0 + 2, fun k hk => ?_⟩
        obtain ⟨k, rfl⟩ : ∃ k', k = k' + 2 := ⟨k - 2, by omega⟩
        rw [hj1, if_pos q1, hsl _ hx]
        exact h0 k (by omega)
      · by_cases q2 : (a < s.size ∧ bt s (a : Int) = 47)
        · have hx : slash s a l.isEmpty = some (false, a + 1) := by unfold slash; rw [if_neg q1, if_pos q2]
          obtain ⟨K0, h0⟩ := hj2 (false, a + 1) (show a + 1 ≤ _ by omega) (show a ≤ a + 1 by omega)
          refine ⟨K0 + 2, fun k hk => ?_⟩
          obtain ⟨k, rfl⟩ : ∃ k', k = k' + 2 := ⟨k - 2, by omega⟩
          rw [hj1, if_neg q1, if_pos q2, hsl _ hx]
          exact h0 k (by omega)
        · by_cases hl0 : l = []
          · have hx : slash s a l.isEmpty = some (false, a) := by unfold slash; rw [if_neg q1, if_neg q2, hl0]; rfl
            obtain ⟨K0, h0⟩ := hj2 (false, a) ha (Nat.le_refl _)
            refine ⟨K0 + 2, fun k hk => ?_⟩
            obtain ⟨k, rfl⟩ : ∃ k', k = k' + 2 := ⟨k - 2, by omega⟩
            rw [hj1, if_neg q1, if_neg q2, if_neg (by rw [hl0]; simp), hsl _ hx]
            exact h0 k (by omega)
          · have hx : slash s a l.isEmpty = none := by
              unfold slash
              rw [if_neg q1, if_neg q2, if_neg (fun h => hl0 (List.isEmpty_iff.1 h))]
            have hlp := List.length_pos_iff.2 hl0
            refine ⟨2, fun k hk => ?_⟩
            obtain ⟨k, rfl⟩ : ∃ k', k = k' + 2 := ⟨k - 2, by omega⟩
            rw [hj1, if_neg q1, if_neg q2, if_pos (by omega)]
            unfold stepP
            rw [hx]
            rfl
    · refine ⟨2, fun k hk => ?_⟩
      obtain ⟨k, rfl⟩ : ∃ k', k = k' + 2 := ⟨k - 2, by omega⟩
      rw [hbeg, forest_path.j1, if_neg (fun h => hc (of_decide_eq_true h)), pathGo, if_neg hc]
theorem path_len (s : ByteArray) : ∀ (d a : Nat) (l : List ST), a ≤ s.size → l.length ≤ a → (pathGo s d a l).1.length ≤ s.size
  | 0, a, l, ha, hl => by show l.length ≤ _; omega
  | d + 1, a, l, ha, hl => by
    rw [pathGo]
    split
    · split
      · simp
      · rename_i r hr
        have := step_lt s a _ ha r hr
        exact path_len s d r.2 (l ++ [r.1]) this.2 (by simp; omega)
    · show l.length ≤ _; omega
/-- WHAT forest.path READS. -/
theorem path_ev (s : ByteArray) (hs : s.size ≤ 65536) : (∃ KP, forest_path.f KP s = some (pathAns s)) ∧ (pathAns s).1.length ≤ s.size := by
  obtain ⟨K0, h0⟩ := path_l0 s hs (s.size + 1) 0 [] (by omega) (Nat.zero_le _) (Nat.zero_le _)
  exact ⟨⟨K0, h0 K0 (Nat.le_refl _)⟩, path_len s _ 0 [] (Nat.zero_le _) (Nat.zero_le _)⟩
end Go.Proofs.YtkebableanenkaaDoor.Pa
namespace Go.Proofs.YtkebableanenkaaDoor.Pb
open Go.RowKit Go.Proofs.YtkebableanenkaaDoor.Qall Go.Proofs.YtkebableanenkaaDoor.Pa Go.Proofs.YtkebableanenkaaDoorW.PrintWords Go.Proofs.YtkebableanenkaaDoorW.PrintLast Go.Proofs.YtkebableanenkaaDoorW.PrintMore
set_option linter.unusedSimpArgs false
set_option linter.unusedVariables false
abbrev nc (b : Int) : Prop := isL b = true ∨ isD b = true
theorem nmEnd_to (s : ByteArray) (a e : Nat) (he : e ≤ s.size) (hall : ∀ k : Nat, a < k → k < e → nc (bt s (k : Int))) (hend : e = s.size ∨ ¬ nc (bt s (e : Int))) : ∀ d k, a < k → k ≤ e → s.size ≤ k + d → nmEnd s a d k = e
  | 0, k, h1, h2, h3 => by show k = e; omega
  | d + 1, k, h1, h2, h3 => by
    rw [nmEnd]
    by_cases hk : k < e
    · rw [if_pos ⟨by omega, (hall k h1 hk).imp id (fun h => ⟨h1, h⟩)⟩]
      exact nmEnd_to s a e he hall hend d (k + 1) (by omega) (by omega) (by omega)
    · obtain rfl : k = e := by omega
      rw [if_neg]
      rintro ⟨h4, h5⟩
      rcases hend with h6 | h6
      · omega
      · exact h6 (h5.imp id (fun h => h.2))
theorem isL_not (b : Int) (h : isL b = true) : b ≠ 42 ∧ b ≠ 47 ∧ b ≠ 91 ∧ b ≠ 93 := by
  unfold isL at h
  refine ⟨?_, ?_, ?_, ?_⟩ <;> · rintro rfl; revert h; decide
theorem nc_not (b : Int) (h : nc b) : b ≠ 42 ∧ b ≠ 47 ∧ b ≠ 91 ∧ b ≠ 93 := by
  rcases h with h | h
  · exact isL_not b h
  · unfold isD at h
    have := of_decide_eq_true h
    omega
/-- A name from k up to e. -/
theorem named_word (s : ByteArray) (k e : Nat) (hke : k < e) (he : e ≤ s.size) (h0 : isL (bt s (k : Int)) = true) (hall : ∀ j : Nat, k < j → j < e → nc (bt s (j : Int))) (hend : e = s.size ∨ ¬ nc (bt s (e : Int))) :
    namedAns s k = (s.extract k e, e, decide (k < e ∧ e - k ≤ 64)) := by
  have hn : nmEnd s k (s.size - k) k = e := by
    obtain ⟨d, hd⟩ : ∃ d, s.size - k = d + 1 := ⟨s.size - k - 1, by omega⟩
    rw [hd, nmEnd, if_pos ⟨by omega, .inl h0⟩]
    exact nmEnd_to s k e he hall hend d (k + 1) (by omega) (by omega) (by omega)
  unfold namedAns
  rw [if_neg (fun h => (isL_not _ h0).1 h.2), hn]
theorem named_none (s : ByteArray) (k : Nat) (hk : k ≤ s.size) (h : k = s.size ∨ (isL (bt s (k : Int)) = false ∧ bt s (k : Int) ≠ 42)) : (namedAns s k).2.2 = false := by
  have hn : nmEnd s k (s.size - k) k = k := by
    cases hd : s.size - k with
    | zero => rfl
    | succ d =>
      rw [nmEnd, if_neg]
      rintro ⟨h1, h2 | h2⟩
      · rcases h with h3 | h3
        · omega
        · rw [h3.1] at h2; cases h2
      · omega
  unfold namedAns
  rw [if_neg, hn]
  · show decide (k < k ∧ k - k ≤ 64) = false
    exact decide_eq_false (by omega)
  · rintro ⟨h1, h2⟩
    rcases h with h3 | h3
    · omega
    · exact h3.2 h2
theorem picked_no (s : ByteArray) (e : Nat) (h : e = s.size ∨ bt s (e : Int) ≠ 91) : pickedAns s e = (0, e, true) := by
  unfold pickedAns
  rw [if_neg]
  rintro ⟨h1, h2⟩
  rcases h with h3 | h3
  · omega
  · exact h3 h2
/-- A number of one digit between brackets. -/
theorem picked_one (s : ByteArray) (e d : Nat) (hs : e + 2 < s.size) (h1 : bt s (e : Int) = 91) (h2 : bt s ((e + 1 : Nat) : Int) = 48 + d) (hd : 1 ≤ d ∧ d ≤ 9) (h3 : bt s ((e + 2 : Nat) : Int) = 93) : pickedAns s e = ((d : Int), e + 3, true) := by
  have hp : pk s (s.size - (e + 1)) 0 (e + 1) = ((d : Int), e + 2) := by
    obtain ⟨m, hm⟩ : ∃ m, s.size - (e + 1) = m + 2 := ⟨s.size - (e + 1) - 2, by omega⟩
    have hdg : isD (bt s ((e + 1 : Nat) : Int)) = true := by rw [h2]; unfold isD; exact decide_eq_true (by omega)
    have hnd : ¬ isD (bt s ((e + 2 : Nat) : Int)) = true := by rw [h3]; decide
    rw [hm, pk, if_pos ⟨by omega, hdg, by omega⟩, pk, if_neg (fun h => hnd h.2.1), h2]
    refine Prod.ext ?_ rfl
    show 10 * (0 : Int) + (48 + (d : Int) - 48) = (d : Int)
    omega
  unfold pickedAns
  rw [if_pos ⟨by omega, h1⟩, hp]
  unfold pkOk
  rw [decide_eq_true]
  exact ⟨by omega, h3, by show e + 1 < e + 2; omega, by rw [h2]; omega, by show (d : Int) ≤ 1048576; omega⟩
theorem ext_word (s x : ByteArray) (k : Nat) (hx : (s.data.toList.drop k).take x.size = x.data.toList) : s.extract k (k + x.size) = x := by
  apply ByteArray.ext
  apply Array.toList_inj.1
  have := ext_toList s k (k + x.size)
  rw [Lib.toList_data, Nat.add_sub_cancel_left] at this
  rw [this, hx]
/-- One step: a name x from k on. -/
theorem step_word (s x : ByteArray) (a k e : Nat) (deep one : Bool) (hsl : slash s a one = some (deep, k)) (hx : (s.data.toList.drop k).take x.size = x.data.toList) (hke : k + x.size = e) (he : e ≤ s.size) (h1 : 1 ≤ x.size) (h64 : x.size ≤ 64)
    (h0 : isL (bt s (k : Int)) = true) (hall : ∀ j : Nat, k < j → j < e → nc (bt s (j : Int))) (hend : e = s.size ∨ ¬ nc (bt s (e : Int))) (r : Int × Nat × Bool) (hp : pickedAns s e = r) (hr : r.2.2 = true) :
    stepP s a one = some (⟨deep, x, r.1⟩, r.2.1) := by
  unfold stepP
  rw [hsl, Option.bind_some]
  unfold stepOf
  have hn := named_word s k e (by omega) he h0 hall hend
  rw [← hke, ext_word s x k hx, hke] at hn
  simp only [hn, hp]
  rw [if_pos (decide_eq_true (by omega)), if_pos hr]
theorem go_step (s : ByteArray) (d a : Nat) (l : List ST) (r : ST × Nat) (ha : a < s.size ∨ l = []) (h : stepP s a l.isEmpty = some r) : pathGo s (d + 1) a l = pathGo s d r.2 (l ++ [r.1]) := by
  rw [pathGo, if_pos ha, h]
theorem go_fail (s : ByteArray) (d a : Nat) (l : List ST) (ha : a < s.size ∨ l = []) (h : stepP s a l.isEmpty = none) : pathGo s (d + 1) a l = ([], (a : Int), 121) := by
  rw [pathGo, if_pos ha, h]
theorem go_end (s : ByteArray) (d a : Nat) (l : List ST) (ha : ¬ a < s.size) (hl : l ≠ []) : pathGo s d a l = (l, 0, 0) := by
  cases d with
  | zero => rfl
  | succ d => rw [pathGo, if_neg (by rintro (h | h); exact ha h; exact hl h)]
/-- Bytes of a text that is known. -/
theorem bt_list {s : ByteArray} {l : List UInt8} (h : s.data.toList = l) (k : Nat) : bt s (k : Int) = (((l.getD k 0).toNat : Nat) : Int) := by rw [bt_nat, h]
theorem size_list {s : ByteArray} {l : List UInt8} (h : s.data.toList = l) : s.size = l.length := by rw [← h]; simp
theorem getD_app_left (p q : List UInt8) (k : Nat) (h : k < p.length) : (p ++ q).getD k 0 = p.getD k 0 := by
  rw [List.getD_eq_getElem?_getD, List.getD_eq_getElem?_getD, List.getElem?_append_left h]
theorem getD_app_right (p q : List UInt8) (k : Nat) : (p ++ q).getD (p.length + k) 0 = q.getD k 0 := by
  rw [List.getD_eq_getElem?_getD, List.getD_eq_getElem?_getD, List.getElem?_append_right (by omega), Nat.add_sub_cancel_left]
/-- Names alone: letters, digits and _. -/
def Plain (a : ByteArray) : Prop := ∀ j : Nat, j < a.size → nc (bt a (j : Int))
/-- Where a name stands within a text: between p and q. -/
theorem mid_bytes {s a : ByteArray} {p q : List UInt8} (h : s.data.toList = p ++ (a.data.toList ++ q)) : (∀ j : Nat, j < a.size → bt s ((p.length + j : Nat) : Int) = bt a (j : Int)) ∧ (∀ j : Nat, bt s ((p.length + a.size + j : Nat) : Int) = (((q.getD j 0).toNat : Nat) : Int)) ∧ (s.data.toList.drop p.length).take a.size = a.data.toList ∧ (∀ j : Nat, j < p.length → bt s (j : Int) = (((p.getD j 0).toNat : Nat) : Int)) ∧ s.size = p.length + a.size + q.length := by
  have hl : a.data.toList.length = a.size := by simp
  refine ⟨fun j hj => ?_, fun j => ?_, ?_, fun j hj => ?_, ?_⟩
  · rw [bt_list h, getD_app_right, getD_app_left _ _ _ (by omega), bt_nat]
  · rw [bt_list h, Nat.add_assoc, getD_app_right, ← hl, getD_app_right]
  · rw [h, List.drop_left' rfl, ← hl, List.take_left' rfl]
  · rw [bt_list h, getD_app_left _ _ _ hj]
  · rw [size_list h, List.length_append, List.length_append, hl]; omega
/-- '//' and a name. -/
theorem path_deep (t a : ByteArray) (ht : t.data.toList = [47, 47] ++ (a.data.toList ++ [])) (hp : Plain a) (pl : List ST) (pa : Int) (h : pathAns t = (pl, pa, 0)) : isL (bt a 0) = true ∧ 1 ≤ a.size ∧ a.size ≤ 64 ∧ pl = [⟨true, a, 0⟩] := by
  obtain ⟨m1, m2, m3, m4, m5⟩ := mid_bytes ht
  have hp2 : ([47, 47] : List UInt8).length = 2 := rfl
  rw [hp2] at m1 m2 m3 m4 m5
  simp only [List.length_nil, Nat.add_zero] at m5
  have b0 : bt t ((0 : Nat) : Int) = 47 := m4 0 (by omega)
  have b1 : bt t ((1 : Nat) : Int) = 47 := m4 1 (by omega)
  have hsl : slash t 0 true = some (true, 2) := by
    unfold slash
    rw [if_pos ⟨by omega, b0, b1⟩]
  have hbad : (namedAns t 2).2.2 = false → False := by
    intro hn
    have hs : stepP t 0 true = none := by
      unfold stepP
      rw [hsl, Option.bind_some]
      unfold stepOf
      rw [if_neg (by rw [hn]; decide)]
    have := go_fail t t.size 0 [] (.inr rfl) hs
    unfold pathAns at h
    rw [this] at h
    injection h with _ h
    injection h with _ h
    exact absurd h (by decide)
  have hz : a.size ≠ 0 := fun h0 => hbad (named_none t 2 (by omega) (.inl (by omega)))
  have hL : isL (bt a 0) = true := by
    cases hl : isL (bt a 0) with
    | true => rfl
    | false =>
      exfalso
      refine hbad (named_none t 2 (by omega) (.inr ?_))
      have e := m1 0 (by omega)
      have e2 : bt t ((2 : Nat) : Int) = bt a 0 := e
      rw [e2]
      exact ⟨hl, (nc_not _ (hp 0 (by omega))).1⟩
  have hall : ∀ j : Nat, 2 < j → j < t.size → nc (bt t (j : Int)) := fun j h1 h2 => by
    have := m1 (j - 2) (by omega)
    rw [show 2 + (j - 2) = j by omega] at this
    rw [this]
    exact hp _ (by omega)
  have hL2 : isL (bt t ((2 : Nat) : Int)) = true := by
    have := m1 0 (by omega)
    exact (congrArg isL this).trans hL
  have h64 : a.size ≤ 64 := by
    refine Decidable.byContradiction fun hc => hbad ?_
    rw [named_word t 2 t.size (by omega) (Nat.le_refl _) hL2 hall (.inl rfl)]
    exact decide_eq_false (by omega)
  have hst := step_word t a 0 2 t.size true true hsl m3 (by omega) (Nat.le_refl _) (by omega) h64 hL2 hall (.inl rfl) _ (picked_no t t.size (.inl rfl)) rfl
  refine ⟨hL, by omega, h64, ?_⟩
  have h1 := go_step t t.size 0 [] _ (.inr rfl) hst
  unfold pathAns at h
  rw [h1, go_end _ _ _ _ (by show ¬ t.size < t.size; omega) (by simp)] at h
  injection h with h _
  exact h.symm
/-- '//*'. -/
theorem path_all : pathAns (⟨#[47, 47, 42]⟩ : ByteArray) = ([⟨true, ⟨#[42]⟩, 0⟩], 0, 0) := by kernel_rfl
/-- '/' a '//' b. -/
theorem path_below (t a b : ByteArray) (ht : t.data.toList = [47] ++ (a.data.toList ++ ([47, 47] ++ b.data.toList))) (hp : Plain a) (hL : isL (bt a 0) = true) (h1 : 1 ≤ a.size) (h64 : a.size ≤ 64) (hb : b.size = 1) (hLb : isL (bt b 0) = true) :
    pathAns t = ([⟨false, a, 0⟩, ⟨true, b, 0⟩], 0, 0) := by
  obtain ⟨m1, m2, m3, m4, m5⟩ := mid_bytes ht
  have hp2 : ([47] : List UInt8).length = 1 := rfl
  have hbl : b.data.toList.length = 1 := by rw [← hb]; simp
  rw [hp2] at m1 m2 m3 m4 m5
  have hq2 : (([47, 47] : List UInt8) ++ b.data.toList).length = 3 := by simp [hbl]
  rw [hq2] at m5
  have ht2 : t.data.toList = ([47] ++ a.data.toList ++ [47, 47]) ++ (b.data.toList ++ []) := by rw [ht]; simp
  obtain ⟨n1, n2, n3, n4, n5⟩ := mid_bytes ht2
  have hlen : ([47] ++ a.data.toList ++ [47, 47] : List UInt8).length = a.size + 3 := by simp
  rw [hlen] at n1 n2 n3 n4 n5
  have b0 : bt t ((0 : Nat) : Int) = 47 := m4 0 (by omega)
  have b1 : bt t ((1 : Nat) : Int) = bt a 0 := m1 0 (by omega)
  have c0 : bt t ((1 + a.size : Nat) : Int) = 47 := m2 0
  have c1 : bt t ((1 + a.size + 1 : Nat) : Int) = 47 := m2 1
  have d0 : bt t ((a.size + 3 : Nat) : Int) = bt b 0 := n1 0 (by omega)
  have hsl : slash t 0 true = some (false, 1) := by
    unfold slash
    rw [if_neg (fun h => by have h3 : bt t ((1 : Nat) : Int) = 47 := h.2.2; rw [b1] at h3; exact (isL_not _ hL).2.1 h3), if_pos ⟨by omega, b0⟩]
  have hst := step_word t a 0 1 (1 + a.size) false true hsl m3 rfl (by omega) h1 h64 (by rw [b1]; exact hL)
    (fun j g1 g2 => by have := m1 (j - 1) (by omega); rw [show 1 + (j - 1) = j by omega] at this; rw [this]; exact hp _ (by omega)) (.inr (by rw [c0]; decide)) _ (picked_no t (1 + a.size) (.inr (by rw [c0]; decide))) rfl
  have hsl2 : slash t (1 + a.size) false = some (true, a.size + 3) := by
    unfold slash
    rw [if_pos ⟨by omega, c0, c1⟩, show 1 + a.size + 2 = a.size + 3 by omega]
  have hst2 := step_word t b (1 + a.size) (a.size + 3) t.size true false hsl2 n3 (by omega) (Nat.le_refl _) (by omega) (by omega) (by rw [d0]; exact hLb) (fun j g1 g2 => by omega) (.inl rfl) _ (picked_no t t.size (.inl rfl)) rfl
  obtain ⟨d, hd⟩ : ∃ d, t.size + 1 = d + 1 + 1 := ⟨t.size - 1, by omega⟩
  unfold pathAns
  rw [hd, go_step t (d + 1) 0 [] _ (.inr rfl) hst, List.nil_append]
  rw [go_step t d (1 + a.size) [⟨false, a, 0⟩] _ (.inl (by omega)) hst2, go_end _ _ _ _ (by show ¬ t.size < t.size; omega) (by simp)]
  rfl
/-- '//' a '/' b, with a number or without. -/
theorem path_kid (t a b : ByteArray) (q : List UInt8) (n : Int) (e : Nat) (ht : t.data.toList = [47, 47] ++ (a.data.toList ++ ([47] ++ (b.data.toList ++ q)))) (hp : Plain a) (hL : isL (bt a 0) = true) (h1 : 1 ≤ a.size) (h64 : a.size ≤ 64) (hb : b.size = 1) (hLb : isL (bt b 0) = true)
    (he : e = a.size + 4) (hq : q = [] ∨ ¬ nc (bt t (e : Int))) (hpk : pickedAns t e = (n, t.size, true)) :
    pathAns t = ([⟨true, a, 0⟩, ⟨false, b, n⟩], 0, 0) := by
  obtain ⟨m1, m2, m3, m4, m5⟩ := mid_bytes ht
  have hp2 : ([47, 47] : List UInt8).length = 2 := rfl
  have hbl : b.data.toList.length = 1 := by rw [← hb]; simp
  rw [hp2] at m1 m2 m3 m4 m5
  have hq2 : (([47] : List UInt8) ++ (b.data.toList ++ q)).length = 2 + q.length := by simp [hbl]; omega
  rw [hq2] at m5
  have ht2 : t.data.toList = ([47, 47] ++ a.data.toList ++ [47]) ++ (b.data.toList ++ q) := by rw [ht]; simp
  obtain ⟨n1, n2, n3, n4, n5⟩ := mid_bytes ht2
  have hlen : ([47, 47] ++ a.data.toList ++ [47] : List UInt8).length = a.size + 3 := by simp
  rw [hlen] at n1 n2 n3 n4 n5
  have b0 : bt t ((0 : Nat) : Int) = 47 := m4 0 (by omega)
  have b1 : bt t ((1 : Nat) : Int) = 47 := m4 1 (by omega)
  have b2 : bt t ((2 : Nat) : Int) = bt a 0 := m1 0 (by omega)
  have c0 : bt t ((2 + a.size : Nat) : Int) = 47 := m2 0
  have d0 : bt t ((a.size + 3 : Nat) : Int) = bt b 0 := n1 0 (by omega)
  have hsl : slash t 0 true = some (true, 2) := by
    unfold slash
    rw [if_pos ⟨by omega, b0, b1⟩]
  have hst := step_word t a 0 2 (2 + a.size) true true hsl m3 rfl (by omega) h1 h64 (by rw [b2]; exact hL)
    (fun j g1 g2 => by have := m1 (j - 2) (by omega); rw [show 2 + (j - 2) = j by omega] at this; rw [this]; exact hp _ (by omega)) (.inr (by rw [c0]; decide)) _ (picked_no t (2 + a.size) (.inr (by rw [c0]; decide))) rfl
  have hsl2 : slash t (2 + a.size) false = some (false, a.size + 3) := by
    unfold slash
    rw [if_neg (fun h => by have h3 : bt t ((2 + a.size + 1 : Nat) : Int) = 47 := h.2.2; rw [show 2 + a.size + 1 = a.size + 3 by omega, d0] at h3; exact (isL_not _ hLb).2.1 h3), if_pos ⟨by omega, c0⟩, show 2 + a.size + 1 = a.size + 3 by omega]
  have hes : e = t.size ∨ ¬ nc (bt t (e : Int)) := by
    rcases hq with h | h
    · left; rw [h] at m5; simp only [List.length_nil] at m5; omega
    · exact .inr h
  have hst2 := step_word t b (2 + a.size) (a.size + 3) e false false hsl2 n3 (by omega) (by omega) (by omega) (by omega) (by rw [d0]; exact hLb) (fun j g1 g2 => by omega) hes _ hpk rfl
  obtain ⟨d, hd⟩ : ∃ d, t.size + 1 = d + 1 + 1 := ⟨t.size - 1, by omega⟩
  unfold pathAns
  rw [hd, go_step t (d + 1) 0 [] _ (.inr rfl) hst, List.nil_append]
  rw [go_step t d (2 + a.size) [⟨true, a, 0⟩] _ (.inl (by omega)) hst2, go_end _ _ _ _ (by show ¬ t.size < t.size; omega) (by simp)]
  rfl
theorem path_kid0 (t a b : ByteArray) (ht : t.data.toList = [47, 47] ++ (a.data.toList ++ ([47] ++ (b.data.toList ++ [])))) (hp : Plain a) (hL : isL (bt a 0) = true) (h1 : 1 ≤ a.size) (h64 : a.size ≤ 64) (hb : b.size = 1) (hLb : isL (bt b 0) = true) :
    pathAns t = ([⟨true, a, 0⟩, ⟨false, b, 0⟩], 0, 0) := by
  have hbl : b.data.toList.length = 1 := by rw [← hb]; simp
  have hts : t.size = a.size + 4 := by rw [size_list ht]; simp [hbl] <;> omega
  refine path_kid t a b [] 0 (a.size + 4) ht hp hL h1 h64 hb hLb rfl (.inl rfl) ?_
  rw [picked_no t (a.size + 4) (.inl hts.symm), hts]
theorem path_kidn (t a b : ByteArray) (d : Nat) (hd : 1 ≤ d ∧ d ≤ 9) (c : UInt8) (hc : c.toNat = 48 + d) (ht : t.data.toList = [47, 47] ++ (a.data.toList ++ ([47] ++ (b.data.toList ++ [91, c, 93])))) (hp : Plain a) (hL : isL (bt a 0) = true) (h1 : 1 ≤ a.size) (h64 : a.size ≤ 64) (hb : b.size = 1) (hLb : isL (bt b 0) = true) :
    pathAns t = ([⟨true, a, 0⟩, ⟨false, b, (d : Int)⟩], 0, 0) := by
  have hbl : b.data.toList.length = 1 := by rw [← hb]; simp
  have hts : t.size = a.size + 7 := by rw [size_list ht]; simp [hbl] <;> omega
  have ht2 : t.data.toList = ([47, 47] ++ a.data.toList ++ [47]) ++ (b.data.toList ++ [91, c, 93]) := by rw [ht]; simp
  obtain ⟨n1, n2, n3, n4, n5⟩ := mid_bytes ht2
  have hlen : ([47, 47] ++ a.data.toList ++ [47] : List UInt8).length = a.size + 3 := by simp
  rw [hlen, hb] at n2
  have e0 : bt t ((a.size + 4 : Nat) : Int) = 91 := n2 0
  have e1 : bt t ((a.size + 4 + 1 : Nat) : Int) = 48 + d := by have := n2 1; rw [show a.size + 3 + 1 + 1 = a.size + 4 + 1 by omega] at this; rw [this]; show ((c.toNat : Nat) : Int) = _; omega
  have e2 : bt t ((a.size + 4 + 2 : Nat) : Int) = 93 := n2 2
  refine path_kid t a b [91, c, 93] d (a.size + 4) ht hp hL h1 h64 hb hLb rfl (.inr (by rw [e0]; decide)) ?_
  rw [picked_one t (a.size + 4) d (by omega) e0 e1 hd e2, hts]
end Go.Proofs.YtkebableanenkaaDoor.Pb
