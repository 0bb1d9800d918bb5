/- Own names: the program's forest.own and the document's Own tell the same of every text. Conditions: texts of at most 2^30 bytes. -/
import Derived.Test.YtloflodbcdlmpaaDoorQallx4
import Derived.Test.YtloflodbcdlmpaaDoorQallx6
namespace Go.Proofs.YtloflodbcdlmpaaDoor.Own
open Go.RowKit Go.Proofs.YtloflodbcdlmpaaDoor.Qall Go.Proofs.YtloflodbcdlmpaaDoorW.PrintWords Go.Proofs.YtloflodbcdlmpaaDoorW.PrintLast Go.Proofs.YtloflodbcdlmpaaDoorW.PrintMore
set_option linter.unusedSimpArgs false
set_option linter.unusedVariables false
def isL (c : Int) : Bool := (decide (97 ≤ c) && decide (c ≤ 122)) || (decide (65 ≤ c) && decide (c ≤ 90)) || c == 95
def isD (c : Int) : Bool := decide (48 ≤ c) && decide (c ≤ 57)
theorem wrap_of {i : Int} (h0 : -9223372036854775808 ≤ i) (h1 : i ≤ 9223372036854775807) : wrap64 i = i := by
  unfold wrap64
  omega
theorem lex_letter (c : Int) : lexis_letter.f c = some (isL c) := by
  unfold lexis_letter.f isL
  by_cases h1 : 97 ≤ c <;> by_cases h2 : c ≤ 122 <;> by_cases h3 : 65 ≤ c <;> by_cases h4 : c ≤ 90 <;> simp [h1, h2, h3, h4] <;> omega
theorem ref_letter (c : Int) : dowelref04_letter.f c = some (isL c) := by
  unfold dowelref04_letter.f isL
  by_cases h1 : 97 ≤ c <;> by_cases h2 : c ≤ 122 <;> by_cases h3 : 65 ≤ c <;> by_cases h4 : c ≤ 90 <;> simp [h1, h2, h3, h4] <;> omega
theorem lex_digit (c : Int) : lexis_digit.f c = some (isD c) := by
  unfold lexis_digit.f isD
  by_cases h1 : 48 ≤ c <;> simp [h1]
theorem ref_digit (c : Int) : dowelref04_digit.f c = some (isD c) := by
  unfold dowelref04_digit.f isD
  by_cases h1 : 48 ≤ c <;> simp [h1]
/-- How many letters and digits stand from place i on, of d bytes. -/
def run (s : ByteArray) : Nat → Nat → Nat
  | 0, _ => 0
  | d + 1, i => if isL (bt s (i : Int)) || isD (bt s (i : Int)) then run s d (i + 1) + 1 else 0
theorem run_le (s : ByteArray) : ∀ d i, run s d i ≤ d
  | 0, _ => Nat.le_refl _
  | d + 1, i => by
    unfold run
    split
    · have := run_le s d (i + 1); omega
    · omega
def own0 (s : ByteArray) : Nat := if 0 < s.size ∧ isL (bt s 0) = true then 1 + run s (s.size - 1) 1 else 0
def nameOk (s : ByteArray) : Bool := decide (s.size ≠ 0 ∧ s.size ≤ 64 ∧ own0 s = s.size)
theorem lex_run (s : ByteArray) (hs : s.size ≤ 1073741824) : ∀ d k n, 1 ≤ n → n + d = s.size → d < k → lexis_own.l0 k s 0 (n : Int) = some ((n + run s d n : Nat) : Int)
  | 0, k, n, h1, hn, hk => by
    obtain ⟨k, rfl⟩ : ∃ m, k = m + 1 := ⟨k - 1, by omega⟩
    rw [lexis_own.l0, Int.zero_add, wrap_of (by omega) (by omega), if_neg (by omega), run, Nat.add_zero]
  | d + 1, k, n, h1, hn, hk => by
    obtain ⟨k, rfl⟩ : ∃ m, k = m + 1 := ⟨k - 1, by omega⟩
    have ih := lex_run s hs d k (n + 1) (by omega) (by omega) (by omega)
    have h0 : (n : Int) > 0 := by omega
    rw [lexis_own.l0, Int.zero_add, wrap_of (i := (n : Int)) (by omega) (by omega), wrap_of (i := (n : Int) + 1) (by omega) (by omega), if_pos (by omega), if_pos (by omega), lex_letter, Option.bind_some, lex_digit, show (n : Int) + 1 = ((n + 1 : Nat) : Int) from rfl, ih, run]
    cases hL : isL (bt s (n : Int)) <;> cases hD : isD (bt s (n : Int)) <;> simp [hL, hD, show 0 < n by omega] <;> omega
theorem ref_run (s : ByteArray) (hs : s.size ≤ 1073741824) : ∀ d k n, n + d = s.size → d < k → dowelref04_own.l0 k s (n : Int) = some ((n + run s d n : Nat) : Int)
  | 0, k, n, hn, hk => by
    obtain ⟨k, rfl⟩ : ∃ m, k = m + 1 := ⟨k - 1, by omega⟩
    rw [dowelref04_own.l0, if_neg (by omega), run, Nat.add_zero]
  | d + 1, k, n, hn, hk => by
    obtain ⟨k, rfl⟩ : ∃ m, k = m + 1 := ⟨k - 1, by omega⟩
    have ih := ref_run s hs d k (n + 1) (by omega) (by omega)
    rw [dowelref04_own.l0, wrap_of (i := (n : Int) + 1) (by omega) (by omega), if_pos (by omega), if_pos (by omega), ref_letter, Option.bind_some, ref_digit, Option.bind_some, show (n : Int) + 1 = ((n + 1 : Nat) : Int) from rfl, ih, run]
    cases hL : isL (bt s (n : Int)) <;> cases hD : isD (bt s (n : Int)) <;> simp [hL, hD] <;> omega
theorem lex_own (s : ByteArray) (hs : s.size ≤ 1073741824) (k : Nat) (hk : s.size < k) : lexis_own.f k s 0 = some ((own0 s : Nat) : Int) := by
  obtain ⟨k, rfl⟩ : ∃ m, k = m + 1 := ⟨k - 1, by omega⟩
  unfold lexis_own.f own0
  rw [lexis_own.l0, show wrap64 (0 + 0) = 0 from wrap_of (by omega) (by omega)]
  by_cases h0 : 0 < s.size
  · have hr := lex_run s hs (s.size - 1) k 1 (Nat.le_refl _) (by omega) (by omega)
    rw [if_pos (by omega), if_pos (by omega), lex_letter, Option.bind_some, show wrap64 (0 + 1) = ((1 : Nat) : Int) from wrap_of (by omega) (by omega), hr]
    cases hL : isL (bt s 0) <;> simp [hL, h0]
  · rw [if_neg (by omega), if_neg (by omega)]
    rfl
theorem ref_own (s : ByteArray) (hs : s.size ≤ 1073741824) (k : Nat) (hk : s.size + 1 < k) : dowelref04_own.f k s 0 = some ((own0 s : Nat) : Int) := by
  obtain ⟨k, rfl⟩ : ∃ m, k = m + 1 := ⟨k - 1, by omega⟩
  unfold dowelref04_own.f own0
  by_cases h0 : 0 < s.size
  · have hr := ref_run s hs s.size k 0 (by omega) (by omega)
    rw [if_neg (by omega), if_pos (by omega), if_pos (by omega), ref_letter, Option.bind_some, dowelref04_own.j0]
    cases hL : isL (bt s 0)
    · rw [if_pos (by rfl), if_neg (by simp)]; rfl
    · rw [if_neg (by simp), if_pos ⟨h0, rfl⟩, show (0 : Int) = ((0 : Nat) : Int) from rfl, hr]
      obtain ⟨m, hm⟩ : ∃ m, s.size = m + 1 := ⟨s.size - 1, by omega⟩
      have e : run s s.size 0 = run s (s.size - 1) 1 + 1 := by
        rw [hm, run, if_pos (by rw [show ((0 : Nat) : Int) = 0 from rfl, hL]; rfl)]
        rfl
      rw [e]
      congr 1
      omega
  · rw [if_pos (by omega), dowelref04_own.j0, if_pos rfl, if_neg (by omega)]
    rfl
theorem size_list (s : ByteArray) : s.toList = [] ↔ s.size = 0 := by
  rw [ByteArray.toList_eq, ← List.length_eq_zero_iff, Array.length_toList]
  rfl
theorem refOwn_eq (s : ByteArray) (hs : s.size ≤ 1073741824) (k : Nat) (hk : s.size + 1 < k) : dowelref04_Own.f k s = some (nameOk s) := by
  unfold dowelref04_Own.f nameOk
  by_cases h0 : s.size = 0
  · rw [if_pos ((size_list s).2 h0)]; simp [h0]
  · rw [if_neg (fun h => h0 ((size_list s).1 h))]
    by_cases h1 : s.size ≤ 64
    · rw [if_pos (by omega), ref_own s hs k hk, Option.bind_some]
      congr 1
      rw [Bool.eq_iff_iff]
      simp [h0, h1]
      omega
    · rw [if_neg (by omega)]; simp [h1]
/-- Of an own name every byte is a letter or a digit. -/
theorem run_all (s : ByteArray) : ∀ d i, run s d i = d → ∀ j, i ≤ j → j < i + d → isL (bt s (j : Int)) = true ∨ isD (bt s (j : Int)) = true
  | 0, i, _, j, h1, h2 => by omega
  | d + 1, i, h, j, h1, h2 => by
    unfold run at h
    split at h
    · rename_i hc
      by_cases e : j = i
      · subst e
        simpa using hc
      · exact run_all s d (i + 1) (by omega) j (by omega) (by omega)
    · omega
/-- Where the run ends there stands no letter, no digit. -/
theorem run_stop (s : ByteArray) : ∀ d i, run s d i < d → isL (bt s ((i + run s d i : Nat) : Int)) = false ∧ isD (bt s ((i + run s d i : Nat) : Int)) = false
  | 0, i, h => by omega
  | d + 1, i, h => by
    unfold run at h ⊢
    split
    · rename_i hc
      rw [if_pos hc] at h
      have := run_stop s d (i + 1) (by omega)
      rw [show i + 1 + run s d (i + 1) = i + (run s d (i + 1) + 1) by omega] at this
      exact this
    · rename_i hc
      simpa using hc
theorem own0_le (s : ByteArray) : own0 s ≤ s.size := by
  unfold own0
  split
  · have := run_le s (s.size - 1) 1; omega
  · omega
theorem own0_all (s : ByteArray) (h : own0 s = s.size) (h0 : s.size ≠ 0) (j : Nat) (hj : j < s.size) : isL (bt s (j : Int)) = true ∨ isD (bt s (j : Int)) = true := by
  unfold own0 at h
  split at h
  · rename_i hc
    by_cases e : j = 0
    · subst e; exact .inl hc.2
    · exact run_all s (s.size - 1) 1 (by omega) j (by omega) (by omega)
  · omega
theorem not_sep {c : Int} (h : isL c = true ∨ isD c = true) : c ≠ 58 ∧ c ≠ 126 := by
  constructor <;> rintro rfl <;> revert h <;> decide
theorem bt_extract (s : ByteArray) (n j : Nat) (h : n + j < s.size) : bt (s.extract n s.size) (j : Int) = bt s ((n + j : Nat) : Int) := by
  unfold bt
  have h1 : (j : Int).toNat < (s.extract n s.size).size := by rw [ByteArray.size_extract]; omega
  have h2 : ((n + j : Nat) : Int).toNat < s.size := by omega
  rw [dif_pos h1, dif_pos h2]
  have : (s.extract n s.size)[(j : Int).toNat] = s[((n + j : Nat) : Int).toNat] := by
    rw [ByteArray.getElem_extract]
    rfl
  rw [this]
/-- A text that doesn't begin with a colon has no colons ahead. -/
theorem prefix_no (x : ByteArray) (h : x.size = 0 ∨ bt x 0 ≠ 58) : strings_HasPrefix.f x ⟨#[58, 58]⟩ = some false := by
  unfold strings_HasPrefix.f stringslite_HasPrefix.f
  have h2 : (⟨#[58, 58]⟩ : ByteArray).size = 2 := rfl
  rw [h2]
  by_cases hx : (x.size : Int) ≥ ((2 : Nat) : Int)
  · rw [if_pos hx, if_pos (by omega), if_pos (by omega), Option.bind_some]
    congr 1
    rw [Bool.eq_false_iff]
    intro he
    have he2 : (x.extract 0 (((2 : Nat) : Int)).toNat).toList = (⟨#[58, 58]⟩ : ByteArray).toList := by simpa using he
    rw [ByteArray.toList_eq, ByteArray.toList_eq] at he2
    have he3 : x.extract 0 2 = ⟨#[58, 58]⟩ := Go.WideShapes.bytes_inj he2
    rcases h with h | h
    · omega
    · apply h
      unfold bt
      rw [dif_pos (by omega)]
      have h4 : (x.extract 0 2)[0]'(by rw [ByteArray.size_extract]; omega) = (⟨#[58, 58]⟩ : ByteArray)[0]'(by rw [h2]; omega) := by
        congr 1
      rw [ByteArray.getElem_extract] at h4
      have h5 : x[(0 : Int).toNat]'(by omega) = 58 := h4
      rw [h5]
      rfl
  · rw [if_neg hx]; rfl
theorem numbered_no (x : ByteArray) (h : x.size = 0 ∨ bt x 0 ≠ 126) (k : Nat) (hk : 1 ≤ k) : lexis_numbered.f k x = some 0 := by
  obtain ⟨k, rfl⟩ : ∃ m, k = m + 1 := ⟨k - 1, by omega⟩
  unfold lexis_numbered.f
  by_cases h0 : x.size = 0
  · rw [if_pos ((size_list x).2 h0), lexis_numbered.j0, if_pos rfl]
  · rw [if_neg (fun e => h0 ((size_list x).1 e)), if_pos (by omega), lexis_numbered.j0, if_pos (by simpa using h.resolve_left h0)]
/-- Name of a text without : and ~ . -/
theorem name_eq (s : ByteArray) (hs : s.size ≤ 1073741824) (hc : ∀ j, j < s.size → bt s (j : Int) ≠ 58 ∧ bt s (j : Int) ≠ 126) (k : Nat) (hk : s.size < k) : lexis_Name.f k s = some (nameOk s) := by
  unfold lexis_Name.f nameOk
  by_cases h0 : s.size = 0
  · rw [if_pos ((size_list s).2 h0)]; simp [h0]
  · rw [if_neg (fun e => h0 ((size_list s).1 e))]
    by_cases h1 : s.size ≤ 64
    · rw [if_pos (by omega)]
      have hle := own0_le s
      unfold lexis_named.f
      rw [lex_own s hs k hk, Option.bind_some]
      by_cases hz : own0 s = 0
      · rw [if_pos (by omega), Option.bind_some]
        congr 1
        rw [Bool.eq_iff_iff]
        simp [h0, h1, hz]
        omega
      · rw [if_neg (by omega), Int.zero_add, wrap_of (i := ((own0 s : Nat) : Int)) (by omega) (by omega), if_pos (by omega), if_pos (by omega), Int.toNat_natCast]
        have hx : ∀ c, (c = 58 ∨ c = 126) → (s.extract (own0 s) s.size).size = 0 ∨ bt (s.extract (own0 s) s.size) 0 ≠ c := fun c hcc => by
          by_cases he : own0 s < s.size
          · right
            have := bt_extract s (own0 s) 0 (by omega)
            rw [show (0 : Int) = ((0 : Nat) : Int) from rfl, this]
            have h2 := hc (own0 s + 0) (by omega)
            rcases hcc with rfl | rfl
            · exact h2.1
            · exact h2.2
          · left
            rw [ByteArray.size_extract]; omega
        rw [prefix_no _ (hx 58 (.inl rfl)), Option.bind_some, if_neg (by simp), numbered_no _ (hx 126 (.inr rfl)) k (by omega), Option.bind_some, Int.add_zero, wrap_of (i := ((own0 s : Nat) : Int)) (by omega) (by omega), Option.bind_some]
        congr 1
        rw [Bool.eq_iff_iff]
        simp [h0, h1]
        omega
    · rw [if_neg (by omega)]; simp [h1]
theorem own_l0 (s : ByteArray) (hs : s.size ≤ 1073741824) : ∀ d k i, i + d = s.size → s.size + d + 1 < k → (∀ j, j < i → bt s (j : Int) ≠ 58 ∧ bt s (j : Int) ≠ 126) → forest_own.l0 k s (i : Int) = some (nameOk s)
  | 0, k, i, hi, hk, hc => by
    obtain ⟨k, rfl⟩ : ∃ m, k = m + 1 := ⟨k - 1, by omega⟩
    rw [forest_own.l0, if_neg (by omega), name_eq s hs (fun j hj => hc j (by omega)) k (by omega)]
    rfl
  | d + 1, k, i, hi, hk, hc => by
    obtain ⟨k, rfl⟩ : ∃ m, k = m + 1 := ⟨k - 1, by omega⟩
    have hno : (bt s (i : Int) = 58 ∨ bt s (i : Int) = 126) → nameOk s = false := fun h => by
      unfold nameOk
      rw [decide_eq_false_iff_not]
      rintro ⟨h0, _, h2⟩
      have := not_sep (own0_all s h2 h0 i (by omega))
      rcases h with h | h
      · exact this.1 h
      · exact this.2 h
    rw [forest_own.l0, if_pos (by omega), if_pos (by omega)]
    by_cases h1 : bt s (i : Int) = 58
    · rw [if_pos h1, hno (.inl h1)]
    · rw [if_neg h1]
      by_cases h2 : bt s (i : Int) = 126
      · rw [if_pos h2, hno (.inr h2)]
      · rw [if_neg h2, wrap_of (i := (i : Int) + 1) (by omega) (by omega)]
        refine own_l0 s hs d k (i + 1) (by omega) (by omega) (fun j hj => ?_)
        by_cases e : j = i
        · subst e; exact ⟨h1, h2⟩
        · exact hc j (by omega)
theorem own_eq (s : ByteArray) (hs : s.size ≤ 1073741824) (k : Nat) (hk : 2 * s.size + 1 < k) : forest_own.f k s = some (nameOk s) :=
  own_l0 s hs s.size k 0 (by omega) (by omega) (fun j hj => absurd hj (Nat.not_lt_zero j))
end Go.Proofs.YtloflodbcdlmpaaDoor.Own
