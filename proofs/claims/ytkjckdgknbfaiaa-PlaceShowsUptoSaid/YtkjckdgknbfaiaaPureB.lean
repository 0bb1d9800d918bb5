/- Plain laws for the lines of a text: place.row, bounds, At, Row, Lines and the reference's Lines, At, Row tell what the list of the text's bytes has. Conditions: as each theorem states. -/
import Derived.Test.YtkjckdgknbfaiaaPureA
namespace Go.Proofs.Ytkjckdgknbfaiaa.Qall
open Go.RowKit Go.Proofs.YtkjckdgknbfaiaaW.PrintWords Go.Proofs.YtkjckdgknbfaiaaW.PrintLast Go.Proofs.YtkjckdgknbfaiaaW.PrintMore
set_option linter.unusedSimpArgs false

theorem index_nx (l : List UInt8) : ∀ d b, b + d = l.length → Lib.indexByte (l.drop b) 10 = if nx l b d < l.length then ((nx l b d : Int) - b) else -1
  | 0, b, h => by
    rw [List.drop_eq_nil_of_le (by omega)]
    unfold nx Lib.indexByte
    rw [if_neg (by omega)]
  | d + 1, b, h => by
    have hb : b < l.length := by omega
    rw [List.drop_eq_getElem_cons hb]
    unfold Lib.indexByte nx
    by_cases e : l[b] = 10
    · rw [if_pos (by simp [e]), if_pos ((by_ten l b hb).2 e), if_pos hb]; omega
    · have ih := index_nx l d (b + 1) (by omega)
      have hg := nx_le l d (b + 1)
      rw [if_neg (by simp [e]), if_neg (fun h2 => e ((by_ten l b hb).1 h2)), ih]
      by_cases c : nx l (b + 1) d < l.length
      · rw [if_pos c, if_pos c, if_neg (by
          intro h3
          have := eq_of_beq h3
          omega)]
        omega
      · rw [if_neg c, if_neg c, if_pos (by rfl)]
theorem index_extract (s : ByteArray) (b : Nat) (h : b ≤ s.size) : Lib.indexByte (s.extract b s.size).data.toList 10 = if nextLF s.data.toList b < s.size then ((nextLF s.data.toList b : Int) - b) else -1 := by
  have e : (s.extract b s.size).data.toList = s.data.toList.drop b := by
    rw [data_extract, List.take_of_length_le]
    rw [List.length_drop, ← size_list]
    omega
  rw [e, index_nx _ (s.data.toList.length - b) b (by rw [← size_list]; omega)]
  unfold nextLF
  rw [← size_list]
theorem last_ls (s : ByteArray) (at_ : Nat) (h : at_ ≤ s.size) : ∀ k, k ≤ at_ → Lib.lastIdx (s.extract 0 at_) 10 k + 1 = (ls s.data.toList k : Int)
  | 0, _ => rfl
  | k + 1, hk => by
    have ih := last_ls s at_ h k (by omega)
    have e : (((s.extract 0 at_).data[k]!).toNat : Int) = (by_ s.data.toList k : Int) := by
      have h2 : k < (s.extract 0 at_).data.size := by
        have : (s.extract 0 at_).data.size = (s.extract 0 at_).size := rfl
        rw [this, ByteArray.size_extract]; omega
      have h3 : k < s.data.size := by have : s.data.size = s.size := rfl; omega
      unfold by_
      rw [getElem!_pos ((s.extract 0 at_).data) k h2, List.getD_eq_getElem?_getD, Array.getElem?_toList, Array.getElem?_eq_getElem h3]
      simp [ByteArray.data_extract]
    unfold Lib.lastIdx ls
    rw [e]
    by_cases c : by_ s.data.toList k = 10
    · rw [if_pos (by omega), if_pos c]; omega
    · rw [if_neg (by omega), if_neg c]; exact ih
theorem row_eq (s : ByteArray) (at_ : Nat) (h : at_ ≤ s.size) (hn : s.size ≤ 1073741824) : place_row.f s (at_ : Int) = some ((ls s.data.toList at_ : Int), (nextLF s.data.toList at_ : Int)) := by
  have hl := ls_le s.data.toList at_
  have hg := nextLF_ge s.data.toList at_
  have hle := nextLF_le s.data.toList at_ (by rw [← size_list]; exact h)
  rw [← size_list] at hle
  unfold place_row.f strings_LastIndexByte.f strings_IndexByte.f
  rw [if_pos (by omega), if_pos (by omega), Int.toNat_natCast]
  have e1 : (s.extract 0 at_).size = at_ := by rw [ByteArray.size_extract]; omega
  have e2 : Lib.lastIndexByte (s.extract 0 at_) 10 + 1 = (ls s.data.toList at_ : Int) := by
    unfold Lib.lastIndexByte
    rw [e1]
    exact last_ls s at_ h at_ (Nat.le_refl _)
  rw [if_pos (by omega), Option.bind_some, Option.bind_some]
  have e3 : ((10 : Int).toNat.toUInt8) = (10 : UInt8) := rfl
  rw [e3, index_extract s at_ h, e2]
  by_cases c : nextLF s.data.toList at_ < s.size
  · rw [if_pos c, if_neg (by omega), wrap_of (by omega) (by omega), wrap_of (by omega) (by omega)]
    congr 2
    omega
  · rw [if_neg c, if_pos (by omega), wrap_of (by omega) (by omega)]
    congr 2
    omega
def tell (l : List UInt8) : Option Nat → Int × Int × Bool
  | some b => ((b : Int), (nextLF l b : Int), true)
  | none => (0, 0, false)
theorem bounds_l0 (s : ByteArray) (hn : s.size ≤ 1073741824) (line : Int) (hl : line ≤ 9223372036854775807) : ∀ (d k b n : Nat), b + d = s.size → d < k → 1 ≤ n → (n : Int) ≤ line →
    ls s.data.toList b = b → place_bounds.l0 k s line (b : Int) (n : Int) = some (tell s.data.toList (startFrom s.data.toList b (line - n).toNat)) := by
  intro d
  induction d using Nat.strongRecOn with
  | ind d ih =>
    intro k b n hb hk h1 h2 hls
    obtain ⟨k, rfl⟩ : ∃ m, k = m + 1 := ⟨k - 1, by omega⟩
    have hg := nextLF_ge s.data.toList b
    have hle := nextLF_le s.data.toList b (by rw [← size_list]; omega)
    rw [← size_list] at hle
    unfold place_bounds.l0
    by_cases c : (n : Int) < line
    · rw [if_pos c, if_pos (by omega), if_pos (by omega), Int.toNat_natCast]
      unfold strings_IndexByte.f
      have e3 : ((10 : Int).toNat.toUInt8) = (10 : UInt8) := rfl
      rw [Option.bind_some, e3, index_extract s b (by omega)]
      obtain ⟨m, hm⟩ : ∃ m : Nat, (line - n).toNat = m + 1 := ⟨(line - n).toNat - 1, by omega⟩
      rw [hm]
      by_cases g : nextLF s.data.toList b < s.size
      · rw [if_pos g, if_neg (by omega), wrap_of (i := (nextLF s.data.toList b : Int) - b + 1) (by omega) (by omega), wrap_of (i := (b : Int) + ((nextLF s.data.toList b : Int) - b + 1)) (by omega) (by omega), wrap_of (i := (n : Int) + 1) (by omega) (by omega)]
        rw [startFrom_succ _ _ (by rw [← size_list]; exact g)]
        have hh := nextLF_hit s.data.toList b (by rw [← size_list]; exact g)
        have := ih (s.size - (nextLF s.data.toList b + 1)) (by omega) k (nextLF s.data.toList b + 1) (n + 1) (by omega) (by omega) (by omega) (by omega) (by unfold ls; rw [if_pos hh])
        rw [show (b : Int) + ((nextLF s.data.toList b : Int) - b + 1) = ((nextLF s.data.toList b + 1 : Nat) : Int) from by omega, show (n : Int) + 1 = ((n + 1 : Nat) : Int) from by omega, this]
        rw [show (line - ((n + 1 : Nat) : Int)).toNat = m from by omega]
      · rw [if_neg g, if_pos (by omega), startFrom_none _ _ (by rw [← size_list]; exact g)]
        rfl
    · rw [if_neg c, row_eq s b (by omega) hn, Option.bind_some, show (line - n).toNat = 0 from by omega]
      rfl
/-- the line of a number: where it begins, if there is one -/
def lineAt (l : List UInt8) (line : Int) : Option Nat := if line < 1 then none else start l (line - 1).toNat
theorem bounds_eq (s : ByteArray) (hn : s.size ≤ 1073741824) (line : Int) (hl : line ≤ 9223372036854775807) : ∀ k, s.size < k → place_bounds.f k s line = some (tell s.data.toList (lineAt s.data.toList line)) := by
  intro k hk
  unfold place_bounds.f lineAt
  by_cases c : line < 1
  · rw [if_pos c, if_pos c]; rfl
  · rw [if_neg c, if_neg c]
    have := bounds_l0 s hn line hl s.size k 0 1 (by omega) hk (Nat.le_refl _) (by omega) rfl
    rw [show ((0 : Nat) : Int) = 0 from rfl, show ((1 : Nat) : Int) = 1 from rfl] at this
    rw [this, startFrom_zero]
/-- the place of a line and column -/
def atAns (l : List UInt8) (line col : Int) : Int × Int := match lineAt l line with
  | some b => if col < 1 ∨ (nextLF l b : Int) - b + 1 < col then (0, 20) else ((b : Int) + col - 1, 0)
  | none => (0, 20)
theorem lineAt_le (l : List UInt8) (line : Int) (b : Nat) (h : lineAt l line = some b) : b ≤ l.length := by
  unfold lineAt at h
  split at h
  · cases h
  · exact start_le l _ _ h
theorem at_eq (s : ByteArray) (hn : s.size ≤ 1073741824) (line col : Int) (hl : line ≤ 9223372036854775807) (hc : col ≤ 9223372036854775807) : ∀ k, s.size < k → place_At.f k s line col = some (atAns s.data.toList line col) := by
  intro k hk
  unfold place_At.f atAns
  rw [bounds_eq s hn line hl k hk, Option.bind_some]
  cases hb : lineAt s.data.toList line with
  | none => rfl
  | some b =>
    have h1 := lineAt_le _ _ _ hb
    have hg := nextLF_ge s.data.toList b
    have hle := nextLF_le s.data.toList b h1
    rw [← size_list] at h1 hle
    have ew : wrap64 (wrap64 ((nextLF s.data.toList b : Int) - (b : Int)) + 1) = (nextLF s.data.toList b : Int) - b + 1 := by rw [wrap_of (i := (nextLF s.data.toList b : Int) - b) (by omega) (by omega), wrap_of (by omega) (by omega)]
    dsimp +instances only [tell]
    rw [if_pos rfl]
    by_cases c1 : col < 1
    · rw [if_pos c1, if_pos (.inl c1)]
    · rw [if_neg c1]
      by_cases c2 : (nextLF s.data.toList b : Int) - b + 1 < col
      · rw [if_pos (by omega), if_pos (.inr c2)]
      · rw [if_neg (by omega), if_neg (by omega), wrap_of (i := (b : Int) + col) (by omega) (by omega), wrap_of (by omega) (by omega)]
def toLine (p : Nat × Nat) : S46 := ⟨(p.1 : Int), (p.2 : Int)⟩
theorem linesFrom_succ (l : List UInt8) (b d : Nat) : linesFrom l b (d + 1) = if nextLF l b < l.length then (b, nextLF l b) :: linesFrom l (nextLF l b + 1) d else [(b, l.length)] := rfl
theorem lines_l0 (s : ByteArray) (hn : s.size ≤ 1073741824) : ∀ d k e (acc : List S46) (from_ i : Nat), i + d = s.size → d < k → from_ ≤ i → s.size ≤ from_ + e → (∀ j, from_ ≤ j → j < i → by_ s.data.toList j ≠ 10) → acc.length ≤ i →
    dowelref02_Lines.l0 k s acc (from_ : Int) (i : Int) = some (acc ++ (linesFrom s.data.toList from_ e).map toLine) := by
  intro d
  induction d with
  | zero =>
    intro k e acc from_ i hi hk hf he hfree hacc
    obtain ⟨k, rfl⟩ : ∃ m, k = m + 1 := ⟨k - 1, by omega⟩
    have en : nextLF s.data.toList from_ = s.size := by
      rw [size_list]
      exact nextLF_eq _ _ _ (by rw [← size_list]; omega) (Nat.le_refl _) (fun m h1 h2 => hfree m h1 (by rw [← size_list] at h2; omega)) (fun h => by omega)
    unfold dowelref02_Lines.l0
    rw [if_neg (by omega), if_pos (by omega)]
    congr 1
    have : linesFrom s.data.toList from_ e = [(from_, s.size)] := by
      cases e with
      | zero => show [(from_, s.data.toList.length)] = _; rw [← size_list]
      | succ e => unfold linesFrom; rw [← size_list, if_neg (by rw [en]; omega)]
    rw [this]
    rfl
  | succ d ih =>
    intro k e acc from_ i hi hk hf he hfree hacc
    obtain ⟨k, rfl⟩ : ∃ m, k = m + 1 := ⟨k - 1, by omega⟩
    obtain ⟨e, rfl⟩ : ∃ m, e = m + 1 := ⟨e - 1, by omega⟩
    unfold dowelref02_Lines.l0
    rw [if_pos (by omega), if_pos (by omega), bt_by, Int.toNat_natCast, wrap_of (by omega) (by omega)]
    by_cases c : by_ s.data.toList i = 10
    · have en : nextLF s.data.toList from_ = i := nextLF_eq _ _ _ hf (by rw [← size_list]; omega) (fun m h1 h2 => hfree m h1 h2) (fun _ => c)
      rw [if_pos (by omega), if_pos (by omega), show (i : Int) + 1 = ((i + 1 : Nat) : Int) from by omega, ih k e _ (i + 1) (i + 1) (by omega) (by omega) (by omega) (by omega) (fun j h1 h2 => by omega) (by simp; omega)]
      rw [linesFrom_succ, if_pos (by rw [en, ← size_list]; omega), en]
      simp [toLine]
    · rw [if_neg (by omega), show (i : Int) + 1 = ((i + 1 : Nat) : Int) from by omega, ih k (e + 1) _ from_ (i + 1) (by omega) (by omega) (by omega) (by omega) (fun j h1 h2 => by
        by_cases g : j = i
        · subst g; exact c
        · exact hfree j h1 (by omega)) (by omega)]
theorem refLines_eq (s : ByteArray) (hn : s.size ≤ 1073741824) : ∀ k, s.size < k → dowelref02_Lines.f k s = some ((lines s.data.toList).map toLine) := by
  intro k hk
  unfold dowelref02_Lines.f
  have := lines_l0 s hn s.size k s.size [] 0 0 (by omega) hk (by omega) (by omega) (fun j h1 h2 => by omega) (by simp)
  rw [show ((0 : Nat) : Int) = 0 from rfl] at this
  rw [this, List.nil_append]
  unfold lines
  rw [← size_list]
theorem rd_line (l : List UInt8) (k : Nat) (b : Nat) (h : start l k = some b) : rd_T46 ((lines l).map toLine) (k : Int) = toLine (b, nextLF l b) := by
  unfold rd_T46
  rw [List.getD_eq_getElem?_getD, Int.toNat_natCast, List.getElem?_map, lines_get, h]
  rfl
theorem line_some (l : List UInt8) (line : Int) (h1 : 1 ≤ line) (h2 : line ≤ ((lines l).length : Int)) : ∃ b, start l (line - 1).toNat = some b := by
  have h : (line - 1).toNat < (lines l).length := by omega
  have := List.getElem?_eq_getElem h
  rw [lines_get] at this
  cases hb : start l (line - 1).toNat with
  | none => rw [hb] at this; cases this
  | some b => exact ⟨b, rfl⟩
theorem line_none (l : List UInt8) (line : Int) (h2 : ((lines l).length : Int) < line) : start l (line - 1).toNat = none := by
  have h : (lines l).length ≤ (line - 1).toNat := by omega
  have := List.getElem?_eq_none h
  rw [lines_get] at this
  cases hb : start l (line - 1).toNat with
  | none => rfl
  | some b => rw [hb] at this; cases this
theorem lines_bound (s : ByteArray) : (lines s.data.toList).length ≤ s.size + 1 := by
  rw [lines_length]
  have := cnt_le s.data.toList s.data.toList.length
  rw [← size_list] at this ⊢
  omega
theorem refAt_eq (s : ByteArray) (hn : s.size ≤ 1073741824) (line col : Int) (hl : line ≤ 9223372036854775807) (hc : col ≤ 9223372036854775807) : ∀ k, s.size < k → dowelref02_At.f k s line col = some (atAns s.data.toList line col) := by
  intro k hk
  unfold dowelref02_At.f atAns lineAt
  have hb := lines_bound s
  rw [refLines_eq s hn k hk, Option.bind_some, List.length_map]
  by_cases c1 : line < 1
  · rw [if_pos c1, if_pos c1]
  · rw [if_neg c1, if_neg c1]
    by_cases c2 : ((lines s.data.toList).length : Int) < line
    · rw [if_pos (by omega), line_none _ _ c2]
    · obtain ⟨b, hs⟩ := line_some s.data.toList line (by omega) (by omega)
      have h1 := start_le _ _ _ hs
      have hg := nextLF_ge s.data.toList b
      have hle := nextLF_le s.data.toList b h1
      rw [← size_list] at h1 hle
      rw [if_neg (by omega), hs]
      by_cases c3 : col < 1
      · rw [if_pos c3]
        simp only [if_pos (Or.inl c3 : col < 1 ∨ (nextLF s.data.toList b : Int) - b + 1 < col)]
      · have ew : wrap64 (line - 1) = (((line - 1).toNat : Nat) : Int) := by rw [wrap_of (by omega) (by omega)]; omega
        rw [if_neg c3, ew, if_pos (by omega), if_pos (by omega), rd_line _ _ _ hs]
        dsimp +instances only [toLine]
        have e2 : wrap64 (wrap64 ((nextLF s.data.toList b : Int) - (b : Int)) + 1) = (nextLF s.data.toList b : Int) - b + 1 := by rw [wrap_of (i := (nextLF s.data.toList b : Int) - b) (by omega) (by omega), wrap_of (by omega) (by omega)]
        by_cases c4 : (nextLF s.data.toList b : Int) - b + 1 < col
        · rw [if_pos (by omega), if_pos (.inr c4)]
        · rw [if_neg (by omega), if_neg (by omega), wrap_of (i := (b : Int) + col) (by omega) (by omega), wrap_of (by omega) (by omega)]
/-- a row by its number -/
def rowAns (s : ByteArray) (line : Int) : ByteArray × Int := match lineAt s.data.toList line with
  | some b => (s.extract b (nextLF s.data.toList b), 0)
  | none => (⟨#[]⟩, 20)
theorem rowf_eq (s : ByteArray) (hn : s.size ≤ 1073741824) (line : Int) (hl : line ≤ 9223372036854775807) : ∀ k, s.size < k → place_Row.f k s line = some (rowAns s line) := by
  intro k hk
  unfold place_Row.f rowAns
  rw [bounds_eq s hn line hl k hk, Option.bind_some]
  cases hb : lineAt s.data.toList line with
  | none => rfl
  | some b =>
    have h1 := lineAt_le _ _ _ hb
    have hg := nextLF_ge s.data.toList b
    have hle := nextLF_le s.data.toList b h1
    rw [← size_list] at h1 hle
    dsimp +instances only [tell]
    rw [if_pos rfl, if_pos (by omega), if_pos (by omega), if_pos (by omega), Int.toNat_natCast, Int.toNat_natCast]
theorem refRow_eq (s : ByteArray) (hn : s.size ≤ 1073741824) (line : Int) : ∀ k, s.size < k → dowelref02_Row.f k s line = some (rowAns s line) := by
  intro k hk
  unfold dowelref02_Row.f rowAns lineAt
  have hb := lines_bound s
  rw [refLines_eq s hn k hk, Option.bind_some, List.length_map]
  by_cases c1 : line < 1
  · rw [if_pos c1, if_pos c1]
  · rw [if_neg c1, if_neg c1]
    by_cases c2 : ((lines s.data.toList).length : Int) < line
    · rw [if_pos (by omega), line_none _ _ c2]
    · obtain ⟨b, hs⟩ := line_some s.data.toList line (by omega) (by omega)
      have h1 := start_le _ _ _ hs
      have hg := nextLF_ge s.data.toList b
      have hle := nextLF_le s.data.toList b h1
      rw [← size_list] at h1 hle
      have ew : wrap64 (line - 1) = (((line - 1).toNat : Nat) : Int) := by rw [wrap_of (by omega) (by omega)]; omega
      rw [if_neg (by omega), hs, ew, if_pos (by omega), if_pos (by omega), rd_line _ _ _ hs]
      dsimp +instances only [toLine]
      rw [if_pos (by omega), if_pos (by omega), if_pos (by omega), Int.toNat_natCast, Int.toNat_natCast]
theorem linesf_eq (s : ByteArray) (hn : s.size ≤ 1073741824) : place_Lines.f s = some (((lines s.data.toList).length : Int)) := by
  unfold place_Lines.f strings_Count.f
  have h1 := cnt_le s.data.toList s.data.toList.length
  have h2 : Lib.countByte s.data.toList 10 = cnt s.data.toList s.data.toList.length := (cnt_all _).symm
  rw [← size_list] at h1 h2
  simp only [Option.bind_some]
  rw [h2, lines_length, ← size_list, wrap_of (by omega) (by omega)]
  congr 1
  omega
end Go.Proofs.Ytkjckdgknbfaiaa.Qall
