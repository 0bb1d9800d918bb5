/- Plain laws for spots: place.Spot and the reference's Spot tell the same line, column and rune. Conditions: a text of at most 2^30 bytes. -/
import Derived.Test.YtkjckdgknbfaiaaPureD
namespace Go.Proofs.Ytkjckdgknbfaiaa.Qall
open Go.RowKit Go.Proofs.YtkjckdgknbfaiaaW.PrintWords Go.Proofs.YtkjckdgknbfaiaaW.PrintLast Go.Proofs.YtkjckdgknbfaiaaW.PrintMore
set_option linter.unusedSimpArgs false

def charsFrom (s : ByteArray) : Nat → Nat → List S31
  | 0, _ => []
  | f + 1, pos => if pos < s.size then ⟨(pos : Int), ((Utf8.decode s pos).2 : Int), ((Utf8.decode s pos).1 : Int)⟩ :: charsFrom s f (pos + (Utf8.decode s pos).2) else []
theorem charsFrom_end (s : ByteArray) (f pos : Nat) (h : ¬ pos < s.size) : charsFrom s f pos = [] := by cases f <;> simp [charsFrom, h]
theorem charsFrom_step (s : ByteArray) (f pos : Nat) (h : pos < s.size) : charsFrom s (f + 1) pos = ⟨(pos : Int), ((Utf8.decode s pos).2 : Int), ((Utf8.decode s pos).1 : Int)⟩ :: charsFrom s f (pos + (Utf8.decode s pos).2) := by rw [charsFrom, if_pos h]
theorem charsFrom_le (s : ByteArray) : ∀ f pos, (charsFrom s f pos).length ≤ f
  | 0, _ => by simp [charsFrom]
  | f + 1, pos => by
    have := charsFrom_le s f (pos + (Utf8.decode s pos).2)
    rw [charsFrom]
    split
    · simp; omega
    · simp
def chars (s : ByteArray) : List S31 := charsFrom s s.size 0
theorem chars_le (s : ByteArray) : (chars s).length ≤ s.size := charsFrom_le s _ _
theorem chars_l0 (s : ByteArray) (hn : s.size ≤ 1073741824) : ∀ (d k : Nat) (acc : List S31) (pos : Nat), s.size ≤ pos + d → pos ≤ s.size → d + 4 < k → acc.length ≤ pos →
    dowelref02_Chars.l0 k s acc (pos : Int) = some (acc ++ charsFrom s d pos) := by
  intro d
  induction d with
  | zero =>
    intro k acc pos h1 h2 hk ha
    obtain ⟨k, rfl⟩ : ∃ m, k = m + 1 := ⟨k - 1, by omega⟩
    rw [dowelref02_Chars.l0, if_neg (by omega)]
    simp [charsFrom]
  | succ d ih =>
    intro k acc pos h1 h2 hk ha
    obtain ⟨k, rfl⟩ : ∃ m, k = m + 1 + 4 := ⟨k - 5, by omega⟩
    rw [dowelref02_Chars.l0]
    by_cases c : pos < s.size
    · have hw := width_pos s pos c
      have hw2 := width_le s pos c
      rw [if_pos (by omega), one_eq s hn k pos c, Option.bind_some, if_pos (by omega)]
      dsimp only
      rw [wrap_of (by omega) (by omega), show ((pos : Int) + ((Utf8.decode s pos).2 : Int)) = ((pos + (Utf8.decode s pos).2 : Nat) : Int) from by omega]
      rw [show k + 3 + 1 = k + 4 from rfl, ih (k + 4) _ _ (by omega) (by omega) (by omega) (by simp; omega), charsFrom_step s d pos c]
      simp
    · rw [if_neg (by omega), charsFrom_end s _ pos c]
      simp
theorem chars_eq (s : ByteArray) (hn : s.size ≤ 1073741824) (k : Nat) (hk : s.size + 4 < k) : dowelref02_Chars.f k s = some (chars s) := by
  unfold dowelref02_Chars.f
  have := chars_l0 s hn s.size k [] 0 (by omega) (by omega) hk (by simp)
  rw [show ((0 : Nat) : Int) = 0 from rfl] at this
  rw [this]
  rfl
/-- how many characters end at a place or ahead of it -/
def ends (s : ByteArray) (a : Nat) : Nat → Nat → Nat
  | 0, _ => 0
  | f + 1, pos => if pos < s.size then (if pos + (Utf8.decode s pos).2 ≤ a then 1 else 0) + ends s a f (pos + (Utf8.decode s pos).2) else 0
theorem ends_end (s : ByteArray) (a f pos : Nat) (h : ¬ pos < s.size) : ends s a f pos = 0 := by cases f <;> simp [ends, h]
theorem ends_le (s : ByteArray) (a : Nat) : ∀ f pos, ends s a f pos ≤ f
  | 0, _ => by simp [ends]
  | f + 1, pos => by
    have := ends_le s a f (pos + (Utf8.decode s pos).2)
    rw [ends]
    split
    · split <;> omega
    · omega
theorem ended_ends (s : ByteArray) (a : Nat) (ha : a ≤ s.size) : ∀ f pos, pos < s.size → s.size ≤ pos + f →
    place_ended.cnt s (a : Int) f pos + (if a = s.size then 1 else 0) = (if 0 < pos ∧ pos ≤ a then 1 else 0) + ends s a f pos
  | 0, pos, h1, h2 => by omega
  | f + 1, pos, h1, h2 => by
    have hw := width_pos s pos h1
    have hw2 := width_le s pos h1
    rw [place_ended.cnt, if_pos h1, ends, if_pos h1]
    have e : (0 < pos ∧ (pos : Int) ≤ (a : Int)) ↔ (0 < pos ∧ pos ≤ a) := by omega
    by_cases c : pos + (Utf8.decode s pos).2 < s.size
    · have ih := ended_ends s a ha f _ c (by omega)
      have e2 : (0 < pos + (Utf8.decode s pos).2 ∧ pos + (Utf8.decode s pos).2 ≤ a) ↔ (pos + (Utf8.decode s pos).2 ≤ a) := by omega
      simp only [e, e2] at ih ⊢
      omega
    · rw [place_ended.cnt_end s _ f _ c, ends_end s a f _ c]
      have e3 : (pos + (Utf8.decode s pos).2 ≤ a) ↔ a = s.size := by omega
      simp only [e, e3]
      omega
theorem ended_eq (s : ByteArray) (hn : s.size ≤ 1073741824) (a : Nat) (ha : a ≤ s.size) : place_ended.f s (a : Int) = some ((ends s a s.size 0 : Nat) : Int) := by
  unfold place_ended.f
  rw [if_pos (by omega)]
  congr 1
  by_cases c : 0 < s.size
  · have := ended_ends s a ha s.size 0 c (by omega)
    rw [if_neg (show ¬ (0 < 0 ∧ 0 ≤ a) by omega)] at this
    have e : (0 < s.size ∧ (a : Int) = (s.size : Int)) ↔ a = s.size := by omega
    simp only [e]
    split at this <;> simp_all <;> omega
  · have e : ¬ (0 < s.size ∧ (a : Int) = (s.size : Int)) := by omega
    rw [if_neg e, place_ended.cnt_end s _ _ _ (by omega), ends_end s a _ _ (by omega)]
    rfl
def ended1 (a : Int) (c : S31) : Bool := decide (c.f0 + c.f1 ≤ a)
theorem count_ends (s : ByteArray) (a : Nat) : ∀ f pos, ((charsFrom s f pos).filter (ended1 (a : Int))).length = ends s a f pos
  | 0, pos => rfl
  | f + 1, pos => by
    have ih := count_ends s a f (pos + (Utf8.decode s pos).2)
    rw [charsFrom, ends]
    by_cases c : pos < s.size
    · rw [if_pos c, if_pos c, List.filter_cons]
      by_cases g : pos + (Utf8.decode s pos).2 ≤ a
      · rw [if_pos (by unfold ended1; simp; omega), if_pos g, List.length_cons, ih]; omega
      · rw [if_neg (by unfold ended1; simp; omega), if_neg g, ih]; omega
    · rw [if_neg c, if_neg c]; rfl
theorem charsFrom_bound (s : ByteArray) : ∀ f pos c, c ∈ charsFrom s f pos → 0 ≤ c.f0 ∧ 1 ≤ c.f1 ∧ c.f0 + c.f1 ≤ s.size
  | 0, pos, c, h => by simp [charsFrom] at h
  | f + 1, pos, c, h => by
    rw [charsFrom] at h
    by_cases g : pos < s.size
    · have hw := width_pos s pos g
      have hw2 := width_le s pos g
      rw [if_pos g] at h
      rcases List.mem_cons.1 h with rfl | h
      · refine ⟨?_, ?_, ?_⟩
        · show 0 ≤ (pos : Int); omega
        · show 1 ≤ ((Utf8.decode s pos).2 : Int); omega
        · show (pos : Int) + ((Utf8.decode s pos).2 : Int) ≤ s.size; omega
      · exact charsFrom_bound s f _ c h
    · rw [if_neg g] at h; cases h
theorem rd_char (l : List S31) (i : Nat) (h : i < l.length) : rd_T31 l (i : Int) = l[i] := by
  unfold rd_T31
  rw [List.getD_eq_getElem?_getD, Int.toNat_natCast, List.getElem?_eq_getElem h]
  rfl
theorem spot_l0 (cs : List S31) (at_ from_ to_ n : Nat) (ha : at_ ≤ 1073741824) (hf : from_ ≤ at_) (hn : n ≤ 1073741824) (hc : ∀ c ∈ cs, 0 ≤ c.f0 ∧ 1 ≤ c.f1 ∧ c.f0 + c.f1 ≤ 1073741824) (hl : cs.length ≤ 1073741824) :
    ∀ (d k i r : Nat), i + d = cs.length → d < k → r ≤ i + 1 →
    dowelref02_Spot.l0 k (at_ : Int) (n : Int) (r : Int) cs (i : Int) (from_ : Int) (to_ : Int) = some ((n : Int) + 1, (at_ : Int) - from_ + 1, (r : Int) + (((cs.drop i).filter (ended1 ((at_ : Int) - from_))).length : Int), 0) := by
  intro d
  induction d with
  | zero =>
    intro k i r h1 hk hr
    obtain ⟨k, rfl⟩ : ∃ m, k = m + 1 := ⟨k - 1, by omega⟩
    rw [dowelref02_Spot.l0, if_neg (by omega), wrap_of (i := (n : Int) + 1) (by omega) (by omega), wrap_of (i := (at_ : Int) - from_) (by omega) (by omega), wrap_of (by omega) (by omega), List.drop_eq_nil_of_le (by omega)]
    simp
  | succ d ih =>
    intro k i r h1 hk hr
    obtain ⟨k, rfl⟩ : ∃ m, k = m + 1 := ⟨k - 1, by omega⟩
    have hi : i < cs.length := by omega
    obtain ⟨b0, b1, b2⟩ := hc cs[i] (List.getElem_mem hi)
    rw [dowelref02_Spot.l0, if_pos (by omega), if_pos (by omega), rd_char cs i hi, List.drop_eq_getElem_cons hi, List.filter_cons]
    have ew : wrap64 (wrap64 ((from_ : Int) + cs[i].f0) + cs[i].f1) = from_ + cs[i].f0 + cs[i].f1 := by rw [wrap_of (i := (from_ : Int) + cs[i].f0) (by omega) (by omega), wrap_of (by omega) (by omega)]
    by_cases g : cs[i].f0 + cs[i].f1 ≤ (at_ : Int) - from_
    · rw [if_pos (by rw [ew]; omega), if_pos (by unfold ended1; simpa using g), wrap_of (i := (r : Int) + 1) (by omega) (by omega), wrap_of (i := (i : Int) + 1) (by omega) (by omega), show (r : Int) + 1 = ((r + 1 : Nat) : Int) from by omega, show (i : Int) + 1 = ((i + 1 : Nat) : Int) from by omega, ih k (i + 1) (r + 1) (by omega) (by omega) (by omega)]
      simp only [List.length_cons, Option.some.injEq, Prod.mk.injEq, true_and, and_true]
      omega
    · rw [if_neg (by rw [ew]; omega), if_neg (by unfold ended1; simpa using g), wrap_of (i := (i : Int) + 1) (by omega) (by omega), show (i : Int) + 1 = ((i + 1 : Nat) : Int) from by omega, ih k (i + 1) r (by omega) (by omega) (by omega)]
set_option linter.unusedVariables false in
theorem of_l0 (s : ByteArray) (hn : s.size ≤ 1073741824) (at_ : Nat) (ha : at_ ≤ s.size) : ∀ (d k i : Nat), i + d = at_ → d < k → dowelref02_of.l0 k s (at_ : Int) (cnt s.data.toList i : Int) (i : Int) = some ((cnt s.data.toList at_ : Nat) : Int) := by
  intro d
  induction d with
  | zero =>
    intro k i h1 hk
    obtain ⟨k, rfl⟩ : ∃ m, k = m + 1 := ⟨k - 1, by omega⟩
    rw [dowelref02_of.l0, if_neg (by omega), show i = at_ from by omega]
  | succ d ih =>
    intro k i h1 hk
    obtain ⟨k, rfl⟩ : ∃ m, k = m + 1 := ⟨k - 1, by omega⟩
    have hc := cnt_succ s.data.toList i (by rw [← size_list]; omega)
    have hle := cnt_le s.data.toList i
    rw [dowelref02_of.l0, if_pos (by omega), if_pos (by omega), if_pos (by omega), bt_by, Int.toNat_natCast, wrap_of (i := (i : Int) + 1) (by omega) (by omega), show (i : Int) + 1 = ((i + 1 : Nat) : Int) from by omega]
    by_cases g : by_ s.data.toList i = 10
    · rw [if_pos (by omega), wrap_of (by omega) (by omega)]
      rw [if_pos g] at hc
      rw [show (cnt s.data.toList i : Int) + 1 = ((cnt s.data.toList (i + 1) : Nat) : Int) from by omega]
      exact ih k (i + 1) (by omega) (by omega)
    · rw [if_neg (by omega)]
      rw [if_neg g] at hc
      rw [show (cnt s.data.toList i : Int) = ((cnt s.data.toList (i + 1) : Nat) : Int) from by omega]
      exact ih k (i + 1) (by omega) (by omega)
theorem of_eq (s : ByteArray) (hn : s.size ≤ 1073741824) (at_ : Nat) (ha : at_ ≤ s.size) (k : Nat) (hk : at_ < k) : dowelref02_of.f k s (at_ : Int) = some ((cnt s.data.toList at_ : Nat) : Int) := by
  unfold dowelref02_of.f
  exact of_l0 s hn at_ ha at_ k 0 (by omega) hk
def lineOf (s : ByteArray) (at_ : Nat) : ByteArray := s.extract (ls s.data.toList at_) (nextLF s.data.toList at_)
def spotAns (s : ByteArray) (at_ : Int) : Int × Int × Int × Int :=
  if at_ < 0 ∨ (s.size : Int) < at_ then (0, 0, 0, 5)
  else ((cnt s.data.toList at_.toNat : Int) + 1, at_ - ls s.data.toList at_.toNat + 1, 1 + (ends (lineOf s at_.toNat) (at_.toNat - ls s.data.toList at_.toNat) (lineOf s at_.toNat).size 0 : Int), 0)
theorem lineOf_size (s : ByteArray) (at_ : Nat) (ha : at_ ≤ s.size) : (lineOf s at_).size = nextLF s.data.toList at_ - ls s.data.toList at_ ∧ (lineOf s at_).size ≤ s.size ∧ at_ - ls s.data.toList at_ ≤ (lineOf s at_).size := by
  have hl := ls_le s.data.toList at_
  have hg := nextLF_ge s.data.toList at_
  have hle := nextLF_le s.data.toList at_ (by rw [← size_list]; exact ha)
  rw [← size_list] at hle
  unfold lineOf
  rw [ByteArray.size_extract]
  omega
set_option linter.unusedVariables false in
theorem lines_cnt (s : ByteArray) (at_ : Nat) (ha : at_ ≤ s.size) : (lines (s.extract 0 at_).data.toList).length = cnt s.data.toList at_ + 1 := by
  rw [lines_length, data_extract, List.drop_zero, Nat.sub_zero]
  unfold cnt
  rw [List.take_of_length_le (l := s.data.toList.take at_) (by simp)]
theorem spot_eq (s : ByteArray) (hn : s.size ≤ 1073741824) (at_ : Int) (k : Nat) (hk : 0 < k) : place_Spot.f k s at_ = some (spotAns s at_) := by
  obtain ⟨k, rfl⟩ : ∃ m, k = m + 1 := ⟨k - 1, by omega⟩
  unfold place_Spot.f spotAns
  by_cases c1 : at_ < 0
  · rw [if_pos c1, if_pos (.inl c1), place_Spot.j0, if_pos rfl]
  · rw [if_neg c1]
    by_cases c2 : (s.size : Int) < at_
    · rw [if_pos (.inr c2), place_Spot.j0, if_pos (by simp; omega)]
    · rw [if_neg (by omega), place_Spot.j0, if_neg (by simp; omega)]
      obtain ⟨a, rfl⟩ : ∃ a : Nat, at_ = a := ⟨at_.toNat, by omega⟩
      simp only [Int.toNat_natCast]
      have ha : a ≤ s.size := by omega
      have hl := ls_le s.data.toList a
      have hg := nextLF_ge s.data.toList a
      have hle := nextLF_le s.data.toList a (by rw [← size_list]; exact ha)
      rw [← size_list] at hle
      obtain ⟨z1, z2, z3⟩ := lineOf_size s a ha
      have hcl := cnt_le s.data.toList a
      have hel := ends_le (lineOf s a) (a - ls s.data.toList a) (lineOf s a).size 0
      rw [row_eq s a ha hn, Option.bind_some, if_pos (by omega), if_pos (by omega), linesf_eq _ (by rw [ByteArray.size_extract]; omega), Option.bind_some, if_pos (by omega), if_pos (by omega), if_pos (by omega), lines_cnt s a ha]
      dsimp only
      rw [Int.toNat_natCast, Int.toNat_natCast, wrap_of (i := (a : Int) - (ls s.data.toList a : Int)) (by omega) (by omega), show s.extract (ls s.data.toList a) (nextLF s.data.toList a) = lineOf s a from rfl, show (a : Int) - (ls s.data.toList a : Int) = ((a - ls s.data.toList a : Nat) : Int) from by omega, ended_eq _ (by omega) _ z3, Option.bind_some, wrap_of (by omega) (by omega), wrap_of (by omega) (by omega)]
      rfl
theorem refSpot_eq (s : ByteArray) (hn : s.size ≤ 1073741824) (at_ : Int) (k : Nat) (hk : s.size + 6 < k) : dowelref02_Spot.f k s at_ = some (spotAns s at_) := by
  obtain ⟨k, rfl⟩ : ∃ m, k = m + 1 := ⟨k - 1, by omega⟩
  unfold dowelref02_Spot.f spotAns
  by_cases c1 : at_ < 0
  · rw [if_pos c1, if_pos (.inl c1), dowelref02_Spot.j0, if_pos rfl]
  · rw [if_neg c1]
    by_cases c2 : (s.size : Int) < at_
    · rw [if_pos (.inr c2), dowelref02_Spot.j0, if_pos (by simp; omega)]
    · rw [if_neg (by omega), dowelref02_Spot.j0, if_neg (by simp; omega)]
      obtain ⟨a, rfl⟩ : ∃ a : Nat, at_ = a := ⟨at_.toNat, by omega⟩
      simp only [Int.toNat_natCast]
      have ha : a ≤ s.size := by omega
      have hl := ls_le s.data.toList a
      have hg := nextLF_ge s.data.toList a
      have hle := nextLF_le s.data.toList a (by rw [← size_list]; exact ha)
      rw [← size_list] at hle
      obtain ⟨z1, z2, z3⟩ := lineOf_size s a ha
      have hcl := cnt_le s.data.toList a
      have hst := start_ls s.data.toList a (by rw [← size_list]; exact ha)
      have hnl := nextLF_ls s.data.toList a (by rw [← size_list]; exact ha)
      have hlen : cnt s.data.toList a < (lines s.data.toList).length := by
        rw [lines_length]
        have := cnt_mono s.data.toList (i := a) (j := s.data.toList.length) (by rw [← size_list]; exact ha)
        omega
      rw [of_eq s hn a ha k (by omega), Option.bind_some, refLines_eq s hn k (by omega), Option.bind_some, List.length_map, if_pos (by omega), if_pos (by omega), rd_line _ _ _ hst]
      dsimp +instances only [toLine]
      rw [hnl, if_pos (by omega), if_pos (by omega), if_pos (by omega), Int.toNat_natCast, Int.toNat_natCast, show s.extract (ls s.data.toList a) (nextLF s.data.toList a) = lineOf s a from rfl, chars_eq _ (by omega) k (by omega), Option.bind_some]
      have hcb := charsFrom_bound (lineOf s a) (lineOf s a).size 0
      have hcl2 := chars_le (lineOf s a)
      have := spot_l0 (chars (lineOf s a)) a (ls s.data.toList a) (nextLF s.data.toList a) (cnt s.data.toList a) (by omega) hl (by omega) (fun c h => by
        obtain ⟨g1, g2, g3⟩ := hcb c h
        exact ⟨g1, g2, by omega⟩) (by omega) (chars (lineOf s a)).length k 0 1 (by omega) (by omega) (by omega)
      rw [show ((1 : Nat) : Int) = 1 from rfl, show ((0 : Nat) : Int) = 0 from rfl] at this
      rw [this, List.drop_zero, show (a : Int) - (ls s.data.toList a : Int) = ((a - ls s.data.toList a : Nat) : Int) from by omega]
      unfold chars
      rw [count_ends]
end Go.Proofs.Ytkjckdgknbfaiaa.Qall
