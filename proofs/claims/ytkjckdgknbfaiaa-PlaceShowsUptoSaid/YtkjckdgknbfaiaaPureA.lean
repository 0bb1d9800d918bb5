/- Plain laws for the places of a text: what the printed functions of layer 2 (place) and of its reference compute, told over the list of the text's bytes. Conditions: as each theorem states (a text of at most 2^30 bytes). -/
import Derived.Test.YtkjckdgknbfaiaaQallx
namespace Go.Proofs.Ytkjckdgknbfaiaa.Qall
open Go.RowKit Go.Proofs.YtkjckdgknbfaiaaW.PrintWords Go.Proofs.YtkjckdgknbfaiaaW.PrintLast Go.Proofs.YtkjckdgknbfaiaaW.PrintMore

/-! #### bytes -/
def by_ (l : List UInt8) (i : Nat) : Nat := (l.getD i 0).toNat
theorem by_lt (l : List UInt8) (i : Nat) : by_ l i < 256 := (l.getD i 0).toNat_lt
theorem bt_by (s : ByteArray) (i : Int) : bt s i = (by_ s.data.toList i.toNat : Int) := by
  unfold bt by_
  by_cases h : i.toNat < s.size
  · rw [dif_pos h]
    have h2 : i.toNat < s.data.toList.length := by rw [data_length]; exact h
    rw [List.getD_eq_getElem?_getD, List.getElem?_eq_getElem h2]
    rfl
  · rw [dif_neg h]
    have h2 : s.data.toList.length ≤ i.toNat := by rw [data_length]; omega
    rw [List.getD_eq_getElem?_getD, List.getElem?_eq_none h2]
    rfl
theorem data_extract (s : ByteArray) (a b : Nat) : (s.extract a b).data.toList = (s.data.toList.drop a).take (b - a) := by
  rw [ByteArray.data_extract, Array.toList_extract]
theorem size_list (s : ByteArray) : s.size = s.data.toList.length := (data_length s).symm
theorem wrap_of {i : Int} (h0 : -9223372036854775808 ≤ i) (h1 : i ≤ 9223372036854775807) : wrap64 i = i := by
  unfold wrap64
  omega

theorem wf64 {x : Int} (h : (Lit.int .i64 x).wf = true) : -9223372036854775808 ≤ x ∧ x ≤ 9223372036854775807 := by
  simp [Lit.wf, IntKind.min, IntKind.max, IntKind.signed, IntKind.bits] at h
  omega

/-! #### line feeds -/
def nx (l : List UInt8) : Nat → Nat → Nat
  | i, 0 => i
  | i, d + 1 => if by_ l i = 10 then i else nx l (i + 1) d
/-- the next LF from a place on, or the end -/
def nextLF (l : List UInt8) (i : Nat) : Nat := nx l i (l.length - i)
theorem nx_le (l : List UInt8) : ∀ d i, i ≤ nx l i d ∧ nx l i d ≤ i + d
  | 0, i => ⟨Nat.le_refl _, Nat.le_refl _⟩
  | d + 1, i => by
    have ih := nx_le l d (i + 1)
    unfold nx
    split <;> omega
theorem nx_free (l : List UInt8) : ∀ d i j, i ≤ j → j < nx l i d → by_ l j ≠ 10
  | 0, i, j, h1, h2 => by unfold nx at h2; omega
  | d + 1, i, j, h1, h2 => by
    unfold nx at h2
    split at h2
    · omega
    · rename_i h
      by_cases e : j = i
      · subst e; exact h
      · exact nx_free l d (i + 1) j (by omega) h2
theorem nx_hit (l : List UInt8) : ∀ d i, nx l i d < i + d → by_ l (nx l i d) = 10
  | 0, i, h => by unfold nx at h; omega
  | d + 1, i, h => by
    unfold nx at h ⊢
    split
    · assumption
    · rename_i h2
      rw [if_neg h2] at h
      exact nx_hit l d (i + 1) (by omega)
theorem nextLF_ge (l : List UInt8) (i : Nat) : i ≤ nextLF l i := (nx_le l _ i).1
theorem nextLF_le (l : List UInt8) (i : Nat) (h : i ≤ l.length) : nextLF l i ≤ l.length := by have := (nx_le l (l.length - i) i).2; unfold nextLF; omega
theorem nextLF_free (l : List UInt8) (i j : Nat) (h1 : i ≤ j) (h2 : j < nextLF l i) : by_ l j ≠ 10 := nx_free l _ i j h1 h2
theorem nextLF_hit (l : List UInt8) (i : Nat) (h : nextLF l i < l.length) : by_ l (nextLF l i) = 10 := by
  have := nextLF_ge l i
  exact nx_hit l (l.length - i) i (by unfold nextLF at h this; omega)
theorem nextLF_eq (l : List UInt8) (i j : Nat) (h1 : i ≤ j) (h2 : j ≤ l.length) (h3 : ∀ m, i ≤ m → m < j → by_ l m ≠ 10) (h4 : j < l.length → by_ l j = 10) : nextLF l i = j := by
  have g1 := nextLF_ge l i
  have g2 := nextLF_le l i (by omega)
  by_cases c : nextLF l i < j
  · exact absurd (nextLF_hit l i (by omega)) (h3 _ g1 c)
  · by_cases c2 : j < nextLF l i
    · exact absurd (h4 (by omega)) (nextLF_free l i j h1 c2)
    · omega
/-- where the line of a place begins -/
def ls (l : List UInt8) : Nat → Nat
  | 0 => 0
  | i + 1 => if by_ l i = 10 then i + 1 else ls l i
theorem ls_le (l : List UInt8) : ∀ i, ls l i ≤ i
  | 0 => Nat.le_refl _
  | i + 1 => by
    have := ls_le l i
    unfold ls
    split <;> omega
theorem ls_free (l : List UInt8) : ∀ i j, ls l i ≤ j → j < i → by_ l j ≠ 10
  | 0, j, h1, h2 => by omega
  | i + 1, j, h1, h2 => by
    unfold ls at h1
    split at h1
    · omega
    · rename_i h
      by_cases e : j = i
      · subst e; exact h
      · exact ls_free l i j h1 (by omega)
theorem ls_hit (l : List UInt8) : ∀ i, ls l i = 0 ∨ (0 < ls l i ∧ by_ l (ls l i - 1) = 10)
  | 0 => .inl rfl
  | i + 1 => by
    unfold ls
    split
    · rename_i h
      exact .inr ⟨by omega, by simpa using h⟩
    · exact ls_hit l i
/-- how many LFs stand ahead of a place -/
def cnt (l : List UInt8) (i : Nat) : Nat := (l.take i).count 10
theorem by_ten (l : List UInt8) (i : Nat) (h : i < l.length) : by_ l i = 10 ↔ l[i] = 10 := by
  unfold by_
  rw [List.getD_eq_getElem?_getD, List.getElem?_eq_getElem h]
  simp only [Option.getD_some]
  constructor
  · intro e
    apply UInt8.toNat_inj.1
    exact e
  · intro e
    rw [e]; rfl
theorem cnt_succ (l : List UInt8) (i : Nat) (h : i < l.length) : cnt l (i + 1) = cnt l i + (if by_ l i = 10 then 1 else 0) := by
  unfold cnt
  rw [List.take_succ_eq_append_getElem h, List.count_append]
  by_cases e : l[i] = 10
  · rw [if_pos ((by_ten l i h).2 e), e]; rfl
  · rw [if_neg (fun h2 => e ((by_ten l i h).1 h2)), List.count_singleton]
    simp [e]
theorem cnt_zero (l : List UInt8) : cnt l 0 = 0 := rfl
theorem cnt_all (l : List UInt8) : cnt l l.length = l.count 10 := by unfold cnt; rw [List.take_length]
theorem cnt_le (l : List UInt8) (i : Nat) : cnt l i ≤ i := by
  unfold cnt
  have h1 := List.count_le_length (a := (10 : UInt8)) (l := l.take i)
  have h2 := List.length_take_le i l
  omega
theorem cnt_mono (l : List UInt8) {i j : Nat} (h : i ≤ j) : cnt l i ≤ cnt l j := by
  unfold cnt
  have e : l.take i = (l.take j).take i := by rw [List.take_take, Nat.min_eq_left h]
  rw [e]
  exact (List.take_sublist _ _).count_le 10
theorem cnt_free (l : List UInt8) (i : Nat) : ∀ d, i + d ≤ l.length → (∀ j, i ≤ j → j < i + d → by_ l j ≠ 10) → cnt l (i + d) = cnt l i
  | 0, _, _ => rfl
  | d + 1, h, hf => by
    rw [← Nat.add_assoc, cnt_succ l (i + d) (by omega), if_neg (hf (i + d) (by omega) (by omega)), Nat.add_zero]
    exact cnt_free l i d (by omega) (fun j h1 h2 => hf j h1 (by omega))

/-! #### lines by number -/
def start (l : List UInt8) : Nat → Option Nat
  | 0 => some 0
  | k + 1 => (start l k).bind fun b => if nextLF l b < l.length then some (nextLF l b + 1) else none
theorem start_le (l : List UInt8) : ∀ k b, start l k = some b → b ≤ l.length
  | 0, b, h => by obtain rfl := Option.some.inj h; omega
  | k + 1, b, h => by
    unfold start at h
    cases h2 : start l k with
    | none => rw [h2] at h; cases h
    | some c =>
      rw [h2, Option.bind_some] at h
      split at h
      · obtain rfl := Option.some.inj h; omega
      · cases h
theorem start_cnt (l : List UInt8) : ∀ k b, start l k = some b → cnt l b = k ∧ ls l b = b
  | 0, b, h => by obtain rfl := Option.some.inj h; exact ⟨rfl, rfl⟩
  | k + 1, b, h => by
    unfold start at h
    cases h2 : start l k with
    | none => rw [h2] at h; cases h
    | some c =>
      rw [h2, Option.bind_some] at h
      obtain ⟨i1, _⟩ := start_cnt l k c h2
      have hc := start_le l k c h2
      split at h
      · rename_i hlt
        obtain rfl := Option.some.inj h
        have hh := nextLF_hit l c hlt
        have hg := nextLF_ge l c
        constructor
        · rw [cnt_succ l _ hlt, if_pos hh]
          have e := cnt_free l c (nextLF l c - c) (by omega) (fun j h1 h2 => nextLF_free l c j h1 (by omega))
          rw [show c + (nextLF l c - c) = nextLF l c from by omega] at e
          rw [e, i1]
        · unfold ls
          rw [if_pos hh]
      · cases h
/-- the line of a place: its number is how many LFs stand ahead. -/
theorem start_ls (l : List UInt8) : ∀ at_, at_ ≤ l.length → start l (cnt l at_) = some (ls l at_)
  | 0, _ => rfl
  | i + 1, h => by
    have ih := start_ls l i (by omega)
    rw [cnt_succ l i (by omega)]
    unfold ls
    by_cases e : by_ l i = 10
    · rw [if_pos e, if_pos e]
      unfold start
      rw [ih, Option.bind_some]
      have en : nextLF l (ls l i) = i := nextLF_eq l _ i (ls_le l i) (by omega) (fun m h1 h2 => ls_free l i m h1 h2) (fun _ => e)
      rw [en, if_pos (by omega)]
    · rw [if_neg e, if_neg e]
      exact ih
theorem nextLF_ls (l : List UInt8) (at_ : Nat) (h : at_ ≤ l.length) : nextLF l (ls l at_) = nextLF l at_ := by
  have h1 := ls_le l at_
  have h2 := nextLF_ge l at_
  exact nextLF_eq l _ _ (by omega) (nextLF_le l at_ h) (fun m g1 g2 => by
    by_cases c : m < at_
    · exact ls_free l at_ m g1 c
    · exact nextLF_free l at_ m (by omega) g2) (fun g => nextLF_hit l at_ g)
def linesFrom (l : List UInt8) : Nat → Nat → List (Nat × Nat)
  | b, 0 => [(b, l.length)]
  | b, d + 1 => if nextLF l b < l.length then (b, nextLF l b) :: linesFrom l (nextLF l b + 1) d else [(b, l.length)]
def lines (l : List UInt8) : List (Nat × Nat) := linesFrom l 0 l.length
def startFrom (l : List UInt8) (b : Nat) : Nat → Option Nat
  | 0 => some b
  | k + 1 => (startFrom l b k).bind fun b => if nextLF l b < l.length then some (nextLF l b + 1) else none
theorem startFrom_zero (l : List UInt8) : ∀ k, startFrom l 0 k = start l k
  | 0 => rfl
  | k + 1 => by unfold startFrom start; rw [startFrom_zero l k]
theorem startFrom_succ (l : List UInt8) (b : Nat) (h : nextLF l b < l.length) : ∀ k, startFrom l b (k + 1) = startFrom l (nextLF l b + 1) k
  | 0 => by simp [startFrom, h]
  | k + 1 => by
    have ih := startFrom_succ l b h k
    rw [startFrom, ih]
    rfl
theorem startFrom_none (l : List UInt8) (b : Nat) (h : ¬ nextLF l b < l.length) : ∀ k, startFrom l b (k + 1) = none
  | 0 => by simp [startFrom, h]
  | k + 1 => by rw [startFrom, startFrom_none l b h k]; rfl
theorem linesFrom_get (l : List UInt8) : ∀ d b k, b ≤ l.length → l.length ≤ b + d → (linesFrom l b d)[k]? = (startFrom l b k).map fun c => (c, nextLF l c)
  | 0, b, k, h1, h2 => by
    have e : b = l.length := by omega
    have en : nextLF l b = l.length := by have := nextLF_ge l b; have := nextLF_le l b h1; omega
    cases k with
    | zero => simp [linesFrom, startFrom, en]
    | succ k => rw [startFrom_none l b (by omega)]; simp [linesFrom]
  | d + 1, b, k, h1, h2 => by
    have hg := nextLF_ge l b
    have hl := nextLF_le l b h1
    unfold linesFrom
    split
    · rename_i hlt
      cases k with
      | zero => simp [startFrom]
      | succ k =>
        rw [startFrom_succ l b hlt, List.getElem?_cons_succ]
        exact linesFrom_get l d _ k (by omega) (by omega)
    · rename_i hn
      cases k with
      | zero => simp [startFrom, show nextLF l b = l.length from by omega]
      | succ k => rw [startFrom_none l b hn]; simp
theorem lines_get (l : List UInt8) (k : Nat) : (lines l)[k]? = (start l k).map fun c => (c, nextLF l c) := by
  unfold lines
  rw [linesFrom_get l l.length 0 k (by omega) (by omega), startFrom_zero]
theorem lines_length (l : List UInt8) : (lines l).length = cnt l l.length + 1 := by
  have h1 : (lines l)[cnt l l.length]? = some (ls l l.length, l.length) := by
    rw [lines_get, start_ls l l.length (Nat.le_refl _)]
    have := nextLF_ls l l.length (Nat.le_refl _)
    have h2 : nextLF l l.length = l.length := by have := nextLF_ge l l.length; have := nextLF_le l l.length (Nat.le_refl _); omega
    simp [this, h2]
  have h2 : (lines l)[cnt l l.length + 1]? = none := by
    rw [lines_get]
    unfold start
    rw [start_ls l l.length (Nat.le_refl _), Option.bind_some]
    have := nextLF_ls l l.length (Nat.le_refl _)
    have h2 : nextLF l l.length = l.length := by have := nextLF_ge l l.length; have := nextLF_le l l.length (Nat.le_refl _); omega
    rw [this, h2, if_neg (by omega)]
    rfl
  have a := (List.getElem?_eq_some_iff.1 h1).1
  have b := List.getElem?_eq_none_iff.1 h2
  omega
end Go.Proofs.Ytkjckdgknbfaiaa.Qall
