/- Of the places of a text: what place's printed functions tell, and that a spot leads back (for ReportLeads; the plain laws). Conditions: as each theorem states. -/
import Derived.Test.YtloflodbcdlmpaaDoorPl32
import Derived.Test.YtloflodbcdlmpaaDoorAt2
import Derived.Test.YtloflodbcdlmpaaDoorQx42
import Derived.Lib.ItoaLen
import Derived.Lib.ItoaMem

namespace Go.Proofs.YtloflodbcdlmpaaDoor.Pl
open Go.RowKit Go.Proofs.YtloflodbcdlmpaaDoor.Qall Go.Proofs.YtloflodbcdlmpaaDoorW.PrintWords Go.Proofs.YtloflodbcdlmpaaDoorW.PrintLast Go.Proofs.YtloflodbcdlmpaaDoorW.PrintMore
set_option linter.unusedSimpArgs false
set_option linter.unusedVariables false
def by_ (l : List UInt8) (i : Nat) : Nat := (l.getD i 0).toNat
theorem data_extract (s : ByteArray) (a b : Nat) : (s.extract a b).data.toList = (s.data.toList.drop a).take (b - a) := by
  rw [ByteArray.data_extract, Array.toList_extract]
theorem size_list (s : ByteArray) : s.size = s.data.toList.length := (data_length s).symm
theorem wrap_of {i : Int} (h0 : -9223372036854775808 ≤ i) (h1 : i ≤ 9223372036854775807) : wrap64 i = i := by
  unfold wrap64
  omega

def nx (l : List UInt8) : Nat → Nat → Nat
  | i, 0 => i
  | i, d + 1 => if by_ l i = 10 then i else nx l (i + 1) d
/-- the next LF from a place on, or the end -/
def nextLF (l : List UInt8) (i : Nat) : Nat := nx l i (l.length - i)
theorem nx_le (l : List UInt8) : ∀ d i, i ≤ nx l i d ∧ nx l i d ≤ i + d
  | 0, i => ⟨Nat.le_refl _, Nat.le_refl _⟩
  | d + 1, i => by
    have ih := nx_le l d (i + 1)
    unfold nx
    split <;> omega
theorem nx_free (l : List UInt8) : ∀ d i j, i ≤ j → j < nx l i d → by_ l j ≠ 10
  | 0, i, j, h1, h2 => by unfold nx at h2; omega
  | d + 1, i, j, h1, h2 => by
    unfold nx at h2
    split at h2
    · omega
    · rename_i h
      by_cases e : j = i
      · subst e; exact h
      · exact nx_free l d (i + 1) j (by omega) h2
theorem nx_hit (l : List UInt8) : ∀ d i, nx l i d < i + d → by_ l (nx l i d) = 10
  | 0, i, h => by unfold nx at h; omega
  | d + 1, i, h => by
    unfold nx at h ⊢
    split
    · assumption
    · rename_i h2
      rw [if_neg h2] at h
      exact nx_hit l d (i + 1) (by omega)
theorem nextLF_ge (l : List UInt8) (i : Nat) : i ≤ nextLF l i := (nx_le l _ i).1
theorem nextLF_le (l : List UInt8) (i : Nat) (h : i ≤ l.length) : nextLF l i ≤ l.length := by have := (nx_le l (l.length - i) i).2; unfold nextLF; omega
theorem nextLF_free (l : List UInt8) (i j : Nat) (h1 : i ≤ j) (h2 : j < nextLF l i) : by_ l j ≠ 10 := nx_free l _ i j h1 h2
theorem nextLF_hit (l : List UInt8) (i : Nat) (h : nextLF l i < l.length) : by_ l (nextLF l i) = 10 := by
  have := nextLF_ge l i
  exact nx_hit l (l.length - i) i (by unfold nextLF at h this; omega)
theorem nextLF_eq (l : List UInt8) (i j : Nat) (h1 : i ≤ j) (h2 : j ≤ l.length) (h3 : ∀ m, i ≤ m → m < j → by_ l m ≠ 10) (h4 : j < l.length → by_ l j = 10) : nextLF l i = j := by
  have g1 := nextLF_ge l i
  have g2 := nextLF_le l i (by omega)
  by_cases c : nextLF l i < j
  · exact absurd (nextLF_hit l i (by omega)) (h3 _ g1 c)
  · by_cases c2 : j < nextLF l i
    · exact absurd (h4 (by omega)) (nextLF_free l i j h1 c2)
    · omega
/-- where the line of a place begins -/
def ls (l : List UInt8) : Nat → Nat
  | 0 => 0
  | i + 1 => if by_ l i = 10 then i + 1 else ls l i
theorem ls_le (l : List UInt8) : ∀ i, ls l i ≤ i
  | 0 => Nat.le_refl _
  | i + 1 => by
    have := ls_le l i
    unfold ls
    split <;> omega
theorem ls_free (l : List UInt8) : ∀ i j, ls l i ≤ j → j < i → by_ l j ≠ 10
  | 0, j, h1, h2 => by omega
  | i + 1, j, h1, h2 => by
    unfold ls at h1
    split at h1
    · omega
    · rename_i h
      by_cases e : j = i
      · subst e; exact h
      · exact ls_free l i j h1 (by omega)
/-- how many LFs stand ahead of a place -/
def cnt (l : List UInt8) (i : Nat) : Nat := (l.take i).count 10
theorem by_ten (l : List UInt8) (i : Nat) (h : i < l.length) : by_ l i = 10 ↔ l[i] = 10 := by
  unfold by_
  rw [List.getD_eq_getElem?_getD, List.getElem?_eq_getElem h]
  simp only [Option.getD_some]
  constructor
  · intro e
    apply UInt8.toNat_inj.1
    exact e
  · intro e
    rw [e]; rfl
theorem cnt_succ (l : List UInt8) (i : Nat) (h : i < l.length) : cnt l (i + 1) = cnt l i + (if by_ l i = 10 then 1 else 0) := by
  unfold cnt
  rw [List.take_succ_eq_append_getElem h, List.count_append]
  by_cases e : l[i] = 10
  · rw [if_pos ((by_ten l i h).2 e), e]; rfl
  · rw [if_neg (fun h2 => e ((by_ten l i h).1 h2)), List.count_singleton]
    simp [e]
theorem cnt_all (l : List UInt8) : cnt l l.length = l.count 10 := by unfold cnt; rw [List.take_length]
theorem cnt_le (l : List UInt8) (i : Nat) : cnt l i ≤ i := by
  unfold cnt
  have h1 := List.count_le_length (a := (10 : UInt8)) (l := l.take i)
  have h2 := List.length_take_le i l
  omega
def start (l : List UInt8) : Nat → Option Nat
  | 0 => some 0
  | k + 1 => (start l k).bind fun b => if nextLF l b < l.length then some (nextLF l b + 1) else none
theorem start_le (l : List UInt8) : ∀ k b, start l k = some b → b ≤ l.length
  | 0, b, h => by obtain rfl := Option.some.inj h; omega
  | k + 1, b, h => by
    unfold start at h
    cases h2 : start l k with
    | none => rw [h2] at h; cases h
    | some c =>
      rw [h2, Option.bind_some] at h
      split at h
      · obtain rfl := Option.some.inj h; omega
      · cases h
/-- the line of a place: its number is how many LFs stand ahead. -/
theorem start_ls (l : List UInt8) : ∀ at_, at_ ≤ l.length → start l (cnt l at_) = some (ls l at_)
  | 0, _ => rfl
  | i + 1, h => by
    have ih := start_ls l i (by omega)
    rw [cnt_succ l i (by omega)]
    unfold ls
    by_cases e : by_ l i = 10
    · rw [if_pos e, if_pos e]
      unfold start
      rw [ih, Option.bind_some]
      have en : nextLF l (ls l i) = i := nextLF_eq l _ i (ls_le l i) (by omega) (fun m h1 h2 => ls_free l i m h1 h2) (fun _ => e)
      rw [en, if_pos (by omega)]
    · rw [if_neg e, if_neg e]
      exact ih
theorem nextLF_ls (l : List UInt8) (at_ : Nat) (h : at_ ≤ l.length) : nextLF l (ls l at_) = nextLF l at_ := by
  have h1 := ls_le l at_
  have h2 := nextLF_ge l at_
  exact nextLF_eq l _ _ (by omega) (nextLF_le l at_ h) (fun m g1 g2 => by
    by_cases c : m < at_
    · exact ls_free l at_ m g1 c
    · exact nextLF_free l at_ m (by omega) g2) (fun g => nextLF_hit l at_ g)
def linesFrom (l : List UInt8) : Nat → Nat → List (Nat × Nat)
  | b, 0 => [(b, l.length)]
  | b, d + 1 => if nextLF l b < l.length then (b, nextLF l b) :: linesFrom l (nextLF l b + 1) d else [(b, l.length)]
def lines (l : List UInt8) : List (Nat × Nat) := linesFrom l 0 l.length
def startFrom (l : List UInt8) (b : Nat) : Nat → Option Nat
  | 0 => some b
  | k + 1 => (startFrom l b k).bind fun b => if nextLF l b < l.length then some (nextLF l b + 1) else none
theorem startFrom_zero (l : List UInt8) : ∀ k, startFrom l 0 k = start l k
  | 0 => rfl
  | k + 1 => by unfold startFrom start; rw [startFrom_zero l k]
theorem startFrom_succ (l : List UInt8) (b : Nat) (h : nextLF l b < l.length) : ∀ k, startFrom l b (k + 1) = startFrom l (nextLF l b + 1) k
  | 0 => by simp [startFrom, h]
  | k + 1 => by
    have ih := startFrom_succ l b h k
    rw [startFrom, ih]
    rfl
theorem startFrom_none (l : List UInt8) (b : Nat) (h : ¬ nextLF l b < l.length) : ∀ k, startFrom l b (k + 1) = none
  | 0 => by simp [startFrom, h]
  | k + 1 => by rw [startFrom, startFrom_none l b h k]; rfl
theorem linesFrom_get (l : List UInt8) : ∀ d b k, b ≤ l.length → l.length ≤ b + d → (linesFrom l b d)[k]? = (startFrom l b k).map fun c => (c, nextLF l c)
  | 0, b, k, h1, h2 => by
    have e : b = l.length := by omega
    have en : nextLF l b = l.length := by have := nextLF_ge l b; have := nextLF_le l b h1; omega
    cases k with
    | zero => simp [linesFrom, startFrom, en]
    | succ k => rw [startFrom_none l b (by omega)]; simp [linesFrom]
  | d + 1, b, k, h1, h2 => by
    have hg := nextLF_ge l b
    have hl := nextLF_le l b h1
    unfold linesFrom
    split
    · rename_i hlt
      cases k with
      | zero => simp [startFrom]
      | succ k =>
        rw [startFrom_succ l b hlt, List.getElem?_cons_succ]
        exact linesFrom_get l d _ k (by omega) (by omega)
    · rename_i hn
      cases k with
      | zero => simp [startFrom, show nextLF l b = l.length from by omega]
      | succ k => rw [startFrom_none l b hn]; simp
theorem lines_get (l : List UInt8) (k : Nat) : (lines l)[k]? = (start l k).map fun c => (c, nextLF l c) := by
  unfold lines
  rw [linesFrom_get l l.length 0 k (by omega) (by omega), startFrom_zero]
theorem lines_length (l : List UInt8) : (lines l).length = cnt l l.length + 1 := by
  have h1 : (lines l)[cnt l l.length]? = some (ls l l.length, l.length) := by
    rw [lines_get, start_ls l l.length (Nat.le_refl _)]
    have := nextLF_ls l l.length (Nat.le_refl _)
    have h2 : nextLF l l.length = l.length := by have := nextLF_ge l l.length; have := nextLF_le l l.length (Nat.le_refl _); omega
    simp [this, h2]
  have h2 : (lines l)[cnt l l.length + 1]? = none := by
    rw [lines_get]
    unfold start
    rw [start_ls l l.length (Nat.le_refl _), Option.bind_some]
    have := nextLF_ls l l.length (Nat.le_refl _)
    have h2 : nextLF l l.length = l.length := by have := nextLF_ge l l.length; have := nextLF_le l l.length (Nat.le_refl _); omega
    rw [this, h2, if_neg (by omega)]
    rfl
  have a := (List.getElem?_eq_some_iff.1 h1).1
  have b := List.getElem?_eq_none_iff.1 h2
  omega
theorem index_nx (l : List UInt8) : ∀ d b, b + d = l.length → Lib.indexByte (l.drop b) 10 = if nx l b d < l.length then ((nx l b d : Int) - b) else -1
  | 0, b, h => by
    rw [List.drop_eq_nil_of_le (by omega)]
    unfold nx Lib.indexByte
    rw [if_neg (by omega)]
  | d + 1, b, h => by
    have hb : b < l.length := by omega
    rw [List.drop_eq_getElem_cons hb]
    unfold Lib.indexByte nx
    by_cases e : l[b] = 10
    · rw [if_pos (by simp [e]), if_pos ((by_ten l b hb).2 e), if_pos hb]; omega
    · have ih := index_nx l d (b + 1) (by omega)
      have hg := nx_le l d (b + 1)
      rw [if_neg (by simp [e]), if_neg (fun h2 => e ((by_ten l b hb).1 h2)), ih]
      by_cases c : nx l (b + 1) d < l.length
      · rw [if_pos c, if_pos c, if_neg (by
          intro h3
          have := eq_of_beq h3
          omega)]
        omega
      · rw [if_neg c, if_neg c, if_pos (by rfl)]
theorem index_extract (s : ByteArray) (b : Nat) (h : b ≤ s.size) : Lib.indexByte (s.extract b s.size).data.toList 10 = if nextLF s.data.toList b < s.size then ((nextLF s.data.toList b : Int) - b) else -1 := by
  have e : (s.extract b s.size).data.toList = s.data.toList.drop b := by
    rw [data_extract, List.take_of_length_le]
    rw [List.length_drop, ← size_list]
    omega
  rw [e, index_nx _ (s.data.toList.length - b) b (by rw [← size_list]; omega)]
  unfold nextLF
  rw [← size_list]
theorem last_ls (s : ByteArray) (at_ : Nat) (h : at_ ≤ s.size) : ∀ k, k ≤ at_ → Lib.lastIdx (s.extract 0 at_) 10 k + 1 = (ls s.data.toList k : Int)
  | 0, _ => rfl
  | k + 1, hk => by
    have ih := last_ls s at_ h k (by omega)
    have e : (((s.extract 0 at_).data[k]!).toNat : Int) = (by_ s.data.toList k : Int) := by
      have h2 : k < (s.extract 0 at_).data.size := by
        have : (s.extract 0 at_).data.size = (s.extract 0 at_).size := rfl
        rw [this, ByteArray.size_extract]; omega
      have h3 : k < s.data.size := by have : s.data.size = s.size := rfl; omega
      unfold by_
      rw [getElem!_pos ((s.extract 0 at_).data) k h2, List.getD_eq_getElem?_getD, Array.getElem?_toList, Array.getElem?_eq_getElem h3]
      simp [ByteArray.data_extract]
    unfold Lib.lastIdx ls
    rw [e]
    by_cases c : by_ s.data.toList k = 10
    · rw [if_pos (by omega), if_pos c]; omega
    · rw [if_neg (by omega), if_neg c]; exact ih
theorem row_eq (s : ByteArray) (at_ : Nat) (h : at_ ≤ s.size) (hn : s.size ≤ 1073741824) : place_row.f s (at_ : Int) = some ((ls s.data.toList at_ : Int), (nextLF s.data.toList at_ : Int)) := by
  have hl := ls_le s.data.toList at_
  have hg := nextLF_ge s.data.toList at_
  have hle := nextLF_le s.data.toList at_ (by rw [← size_list]; exact h)
  rw [← size_list] at hle
  unfold place_row.f strings_LastIndexByte.f strings_IndexByte.f
  rw [if_pos (by omega), if_pos (by omega), Int.toNat_natCast]
  have e1 : (s.extract 0 at_).size = at_ := by rw [ByteArray.size_extract]; omega
  have e2 : Lib.lastIndexByte (s.extract 0 at_) 10 + 1 = (ls s.data.toList at_ : Int) := by
    unfold Lib.lastIndexByte
    rw [e1]
    exact last_ls s at_ h at_ (Nat.le_refl _)
  rw [if_pos (by omega), Option.bind_some, Option.bind_some]
  have e3 : ((10 : Int).toNat.toUInt8) = (10 : UInt8) := rfl
  rw [e3, index_extract s at_ h, e2]
  by_cases c : nextLF s.data.toList at_ < s.size
  · rw [if_pos c, if_neg (by omega), wrap_of (by omega) (by omega), wrap_of (by omega) (by omega)]
    congr 2
    omega
  · rw [if_neg c, if_pos (by omega), wrap_of (by omega) (by omega)]
    congr 2
    omega
def tell (l : List UInt8) : Option Nat → Int × Int × Bool
  | some b => ((b : Int), (nextLF l b : Int), true)
  | none => (0, 0, false)
theorem bounds_l0 (s : ByteArray) (hn : s.size ≤ 1073741824) (line : Int) (hl : line ≤ 9223372036854775807) : ∀ (d k b n : Nat), b + d = s.size → d < k → 1 ≤ n → (n : Int) ≤ line →
    ls s.data.toList b = b → place_bounds.l0 k s line (b : Int) (n : Int) = some (tell s.data.toList (startFrom s.data.toList b (line - n).toNat)) := by
  intro d
  induction d using Nat.strongRecOn with
  | ind d ih =>
    intro k b n hb hk h1 h2 hls
    obtain ⟨k, rfl⟩ : ∃ m, k = m + 1 := ⟨k - 1, by omega⟩
    have hg := nextLF_ge s.data.toList b
    have hle := nextLF_le s.data.toList b (by rw [← size_list]; omega)
    rw [← size_list] at hle
    unfold place_bounds.l0
    by_cases c : (n : Int) < line
    · rw [if_pos c, if_pos (by omega), if_pos (by omega), Int.toNat_natCast]
      unfold strings_IndexByte.f
      have e3 : ((10 : Int).toNat.toUInt8) = (10 : UInt8) := rfl
      rw [Option.bind_some, e3, index_extract s b (by omega)]
      obtain ⟨m, hm⟩ : ∃ m : Nat, (line - n).toNat = m + 1 := ⟨(line - n).toNat - 1, by omega⟩
      rw [hm]
      by_cases g : nextLF s.data.toList b < s.size
      · rw [if_pos g, if_neg (by omega), wrap_of (i := (nextLF s.data.toList b : Int) - b + 1) (by omega) (by omega), wrap_of (i := (b : Int) + ((nextLF s.data.toList b : Int) - b + 1)) (by omega) (by omega), wrap_of (i := (n : Int) + 1) (by omega) (by omega)]
        rw [startFrom_succ _ _ (by rw [← size_list]; exact g)]
        have hh := nextLF_hit s.data.toList b (by rw [← size_list]; exact g)
        have := ih (s.size - (nextLF s.data.toList b + 1)) (by omega) k (nextLF s.data.toList b + 1) (n + 1) (by omega) (by omega) (by omega) (by omega) (by unfold ls; rw [if_pos hh])
        rw [show (b : Int) + ((nextLF s.data.toList b : Int) - b + 1) = ((nextLF s.data.toList b + 1 : Nat) : Int) from by omega, show (n : Int) + 1 = ((n + 1 : Nat) : Int) from by omega, this]
        rw [show (line - ((n + 1 : Nat) : Int)).toNat = m from by omega]
      · rw [if_neg g, if_pos (by omega), startFrom_none _ _ (by rw [← size_list]; exact g)]
        rfl
    · rw [if_neg c, row_eq s b (by omega) hn, Option.bind_some, show (line - n).toNat = 0 from by omega]
      rfl
/-- the line of a number: where it begins, if there is one -/
def lineAt (l : List UInt8) (line : Int) : Option Nat := if line < 1 then none else start l (line - 1).toNat
theorem bounds_eq (s : ByteArray) (hn : s.size ≤ 1073741824) (line : Int) (hl : line ≤ 9223372036854775807) : ∀ k, s.size < k → place_bounds.f k s line = some (tell s.data.toList (lineAt s.data.toList line)) := by
  intro k hk
  unfold place_bounds.f lineAt
  by_cases c : line < 1
  · rw [if_pos c, if_pos c]; rfl
  · rw [if_neg c, if_neg c]
    have := bounds_l0 s hn line hl s.size k 0 1 (by omega) hk (Nat.le_refl _) (by omega) rfl
    rw [show ((0 : Nat) : Int) = 0 from rfl, show ((1 : Nat) : Int) = 1 from rfl] at this
    rw [this, startFrom_zero]
/-- the place of a line and column -/
def atAns (l : List UInt8) (line col : Int) : Int × Int := match lineAt l line with
  | some b => if col < 1 ∨ (nextLF l b : Int) - b + 1 < col then (0, 20) else ((b : Int) + col - 1, 0)
  | none => (0, 20)
theorem lineAt_le (l : List UInt8) (line : Int) (b : Nat) (h : lineAt l line = some b) : b ≤ l.length := by
  unfold lineAt at h
  split at h
  · cases h
  · exact start_le l _ _ h
theorem at_eq (s : ByteArray) (hn : s.size ≤ 1073741824) (line col : Int) (hl : line ≤ 9223372036854775807) (hc : col ≤ 9223372036854775807) : ∀ k, s.size < k → place_At.f k s line col = some (atAns s.data.toList line col) := by
  intro k hk
  unfold place_At.f atAns
  rw [bounds_eq s hn line hl k hk, Option.bind_some]
  cases hb : lineAt s.data.toList line with
  | none => rfl
  | some b =>
    have h1 := lineAt_le _ _ _ hb
    have hg := nextLF_ge s.data.toList b
    have hle := nextLF_le s.data.toList b h1
    rw [← size_list] at h1 hle
    have ew : wrap64 (wrap64 ((nextLF s.data.toList b : Int) - (b : Int)) + 1) = (nextLF s.data.toList b : Int) - b + 1 := by rw [wrap_of (i := (nextLF s.data.toList b : Int) - b) (by omega) (by omega), wrap_of (by omega) (by omega)]
    dsimp +instances only [tell]
    rw [if_pos rfl]
    by_cases c1 : col < 1
    · rw [if_pos c1, if_pos (.inl c1)]
    · rw [if_neg c1]
      by_cases c2 : (nextLF s.data.toList b : Int) - b + 1 < col
      · rw [if_pos (by omega), if_pos (.inr c2)]
      · rw [if_neg (by omega), if_neg (by omega), wrap_of (i := (b : Int) + col) (by omega) (by omega), wrap_of (by omega) (by omega)]
theorem linesf_eq (s : ByteArray) (hn : s.size ≤ 1073741824) : place_Lines.f s = some (((lines s.data.toList).length : Int)) := by
  unfold place_Lines.f strings_Count.f
  have h1 := cnt_le s.data.toList s.data.toList.length
  have h2 : Lib.countByte s.data.toList 10 = cnt s.data.toList s.data.toList.length := (cnt_all _).symm
  rw [← size_list] at h1 h2
  simp only [Option.bind_some]
  rw [h2, lines_length, ← size_list, wrap_of (by omega) (by omega)]
  congr 1
  omega
theorem get_by (s : ByteArray) (i : Nat) : (s.get! i).toNat = by_ s.data.toList i := by
  unfold by_
  show (s.data[i]!).toNat = _
  rw [List.getD_eq_getElem?_getD, Array.getElem?_toList, getElem!_def]
  cases h : s.data[i]? <;> rfl
def decN (b0 b1 b2 b3 : Nat) (p1 p2 p3 : Bool) : Nat × Nat :=
  if b0 < 0x80 then (b0, 1)
  else if b0 / 32 == 6 && (p1 && b1 / 64 == 2) then
    (if (b0 % 32) * 64 + b1 % 64 ≥ 0x80 then ((b0 % 32) * 64 + b1 % 64, 2) else (0xFFFD, 1))
  else if b0 / 16 == 14 && (p1 && b1 / 64 == 2) && (p2 && b2 / 64 == 2) then
    (if (b0 % 16) * 4096 + (b1 % 64) * 64 + b2 % 64 ≥ 0x800 && Utf8.valid (((b0 % 16) * 4096 + (b1 % 64) * 64 + b2 % 64 : Nat) : Int) then ((b0 % 16) * 4096 + (b1 % 64) * 64 + b2 % 64, 3) else (0xFFFD, 1))
  else if b0 / 8 == 30 && (p1 && b1 / 64 == 2) && (p2 && b2 / 64 == 2) && (p3 && b3 / 64 == 2) then
    (if (b0 % 8) * 262144 + (b1 % 64) * 4096 + (b2 % 64) * 64 + b3 % 64 ≥ 0x10000 && Utf8.valid (((b0 % 8) * 262144 + (b1 % 64) * 4096 + (b2 % 64) * 64 + b3 % 64 : Nat) : Int) then ((b0 % 8) * 262144 + (b1 % 64) * 4096 + (b2 % 64) * 64 + b3 % 64, 4) else (0xFFFD, 1))
  else (0xFFFD, 1)
theorem decode_decN (s : ByteArray) (i : Nat) : Utf8.decode s i = decN (by_ s.data.toList i) (by_ s.data.toList (i + 1)) (by_ s.data.toList (i + 2)) (by_ s.data.toList (i + 3)) (decide (i + 1 < s.size)) (decide (i + 2 < s.size)) (decide (i + 3 < s.size)) := by
  unfold Utf8.decode decN
  simp only [get_by, Nat.add_zero]
  rfl
theorem width_pos (s : ByteArray) (p : Nat) (hp : p < s.size) : 1 ≤ (Utf8.decode s p).2 := Lib.decode_width_pos s p hp
theorem width_le (s : ByteArray) (p : Nat) (hp : p < s.size) : p + (Utf8.decode s p).2 ≤ s.size := by
  rw [decode_decN]
  unfold decN
  repeat' split
  all_goals simp_all
  all_goals omega
def charsFrom (s : ByteArray) : Nat → Nat → List S115
  | 0, _ => []
  | f + 1, pos => if pos < s.size then ⟨(pos : Int), ((Utf8.decode s pos).2 : Int), ((Utf8.decode s pos).1 : Int)⟩ :: charsFrom s f (pos + (Utf8.decode s pos).2) else []
def chars (s : ByteArray) : List S115 := charsFrom s s.size 0
/-- how many characters end at a place or ahead of it -/
def ends (s : ByteArray) (a : Nat) : Nat → Nat → Nat
  | 0, _ => 0
  | f + 1, pos => if pos < s.size then (if pos + (Utf8.decode s pos).2 ≤ a then 1 else 0) + ends s a f (pos + (Utf8.decode s pos).2) else 0
theorem ends_end (s : ByteArray) (a f pos : Nat) (h : ¬ pos < s.size) : ends s a f pos = 0 := by cases f <;> simp [ends, h]
theorem ends_le (s : ByteArray) (a : Nat) : ∀ f pos, ends s a f pos ≤ f
  | 0, _ => by simp [ends]
  | f + 1, pos => by
    have := ends_le s a f (pos + (Utf8.decode s pos).2)
    rw [ends]
    split
    · split <;> omega
    · omega
theorem ended_ends (s : ByteArray) (a : Nat) (ha : a ≤ s.size) : ∀ f pos, pos < s.size → s.size ≤ pos + f →
    place_ended.cnt s (a : Int) f pos + (if a = s.size then 1 else 0) = (if 0 < pos ∧ pos ≤ a then 1 else 0) + ends s a f pos
  | 0, pos, h1, h2 => by omega
  | f + 1, pos, h1, h2 => by
    have hw := width_pos s pos h1
    have hw2 := width_le s pos h1
    rw [place_ended.cnt, if_pos h1, ends, if_pos h1]
    have e : (0 < pos ∧ (pos : Int) ≤ (a : Int)) ↔ (0 < pos ∧ pos ≤ a) := by omega
    by_cases c : pos + (Utf8.decode s pos).2 < s.size
    · have ih := ended_ends s a ha f _ c (by omega)
      have e2 : (0 < pos + (Utf8.decode s pos).2 ∧ pos + (Utf8.decode s pos).2 ≤ a) ↔ (pos + (Utf8.decode s pos).2 ≤ a) := by omega
      simp only [e, e2] at ih ⊢
      omega
    · rw [place_ended.cnt_end s _ f _ c, ends_end s a f _ c]
      have e3 : (pos + (Utf8.decode s pos).2 ≤ a) ↔ a = s.size := by omega
      simp only [e, e3]
      omega
theorem ended_eq (s : ByteArray) (hn : s.size ≤ 1073741824) (a : Nat) (ha : a ≤ s.size) : place_ended.f s (a : Int) = some ((ends s a s.size 0 : Nat) : Int) := by
  unfold place_ended.f
  rw [if_pos (by omega)]
  congr 1
  by_cases c : 0 < s.size
  · have := ended_ends s a ha s.size 0 c (by omega)
    rw [if_neg (show ¬ (0 < 0 ∧ 0 ≤ a) by omega)] at this
    have e : (0 < s.size ∧ (a : Int) = (s.size : Int)) ↔ a = s.size := by omega
    simp only [e]
    split at this <;> simp_all <;> omega
  · have e : ¬ (0 < s.size ∧ (a : Int) = (s.size : Int)) := by omega
    rw [if_neg e, place_ended.cnt_end s _ _ _ (by omega), ends_end s a _ _ (by omega)]
    rfl
def lineOf (s : ByteArray) (at_ : Nat) : ByteArray := s.extract (ls s.data.toList at_) (nextLF s.data.toList at_)
def spotAns (s : ByteArray) (at_ : Int) : Int × Int × Int × Int :=
  if at_ < 0 ∨ (s.size : Int) < at_ then (0, 0, 0, 5)
  else ((cnt s.data.toList at_.toNat : Int) + 1, at_ - ls s.data.toList at_.toNat + 1, 1 + (ends (lineOf s at_.toNat) (at_.toNat - ls s.data.toList at_.toNat) (lineOf s at_.toNat).size 0 : Int), 0)
theorem lineOf_size (s : ByteArray) (at_ : Nat) (ha : at_ ≤ s.size) : (lineOf s at_).size = nextLF s.data.toList at_ - ls s.data.toList at_ ∧ (lineOf s at_).size ≤ s.size ∧ at_ - ls s.data.toList at_ ≤ (lineOf s at_).size := by
  have hl := ls_le s.data.toList at_
  have hg := nextLF_ge s.data.toList at_
  have hle := nextLF_le s.data.toList at_ (by rw [← size_list]; exact ha)
  rw [← size_list] at hle
  unfold lineOf
  rw [ByteArray.size_extract]
  omega
set_option linter.unusedVariables false in
theorem lines_cnt (s : ByteArray) (at_ : Nat) (ha : at_ ≤ s.size) : (lines (s.extract 0 at_).data.toList).length = cnt s.data.toList at_ + 1 := by
  rw [lines_length, data_extract, List.drop_zero, Nat.sub_zero]
  unfold cnt
  rw [List.take_of_length_le (l := s.data.toList.take at_) (by simp)]
theorem spot_eq (s : ByteArray) (hn : s.size ≤ 1073741824) (at_ : Int) (k : Nat) (hk : 0 < k) : place_Spot.f k s at_ = some (spotAns s at_) := by
  obtain ⟨k, rfl⟩ : ∃ m, k = m + 1 := ⟨k - 1, by omega⟩
  unfold place_Spot.f spotAns
  by_cases c1 : at_ < 0
  · rw [if_pos c1, if_pos (.inl c1), place_Spot.j0, if_pos rfl]
  · rw [if_neg c1]
    by_cases c2 : (s.size : Int) < at_
    · rw [if_pos (.inr c2), place_Spot.j0, if_pos (by simp; omega)]
    · rw [if_neg (by omega), place_Spot.j0, if_neg (by simp; omega)]
      obtain ⟨a, rfl⟩ : ∃ a : Nat, at_ = a := ⟨at_.toNat, by omega⟩
      simp only [Int.toNat_natCast]
      have ha : a ≤ s.size := by omega
      have hl := ls_le s.data.toList a
      have hg := nextLF_ge s.data.toList a
      have hle := nextLF_le s.data.toList a (by rw [← size_list]; exact ha)
      rw [← size_list] at hle
      obtain ⟨z1, z2, z3⟩ := lineOf_size s a ha
      have hcl := cnt_le s.data.toList a
      have hel := ends_le (lineOf s a) (a - ls s.data.toList a) (lineOf s a).size 0
      rw [row_eq s a ha hn, Option.bind_some, if_pos (by omega), if_pos (by omega), linesf_eq _ (by rw [ByteArray.size_extract]; omega), Option.bind_some, if_pos (by omega), if_pos (by omega), if_pos (by omega), lines_cnt s a ha]
      dsimp only
      rw [Int.toNat_natCast, Int.toNat_natCast, wrap_of (i := (a : Int) - (ls s.data.toList a : Int)) (by omega) (by omega), show s.extract (ls s.data.toList a) (nextLF s.data.toList a) = lineOf s a from rfl, show (a : Int) - (ls s.data.toList a : Int) = ((a - ls s.data.toList a : Nat) : Int) from by omega, ended_eq _ (by omega) _ z3, Option.bind_some, wrap_of (by omega) (by omega), wrap_of (by omega) (by omega)]
      rfl
theorem at_spot (s : ByteArray) (a : Nat) (ha : a ≤ s.size) : atAns s.data.toList ((cnt s.data.toList a : Int) + 1) ((a : Int) - ls s.data.toList a + 1) = ((a : Int), 0) := by
  have hl := ls_le s.data.toList a
  have hg := nextLF_ge s.data.toList a
  have hst := start_ls s.data.toList a (by rw [← size_list]; exact ha)
  have hnl := nextLF_ls s.data.toList a (by rw [← size_list]; exact ha)
  have e : lineAt s.data.toList ((cnt s.data.toList a : Int) + 1) = some (ls s.data.toList a) := by
    unfold lineAt
    rw [if_neg (by omega), show ((cnt s.data.toList a : Int) + 1 - 1).toNat = cnt s.data.toList a from by omega, hst]
  unfold atAns
  rw [e]
  show (if (a : Int) - ls s.data.toList a + 1 < 1 ∨ (nextLF s.data.toList (ls s.data.toList a) : Int) - ls s.data.toList a + 1 < (a : Int) - ls s.data.toList a + 1 then _ else _) = _
  rw [hnl, if_neg (by omega)]
  congr 1
  omega
theorem ends_all (s : ByteArray) : ∀ f pos, ends s s.size f pos = (charsFrom s f pos).length
  | 0, _ => rfl
  | f + 1, pos => by
    rw [ends, charsFrom]
    by_cases c : pos < s.size
    · rw [if_pos c, if_pos c, if_pos (width_le s pos c), ends_all s f _, List.length_cons]; omega
    · rw [if_neg c, if_neg c]; rfl
def excAns (s : ByteArray) (at_ w : Int) : ByteArray × Int :=
  if at_ < 0 ∨ (s.size : Int) < at_ ∨ w < 8 ∨ 200 < w then (⟨#[]⟩, 5)
  else (⟨(place_Excerpt.text (lineOf s at_.toNat) (1 + (ends (lineOf s at_.toNat) (at_.toNat - ls s.data.toList at_.toNat) (lineOf s at_.toNat).size 0 : Int)) ((chars (lineOf s at_.toNat)).length : Int) w).toArray⟩, 0)
theorem exc_eq (s : ByteArray) (hn : s.size ≤ 1073741824) (at_ w : Int) : place_Excerpt.f s at_ w = some (excAns s at_ w) := by
  unfold place_Excerpt.f excAns
  by_cases c : at_ < 0 ∨ (s.size : Int) < at_ ∨ w < 8 ∨ 200 < w
  · rw [if_pos c, if_pos c]
  · rw [if_neg c, if_neg c, if_pos (by omega)]
    obtain ⟨a, rfl⟩ : ∃ a : Nat, at_ = a := ⟨at_.toNat, by omega⟩
    have ha : a ≤ s.size := by omega
    have hl := ls_le s.data.toList a
    have hg := nextLF_ge s.data.toList a
    have hle := nextLF_le s.data.toList a (by rw [← size_list]; exact ha)
    rw [← size_list] at hle
    obtain ⟨z1, z2, z3⟩ := lineOf_size s a ha
    have hel := ends_le (lineOf s a) (a - ls s.data.toList a) (lineOf s a).size 0
    have hel2 := ends_le (lineOf s a) (lineOf s a).size (lineOf s a).size 0
    simp only [Int.toNat_natCast]
    rw [row_eq s a ha hn, Option.bind_some]
    dsimp +instances only
    rw [if_pos (by omega), Int.toNat_natCast, Int.toNat_natCast, show s.extract (ls s.data.toList a) (nextLF s.data.toList a) = lineOf s a from rfl, show (a : Int) - (ls s.data.toList a : Int) = ((a - ls s.data.toList a : Nat) : Int) from by omega, ended_eq _ (by omega) _ z3, Option.bind_some, ended_eq _ (by omega) _ (Nat.le_refl _), Option.bind_some, if_pos (by omega), ends_all]
    rfl
theorem text_le (l : ByteArray) (mark all width : Int) : (place_Excerpt.text l mark all width).length ≤ 4 * l.size + 3 + (mark - place_Excerpt.first mark all width).toNat := by
  unfold place_Excerpt.text
  have := place_Excerpt.from_le l (place_Excerpt.first mark all width) (place_Excerpt.first mark all width + width - 1) all l.size 0 0
  simp
  omega
theorem excAns_le (s : ByteArray) (at_ w : Int) : (excAns s at_ w).1.size ≤ 5 * s.size + 10 := by
  unfold excAns
  split
  · show (⟨#[]⟩ : ByteArray).size ≤ _
    show 0 ≤ _
    omega
  · rename_i h
    obtain ⟨a, rfl⟩ : ∃ a : Nat, at_ = a := ⟨at_.toNat, by omega⟩
    have ha : a ≤ s.size := by omega
    simp only [Int.toNat_natCast]
    obtain ⟨z1, z2, z3⟩ := lineOf_size s a ha
    have hel := ends_le (lineOf s a) (a - ls s.data.toList a) (lineOf s a).size 0
    have ht := text_le (lineOf s a) (1 + (ends (lineOf s a) (a - ls s.data.toList a) (lineOf s a).size 0 : Int)) ((chars (lineOf s a)).length : Int) w
    have hf : 1 ≤ place_Excerpt.first (1 + (ends (lineOf s a) (a - ls s.data.toList a) (lineOf s a).size 0 : Int)) ((chars (lineOf s a)).length : Int) w := by unfold place_Excerpt.first; omega
    have e : ∀ l : List UInt8, (⟨l.toArray⟩ : ByteArray).size = l.length := fun l => by show l.toArray.size = _; simp
    rw [e]
    omega
theorem dec_small (n : Nat) (h : n < 10) : Lib.decDigits n = [UInt8.ofNat (48 + n)] := Lib.decDigits_one h
theorem dec_big (n : Nat) (h : ¬ n < 10) : Lib.decDigits n = Lib.decDigits (n / 10) ++ [UInt8.ofNat (48 + n % 10)] := by rw [Lib.decDigits, dif_neg h]
theorem dec_len : ∀ (d n : Nat), n < 10 ^ d → 1 ≤ d → (Lib.decDigits n).length ≤ d
  | 0, _, _, h => by omega
  | d + 1, n, h, _ => by
    by_cases c : n < 10
    · rw [dec_small n c]; simp
    · rw [dec_big n c, List.length_append]
      have : n / 10 < 10 ^ d := by rw [Nat.pow_succ] at h; omega
      have hd : 1 ≤ d := by
        cases d with
        | zero => simp at this; omega
        | succ d => omega
      have := dec_len d (n / 10) this hd
      simp
      exact this
end Go.Proofs.YtloflodbcdlmpaaDoor.Pl
