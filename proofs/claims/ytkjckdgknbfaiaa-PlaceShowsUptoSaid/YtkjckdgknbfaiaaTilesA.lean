/- What the characters of a text are, one behind the other: the plain law of PlaceTiles. Conditions: a text of at most 2^30 bytes. -/
import Derived.Test.YtkjckdgknbfaiaaIter
import Derived.Test.YtkjckdgknbfaiaaPureE
import Derived.Test.YtkjckdgknbfaiaaQallx9
namespace Go.Proofs.Ytkjckdgknbfaiaa.Tiles
set_option linter.unusedSimpArgs false
set_option linter.unusedVariables false
open Go.RowKit Go.Shelf Go.Proofs.Ytkjckdgknbfaiaa.Qall Go.Proofs.Ytkjckdgknbfaiaa.Iter
section
open Go.Proofs.YtkjckdgknbfaiaaW.PrintWords Go.Proofs.YtkjckdgknbfaiaaW.PrintLast Go.Proofs.YtkjckdgknbfaiaaW.PrintMore
theorem works_ev : ∃ k, dowellaw02_works.f k = some true := ⟨24, by decide +kernel⟩
theorem works_at : ∃ K, ∀ k, K ≤ k → dowellaw02_works.f k = some true := by
  obtain ⟨k, h⟩ := works_ev
  exact Ev.of dowellaw02_works.mono h
end
theorem ls_const (l : List UInt8) (b : Nat) : ∀ d, (∀ j, b ≤ j → j < b + d → by_ l j ≠ 10) → ls l (b + d) = ls l b
  | 0, _ => rfl
  | d + 1, h => by
    rw [← Nat.add_assoc, ls, if_neg (h (b + d) (by omega) (by omega))]
    exact ls_const l b d (fun j h1 h2 => h j h1 (by omega))
def noLF (s : ByteArray) (j : Nat) : Bool := decide (∀ m, m < j → by_ s.data.toList m ≠ 10)
theorem noLF_succ (s : ByteArray) (j : Nat) : noLF s (j + 1) = (noLF s j && decide (by_ s.data.toList j ≠ 10)) := by
  unfold noLF
  rw [Bool.eq_iff_iff]
  simp only [decide_eq_true_eq, Bool.and_eq_true]
  constructor
  · intro h
    exact ⟨fun m hm => h m (by omega), h j (by omega)⟩
  · rintro ⟨h1, h2⟩ m hm
    by_cases e : m = j
    · rw [e]; exact h2
    · exact h1 m (by omega)
theorem by_at (s : ByteArray) (j : Nat) (h : j < s.size) : s[j].toNat = by_ s.data.toList j := by
  have h2 : j < s.data.size := h
  show s.data[j].toNat = (s.data.toList.getD j 0).toNat
  rw [List.getD_eq_getElem?_getD, Array.getElem?_toList, Array.getElem?_eq_getElem h2]
  rfl
theorem runesFrom_le (s : ByteArray) (hs : s.size ≤ 4611686018427387904) : ∀ f p, (runesFrom s hs f p).length ≤ f
  | 0, _ => Nat.le_refl _
  | f + 1, p => by
    unfold runesFrom
    split
    · simp only [List.length_cons]
      have := runesFrom_le s hs f (p + (Utf8.decode s p).2)
      omega
    · simp
theorem runes_le (s : ByteArray) (hs : s.size ≤ 4611686018427387904) : (runes s hs).length ≤ s.size := runesFrom_le s hs _ _
theorem neq_by (s : ByteArray) (j : Nat) (h : j < s.size) : ((s[j].toNat : Int) != 10) = decide (by_ s.data.toList j ≠ 10) := by
  have : s[j].toNat = by_ s.data.toList j := by
    have h2 : j < s.data.size := h
    show s.data[j].toNat = (s.data.toList.getD j 0).toNat
    rw [List.getD_eq_getElem?_getD, Array.getElem?_toList, Array.getElem?_eq_getElem h2]
    rfl
  rw [this]
  by_cases e : by_ s.data.toList j = 10
  · simp [e]
  · have : ((by_ s.data.toList j : Nat) : Int) ≠ 10 := by omega
    simp [e, this]
theorem bx {n B : Nat} {w W : World} {t : TypeId} {v : Value} (hB : Below n w W) (h : Boxed w B t v) (hlt : B < n) : Boxed W B t v := (hB.block _ hlt).trans h
/-- The place of the last character so far. -/
def lastp (p : List Rn) : Nat := match p.getLast? with
  | none => 0
  | some x => x.pos
theorem lastp_snoc (p : List Rn) (x : Rn) : lastp (p ++ [x]) = x.pos := by simp [lastp]
theorem lastp_lt (p : List Rn) : lastp p < 4611686018427387904 := by
  unfold lastp
  split
  · omega
  · exact Rn.hpos _
/-- What a round asks of the character x behind those of p. -/
def okT (s : ByteArray) (p : List Rn) (x : Rn) : Prop :=
  (p.length = 0 → x.pos = 0) ∧ (0 < p.length → lastp p < x.pos ∧ x.pos ≤ lastp p + 4) ∧ x.pos < s.size ∧ (x.c < 128 → by_ s.data.toList x.pos = x.c) ∧ (by_ s.data.toList x.pos < 128 → x.c = by_ s.data.toList x.pos) ∧
    (noLF s s.size = true → p.length + 1 ≤ 100 → (spotAns s x.pos).1 = 1 ∧ (spotAns s x.pos).2.1 = x.pos + 1 ∧ (spotAns s x.pos).2.2.1 = p.length + 1 ∧ (spotAns s x.pos).2.2.2 = 0)
def Good (s : ByteArray) (pre : List Rn) : Prop := ∀ p x, p ++ [x] <+: pre → okT s p x
theorem good_nil (s : ByteArray) : Good s [] := fun p x h => by simp at h
theorem good_snoc (s : ByteArray) (pre : List Rn) (x : Rn) (h : Good s pre) (hx : okT s pre x) : Good s (pre ++ [x]) := fun p y hp => by
  obtain ⟨t, ht⟩ := hp
  rcases List.eq_nil_or_concat t with rfl | ⟨t', z, rfl⟩
  · rw [List.append_nil] at ht
    obtain ⟨rfl, e⟩ := List.append_inj' ht rfl
    obtain rfl : y = x := by simpa using e
    exact hx
  · rw [List.concat_eq_append, ← List.append_assoc] at ht
    obtain ⟨e, _⟩ := List.append_inj' ht rfl
    exact h p y ⟨t', e⟩
theorem good_last (s : ByteArray) (pre : List Rn) (x : Rn) (h : Good s (pre ++ [x])) : okT s pre x := h pre x (List.prefix_refl _)
theorem ends_none (s : ByteArray) (a : Nat) : ∀ f q, a ≤ q → ends s a f q = 0
  | 0, _, _ => rfl
  | f + 1, q, h => by
    rw [ends]
    split
    · rename_i hp
      have hw := width_pos s q hp
      rw [if_neg (by omega), ends_none s a f _ (by omega)]
    · rfl
theorem extract_all (s : ByteArray) : s.extract 0 s.size = s := by
  apply Go.WideShapes.bytes_inj
  rw [data_extract, List.drop_zero, Nat.sub_zero, size_list, List.take_length]
theorem spot_noLF (s : ByteArray) (h : noLF s s.size = true) (p : Nat) (hp : p ≤ s.size) : spotAns s (p : Int) = (1, (p : Int) + 1, 1 + (ends s p s.size 0 : Int), 0) := by
  have hf : ∀ m, m < s.size → by_ s.data.toList m ≠ 10 := of_decide_eq_true h
  have hsz := size_list s
  have e1 : cnt s.data.toList p = 0 := by
    have := cnt_free s.data.toList 0 p (by omega) (fun j _ hj => hf j (by omega))
    rw [Nat.zero_add, cnt_zero] at this
    exact this
  have e2 : ls s.data.toList p = 0 := by
    have := ls_const s.data.toList 0 p (fun j _ hj => hf j (by omega))
    rw [Nat.zero_add] at this
    exact this
  have e3 : nextLF s.data.toList p = s.size := nextLF_eq _ _ _ hp (by omega) (fun m _ hm => hf m hm) (fun hlt => absurd hlt (by omega))
  have e4 : lineOf s p = s := by unfold lineOf; rw [e2, e3, extract_all]
  unfold spotAns
  rw [if_neg (by omega), Int.toNat_natCast, e1, e2, e4]
  simp
theorem dec_small (s : ByteArray) (p : Nat) : ((Utf8.decode s p).1 < 128 → by_ s.data.toList p = (Utf8.decode s p).1) ∧ (by_ s.data.toList p < 128 → (Utf8.decode s p).1 = by_ s.data.toList p) := by
  rw [decode_decN]
  unfold decN
  by_cases h : by_ s.data.toList p < 0x80
  · rw [if_pos h]
    exact ⟨fun _ => rfl, fun _ => rfl⟩
  · rw [if_neg h]
    refine ⟨fun h2 => ?_, fun h2 => absurd h2 h⟩
    exfalso
    revert h2
    repeat' split
    all_goals (try dsimp only)
    all_goals (try simp only [Bool.and_eq_true, decide_eq_true_eq] at *)
    all_goals omega
theorem okT_at (s : ByteArray) (pre : List Rn) (f pos : Nat) (hp : pos < s.size) (y : Rn) (hy : y.pos = pos) (hc : y.c = (Utf8.decode s pos).1)
    (hd : (pre = [] ∧ pos = 0) ∨ (pre ≠ [] ∧ lastp pre < pos ∧ pos ≤ lastp pre + 4)) (he : ∀ a, pos ≤ a → ends s a s.size 0 = pre.length + ends s a f pos) : okT s pre y := by
  have hds := dec_small s pos
  unfold okT
  rw [hy, hc]
  refine ⟨fun h => ?_, fun h => ?_, hp, hds.1, hds.2, fun h1 _ => ?_⟩
  · rcases hd with ⟨_, h2⟩ | ⟨h2, _⟩
    · exact h2
    · exact absurd (List.eq_nil_of_length_eq_zero h) h2
  · rcases hd with ⟨h2, _⟩ | ⟨_, h2⟩
    · rw [h2] at h; exact absurd h (by simp)
    · exact h2
  · rw [spot_noLF s h1 pos (by omega), he pos (Nat.le_refl _), ends_none s pos f pos (Nat.le_refl _)]
    refine ⟨rfl, rfl, ?_, rfl⟩
    show 1 + ((pre.length + 0 : Nat) : Int) = (pre.length : Int) + 1
    omega
theorem good_from (s : ByteArray) (hs2 : s.size ≤ 4611686018427387904) : ∀ f pos (pre : List Rn), s.size ≤ pos + f → pos ≤ s.size → ((pre = [] ∧ pos = 0) ∨ (pre ≠ [] ∧ lastp pre < pos ∧ pos ≤ lastp pre + 4)) →
    (∀ a, pos ≤ a → ends s a s.size 0 = pre.length + ends s a f pos) → ∀ p x, p ++ [x] <+: runesFrom s hs2 f pos → okT s (pre ++ p) x
  | 0, pos, pre, _, _, _, _, p, x, hpx => by simp [runesFrom] at hpx
  | f + 1, pos, pre, hf, hp, hd, he, p, x, hpx => by
    by_cases h : pos < s.size
    · rw [runesFrom, dif_pos h] at hpx
      have hw := width_pos s pos h
      have hw4 := width_four s pos
      have hwl := width_le s pos h
      cases p with
      | nil =>
        rw [List.nil_append, List.cons_prefix_cons] at hpx
        obtain ⟨rfl, _⟩ := hpx
        rw [List.append_nil]
        exact okT_at s pre (f + 1) pos h _ rfl rfl hd he
      | cons z p =>
        rw [List.cons_append, List.cons_prefix_cons] at hpx
        obtain ⟨rfl, hpx⟩ := hpx
        have ih := good_from s hs2 f (pos + (Utf8.decode s pos).2) (pre ++ [⟨pos, (Utf8.decode s pos).1, by omega, decode_lt s pos⟩]) (by omega) hwl (.inr ⟨by simp, by rw [lastp_snoc]; exact ⟨by show pos < _; omega, by show _ ≤ pos + 4; omega⟩⟩) (fun a ha => by
          have h1 := he a (by omega)
          rw [ends, if_pos h, if_pos (by omega)] at h1
          rw [h1, List.length_append, List.length_singleton]
          omega) p x hpx
        rw [List.append_assoc] at ih
        exact ih
    · rw [runesFrom, dif_neg h] at hpx
      simp at hpx
theorem runes_good (s : ByteArray) (hs2 : s.size ≤ 4611686018427387904) (pre : List Rn) (h : pre <+: runes s hs2) : Good s pre := fun p x hp =>
  good_from s hs2 s.size 0 [] (by omega) (by omega) (.inl ⟨rfl, rfl⟩) (fun a _ => by simp) p x (hp.trans h)
theorem lastp_cons (x : Rn) (l : List Rn) (h : l ≠ []) : lastp (x :: l) = lastp l := by
  unfold lastp
  rw [List.getLast?_cons_of_ne_nil h]
theorem last_from (s : ByteArray) (hs2 : s.size ≤ 4611686018427387904) : ∀ f pos, pos < s.size → s.size ≤ pos + f → runesFrom s hs2 f pos ≠ [] ∧ lastp (runesFrom s hs2 f pos) < s.size ∧ s.size ≤ lastp (runesFrom s hs2 f pos) + 4
  | 0, pos, h, hf => by omega
  | f + 1, pos, h, hf => by
    rw [runesFrom, dif_pos h]
    have hw := width_pos s pos h
    have hw4 := width_four s pos
    have hwl := width_le s pos h
    refine ⟨by simp, ?_⟩
    by_cases h2 : pos + (Utf8.decode s pos).2 < s.size
    · obtain ⟨i1, i2, i3⟩ := last_from s hs2 f _ h2 (by omega)
      rw [lastp_cons _ _ i1]
      exact ⟨i2, i3⟩
    · rw [runesFrom_end s hs2 f _ h2]
      show pos < s.size ∧ s.size ≤ pos + 4
      omega
theorem runes_last (s : ByteArray) (hs2 : s.size ≤ 4611686018427387904) (h : 0 < s.size) : 0 < (runes s hs2).length ∧ lastp (runes s hs2) < s.size ∧ s.size ≤ lastp (runes s hs2) + 4 := by
  obtain ⟨a, b⟩ := last_from s hs2 s.size 0 h (by omega)
  exact ⟨List.length_pos_iff.2 a, b⟩
theorem runes_none (s : ByteArray) (hs2 : s.size ≤ 4611686018427387904) (h : s.size = 0) : runes s hs2 = [] := runesFrom_end s hs2 _ _ (by omega)
end Go.Proofs.Ytkjckdgknbfaiaa.Tiles
