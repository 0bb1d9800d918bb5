/- Of a text that is not read, and of a text's beginning: the plain law. -/
import Derived.Test.YtkebableanenkaaDoorReadC
namespace Go.Proofs.YtkebableanenkaaDoor.Rdd
open Go.RowKit Go.Proofs.YtkebableanenkaaDoor.Qall Go.Proofs.YtkebableanenkaaDoor.Fo Go.Proofs.YtkebableanenkaaDoor.Ln Go.Proofs.YtkebableanenkaaDoor.Ps Go.Proofs.YtkebableanenkaaDoor.Tx Go.Proofs.YtkebableanenkaaDoor.Bk Go.Proofs.YtkebableanenkaaDoorW.PrintWords Go.Proofs.YtkebableanenkaaDoorW.PrintLast Go.Proofs.YtkebableanenkaaDoorW.PrintMore
set_option linter.unusedSimpArgs false
set_option linter.unusedVariables false
theorem tw_take (p : UInt8 → Bool) : ∀ (l : List UInt8) (m : Nat), ((l.take m).takeWhile p).length = min m (l.takeWhile p).length
  | [], m => by simp
  | b :: l, 0 => by simp
  | b :: l, m + 1 => by
    rw [List.take_succ_cons]
    by_cases hb : p b = true
    · rw [List.takeWhile_cons_of_pos hb, List.takeWhile_cons_of_pos hb, List.length_cons, List.length_cons, tw_take p l m]
      omega
    · rw [List.takeWhile_cons_of_neg hb, List.takeWhile_cons_of_neg hb]
      simp
theorem tw_get (p : UInt8 → Bool) : ∀ (l : List UInt8) (j : Nat), j < (l.takeWhile p).length → ∀ b, l[j]? = some b → p b = true
  | [], j, h, b, hb => by simp at hb
  | a :: l, j, h, b, hb => by
    by_cases ha : p a = true
    · cases j with
      | zero => obtain rfl : a = b := by simpa using hb
                exact ha
      | succ j =>
        rw [List.takeWhile_cons_of_pos ha, List.length_cons] at h
        exact tw_get p l j (by omega) b (by simpa using hb)
    · rw [List.takeWhile_cons_of_neg ha] at h
      simp at h
theorem tw_at : ∀ l : List UInt8, (l.takeWhile (· != 10)).length < l.length → l[(l.takeWhile (· != 10)).length]? = some 10
  | [], h => by simp at h
  | b :: l, h => by
    by_cases hb : b = 10
    · subst hb
      rw [List.takeWhile_cons_of_neg (by decide)]
      rfl
    · rw [List.takeWhile_cons_of_pos (by simpa using hb)] at h ⊢
      rw [List.length_cons, List.getElem?_cons_succ]
      exact tw_at l (by simpa using h)
/-- It lies behind an LF, or at the text's begin. -/
def Beg (t : ByteArray) (m : Nat) : Prop := m = 0 ∨ t.data.toList[m - 1]? = some 10
theorem beg_next (t : ByteArray) (at_ : Nat) (h : lfAt t at_ < t.size) (hle : at_ ≤ t.size) : Beg t (lfAt t at_ + 1) := by
  right
  have hs := drop_len t at_
  have h2 := tw_at (t.data.toList.drop at_) (by unfold lfAt at h; omega)
  rw [List.getElem?_drop] at h2
  exact h2
theorem go_fault (t : ByteArray) (F : List Bk.SC) (a c : Int) : ∀ (k at_ : Nat) (G : List Bk.SC) (way : List Int), parseGo t k at_ G way = (F, a, c) → t.size < k + at_ → at_ ≤ t.size → Beg t at_ →
    (a = 0 ∧ c = 0) ∨ (F = [] ∧ c = 120 ∧ ∃ m : Nat, a = (m : Int) ∧ m ≤ t.size ∧ Beg t m)
  | 0, at_, G, way, h, hk, hle, hb => by omega
  | k + 1, at_, G, way, h, hk, hle, hb => by
    by_cases hlt : at_ < t.size
    · cases hs : stepAns t at_ G way with
      | none =>
        rw [parseGo_none hlt hs] at h
        injection h with h1 h
        injection h with h2 h3
        exact .inr ⟨h1.symm, h3.symm, at_, h2.symm, hle, hb⟩
      | some r =>
        rw [parseGo_some hlt hs] at h
        unfold stepAns at hs
        split at hs
        · rename_i hok
          have hll := lf_le t at_ hle
          have hlf := hok.1
          exact go_fault t F a c k (lfAt t at_ + 1) r.1 r.2 h (by omega) (by omega) (beg_next t at_ hlf hle)
        · cases hs
    · rw [parseGo_end hlt] at h
      injection h with h1 h
      injection h with h2 h3
      exact .inl ⟨h2.symm, h3.symm⟩
/-- OF A TEXT THAT IS NOT READ. -/
theorem read_fault (t : ByteArray) (F : List Bk.SC) (a c : Int) (h : parseAns t = (F, a, c)) :
    (a = 0 ∧ c = 0) ∨ (F = [] ∧ c ≠ 0 ∧ (c = 1 ↔ 4194304 < t.size) ∧ ∃ m : Nat, a = (m : Int) ∧ m ≤ t.size ∧ Beg t m ∧ m ≤ 4194304) := by
  unfold parseAns at h
  split at h
  · injection h with h1 h
    injection h with h2 h3
    subst h1 h2 h3
    exact .inr ⟨rfl, by decide, ⟨fun _ => by assumption, fun _ => rfl⟩, 0, rfl, Nat.zero_le _, .inl rfl, Nat.zero_le _⟩
  · rename_i hsz
    rcases go_fault t F a c _ 0 [] [] h (by omega) (by omega) (.inl rfl) with h1 | ⟨h1, h2, h3⟩
    · exact .inl h1
    · subst h2
      obtain ⟨m, g1, g2, g3⟩ := h3
      exact .inr ⟨h1, by decide, ⟨fun e => absurd e (by decide), fun e => absurd e hsz⟩, m, g1, g2, g3, by omega⟩
theorem ext_list2 (t : ByteArray) (k : Nat) : (t.extract 0 k).data.toList = t.data.toList.take k := by rw [ext_list, List.drop_zero, Nat.sub_zero]
theorem size_of (t : ByteArray) (k : Nat) (h : k ≤ t.size) : (t.extract 0 k).size = k := by
  have := congrArg List.length (ext_list2 t k)
  rw [data_length, List.length_take, data_length] at this
  omega
theorem lf_cut (t : ByteArray) (k at_ : Nat) : lfAt (t.extract 0 k) at_ = at_ + min (k - at_) (lfAt t at_ - at_) := by
  unfold lfAt
  rw [ext_list2, List.drop_take, tw_take]
  omega
theorem ext_cut (t : ByteArray) (k at_ l : Nat) (h : l ≤ k) : (t.extract 0 k).extract at_ l = t.extract at_ l := by
  apply ByteArray.ext
  apply Array.toList_inj.1
  rw [ext_list (t.extract 0 k), ext_list2, ext_list t, List.drop_take, List.take_take]
  congr 1
  omega
theorem go_cut (t : ByteArray) (F : List Bk.SC) (k : Nat) (hk : k ≤ t.size) : ∀ (j j2 at_ : Nat) (G : List Bk.SC) (way : List Int) (W : List Nat), parseGo t j at_ G way = (F, 0, 0) → t.size < j + at_ → k < j2 + at_ → at_ ≤ k → Rdb.Pre G way W → Beg t at_ →
    (Beg t k → ∃ H : List Bk.SC, parseGo (t.extract 0 k) j2 at_ G way = (H, 0, 0) ∧ H.length ≤ F.length) ∧ (¬ Beg t k → ∃ a : Int, parseGo (t.extract 0 k) j2 at_ G way = ([], a, 120))
  | 0, j2, at_, G, way, W, h, h1, h2, h3, hp, hb => by omega
  | j + 1, 0, at_, G, way, W, h, h1, h2, h3, hp, hb => by omega
  | j + 1, j2 + 1, at_, G, way, W, h, h1, h2, h3, hp, hb => by
    have hus := size_of t k hk
    by_cases hak : at_ = k
    · subst hak
      obtain ⟨ls, e1, _⟩ := Rdb.read_go t F (j + 1) at_ G way W h h1 hk hp
      exact ⟨fun _ => ⟨G, parseGo_end (by omega), by omega⟩, fun hn => absurd hb hn⟩
    · have hlt : at_ < t.size := by omega
      cases hs : stepAns t at_ G way with
      | none =>
        rw [parseGo_none hlt hs] at h
        injection h with _ h
        injection h with _ h
        exact absurd h (by decide)
      | some r =>
        obtain ⟨F1, way1⟩ := r
        rw [parseGo_some hlt hs] at h
        have hs0 := hs
        unfold stepAns at hs
        split at hs
        · rename_i hok
          have hll := lf_le t at_ (by omega)
          have hlf := hok.1
          have hlu := lf_cut t k at_
          by_cases hl : lfAt t at_ < k
          · have hle : lfAt (t.extract 0 k) at_ = lfAt t at_ := by omega
            have hsu : stepAns (t.extract 0 k) at_ G way = some (F1, way1) := by
              rw [← hs0]
              unfold stepAns lineAt
              rw [hle, ext_cut t k at_ _ (by omega), hus]
              simp only [hl, hlf, true_and]
            obtain ⟨_, q2, _⟩ := hp.put rfl hs
            have ih := go_cut t F k hk j j2 (lfAt t at_ + 1) F1 way1 _ h (by omega) (by omega) (by omega) q2 (beg_next t at_ hlf (by omega))
            rw [parseGo_some (by omega) hsu, hle]
            exact ih
          · have hle : lfAt (t.extract 0 k) at_ = k := by omega
            have hsu : stepAns (t.extract 0 k) at_ G way = none := by
              unfold stepAns
              rw [if_neg (by rw [hle, hus]; exact fun e => Nat.lt_irrefl _ e.1)]
            refine ⟨fun hB => ?_, fun _ => ⟨at_, parseGo_none (by omega) hsu⟩⟩
            exfalso
            rcases hB with h0 | h0
            · omega
            · have := tw_get (· != 10) (t.data.toList.drop at_) (k - 1 - at_) (by unfold lfAt at hl; omega) 10 (by rw [List.getElem?_drop, show at_ + (k - 1 - at_) = k - 1 by omega]; exact h0)
              exact absurd this (by decide)
        · cases hs
/-- OF A TEXT'S BEGINNING. -/
theorem read_cut (t : ByteArray) (F : List Bk.SC) (k : Nat) (hk : k ≤ t.size) (h : parseAns t = (F, 0, 0)) :
    (Beg t k → ∃ H : List Bk.SC, parseAns (t.extract 0 k) = (H, 0, 0) ∧ H.length ≤ F.length) ∧ (¬ Beg t k → ∃ a : Int, parseAns (t.extract 0 k) = ([], a, 120)) := by
  have hus := size_of t k hk
  unfold parseAns at h ⊢
  split at h
  · injection h with _ h
    injection h with _ h
    exact absurd h (by decide)
  · rw [if_neg (by omega), hus]
    exact go_cut t F k hk (t.size + 1) (k + 1) 0 [] [] [] h (by omega) (by omega) (Nat.zero_le _) Rdc.pre_nil (.inl rfl)
end Go.Proofs.YtkebableanenkaaDoor.Rdd
