/- The pure statement of PlaceJoins: the printed law answers true. Conditions: a text of at most 2^20 bytes. -/
import Derived.Test.YtkjckdgknbfaiaaPureF
namespace Go.Proofs.Ytkjckdgknbfaiaa.Qall
open Go.RowKit Go.Proofs.YtkjckdgknbfaiaaW.PrintWords Go.Proofs.YtkjckdgknbfaiaaW.PrintLast Go.Proofs.YtkjckdgknbfaiaaW.PrintMore
set_option linter.unusedSimpArgs false

theorem by_extract (s : ByteArray) (b e i : Nat) (h : i < e - b) : by_ (s.extract b e).data.toList i = by_ s.data.toList (b + i) := by
  rw [data_extract]
  unfold by_
  rw [List.getD_eq_getElem?_getD, List.getD_eq_getElem?_getD, List.getElem?_take_of_lt h, List.getElem?_drop]
theorem joins_l1 (s : ByteArray) (x3 x4 x5 : Int) (r : ByteArray) (hr : r.size ≤ 1073741824) (hf : ∀ j, j < r.size → by_ r.data.toList j ≠ 10) : ∀ (d k i : Nat), i + d = r.size →
    dowellaw02_PlaceJoins.l1 (k + d + 1) s x3 x4 x5 r (i : Int) = if x5 > 300 then some true else dowellaw02_PlaceJoins.l0 k s x3 x4 (wrap64 (x5 + 1)) := by
  intro d
  induction d with
  | zero =>
    intro k i h
    rw [Nat.add_zero, dowellaw02_PlaceJoins.l1, if_neg (by omega)]
  | succ d ih =>
    intro k i h
    rw [show k + (d + 1) + 1 = (k + d + 1) + 1 from by omega, dowellaw02_PlaceJoins.l1, if_pos (by omega), if_pos (by omega), bt_by, Int.toNat_natCast, if_neg (by have := hf i (by omega); omega), wrap_of (by omega) (by omega), show (i : Int) + 1 = ((i + 1 : Nat) : Int) from by omega, ih k (i + 1) (by omega)]
theorem joins_l0 (s : ByteArray) (hn : s.size ≤ 1073741824) : ∀ (m k x5 x3 : Nat), x5 + m = (lines s.data.toList).length + 1 → 1 ≤ x5 → (m + 1) * (s.size + 10) ≤ k →
    ((x5 ≤ (lines s.data.toList).length ∧ start s.data.toList (x5 - 1) = some x3) ∨ (x5 = (lines s.data.toList).length + 1 ∧ x3 = s.size)) →
    dowellaw02_PlaceJoins.l0 k s (x3 : Int) ((lines s.data.toList).length : Int) (x5 : Int) = some true := by
  intro m
  have hb := lines_bound s
  induction m with
  | zero =>
    intro k x5 x3 h1 h2 hk hinv
    rw [Nat.zero_add, Nat.one_mul] at hk
    obtain ⟨k, rfl⟩ : ∃ j, k = j + 1 := ⟨k - 1, by omega⟩
    have e3 : x3 = s.size := by
      rcases hinv with ⟨g, _⟩ | ⟨_, g⟩
      · omega
      · exact g
    have r1 : rowAns s (((lines s.data.toList).length : Int) + 1) = (⟨#[]⟩, 20) := by
      unfold rowAns lineAt
      rw [if_neg (by omega), line_none _ _ (by omega)]
    have r0 : rowAns s 0 = (⟨#[]⟩, 20) := by
      unfold rowAns lineAt
      rw [if_pos (by omega)]
    rw [dowellaw02_PlaceJoins.l0, if_neg (by omega), wrap_of (by omega) (by omega), rowf_eq s hn _ (by omega) k (by omega), Option.bind_some, rowf_eq s hn 0 (by omega) k (by omega), Option.bind_some, r1, r0, if_pos (by omega), if_pos rfl]
    rfl
  | succ m ih =>
    intro k x5 x3 h1 h2 hk hinv
    have hk2 : (m + 1) * (s.size + 10) + (s.size + 10) ≤ k := by rw [← Nat.succ_mul]; exact hk
    clear hk
    generalize (m + 1) * (s.size + 10) = P at ih hk2
    rcases hinv with ⟨hle, hst⟩ | ⟨g, _⟩
    · have hx3 := start_le _ _ _ hst
      have hg := nextLF_ge s.data.toList x3
      have hle2 := nextLF_le s.data.toList x3 hx3
      rw [← size_list] at hx3 hle2
      have hrow : rowAns s (x5 : Int) = (s.extract x3 (nextLF s.data.toList x3), 0) := by
        unfold rowAns lineAt
        rw [if_neg (by omega), show ((x5 : Int) - 1).toNat = x5 - 1 from by omega, hst]
      have hsz : (s.extract x3 (nextLF s.data.toList x3)).size = nextLF s.data.toList x3 - x3 := by rw [ByteArray.size_extract]; omega
      obtain ⟨k, rfl⟩ : ∃ j, k = j + (nextLF s.data.toList x3 - x3) + 1 + 3 := ⟨k - (nextLF s.data.toList x3 - x3) - 4, by omega⟩
      rw [dowellaw02_PlaceJoins.l0, if_pos (by omega), rowf_eq s hn _ (by omega) _ (by omega), Option.bind_some, hrow, if_pos rfl]
      dsimp +instances only
      have w1 : wrap64 ((s.size : Int) - (x3 : Int)) = (s.size : Int) - x3 := wrap_of (by omega) (by omega)
      have w2 : wrap64 ((x3 : Int) + ((s.extract x3 (nextLF s.data.toList x3)).size : Int)) = (nextLF s.data.toList x3 : Int) := by rw [hsz, wrap_of (by omega) (by omega)]; omega
      rw [w1, w2]
      clear w1 w2
      rw [if_neg (by omega), if_pos (by omega), if_pos (by omega), if_pos (by omega), Int.toNat_natCast, Int.toNat_natCast, dowellaw02_PlaceJoins.j2, if_neg (by simp)]
      have w2 : wrap64 ((x3 : Int) + ((s.extract x3 (nextLF s.data.toList x3)).size : Int)) = (nextLF s.data.toList x3 : Int) := by rw [hsz, wrap_of (by omega) (by omega)]; omega
      rw [w2]
      clear w2
      have hfree : ∀ j, j < (s.extract x3 (nextLF s.data.toList x3)).size → by_ (s.extract x3 (nextLF s.data.toList x3)).data.toList j ≠ 10 := by
        intro j hj
        rw [hsz] at hj
        rw [by_extract s _ _ _ hj]
        exact nextLF_free _ x3 _ (by omega) (by omega)
      have hl1 := fun (x : Int) => joins_l1 s x ((lines s.data.toList).length : Int) (x5 : Int) (s.extract x3 (nextLF s.data.toList x3)) (by omega) hfree (nextLF s.data.toList x3 - x3) k 0 (by omega)
      by_cases c : x5 < (lines s.data.toList).length
      · obtain ⟨b, hb2⟩ := line_some s.data.toList ((x5 : Int) + 1) (by omega) (by omega)
        rw [show ((x5 : Int) + 1 - 1).toNat = (x5 - 1) + 1 from by omega] at hb2
        have hb3 := hb2
        rw [start, hst, Option.bind_some] at hb2
        have hlt : nextLF s.data.toList x3 < s.data.toList.length := by
          by_cases g : nextLF s.data.toList x3 < s.data.toList.length
          · exact g
          · rw [if_neg g] at hb2; cases hb2
        rw [if_pos hlt] at hb2
        obtain rfl := Option.some.inj hb2
        have hhit := nextLF_hit s.data.toList x3 hlt
        rw [← size_list] at hlt
        rw [if_pos (by omega), if_neg (by omega), if_pos (by omega), if_pos (by omega), bt_by, Int.toNat_natCast, if_pos (by omega), wrap_of (by omega) (by omega), dowellaw02_PlaceJoins.j3, show (0 : Int) = ((0 : Nat) : Int) from rfl, hl1]
        by_cases g : (x5 : Int) > 300
        · rw [if_pos g]
        · rw [if_neg g, wrap_of (by omega) (by omega), show (x5 : Int) + 1 = ((x5 + 1 : Nat) : Int) from by omega, show (nextLF s.data.toList x3 : Int) + 1 = ((nextLF s.data.toList x3 + 1 : Nat) : Int) from by omega]
          exact ih k (x5 + 1) _ (by omega) (by omega) (by omega) (.inl ⟨by omega, by rw [show x5 + 1 - 1 = x5 - 1 + 1 from by omega]; exact hb3⟩)
      · have hlast : nextLF s.data.toList x3 = s.size := by
          by_cases g : nextLF s.data.toList x3 < s.data.toList.length
          · have h2 : start s.data.toList (lines s.data.toList).length = some (nextLF s.data.toList x3 + 1) := by
              rw [show (lines s.data.toList).length = (x5 - 1) + 1 from by omega]
              rw [start, hst, Option.bind_some, if_pos g]
            have h3 := lines_get s.data.toList (lines s.data.toList).length
            rw [h2, List.getElem?_eq_none (Nat.le_refl _)] at h3
            cases h3
          · rw [← size_list] at g; omega
        rw [if_neg (by omega), dowellaw02_PlaceJoins.j3, show (0 : Int) = ((0 : Nat) : Int) from rfl, hl1]
        by_cases g : (x5 : Int) > 300
        · rw [if_pos g]
        · rw [if_neg g, wrap_of (by omega) (by omega), show (x5 : Int) + 1 = ((x5 + 1 : Nat) : Int) from by omega]
          exact ih k (x5 + 1) _ (by omega) (by omega) (by omega) (.inr ⟨by omega, hlast⟩)
    · omega
theorem PlaceJoins_any (s : ByteArray) (hn : s.size ≤ 1073741824) : ∃ k, dowellaw02_PlaceJoins.f k s = some true := by
  obtain ⟨K, hw⟩ := works_at
  have hb := lines_bound s
  have hlen := lines_length s.data.toList
  refine ⟨K + (((lines s.data.toList).length + 1) * (s.size + 10)) + 1, ?_⟩
  unfold dowellaw02_PlaceJoins.f
  rw [hw _ (by omega), Option.bind_some, if_pos rfl, linesf_eq s hn, Option.bind_some, if_neg (by omega), decide_eq_false (by rw [wrap_of (by omega) (by omega)]; omega), dowellaw02_PlaceJoins.j0, if_neg (by simp)]
  exact joins_l0 s hn (lines s.data.toList).length _ 1 0 (by omega) (by omega) (by omega) (.inl ⟨by omega, rfl⟩)
theorem PlaceJoins_pure : PlaceJoins.Upto := fun s hm => PlaceJoins_any s (by omega)
end Go.Proofs.Ytkjckdgknbfaiaa.Qall
