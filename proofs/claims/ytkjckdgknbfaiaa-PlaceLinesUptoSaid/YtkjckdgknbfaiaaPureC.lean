/- The pure statements of PlaceAts and PlaceLines: the printed laws answer true. Conditions: a text of at most 2^30 bytes; line and column are Go ints. -/
import Derived.Test.YtkjckdgknbfaiaaPureB
import Derived.Test.YtkjckdgknbfaiaaSayPlaceAts
import Derived.Test.YtkjckdgknbfaiaaSayPlaceLines
namespace Go.Proofs.Ytkjckdgknbfaiaa.Qall
open Go.RowKit Go.Proofs.YtkjckdgknbfaiaaW.PrintWords Go.Proofs.YtkjckdgknbfaiaaW.PrintLast Go.Proofs.YtkjckdgknbfaiaaW.PrintMore

theorem atAns_one (l : List UInt8) : atAns l 1 1 = (0, 0) := by
  have hg := nextLF_ge l 0
  have e : lineAt l 1 = some 0 := rfl
  unfold atAns
  rw [e]
  show (if (1 : Int) < 1 ∨ (nextLF l 0 : Int) - ((0 : Nat) : Int) + 1 < 1 then _ else _) = _
  rw [if_neg (by omega)]
  rfl
theorem PlaceAts_any (s : ByteArray) (hn : s.size ≤ 1073741824) (line col : Int) (hl : line ≤ 9223372036854775807) (hc : col ≤ 9223372036854775807) : ∃ k, dowellaw02_PlaceAts.f k s line col = some true := by
  refine ⟨s.size + 1, ?_⟩
  unfold dowellaw02_PlaceAts.f
  rw [at_eq s hn line col hl hc _ (by omega), Option.bind_some, refAt_eq s hn line col hl hc _ (by omega), Option.bind_some, if_pos rfl, if_pos rfl, at_eq s hn 1 1 (by omega) (by omega) _ (by omega), Option.bind_some, atAns_one, if_pos rfl]
  rfl
theorem PlaceLines_any (s : ByteArray) (hn : s.size ≤ 1073741824) (line : Int) (hl : line ≤ 9223372036854775807) : ∃ k, dowellaw02_PlaceLines.f k s line = some true := by
  refine ⟨s.size + 1, ?_⟩
  have hb := lines_bound s
  have hlen := lines_length s.data.toList
  unfold dowellaw02_PlaceLines.f
  rw [refLines_eq s hn _ (by omega), Option.bind_some, linesf_eq s hn, Option.bind_some, List.length_map, if_pos rfl, rowf_eq s hn line hl _ (by omega), Option.bind_some, refRow_eq s hn line _ (by omega), Option.bind_some, if_pos rfl, if_pos rfl, rowf_eq s hn _ (by omega) _ (by omega), Option.bind_some]
  obtain ⟨b, hs⟩ := line_some s.data.toList ((lines s.data.toList).length : Int) (by omega) (by omega)
  have h1 := start_le _ _ _ hs
  have hg := nextLF_ge s.data.toList b
  have hle := nextLF_le s.data.toList b h1
  have hlast : nextLF s.data.toList b = s.data.toList.length := by
    by_cases c : nextLF s.data.toList b < s.data.toList.length
    · have h2 : start s.data.toList (lines s.data.toList).length = some (nextLF s.data.toList b + 1) := by
        rw [show (lines s.data.toList).length = (((lines s.data.toList).length : Int) - 1).toNat + 1 from by omega]
        unfold start
        rw [hs, Option.bind_some, if_pos c]
      have h3 := lines_get s.data.toList (lines s.data.toList).length
      rw [h2, List.getElem?_eq_none (Nat.le_refl _)] at h3
      cases h3
    · omega
  have e1 : rowAns s ((lines s.data.toList).length : Int) = (s.extract b s.size, 0) := by
    unfold rowAns lineAt
    rw [if_neg (by omega), hs]
    show (s.extract b (nextLF s.data.toList b), (0 : Int)) = _
    rw [hlast, ← size_list]
  have ew : wrap64 (((lines s.data.toList).length : Int) - 1) = (((((lines s.data.toList).length : Int) - 1).toNat : Nat) : Int) := by rw [wrap_of (by omega) (by omega)]; omega
  rw [← size_list] at h1 hle
  rw [e1, if_pos rfl, ew, if_pos (by omega), if_pos (by omega), rd_line _ _ _ hs]
  show (if (0 : Int) ≤ (b : Int) then (if (b : Int) ≤ (s.size : Int) then some ((s.extract b s.size).toList == (s.extract (b : Int).toNat s.size).toList) else none) else none) = some true
  rw [if_pos (by omega), if_pos (by omega), Int.toNat_natCast]
  simp
theorem PlaceAts_pure : PlaceAts.Upto := fun s line col hm h1 h2 => PlaceAts_any s (by omega) line col (wf64 h1).2 (wf64 h2).2
theorem PlaceLines_pure : PlaceLines.Upto := fun s line hm h1 => PlaceLines_any s (by omega) line (wf64 h1).2
end Go.Proofs.Ytkjckdgknbfaiaa.Qall
