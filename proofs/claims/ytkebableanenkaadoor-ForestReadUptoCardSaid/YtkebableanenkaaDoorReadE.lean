/- Of what is read: how long its names are, how big its numbers: the plain law. -/
import Derived.Test.YtkebableanenkaaDoorReadD
namespace Go.Proofs.YtkebableanenkaaDoor.Rde
open Go.RowKit Go.Proofs.YtkebableanenkaaDoor.Qall Go.Proofs.YtkebableanenkaaDoor.Fo Go.Proofs.YtkebableanenkaaDoor.Chk Go.Proofs.YtkebableanenkaaDoor.Ln Go.Proofs.YtkebableanenkaaDoor.Ps Go.Proofs.YtkebableanenkaaDoor.Tx Go.Proofs.YtkebableanenkaaDoor.Bk Go.Proofs.YtkebableanenkaaDoorW.PrintWords Go.Proofs.YtkebableanenkaaDoorW.PrintLast Go.Proofs.YtkebableanenkaaDoorW.PrintMore
set_option linter.unusedSimpArgs false
set_option linter.unusedVariables false
theorem txt_name (F : List Bk.SC) : ∀ (ls : List Nat) (i k : Nat), i ≤ k → k < i + ls.length → (Bk.nd F k).f0.size ≤ (txt F ls i).length
  | [], i, k, h1, h2 => by rw [List.length_nil] at h2; omega
  | z :: ls, i, k, h1, h2 => by
    show _ ≤ (bodyOf (Bk.nd F i) z ++ 10 :: txt F ls (i + 1)).length
    rw [List.length_append, List.length_cons]
    by_cases hik : i = k
    · subst hik
      have : (Bk.nd F i).f0.size ≤ (bodyOf (Bk.nd F i) z).length := by
        unfold bodyOf
        rw [List.length_append, List.length_append, data_length]
        omega
      omega
    · have := txt_name F ls (i + 1) k (by omega) (by rw [List.length_cons] at h2; omega)
      omega
theorem read_bounds (t : ByteArray) (F : List Bk.SC) (h : parseAns t = (F, 0, 0)) : t.size ≤ 4194304 ∧ F.length ≤ 1048576 ∧ (∀ x ∈ F, x.f0.size ≤ 4194304) ∧ (∀ x ∈ F, 0 ≤ x.f1 ∧ x.f1 ≤ 65536) ∧ (∀ x ∈ F, 0 ≤ x.f2 ∧ x.f2 ≤ 65536) := by
  obtain ⟨hc, _⟩ := Rdc.read_right t F h
  have hg := h
  unfold parseAns at hg
  split at hg
  · injection hg with _ hg
    injection hg with _ hg
    exact absurd hg (by decide)
  · rename_i hsz
    obtain ⟨ls, e1, e2, _, _, _, e6⟩ := Rdb.read_go t F _ 0 [] [] [] hg (by omega) (by omega) Rdc.pre_nil
    rw [List.drop_zero, List.length_nil] at e6
    rw [List.length_nil] at e1
    have hts : t.data.toList.length = t.size := data_length t
    have hr := right_nodes F hc
    have hn := fun i hi => (Nsa.nests F hc i hi).1
    refine ⟨by omega, (Fi.chk_mach F hc).1, fun x hx => ?_, fun x hx => ?_, fun x hx => ?_⟩
    · obtain ⟨i, hi, rfl⟩ := List.mem_iff_getElem.1 hx
      have := txt_name F ls 0 i (Nat.zero_le _) (by omega)
      rw [← e6, rd_at F i hi] at this
      omega
    · obtain ⟨i, hi, rfl⟩ := List.mem_iff_getElem.1 hx
      have h1 := hr i hi
      have h2 : (Bk.nd F i).f1 ≤ (Bk.nd F i).f2 := hn i hi
      rw [rd_at F i hi] at h1 h2
      omega
    · obtain ⟨i, hi, rfl⟩ := List.mem_iff_getElem.1 hx
      have h1 := hr i hi
      have h2 : (Bk.nd F i).f1 ≤ (Bk.nd F i).f2 := hn i hi
      rw [rd_at F i hi] at h1 h2
      omega
end Go.Proofs.YtkebableanenkaaDoor.Rde
