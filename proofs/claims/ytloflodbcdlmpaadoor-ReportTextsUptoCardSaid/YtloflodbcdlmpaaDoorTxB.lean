/- What the printed functions of report.Text and of the document's Text tell, in the plain words. -/
import Derived.Test.YtloflodbcdlmpaaDoorTxA
import Derived.Test.YtloflodbcdlmpaaDoorTallx1
import Derived.Test.YtloflodbcdlmpaaDoorTextX
import Derived.Test.YtloflodbcdlmpaaDoorQallx10
namespace Go.Proofs.YtloflodbcdlmpaaDoor.Rp
open Go.RowKit Go.Proofs.YtloflodbcdlmpaaDoor.Qall Go.Proofs.YtloflodbcdlmpaaDoor.Chk Go.Proofs.YtloflodbcdlmpaaDoor.Tx Go.Proofs.YtloflodbcdlmpaaDoorW.PrintWords Go.Proofs.YtloflodbcdlmpaaDoorW.PrintLast Go.Proofs.YtloflodbcdlmpaaDoorW.PrintMore
open Go.Proofs.YtloflodbcdlmpaaDoor.Fo hiding val
set_option linter.unusedSimpArgs false
set_option linter.unusedVariables false
abbrev SO := S60
theorem empty_of {l : ByteArray} (h : l.size = 0) : l = ⟨#[]⟩ := by
  apply ByteArray.ext
  apply Array.eq_empty_of_size_eq_zero
  exact h
theorem ba_ext {a b : ByteArray} (h : a.data.toList = b.data.toList) : a = b := by
  apply ByteArray.ext
  apply Array.toList_inj.1
  exact h
theorem chk_rng (f : List SO) (e : Int) (h : chkAns f e = 0) : 0 ≤ e ∧ e ≤ 65536 := by
  unfold chkAns at h
  split at h
  · cases h
  · omega
/-- What a right outcome's fields are. -/
theorem rgt_cases (k e : Int) (l : ByteArray) (f : List SO) (h : rgt k e l f = true) :
    (k = 0 ∧ e = 0 ∧ l = ⟨#[]⟩ ∧ f = []) ∨ (k = 1 ∧ l = ⟨#[]⟩ ∧ chkAns f e = 0) ∨ (k = 2 ∧ Own.nameOk l = true ∧ f = [] ∧ 0 ≤ e ∧ e ≤ 65536) := by
  unfold rgt at h
  split at h
  · obtain ⟨h1, h2, h3⟩ := of_decide_eq_true h
    exact .inl ⟨by assumption, h1, empty_of h2, List.length_eq_zero_iff.1 h3⟩
  · split at h
    · obtain ⟨h1, h2⟩ := of_decide_eq_true h
      exact .inr (.inl ⟨by assumption, empty_of h1, h2⟩)
    · split at h
      · obtain ⟨h1, h2, h3, h4⟩ := of_decide_eq_true h
        exact .inr (.inr ⟨by assumption, h1, List.length_eq_zero_iff.1 h2, h3, h4⟩)
      · cases h
theorem tl_nil (s : ByteArray) : s.toList = ([] : List UInt8) ↔ s.size = 0 := Own.size_list s
theorem right_ev (k e : Int) (l : ByteArray) (f : List SO) (hl : l.size ≤ 4194304) (hf : few f = true) : report_right.f k e l f = some (rgt k e l f) := by
  unfold report_right.f rgt
  by_cases h0 : k = 0
  · rw [if_pos h0, if_pos h0]
    by_cases h1 : e = 0
    · rw [if_pos h1]
      by_cases h2 : l.size = 0
      · rw [if_pos ((tl_nil l).2 h2)]
        congr 1
        rw [Bool.eq_iff_iff, beq_iff_eq, decide_eq_true_eq]
        exact ⟨fun h => ⟨h1, h2, by omega⟩, fun h => by omega⟩
      · rw [if_neg (fun h => h2 ((tl_nil l).1 h)), decide_eq_false (fun h => h2 h.2.1)]
    · rw [if_neg h1, decide_eq_false (fun h => h1 h.1)]
  rw [if_neg h0, if_neg h0]
  by_cases h1 : k = 1
  · rw [if_pos h1, if_pos h1]
    by_cases h2 : l.size = 0
    · rw [if_pos ((tl_nil l).2 h2)]
      unfold forest_Check.f
      rw [if_pos hf, Option.bind_some]
      congr 1
      rw [Bool.eq_iff_iff, beq_iff_eq, decide_eq_true_eq]
      exact ⟨fun h => ⟨h2, h⟩, fun h => h.2⟩
    · rw [if_neg (fun h => h2 ((tl_nil l).1 h)), decide_eq_false (fun h => h2 h.1)]
  rw [if_neg h1, if_neg h1]
  by_cases h2 : k = 2
  · rw [if_pos h2, if_pos h2]
    unfold report_own.f
    rw [if_pos hl, Option.bind_some]
    by_cases h3 : Own.nameOk l = true
    · rw [if_pos h3]
      by_cases h4 : f.length = 0
      · rw [if_pos (by omega)]
        by_cases h5 : 0 ≤ e
        · rw [if_pos (by omega)]
          congr 1
          rw [Bool.eq_iff_iff, decide_eq_true_eq, decide_eq_true_eq]
          exact ⟨fun h => ⟨h3, h4, h5, h⟩, fun h => h.2.2.2⟩
        · rw [if_neg (by omega), decide_eq_false (fun h => h5 h.2.2.1)]
      · rw [if_neg (by omega), decide_eq_false (fun h => h4 h.2.1)]
    · rw [if_neg h3, decide_eq_false (fun h => h3 h.1)]
  · rw [if_neg h2, if_neg h2]
theorem itoa_f (e : Int) (h0 : 0 ≤ e) (h1 : e ≤ 65536) : strconv_Itoa.f e = some ⟨(Lib.itoa e).toArray⟩ := by
  unfold strconv_Itoa.f
  rw [if_pos (by omega)]
theorem size_mk (l : List UInt8) : (⟨l.toArray⟩ : ByteArray).size = l.length := by
  show l.toArray.size = _
  simp
theorem itoa_le (e : Int) (h0 : 0 ≤ e) (h1 : e ≤ 65536) : (Lib.itoa e).length ≤ 21 := Lib.itoa_length_le e (by omega) (by omega)
theorem head_ev (k e : Int) (l : ByteArray) (f : List SO) (hl : l.size ≤ 4194304) (hr : rgt k e l f = true) : report_head.f k e l f = some (headB k e l) := by
  unfold report_head.f headB headL
  rcases rgt_cases k e l f hr with ⟨rfl, rfl, rfl, rfl⟩ | ⟨rfl, rfl, hc⟩ | ⟨rfl, hn, rfl, h1, h2⟩
  · rfl
  · obtain ⟨g1, g2⟩ := chk_rng f e hc
    have hle := itoa_le e g1 g2
    have hs := size_mk (Lib.itoa e)
    rw [if_pos rfl, itoa_f e g1 g2, Option.bind_some, if_pos (by omega), if_pos (by rw [ByteArray.size_append]; show 8 + (⟨(Lib.itoa e).toArray⟩ : ByteArray).size + 1 ≤ _; omega)]
    congr 1
  · have hle := itoa_le e h1 h2
    have hs := size_mk (Lib.itoa e)
    rw [if_neg (by decide), if_pos rfl, if_pos (by omega), if_pos (by rw [ByteArray.size_append]; show 7 + _ + 1 ≤ _; omega), itoa_f e h1 h2, Option.bind_some,
      if_pos (by rw [ByteArray.size_append, ByteArray.size_append]; show 7 + l.size + 1 + (⟨(Lib.itoa e).toArray⟩ : ByteArray).size ≤ _; omega), if_pos (by rw [ByteArray.size_append, ByteArray.size_append, ByteArray.size_append]; show 7 + l.size + 1 + (⟨(Lib.itoa e).toArray⟩ : ByteArray).size + 1 ≤ _; omega)]
    congr 1
    apply ba_ext
    simp only [ByteArray.data_append, Array.toList_append]
    simp [thr]
theorem txt_size (f : List SO) : (txtAns f).1.size ≤ 4194304 := by
  unfold txtAns
  split
  · split
    · rename_i h; rw [size_mk]; exact h
    · exact Nat.zero_le _
  · exact Nat.zero_le _
theorem head_size (k e : Int) (l : ByteArray) (f : List SO) (hl : l.size ≤ 4194304) (hr : rgt k e l f = true) : (headB k e l).size ≤ 4194400 := by
  unfold headB headL
  rw [size_mk]
  rcases rgt_cases k e l f hr with ⟨rfl, rfl, rfl, rfl⟩ | ⟨rfl, rfl, hc⟩ | ⟨rfl, hn, rfl, h1, h2⟩
  · decide
  · obtain ⟨g1, g2⟩ := chk_rng f e hc
    have hle := itoa_le e g1 g2
    rw [if_pos rfl]
    simp [mtc]
    omega
  · have hle := itoa_le e h1 h2
    have hll : l.data.toList.length = l.size := data_length l
    rw [if_neg (by decide), if_pos rfl]
    simp only [List.length_append, List.length_cons, List.length_nil, thr]
    omega
theorem text_ev (k e : Int) (l : ByteArray) (f : List SO) (hl : l.size ≤ 4194304) (hf : few f = true) : report_Text.f k e l f = some (outAns k e l f) := by
  unfold report_Text.f
  rw [right_ev k e l f hl hf, Option.bind_some]
  unfold outAns
  by_cases hr : rgt k e l f = true
  · rw [if_pos hr, if_pos hr]
    unfold forest_Text.f
    rw [if_pos hf, Option.bind_some]
    by_cases hz : (txtAns f).2 = 0
    · have h1 := txt_size f
      have h2 := head_size k e l f hl hr
      rw [if_pos hz, if_pos hz, head_ev k e l f hl hr, Option.bind_some, if_pos (by omega)]
      by_cases h3 : (headB k e l ++ (txtAns f).1).size ≤ 4194304
      · rw [if_neg (by omega), if_pos h3]
      · rw [if_pos (by omega), if_neg h3]
    · rw [if_neg hz, if_neg hz]
  · rw [if_neg hr, if_neg hr]
end Go.Proofs.YtloflodbcdlmpaaDoor.Rp
