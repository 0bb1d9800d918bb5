/- The law ReportUnlike answers true. Conditions: lists of at most 2^20 nodes, names of at most 2^20 bytes; what forest.Parse and strconv.Itoa ask. -/
import Derived.Test.YtloflodbcdlmpaaDoorRepV2
import Derived.Test.YtloflodbcdlmpaaDoorBallx5
namespace Go.Proofs.YtloflodbcdlmpaaDoor.LawUn
open Go.RowKit Go.Proofs.YtloflodbcdlmpaaDoor.Qall Go.Proofs.YtloflodbcdlmpaaDoor.Rp Go.Proofs.YtloflodbcdlmpaaDoorW.PrintWords Go.Proofs.YtloflodbcdlmpaaDoorW.PrintLast Go.Proofs.YtloflodbcdlmpaaDoorW.PrintMore
set_option linter.unusedSimpArgs false
set_option linter.unusedVariables false
theorem lent_ev (k e : Int) (l : ByteArray) (f : List SO) (hf : few f = true) : dowellaw28_lent.f k e l f = some (k, e, l, f) := by
  unfold dowellaw28_lent.f dowelbook_LendSpans.f
  rw [if_pos hf, Option.bind_some]
theorem out_bad (k e : Int) (l : ByteArray) (f : List SO) (h : (outAns k e l f).2 ≠ 0) : (outAns k e l f).1.toList = ([] : List UInt8) := by
  have h0 : (⟨#[]⟩ : ByteArray).toList = ([] : List UInt8) := (tl_nil _).2 rfl
  unfold outAns at h ⊢
  by_cases h1 : rgt k e l f = true
  · rw [if_pos h1] at h ⊢
    by_cases h2 : (Tx.txtAns f).2 = 0
    · rw [if_pos h2] at h ⊢
      by_cases h3 : (headB k e l ++ (Tx.txtAns f).1).size ≤ 4194304
      · rw [if_pos h3] at h; exact absurd rfl h
      · rw [if_neg h3]; exact h0
    · rw [if_neg h2]; exact h0
  · rw [if_neg h1]; exact h0
theorem pure_unlike (k1 e1 : Int) (l1 : ByteArray) (f1 : List SO) (k2 e2 : Int) (l2 : ByteArray) (f2 : List SO) (h1 : few f1 = true) (h2 : few f2 = true) (hl1 : l1.size ≤ 4194304) (hl2 : l2.size ≤ 4194304)
    (hb1 : ∀ c ∈ f1, c.f3 ≤ 9223372036854775807) (hb2 : ∀ c ∈ f2, c.f3 ≤ 9223372036854775807) (hn1 : f1.length ≤ 1048585) (hn2 : f2.length ≤ 1048585) (K : Nat) (hK : 2097155 < K) : dowellaw28_ReportUnlike.f K k1 e1 l1 f1 k2 e2 l2 f2 = some true := by
  unfold dowellaw28_ReportUnlike.f
  rw [works_ev K (by omega), Option.bind_some, if_pos rfl, if_neg (by omega)]
  obtain ⟨K, rfl⟩ : ∃ m, K = m + 1 := ⟨K - 1, by omega⟩
  rw [dowellaw28_ReportUnlike.j0, if_neg (by rw [decide_eq_true_eq]; omega), lent_ev k1 e1 l1 f1 h1, Option.bind_some]
  dsimp only
  rw [text_ev k1 e1 l1 f1 hl1 h1, Option.bind_some, lent_ev k2 e2 l2 f2 h2, Option.bind_some]
  dsimp only
  rw [text_ev k2 e2 l2 f2 hl2 h2, Option.bind_some]
  by_cases c1 : (outAns k1 e1 l1 f1).2 = 0
  · rw [if_pos c1]
    by_cases c2 : (outAns k2 e2 l2 f2).2 = 0
    · rw [if_pos c2, outcomes_ev k1 e1 l1 f1 k2 e2 l2 f2 (by omega) K (by omega), Option.bind_some]
      congr 1
      rw [beq_iff_eq, Bool.eq_iff_iff, tl_eq, decide_eq_true_eq]
      constructor
      · intro h
        have p1 := back k1 e1 l1 f1 hb1 (outAns k1 e1 l1 f1).1 (Prod.ext rfl c1)
        have p2 := back k2 e2 l2 f2 hb2 (outAns k2 e2 l2 f2).1 (Prod.ext rfl c2)
        rw [h, p2] at p1
        injection p1 with p1 _
        injection p1 with a b c d
        exact ⟨a.symm, b.symm, c.symm, d.symm⟩
      · rintro ⟨rfl, rfl, rfl, rfl⟩
        rfl
    · rw [if_neg c2]
      congr 1
      rw [beq_iff_eq]
      exact out_bad _ _ _ _ c2
  · rw [if_neg c1, if_pos (out_bad _ _ _ _ c1)]
    by_cases c2 : (outAns k2 e2 l2 f2).2 = 0
    · rw [if_pos c2]
    · rw [if_neg c2]
      congr 1
      rw [beq_iff_eq]
      exact out_bad _ _ _ _ c2
theorem Unlike_walk (k1 e1 : Int) (l1 : ByteArray) (f1 : List SO) (k2 e2 : Int) (l2 : ByteArray) (f2 : List SO) (hn1 : f1.length ≤ 1048576) (hn2 : f2.length ≤ 1048576) (hl1 : l1.size ≤ 4194304) (hl2 : l2.size ≤ 4194304)
    (hm1 : ∀ x ∈ f1, x.f0.size ≤ 1048576) (hm2 : ∀ x ∈ f2, x.f0.size ≤ 1048576)
    (q1 : ∀ x ∈ f1, -9223372036854775808 ≤ x.f1 ∧ x.f1 ≤ 9223372036854775807) (q2 : ∀ x ∈ f1, -9223372036854775808 ≤ x.f2 ∧ x.f2 ≤ 9223372036854775807) (q3 : ∀ x ∈ f1, x.f3 ≤ 9223372036854775807)
    (r1 : ∀ x ∈ f2, -9223372036854775808 ≤ x.f1 ∧ x.f1 ≤ 9223372036854775807) (r2 : ∀ x ∈ f2, -9223372036854775808 ≤ x.f2 ∧ x.f2 ≤ 9223372036854775807) (r3 : ∀ x ∈ f2, x.f3 ≤ 9223372036854775807)
    (A1 : Option Addr) (c1 : Nat) (A2 : Option Addr) (c2 : Nat) (w : World) (hC1 : Kd.C k60 w A1 f1.length f1) (hc1 : f1.length ≤ c1) (hC2 : Kd.C k60 w A2 f2.length f2) (hc2 : f2.length ≤ c2) (hm : Ln.Mx w) (htab : Tab w) :
    Calls Tryd.prog 8 #[.agg #[.int .i64 k1, .int .i64 e1, .string l1, .slice A1 f1.length c1], .agg #[.int .i64 k2, .int .i64 e2, .string l2, .slice A2 f2.length c2]] w fun e w' => e = .returned (.bool true) ∧ Below w.heap.size w w' := by
  have h := pure_unlike k1 e1 l1 f1 k2 e2 l2 f2 (few_mk f1 (by omega) (fun x hx => by have := hm1 x hx; omega) q1 q2) (few_mk f2 (by omega) (fun x hx => by have := hm2 x hx; omega) r1 r2) hl1 hl2 q3 r3 (by omega) (by omega) 2097156 (by omega)
  exact dowellaw28_ReportUnlike.calls 2097156 k1 e1 l1 A1 c1 f1 k2 e2 l2 A2 c2 f2 true w hC1 hc1 hC2 hc2 h rfl ⟨htab, hm⟩
end Go.Proofs.YtloflodbcdlmpaaDoor.LawUn
