/- The law ReportRead answers true. Conditions: texts of at most 2^20 bytes; what forest.Parse and strconv.Itoa ask. -/
import Derived.Test.YtloflodbcdlmpaaDoorRepV2
import Derived.Test.YtloflodbcdlmpaaDoorBallx4
namespace Go.Proofs.YtloflodbcdlmpaaDoor.LawRd
open Go.RowKit Go.Proofs.YtloflodbcdlmpaaDoor.Qall Go.Proofs.YtloflodbcdlmpaaDoor.Rp Go.Proofs.YtloflodbcdlmpaaDoorW.PrintWords Go.Proofs.YtloflodbcdlmpaaDoorW.PrintLast Go.Proofs.YtloflodbcdlmpaaDoorW.PrintMore
set_option linter.unusedSimpArgs false
set_option linter.unusedVariables false
theorem tl_ne (a b : ByteArray) : (a.toList != b.toList) = !decide (a = b) := by
  rw [Bool.eq_iff_iff, bne_iff_ne, Bool.not_eq_true', decide_eq_false_iff_not]
  exact not_congr (beq_iff_eq.symm.trans (tl_eq a b))
theorem j1_ev (t b : ByteArray) (hz : t.size + b.size ≤ 4194304) (k e : Int) (l : ByteArray) (f : List SO) (h : parR t = (⟨k, e, l, f⟩, 0, 0)) (x : Bool) (hx : x = false → b.size ≠ 0) (K : Nat) (hK : 1048580 < K) : dowellaw28_ReportRead.j1 K t b x k e l f = some true := by
  obtain ⟨K, rfl⟩ : ∃ m, K = m + 1 := ⟨K - 1, by omega⟩
  rw [dowellaw28_ReportRead.j1]
  cases x with
  | true => rw [if_pos rfl]
  | false =>
    obtain ⟨m1, m2⟩ := more t b k e l f h (hx rfl) (by rw [ByteArray.size_append]; omega)
    have hpe := parse_ev (t ++ b) K (by omega)
    rw [if_neg (by decide), if_pos (by omega)]
    by_cases hk : k = 1
    · rcases par_cases (t ++ b) with ⟨k', e', l', f', h1, _⟩ | ⟨a, c, h1, h2, _⟩
      · obtain ⟨g1, g2, g3⟩ := m2 hk k' e' l' f' h1
        have hpe2 : report_Parse.f K (t ++ b) = some (k', e', l', f', 0, 0) := by rw [hpe, h1]; rfl
        rw [hpe2, Option.bind_some]
        dsimp only
        rw [if_pos hk, if_neg (by decide), if_pos g1, if_pos g2, decide_eq_true (by omega)]
      · have hpe2 : report_Parse.f K (t ++ b) = some (0, 0, ⟨#[]⟩, [], (a : Int), c) := by rw [hpe, h1]; rfl
        rw [hpe2, Option.bind_some]
        dsimp only
        have : (!((a : Int) == 0) || !(c == 0)) = true := by rw [beq_eq_false_iff_ne.2 h2]; simp
        rw [if_pos hk, if_pos this, if_pos (by omega)]
    · have hpe2 : report_Parse.f K (t ++ b) = some (0, 0, ⟨#[]⟩, [], (t.size : Int), 280) := by rw [hpe, m1 hk]; rfl
      rw [hpe2, Option.bind_some]
      dsimp only
      rw [if_neg hk]
      simp
theorem j0_ev (t b : ByteArray) (hz : t.size + b.size ≤ 4194304) (k e : Int) (l : ByteArray) (f : List SO) (h : parR t = (⟨k, e, l, f⟩, 0, 0)) (K : Nat) (hK : 1048581 < K) : dowellaw28_ReportRead.j0 K t b false k e l f = some true := by
  obtain ⟨K, rfl⟩ : ∃ m, K = m + 1 := ⟨K - 1, by omega⟩
  rw [dowellaw28_ReportRead.j0, if_neg (by decide)]
  by_cases hb : b.toList = ([] : List UInt8)
  · rw [if_pos hb]
    exact j1_ev t b hz k e l f h true (fun h => by cases h) K (by omega)
  · rw [if_neg hb]
    exact j1_ev t b hz k e l f h _ (fun _ h => hb ((tl_nil b).2 h)) K (by omega)
theorem pure_read (t b : ByteArray) (hz : t.size + b.size ≤ 4194304) (K : Nat) (hK : 1048582 < K) : dowellaw28_ReportRead.f K t b = some true := by
  unfold dowellaw28_ReportRead.f
  rw [works_ev K (by omega), Option.bind_some, if_pos rfl]
  have hpe := parse_ev t K (by omega)
  rcases par_cases t with ⟨k, e, l, f, h1, h2, h3, h4, h5, h6, h7, h8, h9, h10⟩ | ⟨a, c, h1, h2, h3, _⟩
  · have hpe2 : report_Parse.f K t = some (k, e, l, f, 0, 0) := by rw [hpe, h1]; rfl
    have hf := few_mk f (by omega) (fun x hx => by have := h8 x hx; omega) (fun x hx => by have := h9 x hx; omega) (fun x hx => by have := h10 x hx; omega)
    rw [hpe2, Option.bind_some]
    dsimp only
    rw [if_neg (by decide), text_ev k e l f (by omega) hf, h2, Option.bind_some]
    dsimp only
    rw [if_pos rfl, tl_ne, decide_eq_true rfl]
    exact j0_ev t b hz k e l f h1 K (by omega)
  · have hpe2 : report_Parse.f K t = some (0, 0, ⟨#[]⟩, [], (a : Int), c) := by rw [hpe, h1]; rfl
    rw [hpe2, Option.bind_some]
    dsimp only
    have : (!((a : Int) == 0) || !(c == 0)) = true := by rw [beq_eq_false_iff_ne.2 h2]; simp
    rw [if_pos this, if_pos rfl, if_pos rfl, if_pos ((tl_nil _).2 rfl), if_pos (show ((([] : List SO).length : Nat) : Int) = 0 from rfl), if_neg h2, if_pos (by omega), decide_eq_true (by omega)]
theorem Read_walk (t b : ByteArray) (hz : t.size + b.size ≤ 4194304) (w : World) (hm : Ln.Mx w) (htab : Tab w) :
    Calls Tryd.prog 7 #[.string t, .string b] w fun e w' => e = .returned (.bool true) ∧ Below w.heap.size w w' :=
  dowellaw28_ReportRead.calls 1048583 t b true w (pure_read t b hz 1048583 (by omega)) rfl ⟨htab, hm⟩
end Go.Proofs.YtloflodbcdlmpaaDoor.LawRd
