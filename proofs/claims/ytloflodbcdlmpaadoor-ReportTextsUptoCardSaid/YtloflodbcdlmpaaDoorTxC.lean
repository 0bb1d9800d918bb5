/- The document's text of an outcome is the program's: the plain law. Conditions: at most 2^20 nodes, names of at most 2^20 bytes. -/
import Derived.Test.YtloflodbcdlmpaaDoorTxB
namespace Go.Proofs.YtloflodbcdlmpaaDoor.Rp
open Go.RowKit Go.Proofs.YtloflodbcdlmpaaDoor.Qall Go.Proofs.YtloflodbcdlmpaaDoor.Chk Go.Proofs.YtloflodbcdlmpaaDoor.Tx Go.Proofs.YtloflodbcdlmpaaDoorW.PrintWords Go.Proofs.YtloflodbcdlmpaaDoorW.PrintLast Go.Proofs.YtloflodbcdlmpaaDoorW.PrintMore
open Go.Proofs.YtloflodbcdlmpaaDoor.Fo hiding val
set_option linter.unusedSimpArgs false
set_option linter.unusedVariables false
theorem rright_ev (k e : Int) (l : ByteArray) (f : List SO) (hl : l.size ≤ 1048576) (hn : f.length ≤ 1048576) (hb : ∀ c ∈ f, c.f3 ≤ 9223372036854775807) (hM : ∀ x ∈ f, x.f0.size ≤ 1048576) : ∃ K0, ∀ K, K0 ≤ K → dowelref28_Right.f K k e l f = some (rgt k e l f) := by
  obtain ⟨K1, h1⟩ := refCheck_ev f hn hb e 1048576 hM (by decide)
  refine ⟨K1 + 1048580, fun K hK => ?_⟩
  unfold dowelref28_Right.f rgt
  by_cases c0 : k = 0
  · rw [if_pos c0, if_pos c0]
    by_cases c1 : e = 0
    · rw [if_pos c1]
      by_cases c2 : l.size = 0
      · rw [if_pos ((tl_nil l).2 c2)]
        congr 1
        rw [Bool.eq_iff_iff, beq_iff_eq, decide_eq_true_eq]
        exact ⟨fun h => ⟨c1, c2, by omega⟩, fun h => by omega⟩
      · rw [if_neg (fun h => c2 ((tl_nil l).1 h)), decide_eq_false (fun h => c2 h.2.1)]
    · rw [if_neg c1, decide_eq_false (fun h => c1 h.1)]
  rw [if_neg c0, if_neg c0]
  by_cases c1 : k = 1
  · rw [if_pos c1, if_pos c1]
    by_cases c2 : l.size = 0
    · rw [if_pos ((tl_nil l).2 c2)]
      by_cases c3 : 0 ≤ e
      · rw [if_pos c3]
        by_cases c4 : e ≤ 65536
        · rw [if_pos c4, h1 K (by omega), Option.bind_some]
          congr 1
          rw [Bool.eq_iff_iff, beq_iff_eq, decide_eq_true_eq]
          exact ⟨fun h => ⟨c2, h⟩, fun h => h.2⟩
        · rw [if_neg c4, decide_eq_false (fun h => c4 (chk_rng f e h.2).2)]
      · rw [if_neg c3, decide_eq_false (fun h => c3 (chk_rng f e h.2).1)]
    · rw [if_neg (fun h => c2 ((tl_nil l).1 h)), decide_eq_false (fun h => c2 h.1)]
  rw [if_neg c1, if_neg c1]
  by_cases c2 : k = 2
  · rw [if_pos c2, if_pos c2, Own.refOwn_eq l (by omega) K (by omega), Option.bind_some]
    by_cases c3 : Own.nameOk l = true
    · rw [if_pos c3]
      by_cases c4 : 0 ≤ e
      · rw [if_pos c4]
        by_cases c5 : e ≤ 65536
        · rw [if_pos c5]
          congr 1
          rw [Bool.eq_iff_iff, beq_iff_eq, decide_eq_true_eq]
          exact ⟨fun h => ⟨c3, by omega, c4, c5⟩, fun h => by omega⟩
        · rw [if_neg c5, decide_eq_false (fun h => c5 h.2.2.2)]
      · rw [if_neg c4, decide_eq_false (fun h => c4 h.2.2.1)]
    · rw [if_neg c3, decide_eq_false (fun h => c3 h.1)]
  · rw [if_neg c2, if_neg c2]
theorem rhead_ev (k e : Int) (l : ByteArray) (f : List SO) (hl : l.size ≤ 1048576) (hr : rgt k e l f = true) (K : Nat) (hK : 21 ≤ K) : dowelref28_head.f K k e l f = some (headB k e l) := by
  unfold dowelref28_head.f headB headL
  rcases rgt_cases k e l f hr with ⟨rfl, rfl, rfl, rfl⟩ | ⟨rfl, rfl, hc⟩ | ⟨rfl, hn, rfl, h1, h2⟩
  · rfl
  · obtain ⟨g1, g2⟩ := chk_rng f e hc
    have hle := itoa_le e g1 g2
    have hs := size_mk (Lib.itoa e)
    rw [if_neg (by decide), if_pos rfl, if_pos rfl, digits_itoa e g1 g2 K hK, Option.bind_some, if_pos (by omega), if_pos (by rw [ByteArray.size_append]; show 8 + (⟨(Lib.itoa e).toArray⟩ : ByteArray).size + 1 ≤ _; omega)]
    congr 1
  · have hle := itoa_le e h1 h2
    have hs := size_mk (Lib.itoa e)
    rw [if_neg (show ¬ (2 : Int) = 0 by decide), if_neg (show ¬ (2 : Int) = 1 by decide), if_pos (show 7 + l.size ≤ 9223372036854775807 by omega), if_pos (by rw [ByteArray.size_append]; show 7 + l.size + 1 ≤ _; omega), digits_itoa e h1 h2 K hK, Option.bind_some,
      if_pos (by rw [ByteArray.size_append, ByteArray.size_append]; show 7 + l.size + 1 + (⟨(Lib.itoa e).toArray⟩ : ByteArray).size ≤ _; omega), if_pos (by rw [ByteArray.size_append, ByteArray.size_append, ByteArray.size_append]; show 7 + l.size + 1 + (⟨(Lib.itoa e).toArray⟩ : ByteArray).size + 1 ≤ _; omega), if_neg (show ¬ (2 : Int) = 1 by decide), if_pos (show (2 : Int) = 2 from rfl)]
    congr 1
    apply ba_ext
    simp only [ByteArray.data_append, Array.toList_append]
    simp [thr]
theorem txt_nil : txtAns ([] : List SO) = (⟨#[]⟩, 0) := by
  unfold txtAns
  rw [if_pos (by rfl)]
  rfl
theorem rtext_ev (k e : Int) (l : ByteArray) (f : List SO) (hl : l.size ≤ 1048576) (hn : f.length ≤ 1048576) (hb : ∀ c ∈ f, c.f3 ≤ 9223372036854775807) (hM : ∀ x ∈ f, x.f0.size ≤ 1048576) : ∃ K, dowelref28_Text.f K k e l f = some (outAns k e l f) := by
  obtain ⟨K1, h1⟩ := rright_ev k e l f hl hn hb hM
  obtain ⟨K2, h2⟩ := refText_ev f hn hb 1048576 hM (by decide)
  refine ⟨K1 + K2 + 21, ?_⟩
  unfold dowelref28_Text.f outAns
  rw [h1 _ (by omega), Option.bind_some]
  by_cases hr : rgt k e l f = true
  · rw [if_pos hr, if_pos hr, rhead_ev k e l f hl hr _ (by omega), Option.bind_some]
    have g1 := txt_size f
    have g2 := head_size k e l f (by omega) hr
    by_cases c1 : k = 1
    · rw [if_pos c1, h2 _ (by omega), Option.bind_some]
      by_cases c2 : (txtAns f).2 = 0
      · rw [if_pos c2, if_pos c2, Chk.wrap_of (by omega) (by omega), ByteArray.size_append]
        by_cases c3 : (headB k e l).size + (txtAns f).1.size ≤ 4194304
        · rw [if_neg (by omega), if_pos (by omega), if_pos c3]
        · rw [if_pos (by omega), if_neg c3]
      · rw [if_neg c2, if_neg c2]
    · rw [if_neg c1]
      have hf : f = [] := by
        rcases rgt_cases k e l f hr with ⟨_, _, _, h⟩ | ⟨h, _⟩ | ⟨_, _, h, _⟩
        · exact h
        · exact absurd h c1
        · exact h
      subst hf
      have hx : headB k e l ++ (⟨#[]⟩ : ByteArray) = headB k e l := ba_ext (by simp only [ByteArray.data_append, Array.toList_append]; simp)
      have hs : (headB k e l).size ≤ 4194304 := by
        unfold headB headL
        rw [size_mk]
        rcases rgt_cases k e l [] hr with ⟨rfl, rfl, rfl, _⟩ | ⟨h, _⟩ | ⟨rfl, h, _, h1, h2⟩
        · decide
        · exact absurd h c1
        · have hle := itoa_le e h1 h2
          have hll : l.data.toList.length = l.size := data_length l
          rw [if_neg (by decide), if_pos rfl]
          simp only [List.length_append, List.length_cons, List.length_nil, thr]
          omega
      rw [txt_nil, if_pos rfl, hx, if_pos hs]
  · rw [if_neg hr, if_neg hr]
end Go.Proofs.YtloflodbcdlmpaaDoor.Rp
