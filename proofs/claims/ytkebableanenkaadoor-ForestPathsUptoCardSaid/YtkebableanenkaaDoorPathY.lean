/- What the paths of the law ForestPaths lead to: the plain law. || Levels and roots; a step with a number and without; the nodes of a name: the plain law of ForestPaths. -/
import Derived.Test.YtkebableanenkaaDoorTreeA
import Derived.Test.YtkebableanenkaaDoorNam
import Derived.Test.YtkebableanenkaaDoorText2
namespace Go.Proofs.YtkebableanenkaaDoor.Pc
open Go.RowKit Go.Proofs.YtkebableanenkaaDoor.Qall Go.Proofs.YtkebableanenkaaDoor.Fo Go.Proofs.YtkebableanenkaaDoor.Chk Go.Proofs.YtkebableanenkaaDoor.Fi Go.Proofs.YtkebableanenkaaDoor.Nsa Go.Proofs.YtkebableanenkaaDoor.Tra Go.Proofs.YtkebableanenkaaDoorW.PrintWords Go.Proofs.YtkebableanenkaaDoorW.PrintLast Go.Proofs.YtkebableanenkaaDoorW.PrintMore
set_option linter.unusedSimpArgs false
set_option linter.unusedVariables false
theorem hit0 (s : ST) (h : s.f2 = 0) (m : Nat) : hit s m = true := by unfold hit; rw [h]; rfl
theorem cont0 (s : ST) (h : s.f2 = 0) (m : Nat) : cont s m = true := by unfold cont; rw [h]; rfl
theorem set_getD (l : List Bool) (a x : Nat) (ha : a < l.length) : (l.set a true).getD x false = (l.getD x false || decide (x = a)) := by
  rw [List.getD_eq_getElem?_getD, List.getD_eq_getElem?_getD, List.getElem?_set]
  by_cases h : a = x
  · subst h
    rw [if_pos rfl, if_pos ha]
    simp
  · rw [if_neg h, decide_eq_false (fun e => h e.symm), Bool.or_false]
theorem eachGo_end (f : List SC) (el : List Int) (s : ST) (e d a n : Nat) (inn : List Bool) (h : ¬ a < e) : eachGo f el s e d a n inn = (n, inn) := by
  cases d with
  | zero => rfl
  | succ d => rw [eachGo, if_neg h]
/-- One node of a step without a number. -/
theorem eachGo_one (f : List SC) (el : List Int) (s : ST) (h0 : s.f2 = 0) (e d a n : Nat) (inn : List Bool) (h : a < e) : ∃ n', eachGo f el s e (d + 1) a n inn = eachGo f el s e d (nxt el s a) n' (if fits s (nd f a) = true then inn.set a true else inn) := by
  rw [eachGo, if_pos h]
  by_cases hf : fits s (nd f a) = true
  · have hf' : fits s (rd_T37 f (a : Int)) = true := hf
    refine ⟨n + 1, ?_⟩
    rw [if_pos hf', if_pos (cont0 s h0 _), if_pos hf]
    unfold mk1
    rw [if_pos (hit0 s h0 _)]
  · have hf' : ¬ fits s (rd_T37 f (a : Int)) = true := hf
    exact ⟨n, by rw [if_neg hf', if_neg hf]⟩
theorem eachGo_deep (f : List SC) (el : List Int) (s : ST) (h0 : s.f2 = 0) (hd : s.f0 = true) (e : Nat) : ∀ d a n inn, e ≤ inn.length → e ≤ a + d → ∀ x, (eachGo f el s e d a n inn).2.getD x false = (inn.getD x false || (decide (a ≤ x ∧ x < e) && fits s (nd f x)))
  | 0, a, n, inn, he, hk, x => by
    show inn.getD x false = _
    rw [decide_eq_false (by omega), Bool.false_and, Bool.or_false]
  | d + 1, a, n, inn, he, hk, x => by
    by_cases hae : a < e
    · obtain ⟨n', h1⟩ := eachGo_one f el s h0 e d a n inn hae
      have hnx : nxt el s a = a + 1 := by unfold nxt; rw [if_pos hd]
      rw [h1, hnx, eachGo_deep f el s h0 hd e d (a + 1) n' _ (by split <;> (try rw [List.length_set]) <;> omega) (by omega) x]
      by_cases hxa : x = a
      · subst hxa
        rw [decide_eq_false (by omega), Bool.false_and, Bool.or_false, decide_eq_true (by omega), Bool.true_and]
        by_cases hf : fits s (nd f x) = true
        · rw [if_pos hf, hf, set_getD _ _ _ (by omega)]
          simp
        · rw [if_neg hf, Bool.eq_false_iff.2 hf, Bool.or_false]
      · have he2 : decide (a + 1 ≤ x ∧ x < e) = decide (a ≤ x ∧ x < e) := decide_eq_decide.mpr (by omega)
        rw [he2]
        congr 1
        split
        · rw [set_getD _ _ _ (by omega), decide_eq_false hxa, Bool.or_false]
        · rfl
    · rw [eachGo_end _ _ _ _ _ _ _ _ hae, decide_eq_false (by omega), Bool.false_and, Bool.or_false]
theorem eachGo_kids (f : List SC) (s : ST) (h0 : s.f2 = 0) (hd : s.f0 = false) (e : Nat) (hel : ∀ a, a < e → a < endN f a) : ∀ (l : List Nat) (d a n : Nat) (inn : List Bool), Chain (endN f) a l e → e ≤ inn.length → e ≤ a + d → ∀ x, (eachGo f (elOf f) s e d a n inn).2.getD x false = (inn.getD x false || (l.contains x && fits s (nd f x)))
  | [], d, a, n, inn, hc, he, hk, x => by
    have : a = e := hc
    rw [eachGo_end _ _ _ _ _ _ _ _ (by omega)]
    simp
  | y :: l, d, a, n, inn, hc, he, hk, x => by
    obtain ⟨rfl, c1, c2, c3⟩ := hc
    have hy := hel y c1
    obtain ⟨d, rfl⟩ : ∃ d', d = d' + 1 := ⟨d - 1, by omega⟩
    obtain ⟨n', h1⟩ := eachGo_one f (elOf f) s h0 e d y n inn c1
    have hnx : nxt (elOf f) s y = endN f y := by unfold nxt; rw [if_neg (by rw [hd]; decide)]; rfl
    rw [h1, hnx, eachGo_kids f s h0 hd e hel l d (endN f y) n' _ c3 (by split <;> (try rw [List.length_set]) <;> omega) (by omega) x]
    have hm := (chain_mem hel l _ c3).2
    by_cases hxa : x = y
    · subst hxa
      have hnl : l.contains x = false := by
        rw [Bool.eq_false_iff]
        intro h
        have := hm x (by simpa using h)
        omega
      rw [hnl, List.contains_cons, beq_self_eq_true, Bool.true_or, Bool.true_and, Bool.false_and, Bool.or_false]
      by_cases hf : fits s (nd f x) = true
      · rw [if_pos hf, hf, set_getD _ _ _ (by omega)]
        simp
      · rw [if_neg hf, Bool.eq_false_iff.2 hf, Bool.or_false]
    · rw [List.contains_cons, beq_eq_false_iff_ne.2 hxa, Bool.false_or]
      congr 1
      split
      · rw [set_getD _ _ _ (by omega), decide_eq_false hxa, Bool.or_false]
      · rfl
theorem endOf_EN (f : List SC) (j : Nat) : endOf f (elOf f) ((j : Int) - 1) = EN f j := by
  unfold endOf
  cases j with
  | zero => rw [if_neg (by omega)]; rfl
  | succ j => rw [if_pos (by omega), show ((j + 1 : Nat) : Int) - 1 = (j : Int) by omega]; rfl
theorem el_gt (f : List SC) (h : chkAns f 65536 = 0) (a : Nat) (ha : a < f.length) : a < endN f a ∧ endN f a ≤ f.length := by
  obtain ⟨m, g1, g2, g3, g4⟩ := endN_of f h a ha
  omega
theorem EN_le (f : List SC) (h : chkAns f 65536 = 0) (j : Nat) (hj : j ≤ f.length) : EN f j ≤ f.length := (kl_chain f h j hj).2.2
/-- One node of a set. -/
theorem each_deep (f : List SC) (h : chkAns f 65536 = 0) (s : ST) (h0 : s.f2 = 0) (hd : s.f0 = true) (j : Nat) (hj : j ≤ f.length) (inn : List Bool) (hi : inn.length = f.length) (x : Nat) : (eachAns f (elOf f) s ((j : Int) - 1) inn).2.getD x false = (inn.getD x false || (decide (j ≤ x ∧ x < EN f j) && fits s (nd f x))) := by
  unfold eachAns
  rw [endOf_EN, show ((j : Int) - 1 + 1).toNat = j by omega]
  have := EN_le f h j hj
  exact eachGo_deep f (elOf f) s h0 hd (EN f j) _ j 0 inn (by omega) (by omega) x
theorem each_kids (f : List SC) (h : chkAns f 65536 = 0) (s : ST) (h0 : s.f2 = 0) (hd : s.f0 = false) (j : Nat) (hj : j ≤ f.length) (inn : List Bool) (hi : inn.length = f.length) (x : Nat) : (eachAns f (elOf f) s ((j : Int) - 1) inn).2.getD x false = (inn.getD x false || ((KL f j).contains x && fits s (nd f x))) := by
  unfold eachAns
  rw [endOf_EN, show ((j : Int) - 1 + 1).toNat = j by omega]
  have he := EN_le f h j hj
  exact eachGo_kids f s h0 hd (EN f j) (fun a ha => (el_gt f h a (by omega)).1) (KL f j) _ j 0 inn (kl_chain f h j hj).2.1 (by omega) (by omega) x
/-- Lists of places out of marks. -/
def outP (n : Nat) (p : Nat → Bool) : List Int := outFrom ((List.range n).map p) 0
theorem marks_eq (l : List Bool) (n : Nat) (p : Nat → Bool) (hl : l.length = n) (h : ∀ x, x < n → l.getD x false = p x) : l = (List.range n).map p := by
  refine List.ext_getElem (by simp [hl]) (fun x h1 h2 => ?_)
  have := h x (by omega)
  rw [List.getD_eq_getElem?_getD, List.getElem?_eq_getElem h1] at this
  rw [List.getElem_map, List.getElem_range]
  exact this
theorem skip_top (el : List Int) (s : ST) (rc : Int) : skipB el s (-1) rc = false := by
  unfold skipB
  rw [decide_eq_false (by omega), Bool.and_false, Bool.false_and]
/-- '//n' leads to all of that name. -/
theorem next_all (f : List SC) (h : chkAns f 65536 = 0) (s : ST) (h0 : s.f2 = 0) (hd : s.f0 = true) : stepsAns f [s] [-1] = outP f.length (fun x => fits s (nd f x)) := by
  show nextAns f (elOf f) s [-1] = _
  unfold nextAns outP
  congr 1
  refine marks_eq _ _ _ (by rw [nextGo_length]; simp) (fun x hx => ?_)
  rw [nextGo, if_neg (by rw [skip_top]; decide)]
  show (nextGo f (elOf f) s [] _ _).getD x false = _
  rw [nextGo]
  have := each_deep f h s h0 hd 0 (Nat.zero_le _) (List.replicate f.length false) (by simp) x
  have he : EN f 0 = f.length := rfl
  rw [show ((0 : Nat) : Int) - 1 = -1 from rfl, he, decide_eq_true (by omega), Bool.true_and] at this
  rw [this]
  have hr : (List.replicate f.length false).getD x false = false := by rw [List.getD_eq_getElem?_getD, List.getElem?_replicate]; split <;> rfl
  rw [hr, Bool.false_or]
/-- '/n' leads to the roots of that name. -/
theorem next_roots (f : List SC) (h : chkAns f 65536 = 0) (s : ST) (h0 : s.f2 = 0) (hd : s.f0 = false) : nextAns f (elOf f) s [-1] = outP f.length (fun x => (KL f 0).contains x && fits s (nd f x)) := by
  unfold nextAns outP
  congr 1
  refine marks_eq _ _ _ (by rw [nextGo_length]; simp) (fun x hx => ?_)
  rw [nextGo, if_neg (by rw [skip_top]; decide)]
  show (nextGo f (elOf f) s [] _ _).getD x false = _
  rw [nextGo]
  have := each_kids f h s h0 hd 0 (Nat.zero_le _) (List.replicate f.length false) (by simp) x
  rw [show ((0 : Nat) : Int) - 1 = -1 from rfl] at this
  rw [this]
  have hr : (List.replicate f.length false).getD x false = false := by rw [List.getD_eq_getElem?_getD, List.getElem?_replicate]; split <;> rfl
  rw [hr, Bool.false_or]
theorem out_skip : ∀ (m : Nat) (l : List Bool) (k : Nat), (∀ x, x < m → l.getD x false = false) → outFrom l k = outFrom (l.drop m) (k + m)
  | 0, l, k, h => by rw [List.drop_zero, Nat.add_zero]
  | m + 1, [], k, h => by simp [outFrom]
  | m + 1, b :: l, k, h => by
    have hb : b = false := h 0 (by omega)
    subst hb
    show (if false = true then _ else _) = _
    rw [if_neg (by decide), out_skip m l (k + 1) (fun x hx => by have := h (x + 1) (by omega); simpa using this), List.drop_succ_cons, show k + (m + 1) = k + 1 + m by omega]
/-- Marks on a chain, read off. -/
theorem out_chain {E : Nat → Nat} {b : Nat} (hE : ∀ a, a < b → a < E a) (M : List Bool) (hM : M.length = b) (q : Nat → Bool) : ∀ (l : List Nat) (a : Nat), Chain E a l b → (∀ x, a ≤ x → M.getD x false = (l.contains x && q x)) → outFrom (M.drop a) a = toI (l.filter q)
  | [], a, hc, hx => by
    have : a = b := hc
    rw [List.drop_eq_nil_of_le (by omega)]
    rfl
  | y :: l, a, hc, hx => by
    obtain ⟨rfl, c1, c2, c3⟩ := hc
    have hy := hE y c1
    have hm := (chain_mem hE l _ c3).2
    have hxy := hx y (Nat.le_refl _)
    rw [List.contains_cons, beq_self_eq_true, Bool.true_or, Bool.true_and, List.getD_eq_getElem?_getD, List.getElem?_eq_getElem (by omega), Option.getD_some] at hxy
    have hrest : outFrom (M.drop (y + 1)) (y + 1) = toI (l.filter q) := by
      rw [out_skip (E y - (y + 1)) (M.drop (y + 1)) (y + 1) (fun x hx2 => ?_)]
      · rw [List.drop_drop, show y + 1 + (E y - (y + 1)) = E y by omega]
        refine out_chain hE M hM q l (E y) c3 (fun x hx3 => ?_)
        have := hx x (by omega)
        rw [List.contains_cons, beq_eq_false_iff_ne.2 (by omega), Bool.false_or] at this
        exact this
      · have := hx (y + 1 + x) (by omega)
        rw [List.contains_cons, beq_eq_false_iff_ne.2 (by omega), Bool.false_or] at this
        have hn : l.contains (y + 1 + x) = false := by
          rw [Bool.eq_false_iff]
          intro hc
          have := hm _ (by simpa using hc)
          omega
        rw [hn, Bool.false_and] at this
        rw [List.getD_eq_getElem?_getD, List.getElem?_drop]
        rw [List.getD_eq_getElem?_getD] at this
        exact this
    rw [List.drop_eq_getElem_cons (by omega), outFrom, hxy, hrest, List.filter_cons]
    split <;> rfl
/-- From roots down: none is passed over. -/
theorem deep_chain (f : List SC) (h : chkAns f 65536 = 0) (s : ST) (h0 : s.f2 = 0) (hd : s.f0 = true) (q : Nat → Bool) : ∀ (l : List Nat) (a : Nat) (rc : Int) (inn : List Bool), Chain (endN f) a l f.length → rc ≤ (a : Int) → inn.length = f.length → ∀ x, (nextGo f (elOf f) s (toI (l.filter q)) rc inn).getD x false = (inn.getD x false || (l.any (fun r => q r && decide (r < x ∧ x < endN f r)) && fits s (nd f x)))
  | [], a, rc, inn, hc, hr, hi, x => by
    show (nextGo f (elOf f) s [] rc inn).getD x false = _
    rw [nextGo]
    simp
  | y :: l, a, rc, inn, hc, hr, hi, x => by
    obtain ⟨rfl, c1, c2, c3⟩ := hc
    have hy := el_gt f h y c1
    have hrd := right_ex f h y c1
    have hen : rd (elOf f) (y : Int) = (endN f y : Int) := by unfold endN; omega
    rw [List.filter_cons]
    by_cases hq : q y = true
    · rw [if_pos hq]
      show (nextGo f (elOf f) s ((y : Int) :: toI (l.filter q)) rc inn).getD x false = _
      have hsk : skipB (elOf f) s (y : Int) rc = false := by
        unfold skipB
        rw [hen, decide_eq_false (show ¬ ((endN f y : Nat) : Int) ≤ rc by omega), Bool.and_false]
      have hre : reach (elOf f) s (y : Int) rc ≤ (endN f y : Int) := by
        unfold reach
        rw [hen]
        split <;> omega
      have hea := each_deep f h s h0 hd (y + 1) (by omega) inn hi x
      rw [show ((y + 1 : Nat) : Int) - 1 = (y : Int) by omega] at hea
      rw [nextGo, if_neg (by rw [hsk]; decide), deep_chain f h s h0 hd q l (endN f y) _ _ c3 hre (by rw [eachAns_length]; exact hi) x, hea, List.any_cons, hq, Bool.true_and]
      have he2 : EN f (y + 1) = endN f y := rfl
      have he3 : decide (y + 1 ≤ x ∧ x < EN f (y + 1)) = decide (y < x ∧ x < endN f y) := decide_eq_decide.mpr (by rw [he2]; omega)
      rw [he3]
      generalize inn.getD x false = b1
      generalize decide (y < x ∧ x < endN f y) = b2
      generalize (l.any fun r => q r && decide (r < x ∧ x < endN f r)) = b3
      generalize fits s (nd f x) = b4
      cases b1 <;> cases b2 <;> cases b3 <;> cases b4 <;> rfl
    · rw [if_neg hq, deep_chain f h s h0 hd q l (endN f y) rc inn c3 (by omega) hi x, List.any_cons, Bool.eq_false_iff.2 hq, Bool.false_and, Bool.false_or]
/-- '/a//b' leads to what is below a root a. -/
theorem next_below (f : List SC) (h : chkAns f 65536 = 0) (s1 s2 : ST) (h1 : s1.f2 = 0) (hd1 : s1.f0 = false) (h2 : s2.f2 = 0) (hd2 : s2.f0 = true) :
    stepsAns f [s1, s2] [-1] = outP f.length (fun x => (KL f 0).any (fun r => fits s1 (nd f r) && decide (r < x ∧ x < endN f r)) && fits s2 (nd f x)) := by
  show nextAns f (elOf f) s2 (nextAns f (elOf f) s1 [-1]) = _
  obtain ⟨_, hc, _⟩ := kl_chain f h 0 (Nat.zero_le _)
  have hc2 : Chain (endN f) 0 (KL f 0) f.length := hc
  have hset : nextAns f (elOf f) s1 [-1] = toI ((KL f 0).filter (fun r => fits s1 (nd f r))) := by
    rw [next_roots f h s1 h1 hd1]
    unfold outP
    have := out_chain (E := endN f) (b := f.length) (fun a ha => (el_gt f h a ha).1) ((List.range f.length).map (fun x => (KL f 0).contains x && fits s1 (nd f x))) (by simp) (fun r => fits s1 (nd f r)) (KL f 0) 0 hc2 (fun x _ => ?_)
    · rw [List.drop_zero] at this
      exact this
    · by_cases hx : x < f.length
      · rw [List.getD_eq_getElem?_getD, List.getElem?_map, List.getElem?_range hx]
        rfl
      · have hn : (KL f 0).contains x = false := by
          rw [Bool.eq_false_iff]
          intro hc3
          have := (chain_mem (fun a ha => (el_gt f h a ha).1) _ _ hc2).2 x (by simpa using hc3)
          omega
        rw [hn, Bool.false_and, List.getD_eq_getElem?_getD, List.getElem?_eq_none (by simp; omega)]
        rfl
  rw [hset]
  unfold nextAns outP
  congr 1
  refine marks_eq _ _ _ (by rw [nextGo_length]; simp) (fun x hx => ?_)
  rw [deep_chain f h s2 h2 hd2 _ (KL f 0) 0 (-1) _ hc2 (by omega) (by simp) x]
  have hr : (List.replicate f.length false).getD x false = false := by rw [List.getD_eq_getElem?_getD, List.getElem?_replicate]; split <;> rfl
  rw [hr, Bool.false_or]
end Go.Proofs.YtkebableanenkaaDoor.Pc
namespace Go.Proofs.YtkebableanenkaaDoor.Pd
open Go.RowKit Go.Proofs.YtkebableanenkaaDoor.Qall Go.Proofs.YtkebableanenkaaDoor.Fo Go.Proofs.YtkebableanenkaaDoor.Chk Go.Proofs.YtkebableanenkaaDoor.Fi Go.Proofs.YtkebableanenkaaDoor.Nsa Go.Proofs.YtkebableanenkaaDoor.Tra Go.Proofs.YtkebableanenkaaDoor.Pc Go.Proofs.YtkebableanenkaaDoorW.PrintWords Go.Proofs.YtkebableanenkaaDoorW.PrintLast Go.Proofs.YtkebableanenkaaDoorW.PrintMore
set_option linter.unusedSimpArgs false
set_option linter.unusedVariables false
theorem chain_cover {E : Nat → Nat} {b : Nat} : ∀ (l : List Nat) (a : Nat), Chain E a l b → ∀ x, a ≤ x → x < b → ∃ r, r ∈ l ∧ r ≤ x ∧ x < E r
  | [], a, h, x, h1, h2 => by
    have : a = b := h
    omega
  | y :: l, a, h, x, h1, h2 => by
    obtain ⟨rfl, c1, c2, c3⟩ := h
    by_cases hx : x < E y
    · exact ⟨y, List.mem_cons_self .., h1, hx⟩
    · obtain ⟨r, g1, g2, g3⟩ := chain_cover l (E y) c3 x (by omega) h2
      exact ⟨r, List.mem_cons_of_mem _ g1, g2, g3⟩
theorem dw_all (i : Nat) : ∀ st : List Nat, (∀ y ∈ st, y ≤ i) → st.dropWhile (· ≤ i) = []
  | [], _ => rfl
  | y :: st, h => by
    rw [List.dropWhile_cons_of_pos (by simpa using h y (List.mem_cons_self ..))]
    exact dw_all i st (fun z hz => h z (List.mem_cons_of_mem _ hz))
theorem dw_mem (i e : Nat) (h : i < e) : ∀ st : List Nat, e ∈ st → e ∈ st.dropWhile (· ≤ i)
  | [], hm => by cases hm
  | y :: st, hm => by
    by_cases hy : y ≤ i
    · rw [List.dropWhile_cons_of_pos (by simpa using hy)]
      refine dw_mem i e h st ((List.mem_cons.1 hm).resolve_left (fun e2 => by omega))
    · rw [List.dropWhile_cons_of_neg (by simpa using hy)]
      exact hm
/-- The level is 0 just at a root. -/
theorem lev_zero (f : List SC) (h : chkAns f 65536 = 0) : ∀ (d i : Nat), i + d = f.length → ∀ (st l : List Nat), ((∀ y ∈ st, y ≤ i) ∧ Chain (endN f) i l f.length) ∨ (∃ r e, r < i ∧ r < f.length ∧ e = endN f r ∧ i < e ∧ e ∈ st ∧ (∀ y ∈ st, y ≤ e) ∧ Chain (endN f) e l f.length) →
    ∀ j, j < d → ((lev2 st i (absE ((ex (K f)).drop i) i)).getD j 0 = 0 ↔ i + j ∈ l)
  | 0, i, hi, st, l, hs, j, hj => by omega
  | d + 1, i, hi, st, l, hs, j, hj => by
    obtain ⟨m, g1, g2, g3, g4⟩ := endN_of f h i (by omega)
    have hdr := drop_hd (ex (K f)) i (by rw [ex_length, K_length]; omega)
    have hlist : lev2 st i (absE ((ex (K f)).drop i) i) = (st.dropWhile (· ≤ i)).length :: lev2 (endN f i :: st.dropWhile (· ≤ i)) (i + 1) (absE ((ex (K f)).drop (i + 1)) (i + 1)) := by
      rw [hdr, g1]
      show lev2 st i ((i + m) :: absE _ (i + 1)) = _
      rw [lev2, g2]
    rw [hlist]
    rcases hs with ⟨h1, h2⟩ | ⟨r, e, h1, h2, h3, h4, h5, h6, h7⟩
    · rw [dw_all i st h1]
      cases l with
      | nil => have : i = f.length := h2; omega
      | cons y l =>
        obtain ⟨rfl, c1, c2, c3⟩ := h2
        cases j with
        | zero => simp
        | succ j =>
          rw [List.getD_cons_succ]
          have hm := (chain_mem (fun a ha => (el_gt f h a ha).1) l _ c3).2
          have hst : ((∀ z ∈ [endN f y], z ≤ y + 1) ∧ Chain (endN f) (y + 1) l f.length) ∨ (∃ r e, r < y + 1 ∧ r < f.length ∧ e = endN f r ∧ y + 1 < e ∧ e ∈ [endN f y] ∧ (∀ z ∈ [endN f y], z ≤ e) ∧ Chain (endN f) e l f.length) := by
            by_cases hc : endN f y = y + 1
            · left
              rw [hc] at c3 ⊢
              exact ⟨fun z hz => by rw [List.mem_singleton.1 hz]; exact Nat.le_refl _, c3⟩
            · right
              exact ⟨y, endN f y, by omega, c1, rfl, by omega, List.mem_singleton_self _, fun z hz => by rw [List.mem_singleton.1 hz]; exact Nat.le_refl _, c3⟩
          have ih := lev_zero f h d (y + 1) (by omega) [endN f y] l hst j (by omega)
          rw [ih, show y + 1 + j = y + (j + 1) by omega, List.mem_cons]
          exact ⟨.inr, fun g => g.resolve_left (fun e => by omega)⟩
    · have hmem := dw_mem i e h4 st h5
      have hsub : ∀ y ∈ st.dropWhile (· ≤ i), y ≤ e := fun y hy => h6 y ((List.dropWhile_sublist _).subset hy)
      have hne := end_nest f h r i h2 (by omega) h1 (by omega)
      have hml := (chain_mem (fun a ha => (el_gt f h a ha).1) l _ h7).2
      cases j with
      | zero =>
        rw [List.getD_cons_zero, Nat.add_zero]
        constructor
        · intro h0; rw [List.length_eq_zero_iff] at h0; rw [h0] at hmem; cases hmem
        · intro h0; have := hml i h0; omega
      | succ j =>
        rw [List.getD_cons_succ]
        have hst : ((∀ z ∈ endN f i :: st.dropWhile (· ≤ i), z ≤ i + 1) ∧ Chain (endN f) (i + 1) l f.length) ∨ (∃ r e, r < i + 1 ∧ r < f.length ∧ e = endN f r ∧ i + 1 < e ∧ e ∈ endN f i :: st.dropWhile (· ≤ i) ∧ (∀ z ∈ endN f i :: st.dropWhile (· ≤ i), z ≤ e) ∧ Chain (endN f) e l f.length) := by
          have hall : ∀ z ∈ endN f i :: st.dropWhile (· ≤ i), z ≤ e := fun z hz => by
            rcases List.mem_cons.1 hz with rfl | hz
            · omega
            · exact hsub z hz
          by_cases hc : e = i + 1
          · left
            rw [← hc]
            exact ⟨hall, h7⟩
          · right
            exact ⟨r, e, by omega, h2, h3, by omega, List.mem_cons_of_mem _ hmem, hall, h7⟩
        have ih := lev_zero f h d (i + 1) (by omega) _ l hst j (by omega)
        rw [ih, show i + 1 + j = i + (j + 1) by omega]
theorem levels_of (f : List SC) (h : chkAns f 65536 = 0) : (walkAns f).length = f.length ∧ ∀ x, x < f.length → 0 ≤ (walkAns f)[x]?.getD 0 ∧ ((walkAns f)[x]?.getD 0 = 0 ↔ x ∈ KL f 0) := by
  obtain ⟨ls, hls⟩ := Option.isSome_iff_exists.1 (chk_mach f h).2
  have hw : walkAns f = toI ls := by unfold walkAns; rw [hls]
  have hlen : ls.length = f.length := by rw [LawLen.mach_length _ _ _ hls, K_length]
  have hl2 := mach_lev2 _ _ 0 _ hls
  obtain ⟨_, hc, _⟩ := kl_chain f h 0 (Nat.zero_le _)
  have hc2 : Chain (endN f) 0 (KL f 0) f.length := hc
  have hz := lev_zero f h f.length 0 (by omega) [] (KL f 0) (.inl ⟨fun y hy => (by cases hy), hc2⟩)
  rw [List.drop_zero] at hz
  refine ⟨by rw [hw, toI_length, hlen], fun x hx => ?_⟩
  have h1 := hz x hx
  have hl3 : ls = lev2 [] 0 (absE (ex (K f)) 0) := hl2
  rw [← hl3, Nat.zero_add, List.getD_eq_getElem?_getD, List.getElem?_eq_getElem (by omega), Option.getD_some] at h1
  rw [hw]
  unfold toI
  rw [List.getElem?_map, List.getElem?_eq_getElem (by omega), Option.map_some, Option.getD_some]
  exact ⟨by omega, by rw [← h1]; omega⟩
/-- The last root ahead of a place. -/
def rootAt (zs : List Int) : Nat → Int
  | 0 => -1
  | k + 1 => if zs[k]?.getD 0 = 0 then (k : Int) else rootAt zs k
/-- What the walk collects. -/
def wantP (f : List SC) (zs : List Int) (a b : ByteArray) (x : Nat) : Bool := !decide (zs[x]?.getD 0 = 0) && ((rd_T37 f (rootAt zs x)).f0.toList == a.toList) && ((nd f x).f0.toList == b.toList)
theorem root_of (f : List SC) (h : chkAns f 65536 = 0) (r : Nat) (hr : r ∈ KL f 0) (hr2 : r < f.length) : ∀ d, r + d < f.length → r + d < endN f r → rootAt (walkAns f) (r + d + 1) = (r : Int)
  | 0, h1, h2 => by
    show (if (walkAns f)[r]?.getD 0 = 0 then (r : Int) else _) = _
    rw [if_pos (((levels_of f h).2 r hr2).2.2 hr)]
  | d + 1, h1, h2 => by
    show (if (walkAns f)[r + (d + 1)]?.getD 0 = 0 then _ else rootAt (walkAns f) (r + (d + 1))) = _
    rw [if_neg]
    · exact root_of f h r hr hr2 d (by omega) (by omega)
    · intro h0
      have := (kl_iff f h 0 (Nat.zero_le _) (r + (d + 1))).1 (((levels_of f h).2 _ h1).2.1 h0)
      have := this.2.2 r (Nat.zero_le _) (by omega)
      omega
theorem root_ge (f : List SC) (h : chkAns f 65536 = 0) (x : Nat) (hx : x < f.length) (h0 : (walkAns f)[x]?.getD 0 ≠ 0) : ∃ r : Nat, rootAt (walkAns f) x = (r : Int) ∧ r < x ∧ r ∈ KL f 0 ∧ x < endN f r := by
  obtain ⟨_, hc, _⟩ := kl_chain f h 0 (Nat.zero_le _)
  have hc2 : Chain (endN f) 0 (KL f 0) f.length := hc
  obtain ⟨r, g1, g2, g3⟩ := chain_cover _ _ hc2 x (Nat.zero_le _) hx
  have hne : r ≠ x := fun e => h0 (((levels_of f h).2 x hx).2.2 (e ▸ g1))
  have := root_of f h r g1 (by omega) (x - r - 1) (by omega) (by omega)
  rw [show r + (x - r - 1) + 1 = x by omega] at this
  exact ⟨r, this, by omega, g1, g3⟩
theorem want_eq (f : List SC) (h : chkAns f 65536 = 0) (a b : ByteArray) (s1 s2 : ST) (h1 : s1.f1 = a) (h2 : s2.f1 = b) (ha : (a.toList == ([42] : List UInt8)) = false) (hb : (b.toList == ([42] : List UInt8)) = false) (x : Nat) (hx : x < f.length) :
    ((KL f 0).any (fun r => fits s1 (nd f r) && decide (r < x ∧ x < endN f r)) && fits s2 (nd f x)) = wantP f (walkAns f) a b x := by
  have hf1 : ∀ c, fits s1 c = (c.f0.toList == a.toList) := fun c => by unfold fits; rw [h1, ha, Bool.false_or, Bool.beq_comm]
  have hf2 : ∀ c, fits s2 c = (c.f0.toList == b.toList) := fun c => by unfold fits; rw [h2, hb, Bool.false_or, Bool.beq_comm]
  unfold wantP
  rw [hf2]
  congr 1
  by_cases h0 : (walkAns f)[x]?.getD 0 = 0
  · rw [decide_eq_true h0, Bool.not_true, Bool.false_and, Bool.eq_false_iff]
    intro hany
    obtain ⟨r, g1, g2⟩ := List.any_eq_true.1 hany
    have g3 := of_decide_eq_true (Bool.and_eq_true_iff.1 g2).2
    have := ((kl_iff f h 0 (Nat.zero_le _) x).1 (((levels_of f h).2 x hx).2.1 h0)).2.2 r (Nat.zero_le _) g3.1
    omega
  · obtain ⟨r, e1, e2, e3, e4⟩ := root_ge f h x hx h0
    rw [decide_eq_false h0, Bool.not_false, Bool.true_and, e1, Bool.eq_iff_iff]
    constructor
    · intro hany
      obtain ⟨r', g1, g2⟩ := List.any_eq_true.1 hany
      obtain ⟨g3, g4⟩ := Bool.and_eq_true_iff.1 g2
      have g5 := of_decide_eq_true g4
      have hrr : r' = r := by
        rcases Nat.lt_trichotomy r' r with hlt | heq | hgt
        · have := ((kl_iff f h 0 (Nat.zero_le _) r).1 e3).2.2 r' (Nat.zero_le _) hlt
          omega
        · exact heq
        · have := ((kl_iff f h 0 (Nat.zero_le _) r').1 g1).2.2 r (Nat.zero_le _) hgt
          omega
      subst hrr
      rw [hf1] at g3
      exact g3
    · intro hn
      exact List.any_eq_true.2 ⟨r, e3, by rw [hf1, decide_eq_true ⟨e2, e4⟩, Bool.and_true]; exact hn⟩
/-- Marks that are marks there too. -/
def Le (A B : List Bool) : Prop := A.length = B.length ∧ ∀ x, A.getD x false = true → B.getD x false = true
theorem Le.refl (A : List Bool) : Le A A := ⟨rfl, fun _ h => h⟩
theorem Le.set {A B : List Bool} (h : Le A B) (a : Nat) (ha : a < A.length) : Le (A.set a true) (B.set a true) := ⟨by simp [h.1], fun x hx => by
  rw [set_getD _ _ _ ha] at hx
  rw [set_getD _ _ _ (by rw [← h.1]; exact ha)]
  rw [Bool.or_eq_true] at hx ⊢
  exact hx.imp (h.2 x) id⟩
theorem Le.set' {A B : List Bool} (h : Le A B) (a : Nat) (ha : a < A.length) : Le A (B.set a true) := ⟨by simp [h.1], fun x hx => by
  rw [set_getD _ _ _ (by rw [← h.1]; exact ha), Bool.or_eq_true]
  exact .inl (h.2 x hx)⟩
theorem each_ge (f : List SC) (el : List Int) (s0 : ST) (h0 : s0.f2 = 0) (e : Nat) : ∀ d a n (A B : List Bool), Le A B → e ≤ A.length → Le A (eachGo f el s0 e d a n B).2
  | 0, a, n, A, B, h, he => h
  | d + 1, a, n, A, B, h, he => by
    by_cases hae : a < e
    · obtain ⟨n', h1⟩ := eachGo_one f el s0 h0 e d a n B hae
      rw [h1]
      refine each_ge f el s0 h0 e d _ n' A _ ?_ he
      split
      · exact h.set' a (by omega)
      · exact h
    · rw [eachGo_end _ _ _ _ _ _ _ _ hae]; exact h
theorem each_le (f : List SC) (el : List Int) (s s0 : ST) (h0 : s0.f2 = 0) (hd : s.f0 = s0.f0) (hn : s.f1 = s0.f1) (e : Nat) : ∀ d a n n0 (A B : List Bool), Le A B → e ≤ A.length → Le (eachGo f el s e d a n A).2 (eachGo f el s0 e d a n0 B).2
  | 0, a, n, n0, A, B, h, he => h
  | d + 1, a, n, n0, A, B, h, he => by
    by_cases hae : a < e
    · obtain ⟨n', h1⟩ := eachGo_one f el s0 h0 e d a n0 B hae
      have hfit : ∀ c, fits s0 c = fits s c := fun c => by unfold fits; rw [hn]
      have hnx : nxt el s0 a = nxt el s a := by unfold nxt; rw [hd]
      rw [h1, hfit, hnx, eachGo, if_pos hae]
      by_cases hf : fits s (nd f a) = true
      · have hf' : fits s (rd_T37 f (a : Int)) = true := hf
        rw [if_pos hf', if_pos hf]
        have hm : Le (mk1 s n a A) (B.set a true) := by
          unfold mk1
          split
          · exact h.set a (by omega)
          · exact h.set' a (by omega)
        have hml : e ≤ (mk1 s n a A).length := by rw [mk1_length]; exact he
        split
        · exact each_le f el s s0 h0 hd hn e d _ _ n' _ _ hm hml
        · exact each_ge f el s0 h0 e d _ n' _ _ hm hml
      · have hf' : ¬ fits s (rd_T37 f (a : Int)) = true := hf
        rw [if_neg hf', if_neg hf]
        exact each_le f el s s0 h0 hd hn e d _ _ n' _ _ h he
    · rw [eachGo_end _ _ _ _ _ _ _ _ hae, eachGo_end _ _ _ _ _ _ _ _ hae]; exact h
theorem next_le (f : List SC) (h : chkAns f 65536 = 0) (s s0 : ST) (h0 : s0.f2 = 0) (hd : s.f0 = false) (hd0 : s0.f0 = false) (hn : s.f1 = s0.f1) : ∀ (set : List Int) (rc : Int) (A B : List Bool), (∀ i ∈ set, -1 ≤ i ∧ i < (f.length : Int)) → Le A B → A.length = f.length → Le (nextGo f (elOf f) s set rc A) (nextGo f (elOf f) s0 set rc B)
  | [], rc, A, B, hs, hl, ha => by rw [nextGo, nextGo]; exact hl
  | i :: set, rc, A, B, hs, hl, ha => by
    have hi := hs i (List.mem_cons_self ..)
    have k1 : skipB (elOf f) s i rc = false := by unfold skipB; rw [hd]; rfl
    have k2 : skipB (elOf f) s0 i rc = false := by unfold skipB; rw [hd0]; rfl
    have r1 : reach (elOf f) s i rc = rc := by unfold reach; rw [if_neg (fun h => by rw [hd] at h; exact absurd h.1 (by decide))]
    have r2 : reach (elOf f) s0 i rc = rc := by unfold reach; rw [if_neg (fun h => by rw [hd0] at h; exact absurd h.1 (by decide))]
    rw [nextGo, if_neg (by rw [k1]; decide), nextGo, if_neg (by rw [k2]; decide), r1, r2]
    have hle : endOf f (elOf f) i ≤ f.length := by
      obtain ⟨j, hj⟩ : ∃ j : Nat, i = (j : Int) - 1 := ⟨(i + 1).toNat, by omega⟩
      rw [hj, endOf_EN]
      exact EN_le f h j (by omega)
    refine next_le f h s s0 h0 hd hd0 hn set rc _ _ (fun k hk => hs k (List.mem_cons_of_mem _ hk)) ?_ (by rw [eachAns_length]; exact ha)
    exact each_le f (elOf f) s s0 h0 (by rw [hd, hd0]) hn _ _ _ _ _ A B hl (by omega)
theorem out_mem : ∀ (l : List Bool) (k : Nat) (z : Int), z ∈ outFrom l k ↔ ∃ x : Nat, l.getD x false = true ∧ z = ((k + x : Nat) : Int)
  | [], k, z => by simp [outFrom]
  | b :: l, k, z => by
    rw [outFrom]
    have ih := out_mem l (k + 1) z
    constructor
    · intro hz
      have hz2 : (b = true ∧ z = (k : Int)) ∨ z ∈ outFrom l (k + 1) := by
        split at hz
        · rename_i hb
          rcases List.mem_cons.1 hz with h | h
          · exact .inl ⟨hb, h⟩
          · exact .inr h
        · exact .inr hz
      rcases hz2 with ⟨hb, h⟩ | h
      · exact ⟨0, by simpa using hb, by simpa using h⟩
      · obtain ⟨x, g1, g2⟩ := ih.1 h
        exact ⟨x + 1, by simpa using g1, by omega⟩
    · rintro ⟨x, g1, g2⟩
      cases x with
      | zero =>
        have hb : b = true := by simpa using g1
        rw [if_pos hb]
        exact List.mem_cons.2 (.inl (by omega))
      | succ x =>
        have hm := ih.2 ⟨x, by simpa using g1, by omega⟩
        split
        · exact List.mem_cons_of_mem _ hm
        · exact hm
theorem out_sorted : ∀ (l : List Bool) (k : Nat), (outFrom l k).Pairwise (· < ·)
  | [], k => List.Pairwise.nil
  | b :: l, k => by
    rw [outFrom]
    split
    · refine List.Pairwise.cons (fun z hz => ?_) (out_sorted l (k + 1))
      obtain ⟨x, _, g2⟩ := (out_mem l (k + 1) z).1 hz
      omega
    · exact out_sorted l (k + 1)
/-- With a number no others than without it. -/
theorem num_less (f : List SC) (h : chkAns f 65536 = 0) (s1 s s0 : ST) (h0 : s0.f2 = 0) (hd : s.f0 = false) (hd0 : s0.f0 = false) (hn : s.f1 = s0.f1) :
    (stepsAns f [s1, s] [-1]).Pairwise (· < ·) ∧ (stepsAns f [s1, s0] [-1]).Pairwise (· < ·) ∧ (∀ z ∈ stepsAns f [s1, s] [-1], z ∈ stepsAns f [s1, s0] [-1]) := by
  refine ⟨out_sorted _ _, out_sorted _ _, fun z hz => ?_⟩
  have hle := next_le f h s s0 h0 hd hd0 hn (nextAns f (elOf f) s1 [-1]) (-1) (List.replicate f.length false) (List.replicate f.length false) (nextAns_ok f (elOf f) s1 [-1]).2 (Le.refl _) (by simp)
  obtain ⟨x, g1, g2⟩ := (out_mem _ 0 z).1 hz
  exact (out_mem _ 0 z).2 ⟨x, hle.2 x g1, g2⟩
theorem steps_len (f : List SC) : ∀ (pl : List ST) (set : List Int), set.length ≤ max 1 f.length → (stepsAns f pl set).length ≤ max 1 f.length
  | [], set, h => h
  | s :: pl, set, h => steps_len f pl _ (by have := (nextAns_ok f (elOf f) s set).1; omega)
/-- named, as it is printed. -/
theorem named_l0 (f : List SC) (hn : f.length ≤ 2097152) (a : ByteArray) (s : ST) (hs : s.f1 = a) : ∀ (d i : Nat) (acc : List Int), i + d = f.length → acc.length ≤ i → ∃ k, dowellaw12_named.l0 k f a acc (i : Int) = some (acc ++ outFrom ((List.range' i d).map fun x => fits s (nd f x)) i)
  | 0, i, acc, hi, ha => by
    refine ⟨1, ?_⟩
    rw [dowellaw12_named.l0, if_neg (by omega)]
    simp [outFrom]
  | d + 1, i, acc, hi, ha => by
    have w1 : wrap64 ((i : Int) + 1) = ((i + 1 : Nat) : Int) := by unfold wrap64; omega
    have hfit : fits s (nd f i) = true ↔ ((rd_T37 f (i : Int)).f0).toList = a.toList ∨ a.toList = ([42] : List UInt8) := by
      unfold fits
      rw [hs, Bool.or_eq_true, beq_iff_eq, beq_iff_eq]
      exact ⟨fun g => g.elim .inr (fun e => .inl e.symm), fun g => g.elim (fun e => .inr e.symm) .inl⟩
    rw [List.range'_succ, List.map_cons, outFrom]
    by_cases hf : fits s (nd f i) = true
    · obtain ⟨k, hk⟩ := named_l0 f hn a s hs d (i + 1) (acc ++ [(i : Int)]) (by omega) (by simp; omega)
      refine ⟨k + 1, ?_⟩
      rw [dowellaw12_named.l0, if_pos (by omega), if_pos (by omega), if_pos hf, w1]
      have hal : acc.length < 17592186044416 := by omega
      have hfin : acc ++ (i : Int) :: outFrom ((List.range' (i + 1) d).map fun x => fits s (nd f x)) (i + 1) = acc ++ [(i : Int)] ++ outFrom ((List.range' (i + 1) d).map fun x => fits s (nd f x)) (i + 1) := by simp
      rw [hfin, ← hk]
      by_cases h1 : ((rd_T37 f (i : Int)).f0).toList = a.toList
      · rw [if_pos h1, if_pos hal]
      · rw [if_neg h1, if_pos ((hfit.1 hf).resolve_left h1), if_pos hal]
    · obtain ⟨k, hk⟩ := named_l0 f hn a s hs d (i + 1) acc (by omega) (by omega)
      refine ⟨k + 1, ?_⟩
      rw [dowellaw12_named.l0, if_pos (by omega), if_pos (by omega), if_neg (fun g => hf (hfit.2 (.inl g))), if_neg (fun g => hf (hfit.2 (.inr g))), if_neg hf, w1]
      exact hk
theorem named_ev (f : List SC) (hn : f.length ≤ 2097152) (a : ByteArray) (s : ST) (hs : s.f1 = a) : ∃ k, dowellaw12_named.f k f a = some (outP f.length (fun x => fits s (nd f x))) := by
  obtain ⟨k, hk⟩ := named_l0 f hn a s hs f.length 0 [] (by omega) (Nat.zero_le _)
  refine ⟨k, ?_⟩
  unfold dowellaw12_named.f outP
  rw [List.range_eq_range']
  exact hk
end Go.Proofs.YtkebableanenkaaDoor.Pd
