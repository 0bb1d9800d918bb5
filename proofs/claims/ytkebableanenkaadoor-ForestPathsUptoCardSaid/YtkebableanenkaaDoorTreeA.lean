/- Kids and cuts of a right forest: kids tile their node's extent, each node is kid of just one, a cut is right: the plain law. -/
import Derived.Test.YtkebableanenkaaDoorNestA
namespace Go.Proofs.YtkebableanenkaaDoor.Tra
open Go.RowKit Go.Proofs.YtkebableanenkaaDoor.Qall Go.Proofs.YtkebableanenkaaDoor.Fo Go.Proofs.YtkebableanenkaaDoor.Nest Go.Proofs.YtkebableanenkaaDoor.Chk Go.Proofs.YtkebableanenkaaDoor.Fi Go.Proofs.YtkebableanenkaaDoor.Nsa Go.Proofs.YtkebableanenkaaDoorW.PrintWords Go.Proofs.YtkebableanenkaaDoorW.PrintLast Go.Proofs.YtkebableanenkaaDoorW.PrintMore
set_option linter.unusedSimpArgs false
set_option linter.unusedVariables false
/-- A list of places, one behind the other's extent, from a up to b. -/
def Chain (E : Nat → Nat) : Nat → List Nat → Nat → Prop
  | a, [], b => a = b
  | a, x :: l, b => x = a ∧ a < b ∧ E a ≤ b ∧ Chain E (E a) l b
theorem chain_mem {E : Nat → Nat} {b : Nat} (hE : ∀ a, a < b → a < E a) : ∀ (l : List Nat) (a : Nat), Chain E a l b → a ≤ b ∧ ∀ x ∈ l, a ≤ x ∧ x < b ∧ E x ≤ b
  | [], a, h => by
    have : a = b := h
    exact ⟨by omega, fun x hx => by cases hx⟩
  | x :: l, a, h => by
    obtain ⟨rfl, h1, h2, h3⟩ := h
    have h4 := hE x h1
    obtain ⟨g1, g2⟩ := chain_mem hE l (E x) h3
    refine ⟨by omega, fun y hy => ?_⟩
    rcases List.mem_cons.1 hy with rfl | hy
    · omega
    · have := g2 y hy; omega
theorem chain_iff {E : Nat → Nat} {b : Nat} (hE : ∀ a, a < b → a < E a) (hN : ∀ p k, p < k → k < b → k < E p → E k ≤ E p) : ∀ (l : List Nat) (a : Nat), Chain E a l b → ∀ x, x ∈ l ↔ a ≤ x ∧ x < b ∧ ∀ p, a ≤ p → p < x → E p ≤ x
  | [], a, h, x => by
    have : a = b := h
    constructor
    · intro hx; cases hx
    · intro hx; omega
  | y :: l, a, h, x => by
    obtain ⟨rfl, h1, h2, h3⟩ := h
    have h4 := hE y h1
    have ih := chain_iff hE hN l (E y) h3 x
    constructor
    · intro hx
      rcases List.mem_cons.1 hx with rfl | hx
      · exact ⟨Nat.le_refl _, h1, fun p g1 g2 => by omega⟩
      · obtain ⟨g1, g2, g3⟩ := ih.1 hx
        refine ⟨by omega, g2, fun p g4 g5 => ?_⟩
        rcases Nat.lt_or_ge p (E y) with hp | hp
        · rcases Nat.eq_or_lt_of_le g4 with rfl | g6
          · exact g1
          · have := hN y p g6 (by omega) hp
            omega
        · exact g3 p hp g5
    · intro hx
      obtain ⟨g1, g2, g3⟩ := hx
      rcases Nat.eq_or_lt_of_le g1 with rfl | g4
      · exact List.mem_cons_self ..
      · have := g3 y (Nat.le_refl _) g4
        exact List.mem_cons_of_mem _ (ih.2 ⟨this, g2, fun p g5 g6 => g3 p (by omega) g6⟩)
/-- Where the chain stands ahead of its q-th place. -/
def place (E : Nat → Nat) : Nat → List Nat → Nat → Nat
  | a, _, 0 => a
  | a, [], _ + 1 => a
  | a, _ :: l, q + 1 => place E (E a) l q
def endN (f : List SC) (i : Nat) : Nat := (rd (elOf f) (i : Int)).toNat
theorem endN_of (f : List SC) (h : chkAns f 65536 = 0) (a : Nat) (ha : a < f.length) : ∃ m : Nat, Fo.hd ((ex (K f)).drop a) = some m ∧ endN f a = a + m ∧ 1 ≤ m ∧ a + m ≤ f.length := by
  obtain ⟨m, h1, h2⟩ := el_some f h a ha
  have := right_ex f h a ha
  refine ⟨m, h1, ?_, by omega, by omega⟩
  unfold endN
  omega
theorem end_nest (f : List SC) (h : chkAns f 65536 = 0) (p k : Nat) (hp : p < f.length) (hk : k < f.length) (hpk : p < k) (hin : k < endN f p) : endN f k ≤ endN f p := by
  obtain ⟨m, h1, h2, h3, h4⟩ := endN_of f h p hp
  have := right_ex f h p hp
  have h5 := el_nest f h p k hp hk hpk (by unfold endN at hin; omega)
  unfold endN
  omega
theorem toI_nat (l : List Nat) : (toI l).map Int.toNat = l := by
  unfold toI
  rw [List.map_map]
  exact (List.map_congr_left (fun x _ => Int.toNat_natCast x)).trans (List.map_id l)
theorem kd_chain (f : List SC) (h : chkAns f 65536 = 0) : ∀ (k i m : Nat), jump k ((ex (K f)).drop i) = some m → i + m ≤ f.length → ∃ l : List Nat, kd k ((ex (K f)).drop i) i = toI l ∧ l.length = k ∧ Chain (endN f) i l (i + m)
  | 0, i, m, hj, hm => by
    obtain rfl : 0 = m := by simpa [jump] using hj
    exact ⟨[], rfl, rfl, rfl⟩
  | k + 1, i, m, hj, hm => by
    unfold jump at hj
    cases h1 : Fo.hd ((ex (K f)).drop i) with
    | none => rw [h1] at hj; cases hj
    | some m1 =>
      rw [h1] at hj
      simp only [Option.map_eq_some_iff] at hj
      obtain ⟨m2, h2, h3⟩ := hj
      have hl : (ex (K f)).length = f.length := by rw [ex_length, K_length]
      have hw := ((ex_wf (K f)).drop i).hd h1
      rw [List.length_drop, hl] at hw
      obtain ⟨m', g1, g2, g3, g4⟩ := endN_of f h i (by omega)
      obtain rfl : m' = m1 := by rw [g1] at h1; injection h1
      rw [List.drop_drop] at h2
      obtain ⟨l, e1, e2, e3⟩ := kd_chain f h k (i + m') m2 h2 (by omega)
      refine ⟨i :: l, ?_, by rw [List.length_cons, e2], rfl, by omega, by omega, ?_⟩
      · rw [kd, h1, Option.getD_some, List.drop_drop, e1]
        rfl
      · rw [g2, show i + m = i + m' + m2 by omega]
        exact e3
theorem rt_chain (f : List SC) (h : chkAns f 65536 = 0) : ∀ (fu i : Nat) (r : List Int), rt fu ((ex (K f)).drop i) i = some r → i ≤ f.length → ∃ l : List Nat, r = toI l ∧ Chain (endN f) i l f.length
  | fu, i, r, hr, hi => by
    have hl : (ex (K f)).length = f.length := by rw [ex_length, K_length]
    by_cases hlt : i < f.length
    · obtain ⟨m, g1, g2, g3, g4⟩ := endN_of f h i hlt
      have hd := drop_hd (ex (K f)) i (by omega)
      rw [g1] at hd
      cases fu with
      | zero => rw [hd] at hr; cases hr
      | succ fu =>
        rw [hd, rt, ← hd, Option.map_eq_some_iff] at hr
        obtain ⟨r', e1, rfl⟩ := hr
        rw [List.drop_drop] at e1
        obtain ⟨l, e2, e3⟩ := rt_chain f h fu (i + m) r' e1 g4
        exact ⟨i :: l, by rw [e2]; rfl, rfl, hlt, by omega, by rw [g2]; exact e3⟩
    · obtain rfl : i = f.length := by omega
      rw [List.drop_eq_nil_of_le (by omega)] at hr
      have : r = [] := by cases fu <;> (unfold rt at hr; injection hr with hr; exact hr.symm)
      exact ⟨[], this, rfl⟩
/-- The kids' list of the node ahead of j (0: of what stands above the roots), where its extent ends. -/
def KL (f : List SC) (j : Nat) : List Nat := (kidsAns f ((j : Int) - 1)).map Int.toNat
def EN (f : List SC) : Nat → Nat
  | 0 => f.length
  | j + 1 => endN f j
theorem kl_chain (f : List SC) (h : chkAns f 65536 = 0) (j : Nat) (hj : j ≤ f.length) : kidsAns f ((j : Int) - 1) = toI (KL f j) ∧ Chain (endN f) j (KL f j) (EN f j) ∧ EN f j ≤ f.length := by
  have hl : (ex (K f)).length = f.length := by rw [ex_length, K_length]
  cases j with
  | zero =>
    have hs : (rt f.length (ex (K f)) 0).isSome = true := by rw [rt_mach]; exact (chk_mach f h).2
    obtain ⟨r, hr⟩ := Option.isSome_iff_exists.1 hs
    obtain ⟨l, e1, e2⟩ := rt_chain f h f.length 0 r (by rw [List.drop_zero]; exact hr) (Nat.zero_le _)
    have hk : kidsAns f (((0 : Nat) : Int) - 1) = toI l := by
      unfold kidsAns
      rw [if_pos (by omega), hr, ← e1]
      rfl
    have hkl : KL f 0 = l := by unfold KL; rw [hk, toI_nat]
    rw [hkl]
    exact ⟨hk, e2, Nat.le_refl _⟩
  | succ i =>
    obtain ⟨m, g1, g2, g3, g4⟩ := endN_of f h i (by omega)
    obtain ⟨x, h1, h2, h3, h4, h5⟩ := kids_some f i (by omega) m g1
    obtain ⟨l, e1, e2, e3⟩ := kd_chain f h x (i + 1) (m - 1) h2 (by omega)
    have hk : kidsAns f (((i + 1 : Nat) : Int) - 1) = toI l := by
      unfold kidsAns
      have hi : ((i + 1 : Nat) : Int) - 1 = (i : Int) := by omega
      rw [if_neg (by omega), dif_pos (by omega)]
      simp only [hi, Int.toNat_natCast, g1, h1]
      exact e1
    have hkl : KL f (i + 1) = l := by unfold KL; rw [hk, toI_nat]
    rw [hkl]
    refine ⟨hk, ?_, by show endN f i ≤ _; omega⟩
    show Chain (endN f) (i + 1) l (endN f i)
    rw [g2, show i + m = i + 1 + (m - 1) by omega]
    exact e3
theorem kl_iff (f : List SC) (h : chkAns f 65536 = 0) (j : Nat) (hj : j ≤ f.length) (x : Nat) : x ∈ KL f j ↔ j ≤ x ∧ x < EN f j ∧ ∀ p, j ≤ p → p < x → endN f p ≤ x := by
  obtain ⟨_, h2, h3⟩ := kl_chain f h j hj
  refine chain_iff (fun a ha => ?_) (fun p k g1 g2 g3 => end_nest f h p k (by omega) (by omega) g1 g3) _ _ h2 x
  obtain ⟨m, g1, g2, g3, g4⟩ := endN_of f h a (by omega)
  omega
/-- How often each node was told as a kid: behind the lists ahead of j, and q of the list j. -/
def abv (f : List SC) (j q : Nat) : List Int := (List.range f.length).map fun x => if ((List.range j).any fun i => (KL f i).contains x) || ((KL f j).take q).contains x then 1 else 0
abbrev lowR (s : Int) (r : Rm) : Rm := (r.1 - s, r.2.1, r.2.2)
theorem rd_toI (l : List Nat) (q : Nat) (hq : q < l.length) : rd (toI l) (q : Int) = ((l[q] : Nat) : Int) := by
  unfold rd toI
  rw [Int.toNat_natCast, List.getD_eq_getElem?_getD, List.getElem?_map, List.getElem?_eq_getElem hq]
  rfl
end Go.Proofs.YtkebableanenkaaDoor.Tra
