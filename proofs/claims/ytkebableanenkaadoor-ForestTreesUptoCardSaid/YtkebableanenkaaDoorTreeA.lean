/- Kids and cuts of a right forest: kids tile their node's extent, each node is kid of just one, a cut is right: the plain law. -/
import Derived.Test.YtkebableanenkaaDoorNestA
namespace Go.Proofs.YtkebableanenkaaDoor.Tra
open Go.RowKit Go.Proofs.YtkebableanenkaaDoor.Qall Go.Proofs.YtkebableanenkaaDoor.Fo Go.Proofs.YtkebableanenkaaDoor.Nest Go.Proofs.YtkebableanenkaaDoor.Chk Go.Proofs.YtkebableanenkaaDoor.Fi Go.Proofs.YtkebableanenkaaDoor.Nsa Go.Proofs.YtkebableanenkaaDoorW.PrintWords Go.Proofs.YtkebableanenkaaDoorW.PrintLast Go.Proofs.YtkebableanenkaaDoorW.PrintMore
set_option linter.unusedSimpArgs false
set_option linter.unusedVariables false
/-- A list of places, one behind the other's extent, from a up to b. -/
def Chain (E : Nat → Nat) : Nat → List Nat → Nat → Prop
  | a, [], b => a = b
  | a, x :: l, b => x = a ∧ a < b ∧ E a ≤ b ∧ Chain E (E a) l b
theorem chain_mem {E : Nat → Nat} {b : Nat} (hE : ∀ a, a < b → a < E a) : ∀ (l : List Nat) (a : Nat), Chain E a l b → a ≤ b ∧ ∀ x ∈ l, a ≤ x ∧ x < b ∧ E x ≤ b
  | [], a, h => by
    have : a = b := h
    exact ⟨by omega, fun x hx => by cases hx⟩
  | x :: l, a, h => by
    obtain ⟨rfl, h1, h2, h3⟩ := h
    have h4 := hE x h1
    obtain ⟨g1, g2⟩ := chain_mem hE l (E x) h3
    refine ⟨by omega, fun y hy => ?_⟩
    rcases List.mem_cons.1 hy with rfl | hy
    · omega
    · have := g2 y hy; omega
theorem chain_iff {E : Nat → Nat} {b : Nat} (hE : ∀ a, a < b → a < E a) (hN : ∀ p k, p < k → k < b → k < E p → E k ≤ E p) : ∀ (l : List Nat) (a : Nat), Chain E a l b → ∀ x, x ∈ l ↔ a ≤ x ∧ x < b ∧ ∀ p, a ≤ p → p < x → E p ≤ x
  | [], a, h, x => by
    have : a = b := h
    constructor
    · intro hx; cases hx
    · intro hx; omega
  | y :: l, a, h, x => by
    obtain ⟨rfl, h1, h2, h3⟩ := h
    have h4 := hE y h1
    have ih := chain_iff hE hN l (E y) h3 x
    constructor
    · intro hx
      rcases List.mem_cons.1 hx with rfl | hx
      · exact ⟨Nat.le_refl _, h1, fun p g1 g2 => by omega⟩
      · obtain ⟨g1, g2, g3⟩ := ih.1 hx
        refine ⟨by omega, g2, fun p g4 g5 => ?_⟩
        rcases Nat.lt_or_ge p (E y) with hp | hp
        · rcases Nat.eq_or_lt_of_le g4 with rfl | g6
          · exact g1
          · have := hN y p g6 (by omega) hp
            omega
        · exact g3 p hp g5
    · intro hx
      obtain ⟨g1, g2, g3⟩ := hx
      rcases Nat.eq_or_lt_of_le g1 with rfl | g4
      · exact List.mem_cons_self ..
      · have := g3 y (Nat.le_refl _) g4
        exact List.mem_cons_of_mem _ (ih.2 ⟨this, g2, fun p g5 g6 => g3 p (by omega) g6⟩)
theorem chain_get {E : Nat → Nat} {b : Nat} (hE : ∀ a, a < b → a < E a) : ∀ (l : List Nat) (a : Nat), Chain E a l b → ∀ q (hq : q < l.length), l[q] ∉ l.take q
  | [], a, h, q, hq => by simp at hq
  | x :: l, a, h, 0, hq => by simp
  | x :: l, a, h, q + 1, hq => by
    obtain ⟨rfl, h1, h2, h3⟩ := h
    have h4 := hE x h1
    have hq2 : q < l.length := by simpa using hq
    have ih := chain_get hE l (E x) h3 q hq2
    have hm := (chain_mem hE l (E x) h3).2 l[q] (List.getElem_mem hq2)
    rw [List.getElem_cons_succ, List.take_succ_cons, List.mem_cons, not_or]
    exact ⟨by omega, ih⟩
/-- Where the chain stands ahead of its q-th place. -/
def place (E : Nat → Nat) : Nat → List Nat → Nat → Nat
  | a, _, 0 => a
  | a, [], _ + 1 => a
  | a, _ :: l, q + 1 => place E (E a) l q
theorem place_get {E : Nat → Nat} {b : Nat} : ∀ (l : List Nat) (a : Nat), Chain E a l b → ∀ q (hq : q < l.length), l[q] = place E a l q ∧ place E a l (q + 1) = E l[q]
  | [], a, h, q, hq => by simp at hq
  | x :: l, a, h, 0, hq => by obtain ⟨rfl, _, _, _⟩ := h; cases l <;> exact ⟨rfl, rfl⟩
  | x :: l, a, h, q + 1, hq => by
    obtain ⟨rfl, h1, h2, h3⟩ := h
    exact place_get l (E x) h3 q (by simpa using hq)
theorem place_end {E : Nat → Nat} {b : Nat} : ∀ (l : List Nat) (a : Nat), Chain E a l b → place E a l l.length = b
  | [], a, h => h
  | x :: l, a, h => place_end l (E a) h.2.2.2
def endN (f : List SC) (i : Nat) : Nat := (rd (elOf f) (i : Int)).toNat
theorem endN_of (f : List SC) (h : chkAns f 65536 = 0) (a : Nat) (ha : a < f.length) : ∃ m : Nat, Fo.hd ((ex (K f)).drop a) = some m ∧ endN f a = a + m ∧ 1 ≤ m ∧ a + m ≤ f.length := by
  obtain ⟨m, h1, h2⟩ := el_some f h a ha
  have := right_ex f h a ha
  refine ⟨m, h1, ?_, by omega, by omega⟩
  unfold endN
  omega
theorem end_nest (f : List SC) (h : chkAns f 65536 = 0) (p k : Nat) (hp : p < f.length) (hk : k < f.length) (hpk : p < k) (hin : k < endN f p) : endN f k ≤ endN f p := by
  obtain ⟨m, h1, h2, h3, h4⟩ := endN_of f h p hp
  have := right_ex f h p hp
  have h5 := el_nest f h p k hp hk hpk (by unfold endN at hin; omega)
  unfold endN
  omega
theorem toI_nat (l : List Nat) : (toI l).map Int.toNat = l := by
  unfold toI
  rw [List.map_map]
  exact (List.map_congr_left (fun x _ => Int.toNat_natCast x)).trans (List.map_id l)
theorem kd_chain (f : List SC) (h : chkAns f 65536 = 0) : ∀ (k i m : Nat), jump k ((ex (K f)).drop i) = some m → i + m ≤ f.length → ∃ l : List Nat, kd k ((ex (K f)).drop i) i = toI l ∧ l.length = k ∧ Chain (endN f) i l (i + m)
  | 0, i, m, hj, hm => by
    obtain rfl : 0 = m := by simpa [jump] using hj
    exact ⟨[], rfl, rfl, rfl⟩
  | k + 1, i, m, hj, hm => by
    unfold jump at hj
    cases h1 : Fo.hd ((ex (K f)).drop i) with
    | none => rw [h1] at hj; cases hj
    | some m1 =>
      rw [h1] at hj
      simp only [Option.map_eq_some_iff] at hj
      obtain ⟨m2, h2, h3⟩ := hj
      have hl : (ex (K f)).length = f.length := by rw [ex_length, K_length]
      have hw := ((ex_wf (K f)).drop i).hd h1
      rw [List.length_drop, hl] at hw
      obtain ⟨m', g1, g2, g3, g4⟩ := endN_of f h i (by omega)
      obtain rfl : m' = m1 := by rw [g1] at h1; injection h1
      rw [List.drop_drop] at h2
      obtain ⟨l, e1, e2, e3⟩ := kd_chain f h k (i + m') m2 h2 (by omega)
      refine ⟨i :: l, ?_, by rw [List.length_cons, e2], rfl, by omega, by omega, ?_⟩
      · rw [kd, h1, Option.getD_some, List.drop_drop, e1]
        rfl
      · rw [g2, show i + m = i + m' + m2 by omega]
        exact e3
theorem rt_chain (f : List SC) (h : chkAns f 65536 = 0) : ∀ (fu i : Nat) (r : List Int), rt fu ((ex (K f)).drop i) i = some r → i ≤ f.length → ∃ l : List Nat, r = toI l ∧ Chain (endN f) i l f.length
  | fu, i, r, hr, hi => by
    have hl : (ex (K f)).length = f.length := by rw [ex_length, K_length]
    by_cases hlt : i < f.length
    · obtain ⟨m, g1, g2, g3, g4⟩ := endN_of f h i hlt
      have hd := drop_hd (ex (K f)) i (by omega)
      rw [g1] at hd
      cases fu with
      | zero => rw [hd] at hr; cases hr
      | succ fu =>
        rw [hd, rt, ← hd, Option.map_eq_some_iff] at hr
        obtain ⟨r', e1, rfl⟩ := hr
        rw [List.drop_drop] at e1
        obtain ⟨l, e2, e3⟩ := rt_chain f h fu (i + m) r' e1 g4
        exact ⟨i :: l, by rw [e2]; rfl, rfl, hlt, by omega, by rw [g2]; exact e3⟩
    · obtain rfl : i = f.length := by omega
      rw [List.drop_eq_nil_of_le (by omega)] at hr
      have : r = [] := by cases fu <;> (unfold rt at hr; injection hr with hr; exact hr.symm)
      exact ⟨[], this, rfl⟩
/-- The kids' list of the node ahead of j (0: of what stands above the roots), where its extent ends. -/
def KL (f : List SC) (j : Nat) : List Nat := (kidsAns f ((j : Int) - 1)).map Int.toNat
def EN (f : List SC) : Nat → Nat
  | 0 => f.length
  | j + 1 => endN f j
theorem kl_chain (f : List SC) (h : chkAns f 65536 = 0) (j : Nat) (hj : j ≤ f.length) : kidsAns f ((j : Int) - 1) = toI (KL f j) ∧ Chain (endN f) j (KL f j) (EN f j) ∧ EN f j ≤ f.length := by
  have hl : (ex (K f)).length = f.length := by rw [ex_length, K_length]
  cases j with
  | zero =>
    have hs : (rt f.length (ex (K f)) 0).isSome = true := by rw [rt_mach]; exact (chk_mach f h).2
    obtain ⟨r, hr⟩ := Option.isSome_iff_exists.1 hs
    obtain ⟨l, e1, e2⟩ := rt_chain f h f.length 0 r (by rw [List.drop_zero]; exact hr) (Nat.zero_le _)
    have hk : kidsAns f (((0 : Nat) : Int) - 1) = toI l := by
      unfold kidsAns
      rw [if_pos (by omega), hr, ← e1]
      rfl
    have hkl : KL f 0 = l := by unfold KL; rw [hk, toI_nat]
    rw [hkl]
    exact ⟨hk, e2, Nat.le_refl _⟩
  | succ i =>
    obtain ⟨m, g1, g2, g3, g4⟩ := endN_of f h i (by omega)
    obtain ⟨x, h1, h2, h3, h4, h5⟩ := kids_some f i (by omega) m g1
    obtain ⟨l, e1, e2, e3⟩ := kd_chain f h x (i + 1) (m - 1) h2 (by omega)
    have hk : kidsAns f (((i + 1 : Nat) : Int) - 1) = toI l := by
      unfold kidsAns
      have hi : ((i + 1 : Nat) : Int) - 1 = (i : Int) := by omega
      rw [if_neg (by omega), dif_pos (by omega)]
      simp only [hi, Int.toNat_natCast, g1, h1]
      exact e1
    have hkl : KL f (i + 1) = l := by unfold KL; rw [hk, toI_nat]
    rw [hkl]
    refine ⟨hk, ?_, by show endN f i ≤ _; omega⟩
    show Chain (endN f) (i + 1) l (endN f i)
    rw [g2, show i + m = i + 1 + (m - 1) by omega]
    exact e3
theorem kl_length (f : List SC) (h : chkAns f 65536 = 0) (i : Nat) (hi : i < f.length) : (nd f i).f3 = ((KL f (i + 1)).length : Int) := by
  obtain ⟨m, g1, g2, g3, g4⟩ := endN_of f h i hi
  obtain ⟨x, h1, h2, h3, h4, h5⟩ := kids_some f i hi m g1
  obtain ⟨l, e1, e2, e3⟩ := kd_chain f h x (i + 1) (m - 1) h2 (by omega)
  have hk : kidsAns f (((i + 1 : Nat) : Int) - 1) = toI l := by
    unfold kidsAns
    have hi : ((i + 1 : Nat) : Int) - 1 = (i : Int) := by omega
    rw [if_neg (by omega), dif_pos (by omega)]
    simp only [hi, Int.toNat_natCast, g1, h1]
    exact e1
  have hkl : KL f (i + 1) = l := by unfold KL; rw [hk, toI_nat]
  rw [hkl, e2]
  unfold nd
  rw [rd_f3 f i hi, h1]
theorem kl_iff (f : List SC) (h : chkAns f 65536 = 0) (j : Nat) (hj : j ≤ f.length) (x : Nat) : x ∈ KL f j ↔ j ≤ x ∧ x < EN f j ∧ ∀ p, j ≤ p → p < x → endN f p ≤ x := by
  obtain ⟨_, h2, h3⟩ := kl_chain f h j hj
  refine chain_iff (fun a ha => ?_) (fun p k g1 g2 g3 => end_nest f h p k (by omega) (by omega) g1 g3) _ _ h2 x
  obtain ⟨m, g1, g2, g3, g4⟩ := endN_of f h a (by omega)
  omega
theorem kl_once (f : List SC) (h : chkAns f 65536 = 0) (j k x : Nat) (hjk : j < k) (hk : k ≤ f.length) (h1 : x ∈ KL f j) (h2 : x ∈ KL f k) : False := by
  obtain ⟨a1, a2, a3⟩ := (kl_iff f h j (by omega) x).1 h1
  obtain ⟨b1, b2, b3⟩ := (kl_iff f h k hk x).1 h2
  cases k with
  | zero => omega
  | succ k =>
    have := a3 k (by omega) (by omega)
    have hb : x < endN f k := b2
    omega
theorem kl_some (f : List SC) (h : chkAns f 65536 = 0) (x : Nat) (hx : x < f.length) : ∃ j, j ≤ x ∧ x ∈ KL f j := by
  have hg : ∀ d, d ≤ x → ∃ j, j ≤ x ∧ x - d ≤ j ∧ ((x < EN f j ∧ ∀ p, j ≤ p → p < x → endN f p ≤ x) ∨ (j = x - d ∧ ∀ p, j ≤ p → p < x → endN f p ≤ x)) := by
    intro d
    induction d with
    | zero => intro _; exact ⟨x, Nat.le_refl _, by omega, .inr ⟨by omega, fun p g1 g2 => by omega⟩⟩
    | succ d ih =>
      intro hd
      obtain ⟨j, g1, g2, g3 | g3⟩ := ih (by omega)
      · exact ⟨j, g1, by omega, .inl g3⟩
      · obtain ⟨g4, g5⟩ := g3
        obtain ⟨j', rfl⟩ : ∃ j', j = j' + 1 := ⟨j - 1, by omega⟩
        by_cases hc : x < EN f (j' + 1)
        · exact ⟨j' + 1, g1, by omega, .inl ⟨hc, g5⟩⟩
        · refine ⟨j', by omega, by omega, .inr ⟨by omega, fun p g6 g7 => ?_⟩⟩
          rcases Nat.eq_or_lt_of_le g6 with rfl | g8
          · have : ¬ x < endN f j' := hc
            omega
          · exact g5 p g8 g7
  obtain ⟨j, g1, g2, g3 | g3⟩ := hg x (Nat.le_refl _)
  · exact ⟨j, g1, (kl_iff f h j (by omega) x).2 ⟨g1, g3.1, g3.2⟩⟩
  · obtain ⟨g4, g5⟩ := g3
    obtain rfl : j = 0 := by omega
    exact ⟨0, g1, (kl_iff f h 0 (by omega) x).2 ⟨g1, hx, g5⟩⟩
/-- How often each node was told as a kid: behind the lists ahead of j, and q of the list j. -/
def abv (f : List SC) (j q : Nat) : List Int := (List.range f.length).map fun x => if ((List.range j).any fun i => (KL f i).contains x) || ((KL f j).take q).contains x then 1 else 0
theorem abv_length (f : List SC) (j q : Nat) : (abv f j q).length = f.length := by simp [abv]
theorem abv_get (f : List SC) (j q x : Nat) (hx : x < (abv f j q).length) : (abv f j q)[x] = if ((List.range j).any fun i => (KL f i).contains x) || ((KL f j).take q).contains x then 1 else 0 := by simp [abv]
theorem abv_rd (f : List SC) (j q x : Nat) (hx : x < f.length) : rd (abv f j q) (x : Int) = if ((List.range j).any fun i => (KL f i).contains x) || ((KL f j).take q).contains x then 1 else 0 := by
  unfold rd abv
  rw [Int.toNat_natCast, List.getD_eq_getElem?_getD, List.getElem?_map, List.getElem?_range hx]
  rfl
theorem abv_zero (f : List SC) : abv f 0 0 = List.replicate f.length 0 := by
  unfold abv
  refine (List.map_congr_left (g := fun _ => (0 : Int)) (fun x _ => by simp)).trans ?_
  rw [List.map_const']
  simp
theorem abv_next (f : List SC) (j : Nat) : abv f j (KL f j).length = abv f (j + 1) 0 := by
  unfold abv
  refine List.map_congr_left (fun x _ => ?_)
  rw [List.take_length, List.range_succ, List.any_append]
  simp
theorem abv_at (f : List SC) (h : chkAns f 65536 = 0) (j q : Nat) (hj : j ≤ f.length) (hq : q < (KL f j).length) : (KL f j)[q] < f.length ∧ rd (abv f j q) (((KL f j)[q] : Nat) : Int) = 0 ∧ (abv f j q).set (KL f j)[q] 1 = abv f j (q + 1) := by
  obtain ⟨_, h2, h3⟩ := kl_chain f h j hj
  have hE : ∀ a, a < EN f j → a < endN f a := fun a ha => by
    obtain ⟨m, g1, g2, g3, g4⟩ := endN_of f h a (by omega)
    omega
  have hlt := ((chain_mem hE _ _ h2).2 _ (List.getElem_mem hq)).2.1
  have hnt := chain_get hE _ _ h2 q hq
  have hmem : (KL f j)[q] ∈ KL f j := List.getElem_mem hq
  refine ⟨by omega, ?_, ?_⟩
  · rw [abv_rd f j q _ (by omega)]
    refine if_neg ?_
    rw [Bool.or_eq_true, not_or]
    refine ⟨fun ha => ?_, fun ha => hnt (by simpa using ha)⟩
    obtain ⟨i, hi, hc⟩ := List.any_eq_true.1 ha
    exact kl_once f h i j _ (List.mem_range.1 hi) hj (by simpa using hc) hmem
  · refine List.ext_getElem (by rw [List.length_set, abv_length, abv_length]) (fun x hx1 hx2 => ?_)
    rw [List.length_set, abv_length] at hx1
    rw [List.getElem_set, abv_get, abv_get]
    have ht : (KL f j).take (q + 1) = (KL f j).take q ++ [(KL f j)[q]] := List.take_succ_eq_append_getElem hq
    by_cases he : (KL f j)[q] = x
    · have hin : x ∈ (KL f j).take (q + 1) := by rw [ht, ← he]; exact List.mem_append_right _ (List.mem_singleton_self _)
      rw [if_pos he, if_pos (by rw [Bool.or_eq_true]; right; rw [List.contains_iff_mem]; exact hin)]
    · rw [if_neg he]
      have hc : ((KL f j).take (q + 1)).contains x = ((KL f j).take q).contains x := by
        rw [Bool.eq_iff_iff, List.contains_iff_mem, List.contains_iff_mem, ht, List.mem_append, List.mem_singleton]
        exact ⟨fun g => g.resolve_right (fun e => he e.symm), .inl⟩
      rw [hc]
theorem abv_all (f : List SC) (h : chkAns f 65536 = 0) (x : Nat) (hx : x < f.length) : rd (abv f (f.length + 1) 0) (x : Int) = 1 := by
  rw [abv_rd f _ _ x hx]
  refine if_pos ?_
  rw [Bool.or_eq_true]
  left
  obtain ⟨j, g1, g2⟩ := kl_some f h x hx
  exact List.any_eq_true.2 ⟨j, List.mem_range.2 (by omega), by simpa using g2⟩
theorem ext_jump : ∀ (n m : Nat), m ≤ n → ∀ (x : Nat) (c c2 : List Int), jump x (ex c) = some m → c2.take m = c.take m → jump x (ex c2) = some m
  | n, m, hm, 0, c, c2, h, he => h
  | 0, m, hm, x + 1, c, c2, h, he => by
    have := (jump_bounds _ (ex_wf c) h).1
    omega
  | n + 1, m, hm, x + 1, c, c2, h, he => by
    unfold jump at h
    cases h1 : Fo.hd (ex c) with
    | none => rw [h1] at h; cases h
    | some m1 =>
      rw [h1] at h
      simp only [Option.map_eq_some_iff] at h
      obtain ⟨m2, h2, h3⟩ := h
      have hw := (ex_wf c).hd h1
      cases c with
      | nil => simp [ex, Fo.hd] at h1
      | cons y c =>
        rw [hd_ex] at h1
        split at h1
        · cases h1
        · rename_i hy
          simp only [Option.map_eq_some_iff] at h1
          obtain ⟨m3, h4, h5⟩ := h1
          obtain ⟨m', rfl⟩ : ∃ m', m = m' + 1 := ⟨m - 1, by omega⟩
          rw [List.take_succ_cons] at he
          cases c2 with
          | nil => simp at he
          | cons y2 c2 =>
            rw [List.take_succ_cons] at he
            injection he with e1 e2
            subst e1
            have e3 : c2.take m3 = c.take m3 := by
              have := congrArg (List.take m3) e2
              rw [List.take_take, List.take_take, Nat.min_eq_left (by omega)] at this
              exact this
            have g1 := ext_jump n m3 (by omega) y2.toNat c c2 h4 e3
            have g2 : Fo.hd (ex (y2 :: c2)) = some m1 := by
              rw [hd_ex, if_neg hy, g1]
              simpa using h5
            rw [← ex_drop] at h2
            have g3 := ext_jump n m2 (by omega) x ((y2 :: c).drop m1) ((y2 :: c2).drop m1) h2 (by
              have hh : (y2 :: c2).take (m1 + m2) = (y2 :: c).take (m1 + m2) := by
                rw [h3, List.take_succ_cons, List.take_succ_cons, e2]
              have := congrArg (List.drop m1) hh
              rw [List.drop_take, List.drop_take, Nat.add_sub_cancel_left] at this
              exact this)
            unfold jump
            rw [g2]
            show (jump x ((ex (y2 :: c2)).drop m1)).map (m1 + ·) = _
            rw [← ex_drop, g3]
            simpa using h3
theorem hd_take (c : List Int) (m : Nat) (h : Fo.hd (ex c) = some m) (j : Nat) (hj : j < m) : Fo.hd ((ex (c.take m)).drop j) = Fo.hd ((ex c).drop j) := by
  have hw := (ex_wf c).hd h
  rw [ex_length] at hw
  have h1 : jump 1 (ex c) = some m := by
    unfold jump
    rw [h]
    simp [jump]
  obtain ⟨m', g1, g2⟩ := jump_nest m m (Nat.le_refl _) 1 c h1 j hj
  rw [g1, ← ex_drop]
  rw [← ex_drop] at g1
  have g3 : jump 1 (ex (c.drop j)) = some m' := by
    unfold jump
    rw [g1]
    simp [jump]
  have g4 := ext_jump m' m' (Nat.le_refl _) 1 (c.drop j) ((c.take m).drop j) g3 (by
    rw [List.drop_take, List.take_take, Nat.min_eq_left (by omega)])
  unfold jump at g4
  cases h5 : Fo.hd (ex ((c.take m).drop j)) with
  | none => rw [h5] at g4; cases g4
  | some m4 =>
    rw [h5] at g4
    simp [jump] at g4
    rw [g4]
/-- The cut of a node of a right forest. -/
theorem cut_is (f : List SC) (h : chkAns f 65536 = 0) (i : Nat) (hi : i < f.length) : ∃ m, Fo.hd ((ex (K f)).drop i) = some m ∧ endN f i = i + m ∧ 1 ≤ m ∧ i + m ≤ f.length ∧ cutAns f (i : Int) = (f.drop i).take m ∧ (cutAns f (i : Int)).length = m ∧ cutAns f (i : Int) = (f.take (i + m)).drop i := by
  obtain ⟨m, g1, g2, g3, g4⟩ := endN_of f h i hi
  have hc : cutAns f (i : Int) = (f.take (i + m)).drop i := by
    unfold cutAns
    rw [if_pos (by omega), Int.toNat_natCast, g1]
  refine ⟨m, g1, g2, g3, g4, ?_, ?_, hc⟩
  · rw [hc, List.drop_take, Nat.add_sub_cancel_left]
  · rw [hc, List.length_drop, List.length_take]; omega
theorem cut_hd (f : List SC) (h : chkAns f 65536 = 0) (i m : Nat) (hi : i < f.length) (hm : Fo.hd ((ex (K f)).drop i) = some m) (him : i + m ≤ f.length) (j : Nat) (hj : j < m) : Fo.hd ((ex (K ((f.drop i).take m))).drop j) = Fo.hd ((ex (K f)).drop (i + j)) := by
  have hk : K ((f.drop i).take m) = ((K f).drop i).take m := by
    unfold K
    rw [List.map_take, List.map_drop]
  rw [← ex_drop] at hm
  rw [hk, hd_take _ m hm j hj, ex_drop, List.drop_drop]
theorem cut_nd (f : List SC) (i m j : Nat) (hj : j < m) (him : i + m ≤ f.length) : nd ((f.drop i).take m) j = nd f (i + j) := by
  unfold nd rd_T37
  rw [Int.toNat_natCast, Int.toNat_natCast, List.getD_eq_getElem?_getD, List.getD_eq_getElem?_getD, List.getElem?_take_of_lt hj, List.getElem?_drop]
abbrev lowR (s : Int) (r : Rm) : Rm := (r.1 - s, r.2.1, r.2.2)
theorem drp_low (s : Nat) (k : Nat) : ∀ U : List Rm, drp k (U.map (lowR s)) = (drp (s + k) U).map (lowR s)
  | [] => rfl
  | u :: U => by
    have ih := drp_low s k U
    show List.dropWhile _ (lowR s u :: U.map (lowR s)) = (List.dropWhile _ (u :: U)).map (lowR s)
    rw [List.dropWhile_cons, List.dropWhile_cons]
    by_cases hu : u.1 ≤ ((s + k : Nat) : Int)
    · rw [if_pos (by simp; omega), if_pos (by simp; omega)]
      exact ih
    · rw [if_neg (by simp; omega), if_neg (by simp; omega)]
      rfl
/-- What lies right under rooms lies right under the same, each with its place counted anew, while the lowest stays open. -/
theorem nst_low {own : ByteArray → Bool} {f c : List SC} {l lc : List Int} (s m : Nat) (e : Int) (he : e = ((s + m : Nat) : Int)) (hc : ∀ j, j < m → nd c j = nd f (s + j) ∧ rd lc (j : Int) = rd l ((s + j : Nat) : Int) - s) : ∀ (d k : Nat) (U : List Rm) (R : Rm) (D D2 : List Rm), k + d = m → R.1 = e →
    nst own f l d (s + k) (U ++ R :: D) = true → nst own c lc d k (U.map (lowR s) ++ lowR s R :: D2) = true
  | 0, k, U, R, D, D2, hk, hR, h => rfl
  | d + 1, k, U, R, D, D2, hk, hR, h => by
    obtain ⟨hc1, hc2⟩ := hc k (by omega)
    have hde : drp (s + k) (U ++ R :: D) = drp (s + k) U ++ R :: D := drp_app hR (by omega) U
    have hdc : drp k (U.map (lowR s) ++ lowR s R :: D2) = (drp (s + k) U).map (lowR s) ++ lowR s R :: D2 := by
      rw [drp_app (e := (m : Int)) (by show R.1 - (s : Int) = (m : Int); omega) (by omega), drp_low]
    unfold nst at h ⊢
    have hde' := hde
    have hdc' := hdc
    unfold drp at hde' hdc'
    rw [hdc']
    rw [hde'] at h
    unfold nd at hc1
    cases hU : List.dropWhile (fun r => decide (r.1 ≤ ((s + k : Nat) : Int))) U with
    | nil =>
      rw [hU] at h
      simp only [List.nil_append, List.map_nil] at h ⊢
      rw [hc1, hc2]
      split at h
      · cases h
      · split at h
        · cases h
        · split at h
          · cases h
          · split at h
            · cases h
            · rename_i q1 q2 q3 q4
              rw [if_neg q1, if_neg q2, if_neg q3, if_neg q4]
              exact nst_low s m e he hc d (k + 1) [(rd l ((s + k : Nat) : Int), (rd_T37 f ((s + k : Nat) : Int)).f2, (rd_T37 f ((s + k : Nat) : Int)).f1)] (R.1, R.2.1, (rd_T37 f ((s + k : Nat) : Int)).f2) D D2 (by omega) hR h
    | cons u U2 =>
      rw [hU] at h
      simp only [List.cons_append, List.map_cons] at h ⊢
      rw [hc1, hc2]
      split at h
      · cases h
      · split at h
        · cases h
        · split at h
          · cases h
          · split at h
            · cases h
            · rename_i q1 q2 q3 q4
              rw [if_neg q1, if_neg q2, if_neg q3, if_neg q4]
              exact nst_low s m e he hc d (k + 1) ((rd l ((s + k : Nat) : Int), (rd_T37 f ((s + k : Nat) : Int)).f2, (rd_T37 f ((s + k : Nat) : Int)).f1) :: (u.1, u.2.1, (rd_T37 f ((s + k : Nat) : Int)).f2) :: U2) R D D2 (by omega) hR h
theorem cut_el (f : List SC) (h : chkAns f 65536 = 0) (i m : Nat) (hi : i < f.length) (hm : Fo.hd ((ex (K f)).drop i) = some m) (him : i + m ≤ f.length) (j : Nat) (hj : j < m) : rd (elOf ((f.drop i).take m)) (j : Int) = rd (elOf f) ((i + j : Nat) : Int) - i := by
  have hcl : ((f.drop i).take m).length = m := by rw [List.length_take, List.length_drop]; omega
  have h1 := abs_rd (-1) (ex (K ((f.drop i).take m))) j (by rw [ex_length, K_length]; omega)
  have h2 := abs_rd (-1) (ex (K f)) (i + j) (by rw [ex_length, K_length]; omega)
  have h3 := cut_hd f h i m hi hm him j hj
  obtain ⟨m', g1, g2, g3, g4⟩ := endN_of f h (i + j) (by omega)
  rw [h3, g1] at h1
  rw [g1] at h2
  unfold elOf
  rw [h1, h2]
  show ((j + m' : Nat) : Int) = ((i + j + m' : Nat) : Int) - i
  omega
theorem nst_less {own : ByteArray → Bool} {f : List SC} {l : List Int} (p d : Nat) : ∀ (i : Nat) (st : List Rm), nst own f l (p + d) i st = true → nst own f l p i st = true := by
  induction p with
  | zero => intro i st _; rfl
  | succ p ih =>
    intro i st h
    rw [show p + 1 + d = (p + d) + 1 by omega] at h
    unfold nst at h ⊢
    split at h
    · cases h
    · rename_i up r heq
      try rw [heq]
      split at h
      · cases h
      · split at h
        · cases h
        · split at h
          · cases h
          · split at h
            · cases h
            · rename_i q1 q2 q3 q4
              try dsimp only
              rw [if_neg q1, if_neg q2, if_neg q3, if_neg q4]
              exact ih _ _ h
theorem nst_name {own : ByteArray → Bool} {f : List SC} {l : List Int} : ∀ (d i : Nat) (st : List Rm), nst own f l d i st = true → ∀ k, i ≤ k → k < i + d → own (nd f k).f0 = true
  | 0, i, st, h, k, h1, h2 => by omega
  | d + 1, i, st, h, k, h1, h2 => by
    obtain ⟨_, _, _, _, _, _, hn⟩ := nst_step h
    unfold nst at h
    split at h
    · cases h
    · split at h
      · cases h
      · rename_i q1
        rcases Nat.eq_or_lt_of_le h1 with rfl | h3
        · exact (Bool.not_eq_false _).mp q1
        · exact nst_name d (i + 1) _ hn k h3 (by omega)
theorem node_right (f : List SC) (h : chkAns f 65536 = 0) (i : Nat) (hi : i < f.length) : Own.nameOk (nd f i).f0 = true ∧ 0 ≤ (nd f i).f1 ∧ (nd f i).f2 ≤ 65536 := by
  have hn := chk_nst f h
  have h1 := nst_name f.length 0 _ hn i (Nat.zero_le _) (by omega)
  have h2 := (inside (own := Own.nameOk) (f := f) (l := elOf f) 0 65536 (f.length : Int) f.length 0 [] ((f.length : Int), 65536, 0) [] hn (fun y hy => (by cases hy)) rfl (fun y hy => (by cases hy)) ⟨Int.le_refl _, Int.le_refl _⟩ (fun y hy => (by cases hy)) (fun k _ hk _ => (right_ex f h k (by omega)).2) i (Nat.zero_le _) (by omega)).1 (by omega)
  exact ⟨h1, h2⟩
/-- A cut is right. -/
theorem cut_right (f : List SC) (h : chkAns f 65536 = 0) (i : Nat) (hi : i < f.length) : chkAns (cutAns f (i : Int)) 65536 = 0 := by
  obtain ⟨m, g1, g2, g3, g4, g5, g6, _⟩ := cut_is f h i hi
  rw [g5] at g6 ⊢
  have hfl := (chk_mach f h).1
  have h0 := cut_hd f h i m hi g1 g4 0 (by omega)
  rw [List.drop_zero, Nat.add_zero, g1] at h0
  unfold chkAns
  rw [if_neg (by omega), if_neg (by omega), if_pos]
  unfold rightB
  rw [Bool.and_eq_true]
  constructor
  · refine (mach_iff _ []).2 ?_
    show Rts _
    have hl : (ex (K ((f.drop i).take m))).length = m := by rw [ex_length, K_length, g6]
    cases hx : ex (K ((f.drop i).take m)) with
    | nil => exact .nil
    | cons o t =>
      rw [hx] at h0 hl
      have ho : o = some m := h0
      subst ho
      refine .cons ?_
      rw [List.drop_eq_nil_of_le (by omega)]
      exact .nil
  · obtain ⟨d, hd⟩ : ∃ d, f.length = i + (m + d) := ⟨f.length - i - m, by omega⟩
    have hn := chk_nst f h
    have ho : Ord [((f.length : Int), (65536 : Int), (0 : Int))] := ⟨show (0 : Int) ≤ 65536 by decide, fun y hy => (by cases hy), trivial⟩
    obtain ⟨st', h1, h2⟩ := upto i (m + d) 0 [((f.length : Int), 65536, 0)] (by rw [← hd]; exact hn) ho
    rw [Nat.zero_add] at h1
    obtain ⟨m', rfl⟩ : ∃ m', m = m' + 1 := ⟨m - 1, by omega⟩
    rw [show m' + 1 + d = (m' + d) + 1 by omega] at h1
    obtain ⟨up, r, hd2, a1, a2, a3, hn2⟩ := nst_step h1
    obtain ⟨b1, b2, b3⟩ := node_right f h i hi
    have hn3 := nst_less m' d (i + 1) _ hn2
    have hcn := cut_nd f i (m' + 1) 0 (by omega) g4
    have hce := cut_el f h i (m' + 1) hi g1 g4 0 (by omega)
    have hee := endN_of f h i hi
    have hre : rd (elOf f) (i : Int) = ((i + (m' + 1) : Nat) : Int) := by
      have := (right_ex f h i hi).1
      unfold endN at g2
      omega
    simp only [Nat.add_zero] at hcn hce
    have hlow := nst_low (own := Own.nameOk) (f := f) (c := (f.drop i).take (m' + 1)) (l := elOf f) (lc := elOf ((f.drop i).take (m' + 1))) i (m' + 1) (rd (elOf f) (i : Int)) hre
      (fun j hj => ⟨cut_nd f i (m' + 1) j hj g4, cut_el f h i (m' + 1) hi g1 g4 j hj⟩) m' 1 [] (rd (elOf f) (i : Int), (nd f i).f2, (nd f i).f1) ((up.1, up.2.1, (nd f i).f2) :: r) [(((m' + 1 : Nat) : Int), 65536, (nd f i).f2)] (by omega) rfl hn3
    rw [g6]
    unfold nst
    rw [List.dropWhile_cons, if_neg (by simp)]
    have hcn' : rd_T37 ((f.drop i).take (m' + 1)) ((0 : Nat) : Int) = nd f i := hcn
    dsimp only
    rw [hcn', if_neg (by rw [b1]; decide), if_neg (by omega), if_neg (by omega), if_neg (by omega)]
    have hz : rd (elOf ((f.drop i).take (m' + 1))) ((0 : Nat) : Int) = rd (elOf f) (i : Int) - (i : Int) := hce
    show nst _ _ (elOf ((f.drop i).take (m' + 1))) m' 1 ((rd (elOf ((f.drop i).take (m' + 1))) ((0 : Nat) : Int), _, _) :: _) = true
    rw [hz]
    exact hlow
theorem cut_kids (f : List SC) (h : chkAns f 65536 = 0) (i : Nat) (hi : i < f.length) : kidsAns (cutAns f (i : Int)) (-1) = [0] ∧ ((kidsAns (cutAns f (i : Int)) 0).length : Int) = (nd f i).f3 := by
  obtain ⟨m, g1, g2, g3, g4, g5, g6, _⟩ := cut_is f h i hi
  have hc := cut_right f h i hi
  have h0 := cut_hd f h i m hi g1 g4 0 (by omega)
  have hcn := cut_nd f i m 0 (by omega) g4
  rw [← g5] at h0 hcn
  rw [List.drop_zero, Nat.add_zero, g1] at h0
  constructor
  · have hk := kl_chain (cutAns f (i : Int)) hc 0 (Nat.zero_le _)
    have he : kidsAns (cutAns f (i : Int)) (-1) = toI (KL (cutAns f (i : Int)) 0) := hk.1
    have h2 := hk.2.1
    obtain ⟨m2, q1, q2, q3, q4⟩ := endN_of (cutAns f (i : Int)) hc 0 (by omega)
    rw [List.drop_zero, h0] at q1
    injection q1 with q1
    rw [he]
    cases hl : KL (cutAns f (i : Int)) 0 with
    | nil =>
      rw [hl] at h2
      have : 0 = (cutAns f (i : Int)).length := h2
      omega
    | cons x l =>
      rw [hl] at h2
      obtain ⟨rfl, _, _, h3⟩ := h2
      cases l with
      | nil => rfl
      | cons y l =>
        exfalso
        obtain ⟨_, h4, _, _⟩ := h3
        have : EN (cutAns f (i : Int)) 0 = (cutAns f (i : Int)).length := rfl
        omega
  · have h1 := kl_length (cutAns f (i : Int)) hc 0 (by omega)
    have h2 := (kl_chain (cutAns f (i : Int)) hc 1 (by omega)).1
    have h3 : kidsAns (cutAns f (i : Int)) 0 = toI (KL (cutAns f (i : Int)) 1) := h2
    rw [h3, toI_length, ← h1, hcn]
    rfl
theorem rd_toI (l : List Nat) (q : Nat) (hq : q < l.length) : rd (toI l) (q : Int) = ((l[q] : Nat) : Int) := by
  unfold rd toI
  rw [Int.toNat_natCast, List.getD_eq_getElem?_getD, List.getElem?_map, List.getElem?_eq_getElem hq]
  rfl
/-- One kid more. -/
theorem tree_step (f : List SC) (h : chkAns f 65536 = 0) (j : Nat) (hj : j ≤ f.length) (q : Nat) (hq : q < (KL f j).length) : ∃ x m : Nat, x < f.length ∧ rd (toI (KL f j)) (q : Int) = (x : Int) ∧ place (endN f) j (KL f j) q = x ∧ place (endN f) j (KL f j) (q + 1) = x + m ∧ (cutAns f (x : Int)).length = m ∧ x + m ≤ f.length ∧ rd (abv f j q) (x : Int) = 0 ∧ (abv f j q).set x 1 = abv f j (q + 1) := by
  obtain ⟨_, h2, h3⟩ := kl_chain f h j hj
  obtain ⟨a1, a2, a3⟩ := abv_at f h j q hj hq
  obtain ⟨p1, p2⟩ := place_get _ _ h2 q hq
  obtain ⟨m, g1, g2, g3, g4, g5, g6, _⟩ := cut_is f h ((KL f j)[q]) a1
  exact ⟨(KL f j)[q], m, a1, rd_toI _ q hq, p1.symm, by rw [p2, g2], g6, g4, a2, a3⟩
theorem tree_end (f : List SC) (h : chkAns f 65536 = 0) (j : Nat) (hj : j ≤ f.length) : place (endN f) j (KL f j) (KL f j).length = EN f j ∧ (KL f j).length ≤ f.length := by
  obtain ⟨_, h2, h3⟩ := kl_chain f h j hj
  refine ⟨place_end _ _ h2, ?_⟩
  have h4 : ∀ (l : List Nat) (a b : Nat), Chain (endN f) a l b → b ≤ f.length → l.length + a ≤ b := by
    intro l
    induction l with
    | nil => intro a b hc _; have : a = b := hc; simp; omega
    | cons x l ih =>
      intro a b hc hb
      obtain ⟨rfl, c1, c2, c3⟩ := hc
      obtain ⟨m, g1, g2, g3, g4⟩ := endN_of f h x (by omega)
      have := ih _ b c3 hb
      rw [List.length_cons]
      omega
  have := h4 _ _ _ h2 h3
  omega
end Go.Proofs.YtkebableanenkaaDoor.Tra
