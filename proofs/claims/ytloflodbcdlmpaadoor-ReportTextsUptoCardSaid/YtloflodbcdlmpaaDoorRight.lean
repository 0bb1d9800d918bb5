/- The document's Above, and that its right and the program's nested tell the same of a forest: the plain law. Conditions: at most 2^21 nodes. -/
import Derived.Test.YtloflodbcdlmpaaDoorForX
import Derived.Test.YtloflodbcdlmpaaDoorNest
import Derived.Test.YtloflodbcdlmpaaDoorOwn
import Derived.Test.YtloflodbcdlmpaaDoorQallx7
namespace Go.Proofs.YtloflodbcdlmpaaDoor.Right
open Go.RowKit Go.Proofs.YtloflodbcdlmpaaDoor.Qall Go.Proofs.YtloflodbcdlmpaaDoor.Fo Go.Proofs.YtloflodbcdlmpaaDoor.Nest Go.Proofs.YtloflodbcdlmpaaDoorW.PrintWords Go.Proofs.YtloflodbcdlmpaaDoorW.PrintLast Go.Proofs.YtloflodbcdlmpaaDoorW.PrintMore
set_option linter.unusedSimpArgs false
set_option linter.unusedVariables false
section
variable (es : List Nat)
/-- The nodes that are open ahead of node i, the innermost first, each with its end. -/
def Tst : Nat → List (Nat × Nat)
  | 0 => []
  | i + 1 => (i, es.getD i 0) :: (Tst i).dropWhile (fun a => decide (a.2 ≤ i))
def pops (i : Nat) : List (Nat × Nat) := (Tst es i).dropWhile (fun a => decide (a.2 ≤ i))
def AB (i : Nat) : Int := match pops es i with
  | [] => -1
  | a :: _ => (a.1 : Int)
theorem Tst_succ (i : Nat) : Tst es (i + 1) = (i, es.getD i 0) :: pops es i := rfl
theorem pops_suffix (i : Nat) : ∃ p, Tst es i = p ++ pops es i := ⟨_, (List.takeWhile_append_dropWhile ..).symm⟩
theorem Tst_lt : ∀ i, ∀ a ∈ Tst es i, a.1 < i
  | 0, a, h => by cases h
  | i + 1, a, h => by
    rw [Tst_succ] at h
    rcases List.mem_cons.1 h with rfl | h
    · exact Nat.lt_succ_self _
    · obtain ⟨p, hp⟩ := pops_suffix es i
      have := Tst_lt i a (by rw [hp]; exact List.mem_append_right _ h)
      omega
theorem pops_lt (i : Nat) : ∀ a ∈ pops es i, a.1 < i := fun a h => by
  obtain ⟨p, hp⟩ := pops_suffix es i
  exact Tst_lt es i a (by rw [hp]; exact List.mem_append_right _ h)
theorem Tst_pw : ∀ i, (Tst es i).Pairwise (fun a b => b.1 < a.1)
  | 0 => List.Pairwise.nil
  | i + 1 => by
    rw [Tst_succ, List.pairwise_cons]
    refine ⟨fun a h => pops_lt es i a h, ?_⟩
    obtain ⟨p, hp⟩ := pops_suffix es i
    have := Tst_pw i
    rw [hp] at this
    exact (List.pairwise_append.1 this).2.1
theorem pops_pw (i : Nat) : (pops es i).Pairwise (fun a b => b.1 < a.1) := by
  obtain ⟨p, hp⟩ := pops_suffix es i
  have := Tst_pw es i
  rw [hp] at this
  exact (List.pairwise_append.1 this).2.1
theorem Tst_length : ∀ i, (Tst es i).length ≤ i
  | 0 => Nat.le_refl _
  | i + 1 => by
    rw [Tst_succ, List.length_cons]
    obtain ⟨p, hp⟩ := pops_suffix es i
    have := Tst_length i
    rw [hp, List.length_append] at this
    omega
theorem pops_length (i : Nat) : (pops es i).length ≤ i := by
  obtain ⟨p, hp⟩ := pops_suffix es i
  have := Tst_length es i
  rw [hp, List.length_append] at this
  omega
/-- The levels are as many as are open. -/
theorem lev2_get : ∀ (d i j : Nat), i + d = es.length → j < d → (lev2 ((Tst es i).map (·.2)) i (es.drop i))[j]? = some (pops es (i + j)).length
  | 0, i, j, hi, hj => by omega
  | d + 1, i, j, hi, hj => by
    have hd : es.drop i = es.getD i 0 :: es.drop (i + 1) := by
      rw [List.getD_eq_getElem?_getD, List.getElem?_eq_getElem (by omega)]
      exact List.drop_eq_getElem_cons (by omega)
    have hw : ((Tst es i).map (·.2)).dropWhile (· ≤ i) = (pops es i).map (·.2) := by
      unfold pops
      rw [List.dropWhile_map]
      rfl
    rw [hd, lev2, hw, List.length_map]
    cases j with
    | zero => simp
    | succ j =>
      have ih := lev2_get d (i + 1) j (by omega) (by omega)
      rw [Tst_succ, List.map_cons] at ih
      rw [List.getElem?_cons_succ, ih, show i + 1 + j = i + (j + 1) by omega]
end
theorem rd_set (x : List Int) (j k : Nat) (v : Int) (hj : j < x.length) : rd (x.set j v) (k : Int) = if k = j then v else rd x (k : Int) := by
  unfold rd
  rw [Int.toNat_natCast, List.getD_eq_getElem?_getD, List.getD_eq_getElem?_getD]
  by_cases e : k = j
  · subst e
    rw [List.getElem?_set_self hj, if_pos rfl]
    rfl
  · rw [List.getElem?_set_ne (fun h => e h.symm), if_neg e]
theorem wrap_of {i : Int} (h0 : -9223372036854775808 ≤ i) (h1 : i ≤ 9223372036854775807) : wrap64 i = i := by
  unfold wrap64
  omega
def way (es : List Nat) (i : Nat) : List Int := ((Tst es i).map (fun a => (a.1 : Int))).reverse
theorem way_take (es : List Nat) (i : Nat) : (way es i).take (pops es i).length = ((pops es i).map (fun a => (a.1 : Int))).reverse := by
  obtain ⟨p, hp⟩ := pops_suffix es i
  unfold way
  conv => lhs; rw [hp]
  rw [List.map_append, List.reverse_append, List.take_left' (by simp)]
theorem way_next (es : List Nat) (i : Nat) : (way es i).take (pops es i).length ++ [(i : Int)] = way es (i + 1) := by
  rw [way_take, way, Tst_succ, List.map_cons, List.reverse_cons]
theorem above_l0 (es : List Nat) (lv : List Int) (n : Nat) (hn : n ≤ 2097152) (hlv : lv.length = n) (hl : ∀ j, j < n → rd lv (j : Int) = ((pops es j).length : Int)) : ∀ d k i (x3 : List Int), i + d = n → d < k → x3.length = n → (∀ j, j < i → rd x3 (j : Int) = AB es j) →
    ∃ r, dowelref12_Above.l0 k lv x3 (way es i) (i : Int) = some r ∧ r.length = n ∧ ∀ j, j < n → rd r (j : Int) = AB es j
  | 0, k, i, x3, hi, hk, hx, hp => by
    obtain ⟨k, rfl⟩ : ∃ m, k = m + 1 := ⟨k - 1, by omega⟩
    rw [dowelref12_Above.l0, if_neg (by omega)]
    exact ⟨x3, rfl, hx, fun j hj => hp j (by omega)⟩
  | d + 1, k, i, x3, hi, hk, hx, hp => by
    obtain ⟨k, rfl⟩ : ∃ m, k = m + 1 := ⟨k - 1, by omega⟩
    have hL := hl i (by omega)
    have hpl := pops_length es i
    have hwl : (way es i).length = (Tst es i).length := by simp [way]
    have hsuf : (pops es i).length ≤ (way es i).length := by
      obtain ⟨p, hp2⟩ := pops_suffix es i
      rw [hwl, hp2, List.length_append]; omega
    rw [dowelref12_Above.l0, if_pos (by omega), if_pos (by omega), hL, if_pos (by omega), if_pos (by omega), Option.bind_some, Int.toNat_natCast, if_pos (by rw [List.length_take]; omega), Option.bind_some, way_next, if_pos (by omega), Option.bind_some, Int.toNat_natCast]
    have hrec : ∀ y3 : List Int, y3.length = n → (∀ j, j < i + 1 → rd y3 (j : Int) = AB es j) → ∃ r, dowelref12_Above.l0 k lv y3 (way es (i + 1)) (wrap64 ((i : Int) + 1)) = some r ∧ r.length = n ∧ ∀ j, j < n → rd r (j : Int) = AB es j := fun y3 h1 h2 => by
      rw [wrap_of (by omega) (by omega)]
      exact above_l0 es lv n hn hlv hl d k (i + 1) y3 (by omega) (by omega) h1 h2
    by_cases hz : (pops es i).length = 0
    · rw [if_neg (by omega)]
      refine hrec _ (by rw [List.length_set]; exact hx) (fun j hj => ?_)
      rw [rd_set _ _ _ _ (by omega)]
      by_cases e : j = i
      · subst e
        rw [if_pos rfl, AB, List.eq_nil_of_length_eq_zero hz]
      · rw [if_neg e]; exact hp j (by omega)
    · obtain ⟨a, t, hat⟩ : ∃ a t, pops es i = a :: t := by
        cases h : pops es i with
        | nil => rw [h] at hz; simp at hz
        | cons a t => exact ⟨a, t, rfl⟩
      have hln : (pops es i).length = t.length + 1 := by rw [hat]; rfl
      have hw1 : (way es (i + 1)).length = t.length + 2 := by rw [way, Tst_succ, hat]; simp
      have hrd : rd (way es (i + 1)) (t.length : Int) = (a.1 : Int) := by
        unfold rd
        rw [Int.toNat_natCast, List.getD_eq_getElem?_getD, way, Tst_succ, hat, List.map_cons, List.map_cons, List.reverse_cons, List.reverse_cons, List.append_assoc, List.getElem?_append_right (by simp)]
        simp
      rw [if_pos (by omega), hln, show wrap64 (((t.length + 1 : Nat) : Int) - 1) = (t.length : Int) by rw [wrap_of (by omega) (by omega)]; omega, if_pos (by omega), if_pos (by omega), hrd]
      refine hrec _ (by rw [List.length_set, List.length_set]; exact hx) (fun j hj => ?_)
      rw [rd_set _ _ _ _ (by rw [List.length_set]; omega)]
      by_cases e : j = i
      · subst e
        rw [if_pos rfl, AB, hat]
      · rw [if_neg e, rd_set _ _ _ _ (by omega), if_neg e]; exact hp j (by omega)
def room (f : List S60) (last : List Int) (a : Nat × Nat) : Rm := ((a.2 : Int), (rd_T60 f (a.1 : Int)).f2, max (rd_T60 f (a.1 : Int)).f1 (rd last ((a.1 + 1 : Nat) : Int)))
/-- The rooms that are open ahead of node i. -/
def rooms (f : List S60) (size : Int) (es : List Nat) (last : List Int) (i : Nat) : List Rm := (Tst es i).map (room f last) ++ [((f.length : Int), size, max 0 (rd last 0))]
theorem rooms_pop (f : List S60) (size : Int) (es : List Nat) (last : List Int) (i : Nat) (hi : i < f.length) : (rooms f size es last i).dropWhile (fun r => decide (r.1 ≤ (i : Int))) = (pops es i).map (room f last) ++ [((f.length : Int), size, max 0 (rd last 0))] := by
  unfold rooms
  obtain ⟨p, hp⟩ : ∃ p, p = Tst es i := ⟨_, rfl⟩
  unfold pops
  rw [← hp]
  clear hp
  induction p with
  | nil => rw [List.map_nil, List.nil_append, List.dropWhile_cons_of_neg (by simp; omega)]; rfl
  | cons a p ih =>
    rw [List.map_cons, List.cons_append]
    by_cases h : a.2 ≤ i
    · rw [List.dropWhile_cons_of_pos (by simpa [room] using h), ih, List.dropWhile_cons_of_pos (by simpa using h)]
    · rw [List.dropWhile_cons_of_neg (by simpa [room] using h), List.dropWhile_cons_of_neg (by simpa using h)]
      rfl
theorem room_keep (f : List S60) (last : List Int) (p : Nat) (v : Int) (hp : p < last.length) (a : Nat × Nat) (h : a.1 + 1 ≠ p) : room f (last.set p v) a = room f last a := by
  unfold room
  rw [rd_set _ _ _ _ hp, if_neg h]
theorem right_l0 (f : List S60) (size : Int) (hs : 0 ≤ size) (es : List Nat) (M : Nat) (hM : ∀ x ∈ f, x.f0.size ≤ M) (hM2 : M ≤ 1073741824) (hn : f.length ≤ 2097152) (abv l : List Int) (hal : abv.length = f.length) (ha : ∀ j, j < f.length → rd abv (j : Int) = AB es j) (hl : ∀ j, j < f.length → rd l (j : Int) = ((es.getD j 0 : Nat) : Int)) :
    ∀ d i k (last : List Int), i + d = f.length → 2 * d + M + 5 < k → last.length = f.length + 1 → (∀ a ∈ Tst es i, 0 ≤ (rd_T60 f (a.1 : Int)).f1 ∧ (rd_T60 f (a.1 : Int)).f2 ≤ size) → (∀ j, i ≤ j → j < f.length → rd last ((j + 1 : Nat) : Int) = 0) →
    dowelref12_right.l0 k f size abv last (i : Int) = some (nst Own.nameOk f l d i (rooms f size es last i))
  | 0, i, k, last, hi, hk, hll, hg, hz => by
    obtain ⟨k, rfl⟩ : ∃ m, k = m + 1 := ⟨k - 1, by omega⟩
    rw [dowelref12_right.l0, if_neg (by omega), nst]
  | d + 1, i, k, last, hi, hk, hll, hg, hz => by
    obtain ⟨k, rfl⟩ : ∃ m, k = m + 1 + 1 := ⟨k - 2, by omega⟩
    have hlt : i < f.length := by omega
    have hmem := rd_mem f i hlt
    have hown := Own.refOwn_eq (rd_T60 f (i : Int)).f0 (by have := hM _ hmem; omega) (k + 1) (by have := hM _ hmem; omega)
    rw [dowelref12_right.l0, if_pos (by omega), if_pos (by omega), hown, Option.bind_some, nst, rooms_pop f size es last i hlt]
    have hab := ha i hlt
    have hpop_mem : ∀ a ∈ pops es i, a ∈ Tst es i := fun a h => by
      obtain ⟨p, hp⟩ := pops_suffix es i
      rw [hp]
      exact List.mem_append_right _ h
    have hrec : ∀ (p : Nat) (v : Int), p < f.length + 1 → p ≤ i → v = (rd_T60 f (i : Int)).f2 → 0 ≤ (rd_T60 f (i : Int)).f1 → (rd_T60 f (i : Int)).f1 ≤ (rd_T60 f (i : Int)).f2 → (rd_T60 f (i : Int)).f2 ≤ size →
        dowelref12_right.l0 k f size abv (last.set p v) (wrap64 ((i : Int) + 1)) = some (nst Own.nameOk f l d (i + 1) (rooms f size es (last.set p v) (i + 1))) := fun p v hp hpi hv h1 h2 h3 => by
      rw [wrap_of (by omega) (by omega)]
      refine right_l0 f size hs es M hM hM2 hn abv l hal ha hl d (i + 1) k (last.set p v) (by omega) (by omega) (by rw [List.length_set]; exact hll) (fun a hA => ?_) (fun j hj hj2 => ?_)
      · rw [Tst_succ] at hA
        rcases List.mem_cons.1 hA with rfl | hA
        · exact ⟨h1, h3⟩
        · exact hg a (hpop_mem a hA)
      · rw [rd_set _ _ _ _ (by omega), if_neg (by omega)]
        exact hz j (by omega) hj2
    have hroom : ∀ (p : Nat) (v : Int), p < f.length + 1 → p ≤ i → 0 ≤ (rd_T60 f (i : Int)).f1 → room f (last.set p v) (i, es.getD i 0) = (rd l (i : Int), (rd_T60 f (i : Int)).f2, (rd_T60 f (i : Int)).f1) := fun p v hp hpi h1 => by
      unfold room
      rw [rd_set _ _ _ _ (by omega), if_neg (by show ¬ i + 1 = p; omega), hz i (Nat.le_refl _) hlt, hl i hlt]
      show (_, _, max _ 0) = _
      rw [Int.max_eq_left h1]
    cases hat : pops es i with
    | nil =>
      rw [List.map_nil, List.nil_append]
      have hAB : AB es i = -1 := by unfold AB; rw [hat]
      rw [hAB] at hab
      dsimp only
      cases ho : Own.nameOk (rd_T60 f (i : Int)).f0 with
      | false => rw [if_neg (show ¬ (false = true) by simp), dowelref12_right.j1, if_pos rfl, if_pos rfl]
      | true =>
        rw [if_pos rfl, if_neg (show ¬ (true = false) by simp)]
        by_cases h1 : (rd_T60 f (i : Int)).f1 < 0
        · rw [if_pos h1, dowelref12_right.j1, if_pos rfl, if_pos (by omega)]
        · rw [if_neg h1]
          by_cases h2 : (rd_T60 f (i : Int)).f2 < (rd_T60 f (i : Int)).f1
          · rw [if_pos h2, dowelref12_right.j1, if_pos rfl]
            by_cases h3 : (rd_T60 f (i : Int)).f1 < max 0 (rd last 0)
            · rw [if_pos h3]
            · rw [if_neg h3, if_pos h2]
          · rw [if_neg h2]
            by_cases h3 : (rd_T60 f (i : Int)).f2 > size
            · rw [dowelref12_right.j1, if_pos (by simpa using h3)]
              by_cases h4 : (rd_T60 f (i : Int)).f1 < max 0 (rd last 0)
              · rw [if_pos h4]
              · rw [if_neg h4, if_neg h2, if_pos h3]
            · rw [dowelref12_right.j1, if_neg (by simpa using h3), if_pos (by omega), if_pos (by omega), hab, show wrap64 (-1 + 1) = 0 from wrap_of (by omega) (by omega), if_neg (by omega), if_pos (by omega), if_pos (by omega)]
              by_cases h4 : (rd_T60 f (i : Int)).f1 < rd last 0
              · rw [if_pos h4, if_pos (by omega)]
              · rw [if_neg h4, if_neg (by omega), if_neg h2, if_neg h3]
                have hr := hrec 0 _ (by omega) (Nat.zero_le _) rfl (by omega) (by omega) (by omega)
                rw [show ((0 : Int)).toNat = 0 from rfl, hr]
                unfold rooms
                rw [Tst_succ, hat, List.map_cons, hroom 0 _ (by omega) (Nat.zero_le _) (by omega), List.map_nil, show (0 : Int) = ((0 : Nat) : Int) from rfl, rd_set _ _ _ _ (by omega), if_pos rfl, show ((0 : Nat) : Int) = 0 from rfl, Int.max_eq_right (by omega)]
                rfl
    | cons a t =>
      have hAB : AB es i = (a.1 : Int) := by unfold AB; rw [hat]
      rw [hAB] at hab
      have hai := pops_lt es i a (by rw [hat]; exact List.mem_cons_self ..)
      obtain ⟨g1, g2⟩ := hg a (hpop_mem a (by rw [hat]; exact List.mem_cons_self ..))
      rw [List.map_cons, List.cons_append]
      have hr1 : (room f last a).2.1 = (rd_T60 f (a.1 : Int)).f2 := rfl
      have hr2 : (room f last a).2.2 = max (rd_T60 f (a.1 : Int)).f1 (rd last ((a.1 + 1 : Nat) : Int)) := rfl
      have hr0 : (room f last a).1 = (a.2 : Int) := rfl
      dsimp only
      rw [hr1, hr2, hr0]
      cases ho : Own.nameOk (rd_T60 f (i : Int)).f0 with
      | false => rw [if_neg (show ¬ (false = true) by simp), dowelref12_right.j1, if_pos rfl, if_pos rfl]
      | true =>
        rw [if_pos rfl, if_neg (show ¬ (true = false) by simp)]
        by_cases h1 : (rd_T60 f (i : Int)).f1 < 0
        · rw [if_pos h1, dowelref12_right.j1, if_pos rfl, if_pos (by omega)]
        · rw [if_neg h1]
          by_cases h2 : (rd_T60 f (i : Int)).f2 < (rd_T60 f (i : Int)).f1
          · rw [if_pos h2, dowelref12_right.j1, if_pos rfl]
            by_cases h3 : (rd_T60 f (i : Int)).f1 < max (rd_T60 f (a.1 : Int)).f1 (rd last ((a.1 + 1 : Nat) : Int))
            · rw [if_pos h3]
            · rw [if_neg h3, if_pos h2]
          · rw [if_neg h2]
            by_cases h3 : (rd_T60 f (i : Int)).f2 > size
            · rw [dowelref12_right.j1, if_pos (by simpa using h3)]
              by_cases h4 : (rd_T60 f (i : Int)).f1 < max (rd_T60 f (a.1 : Int)).f1 (rd last ((a.1 + 1 : Nat) : Int))
              · rw [if_pos h4]
              · rw [if_neg h4, if_neg h2, if_pos (by omega)]
            · rw [dowelref12_right.j1, if_neg (by simpa using h3), if_pos (by omega), if_pos (by omega), hab, wrap_of (i := (a.1 : Int) + 1) (by omega) (by omega), if_pos (by omega), show wrap64 ((a.1 : Int) + 1 - 1) = (a.1 : Int) by rw [wrap_of (by omega) (by omega)]; omega, if_pos (by omega), if_pos (by omega)]
              by_cases h5 : (rd_T60 f (i : Int)).f1 < (rd_T60 f (a.1 : Int)).f1
              · rw [if_pos h5, if_pos (by omega)]
              · rw [if_neg h5]
                by_cases h6 : (rd_T60 f (i : Int)).f2 > (rd_T60 f (a.1 : Int)).f2
                · rw [if_pos h6]
                  by_cases h4 : (rd_T60 f (i : Int)).f1 < max (rd_T60 f (a.1 : Int)).f1 (rd last ((a.1 + 1 : Nat) : Int))
                  · rw [if_pos h4]
                  · rw [if_neg h4, if_neg h2, if_pos h6]
                · rw [if_neg h6, if_pos (by omega), if_pos (by omega), show (a.1 : Int) + 1 = ((a.1 + 1 : Nat) : Int) from rfl]
                  by_cases h4 : (rd_T60 f (i : Int)).f1 < rd last ((a.1 + 1 : Nat) : Int)
                  · rw [if_pos h4, if_pos (by omega)]
                  · rw [if_neg h4, if_neg (by omega), if_neg h2, if_neg h6, Int.toNat_natCast]
                    have hr := hrec (a.1 + 1) _ (by omega) (by omega) rfl (by omega) (by omega) (by omega)
                    rw [hr]
                    have hpw := pops_pw es i
                    rw [hat, List.pairwise_cons] at hpw
                    have ht : t.map (room f (last.set (a.1 + 1) (rd_T60 f (i : Int)).f2)) = t.map (room f last) := List.map_congr_left fun b hb => room_keep f last _ _ (by omega) b (by have := hpw.1 b hb; omega)
                    have hra : room f (last.set (a.1 + 1) (rd_T60 f (i : Int)).f2) a = ((a.2 : Int), (rd_T60 f (a.1 : Int)).f2, (rd_T60 f (i : Int)).f2) := by
                      unfold room
                      rw [rd_set _ _ _ _ (by omega), if_pos rfl, Int.max_eq_right (by omega)]
                    unfold rooms
                    rw [Tst_succ, hat, List.map_cons, hroom (a.1 + 1) _ (by omega) (by omega) (by omega), List.map_cons, ht, hra, show (0 : Int) = ((0 : Nat) : Int) from rfl, rd_set _ _ _ _ (by omega), if_neg (by omega)]
                    rfl
end Go.Proofs.YtloflodbcdlmpaaDoor.Right
