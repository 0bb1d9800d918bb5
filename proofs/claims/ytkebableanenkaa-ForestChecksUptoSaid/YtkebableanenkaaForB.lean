/- forest.ends and the document's Ends, as they are printed, in the plain terms of ForA. Conditions: a list of at most 2^21 nodes. -/
import Derived.Test.YtkebableanenkaaForA
import Derived.Test.YtkebableanenkaaQallx4
namespace Go.Proofs.Ytkebableanenkaa.Fo
open Go.RowKit Go.Proofs.Ytkebableanenkaa.Qall Go.Proofs.YtkebableanenkaaW.PrintWords Go.Proofs.YtkebableanenkaaW.PrintLast Go.Proofs.YtkebableanenkaaW.PrintMore
set_option linter.unusedSimpArgs false
set_option linter.unusedVariables false
theorem wrap_of {i : Int} (h0 : -9223372036854775808 ≤ i) (h1 : i ≤ 9223372036854775807) : wrap64 i = i := by
  unfold wrap64
  omega
/-- The counts of kids. -/
def K (f : List S34) : List Int := f.map (·.f3)
theorem K_length (f : List S34) : (K f).length = f.length := List.length_map ..
/-- The places behind the extents; z: there is none. -/
def absZ (z : Int) : List (Option Nat) → Nat → List Int
  | [], _ => []
  | o :: t, i => (match o with | none => z | some m => ((i + m : Nat) : Int)) :: absZ z t (i + 1)
theorem absZ_length (z : Int) (es : List (Option Nat)) (i : Nat) : (absZ z es i).length = es.length := by
  induction es generalizing i with
  | nil => rfl
  | cons o t ih => simp [absZ, ih]
def val (z : Int) (i : Nat) : Option Nat → Int
  | none => z
  | some m => ((i + m : Nat) : Int)
theorem absZ_get (z : Int) (es : List (Option Nat)) (i j : Nat) (h : j < es.length) : (absZ z es i).getD j 0 = val z (i + j) (hd (es.drop j)) := by
  induction es generalizing i j with
  | nil => simp at h
  | cons o t ih =>
    cases j with
    | zero => cases o <;> simp [absZ, val, hd]
    | succ j =>
      have := ih (i + 1) j (by simpa using h)
      simp only [absZ, List.getD_cons_succ, List.drop_succ_cons]
      rw [this, show i + 1 + j = i + (j + 1) by omega]
theorem rd_f3 (f : List S34) (j : Nat) (h : j < f.length) : (rd_T34 f (j : Int)).f3 = (K f)[j]'(by rw [K_length]; exact h) := by
  unfold rd_T34 K
  rw [Int.toNat_natCast, List.getD_eq_getElem?_getD, List.getElem?_eq_getElem h]
  simp
theorem ex_at (c : List Int) (j : Nat) (h : j < c.length) : (ex c).drop j = (if c[j] < 0 then none else (jump c[j].toNat ((ex c).drop (j + 1))).map (· + 1)) :: (ex c).drop (j + 1) := by
  rw [← ex_drop, ← ex_drop]
  have : c.drop j = c[j] :: c.drop (j + 1) := List.drop_eq_getElem_cons h
  rw [this, ex]
/-- The list as it is filled from behind. -/
def filled (z : Int) (f : List S34) (i : Nat) : List Int := List.replicate i 0 ++ absZ z ((ex (K f)).drop i) i
theorem filled_length (z : Int) (f : List S34) (i : Nat) (h : i ≤ f.length) : (filled z f i).length = f.length := by
  unfold filled
  rw [List.length_append, List.length_replicate, absZ_length, List.length_drop, ex_length, K_length]
  omega
theorem filled_get (z : Int) (f : List S34) (i j : Nat) (h : i ≤ j) (hj : j < f.length) : rd (filled z f i) (j : Int) = val z j (hd ((ex (K f)).drop j)) := by
  unfold rd filled
  have e : ∀ L : List Int, (List.replicate i 0 ++ L).getD j 0 = L.getD (j - i) 0 := fun L => by
    rw [List.getD_eq_getElem?_getD, List.getElem?_append_right (by simpa using h), List.length_replicate, ← List.getD_eq_getElem?_getD]
  rw [Int.toNat_natCast, e, absZ_get _ _ _ _ (by rw [List.length_drop, ex_length, K_length]; omega), List.drop_drop, show i + (j - i) = j by omega]
theorem filled_set (z : Int) (f : List S34) (i : Nat) (hi : i < f.length) (v : Int) (hv : v = val z i (hd ((ex (K f)).drop i))) : (filled z f (i + 1)).set ((i : Int)).toNat v = filled z f i := by
  have hK : i < (K f).length := by rw [K_length]; exact hi
  unfold filled
  rw [Int.toNat_natCast, List.replicate_succ', List.append_assoc, List.set_append_right _ _ (by simp), List.length_replicate, Nat.sub_self, List.singleton_append, List.set_cons_zero]
  rw [ex_at _ _ hK] at hv ⊢
  rw [hv]
  rfl
theorem filled_all (z : Int) (f : List S34) : filled z f f.length = List.replicate f.length 0 := by
  unfold filled
  rw [List.drop_eq_nil_of_le (by rw [ex_length, K_length]; exact Nat.le_refl _)]
  simp [absZ]
theorem filled_zero (z : Int) (f : List S34) : filled z f 0 = absZ z (ex (K f)) 0 := by simp [filled]
/-- Where the kids of node j stand, after q of them. -/
def cur (f : List S34) (j q : Nat) : Int := val (-1) (j + 1) (jump q ((ex (K f)).drop (j + 1)))
theorem hd_at (f : List S34) (j : Nat) (hj : j < f.length) (x : Int) (hx : (K f)[j]'(by rw [K_length]; exact hj) = x) : hd ((ex (K f)).drop j) = if x < 0 then none else (jump x.toNat ((ex (K f)).drop (j + 1))).map (· + 1) := by
  rw [ex_at (K f) j (by rw [K_length]; exact hj), hd, hx]
theorem ends_fin (f : List S34) (j : Nat) (hj : j < f.length) (hn : f.length ≤ 2097152) (r : List Int) (hr : ∃ k, forest_ends.l0 k f (filled (-1) f j) ((j : Int) - 1) = some r) (q v : Int) (hv : v = val (-1) j (hd ((ex (K f)).drop j))) :
    ∃ k, forest_ends.j4 k f (filled (-1) f (j + 1)) (j : Int) v q false = some r := by
  obtain ⟨k, hk⟩ := hr
  refine ⟨k + 1, ?_⟩
  rw [forest_ends.j4, if_neg (by simp), if_pos (by omega), if_pos (by rw [filled_length _ _ _ (by omega)]; omega), filled_set _ _ _ hj _ hv, wrap_of (by omega) (by omega)]
  exact hk
theorem ends_l1 (f : List S34) (hn : f.length ≤ 2097152) (j : Nat) (hj : j < f.length) (r : List Int) (hr : ∃ k, forest_ends.l0 k f (filled (-1) f j) ((j : Int) - 1) = some r) (x : Nat) (hx : (K f)[j]'(by rw [K_length]; exact hj) = (x : Int)) (hxn : x ≤ f.length) :
    ∀ d q, q + d = x → ∃ k, forest_ends.l1 k f (filled (-1) f (j + 1)) (j : Int) (cur f j q) (q : Int) = some r
  | d, q, hq => by
    have hel : ((ex (K f)).drop (j + 1)).length = f.length - (j + 1) := by rw [List.length_drop, ex_length, K_length]
    have hh := hd_at f j hj (x : Int) hx
    rw [if_neg (by omega), Int.toNat_natCast] at hh
    have hstart : ∀ k, forest_ends.l1 (k + 1) f (filled (-1) f (j + 1)) (j : Int) (cur f j q) (q : Int) = if (q : Int) < (x : Int) then (forest_ends.j4 k f (filled (-1) f (j + 1)) (j : Int) (cur f j q) (q : Int) (decide (cur f j q ≥ 0))) else (forest_ends.j4 k f (filled (-1) f (j + 1)) (j : Int) (cur f j q) (q : Int) false) := fun k => by
      rw [forest_ends.l1, if_pos (by omega), if_pos (by omega), rd_f3 f j hj, hx]
    cases hjq : jump q ((ex (K f)).drop (j + 1)) with
    | none =>
      have hc : cur f j q = -1 := by unfold cur; rw [hjq]; rfl
      obtain ⟨k, hk⟩ := ends_fin f j hj hn r hr (q : Int) (-1) (by rw [hh, jump_none_of_lt hjq (show q ≤ x by omega)]; rfl)
      refine ⟨k + 1, ?_⟩
      rw [hstart, hc]
      split <;> exact hk
    | some m =>
      have hm := jump_bounds q (ex_wf (K f) |>.drop (j + 1)) hjq
      have hc : cur f j q = ((j + 1 + m : Nat) : Int) := by unfold cur; rw [hjq]; rfl
      cases d with
      | zero =>
        obtain rfl : q = x := by omega
        obtain ⟨k, hk⟩ := ends_fin f j hj hn r hr (q : Int) ((j + 1 + m : Nat) : Int) (by rw [hh, hjq]; simp [val]; omega)
        refine ⟨k + 1, ?_⟩
        rw [hstart, if_neg (by omega), hc]
        exact hk
      | succ d =>
        obtain ⟨k, hk⟩ := ends_l1 f hn j hj r hr x hx hxn d (q + 1) (by omega)
        refine ⟨k + 2, ?_⟩
        rw [hstart, if_pos (by omega), hc, forest_ends.j4, if_pos (by simp; omega), wrap_of (by omega) (by omega)]
        have hsn := jump_snoc q ((ex (K f)).drop (j + 1))
        rw [hjq, Option.bind_some, List.drop_drop] at hsn
        by_cases hge : f.length ≤ j + 1 + m
        · rw [if_pos (by omega)]
          have e : hd ((ex (K f)).drop (j + 1 + m)) = none := by rw [List.drop_eq_nil_of_le (by rw [ex_length, K_length]; exact hge)]; rfl
          rw [e] at hsn
          have : cur f j (q + 1) = -1 := by unfold cur; rw [hsn]; rfl
          rw [this] at hk
          exact hk
        · rw [if_neg (by omega), if_pos (by omega), if_pos (by rw [filled_length _ _ _ (by omega)]; omega), filled_get _ _ _ _ (by omega) (by omega)]
          have : cur f j (q + 1) = val (-1) (j + 1 + m) (hd ((ex (K f)).drop (j + 1 + m))) := by
            unfold cur
            rw [hsn]
            cases hd ((ex (K f)).drop (j + 1 + m)) <;> simp [val]
            omega
          rw [← this]
          exact hk
theorem ends_l0 (f : List S34) (hn : f.length ≤ 2097152) : ∀ i, i ≤ f.length → ∃ k, forest_ends.l0 k f (filled (-1) f i) ((i : Int) - 1) = some (filled (-1) f 0)
  | 0, _ => ⟨1, by rw [forest_ends.l0, if_neg (by omega)]⟩
  | j + 1, hi => by
    have ih := ends_l0 f hn j (by omega)
    have hj : j < f.length := by omega
    obtain ⟨x, hx⟩ : ∃ x, (K f)[j]'(by rw [K_length]; exact hj) = x := ⟨_, rfl⟩
    have hel : ((ex (K f)).drop (j + 1)).length = f.length - (j + 1) := by rw [List.length_drop, ex_length, K_length]
    have hh := hd_at f j hj x hx
    have e1 : ((j + 1 : Nat) : Int) - 1 = (j : Int) := by omega
    by_cases h0 : x < 0
    · rw [if_pos h0] at hh
      obtain ⟨k, hk⟩ := ends_fin f j hj hn _ ih 0 (-1) (by rw [hh]; rfl)
      refine ⟨k + 4, ?_⟩
      rw [e1, forest_ends.l0, if_pos (by omega), if_pos (by omega), if_pos (by omega), rd_f3 f j hj, hx, if_pos h0, forest_ends.j1, if_pos rfl, forest_ends.j2, forest_ends.l1, if_pos (by omega), if_pos (by omega), rd_f3 f j hj, hx, if_neg (by omega)]
      exact hk
    · rw [if_neg h0] at hh
      by_cases h1 : x > (f.length : Int) - 1 - j
      · obtain ⟨k, hk⟩ := ends_fin f j hj hn _ ih 0 (-1) (by
          cases hj2 : jump x.toNat ((ex (K f)).drop (j + 1)) with
          | none => rw [hh, hj2]; rfl
          | some m =>
            have := jump_bounds _ (ex_wf (K f) |>.drop (j + 1)) hj2
            omega)
        refine ⟨k + 4, ?_⟩
        rw [e1, forest_ends.l0, if_pos (by omega), if_pos (by omega), if_pos (by omega), rd_f3 f j hj, hx, if_neg h0, wrap_of (i := (f.length : Int) - 1) (by omega) (by omega), wrap_of (i := (f.length : Int) - 1 - j) (by omega) (by omega), forest_ends.j1, if_pos (by simpa using h1), forest_ends.j2, forest_ends.l1, if_pos (by omega), if_pos (by omega), rd_f3 f j hj, hx]
        split <;> exact hk
      · obtain ⟨k, hk⟩ := ends_l1 f hn j hj _ ih x.toNat (by rw [hx]; omega) (by omega) x.toNat 0 (by omega)
        have hc : cur f j 0 = (j : Int) + 1 := by simp [cur, jump, val]
        rw [hc] at hk
        refine ⟨k + 3, ?_⟩
        rw [e1, forest_ends.l0, if_pos (by omega), if_pos (by omega), if_pos (by omega), rd_f3 f j hj, hx, if_neg h0, wrap_of (i := (f.length : Int) - 1) (by omega) (by omega), wrap_of (i := (f.length : Int) - 1 - j) (by omega) (by omega), wrap_of (i := (j : Int) + 1) (by omega) (by omega), forest_ends.j1, if_neg (by simpa using h1), forest_ends.j2]
        exact hk
theorem ends_ev (f : List S34) (hn : f.length ≤ 2097152) : Ev (fun k => forest_ends.f k f) (absZ (-1) (ex (K f)) 0) := by
  obtain ⟨k, hk⟩ := ends_l0 f hn f.length (Nat.le_refl _)
  refine Ev.of (fun k => forest_ends.mono f k) (k := k) ?_
  rw [filled_zero] at hk
  unfold forest_ends.f
  rw [if_pos (by omega), if_pos (by omega), Int.toNat_natCast, wrap_of (by omega) (by omega), ← filled_all (-1) f]
  exact hk
end Go.Proofs.Ytkebableanenkaa.Fo
