/- forest.levels, as it is printed, tells the levels by counts. Conditions: a list of at most 2^21 nodes that is a forest by its counts. -/
import Derived.Test.YtkebableanenkaaForE
import Derived.Test.YtkebableanenkaaQallx12
namespace Go.Proofs.Ytkebableanenkaa.Fo
open Go.RowKit Go.Proofs.Ytkebableanenkaa.Qall Go.Proofs.YtkebableanenkaaW.PrintWords Go.Proofs.YtkebableanenkaaW.PrintLast Go.Proofs.YtkebableanenkaaW.PrintMore
set_option linter.unusedSimpArgs false
set_option linter.unusedVariables false
def toI (l : List Nat) : List Int := l.map (fun n : Nat => (n : Int))
theorem toI_length (l : List Nat) : (toI l).length = l.length := List.length_map ..
theorem flev_l0 (es : List Nat) (f : List S34) (hn : es.length ≤ 2097152) (hb : ∀ e ∈ es, e ≤ 2097152) : ∀ d i, i + d = es.length → ∀ (lv : List Int) (st : List Nat), lv.length = es.length → st.length ≤ i →
    ∃ k, forest_levels.l0 k (toI es) lv (toI st.reverse) (es.length : Int) (i : Int) = some (lv.take i ++ toI (lev2 st i (es.drop i)))
  | 0, i, hd, lv, st, hlv, hst => by
    refine ⟨1, ?_⟩
    rw [forest_levels.l0, if_neg (by omega), List.drop_eq_nil_of_le (by omega), lev2, List.take_of_length_le (by omega)]
    simp [toI]
  | d + 1, i, hd, lv, st, hlv, hst => by
    have hi : i < es.length := by omega
    have hte : (toI es).length = es.length := toI_length es
    have hrd : rd (toI es) (i : Int) = ((es[i] : Nat) : Int) := by
      unfold rd toI
      rw [Int.toNat_natCast, List.getD_eq_getElem?_getD, List.getElem?_map, List.getElem?_eq_getElem hi]
      rfl
    have hdr : es.drop i = es[i] :: es.drop (i + 1) := List.drop_eq_getElem_cons hi
    have fin_ : ∀ st2 : List Nat, st2.length ≤ i → st2 = st.dropWhile (· ≤ i) → ∃ k, forest_levels.l0 k (toI es) (lv.set (i : Int).toNat ((toI st2.reverse).length : Int)) (toI st2.reverse ++ [rd (toI es) (i : Int)]) (es.length : Int) (wrap64 ((i : Int) + 1)) = some (lv.take i ++ toI (lev2 st i (es.drop i))) := fun st2 h2 h3 => by
      obtain ⟨k, hk⟩ := flev_l0 es f hn hb d (i + 1) (by omega) (lv.set i (st2.length : Int)) (es[i] :: st2) (by simp [hlv]) (by simp; omega)
      refine ⟨k, ?_⟩
      rw [toI_length, List.length_reverse, Int.toNat_natCast, hrd, wrap_of (by omega) (by omega)]
      have e1 : toI st2.reverse ++ [((es[i] : Nat) : Int)] = toI (es[i] :: st2).reverse := by simp [toI]
      rw [e1, show (i : Int) + 1 = ((i + 1 : Nat) : Int) by omega, hk, set_take _ _ _ (by omega), hdr, lev2, ← h3]
      simp [toI]
    suffices hl1 : ∀ (st2 : List Nat), st2.length ≤ i → st2.dropWhile (· ≤ i) = st.dropWhile (· ≤ i) → ∃ k, forest_levels.l1 k (toI es) lv (toI st2.reverse) (i : Int) (es.length : Int) (i : Int) = some (lv.take i ++ toI (lev2 st i (es.drop i))) by
      obtain ⟨k, hk⟩ := hl1 st hst rfl
      refine ⟨k + 1, ?_⟩
      rw [forest_levels.l0, if_pos (by omega)]
      exact hk
    intro st2
    induction st2 with
    | nil =>
      intro h2 h3
      obtain ⟨k, hk⟩ := fin_ [] (by simp) h3
      refine ⟨k + 1, ?_⟩
      rw [forest_levels.l1, if_neg (by simp [toI]), if_pos (by omega), if_pos (by omega), if_pos (by omega), if_pos (by simp [toI])]
      exact hk
    | cons e st2 ih =>
      intro h2 h3
      have hL : toI (e :: st2).reverse = toI st2.reverse ++ [(e : Int)] := by simp [toI]
      have hl2 : (toI st2.reverse).length = st2.length := by rw [toI_length, List.length_reverse]
      have hlen : (toI (e :: st2).reverse).length = st2.length + 1 := by rw [toI_length, List.length_reverse]; rfl
      simp only [List.length_cons] at h2
      have hw : wrap64 (((toI (e :: st2).reverse).length : Int) - 1) = (st2.length : Int) := by rw [hlen, wrap_of (by omega) (by omega)]; omega
      have hlast : rd (toI (e :: st2).reverse) (st2.length : Int) = (e : Int) := by
        rw [hL]
        unfold rd
        rw [Int.toNat_natCast, List.getD_eq_getElem?_getD, List.getElem?_append_right (by omega), hl2]
        simp
      by_cases he : e ≤ i
      · obtain ⟨k, hk⟩ := ih (by omega) (by rw [← h3, List.dropWhile_cons_of_pos (by simpa using he)])
        refine ⟨k + 1, ?_⟩
        rw [forest_levels.l1, if_pos (by omega), hw, if_pos (by omega), if_pos (by omega), hlast, if_pos (by omega), if_pos (by omega), Int.toNat_natCast]
        have e2 : (toI (e :: st2).reverse).take st2.length = toI st2.reverse := by rw [hL, List.take_left' hl2]
        rw [e2]
        exact hk
      · obtain ⟨k, hk⟩ := fin_ (e :: st2) (by simp; omega) (by rw [← h3, List.dropWhile_cons_of_neg (by simpa using he)])
        refine ⟨k + 1, ?_⟩
        rw [forest_levels.l1, if_pos (by omega), hw, if_pos (by omega), if_pos (by omega), hlast, if_neg (by omega), if_pos (by omega), if_pos (by omega), if_pos (by omega), if_pos (by omega)]
        exact hk
theorem absE_absZ (z : Int) : ∀ (es : List (Option Nat)) (i : Nat), (∀ o ∈ es, o ≠ none) → absZ z es i = toI (absE es i)
  | [], i, _ => rfl
  | o :: t, i, h => by
    have ih := absE_absZ z t (i + 1) (fun o ho => h o (List.mem_cons_of_mem _ ho))
    cases o with
    | none => exact absurd rfl (h none (List.mem_cons_self ..))
    | some m => rw [absZ, absE, ih]; simp [toI]
theorem absE_length (es : List (Option Nat)) (i : Nat) : (absE es i).length = es.length := by
  induction es generalizing i with
  | nil => rfl
  | cons o t ih => simp [absE, ih]
/-- In a forest each node has an extent. -/
theorem Q_all : ∀ (c : List Int) (st : List Nat), Q st (ex c) → ∀ o ∈ ex c, o ≠ none
  | [], st, _, o, ho => by simp [ex] at ho
  | x :: c, st, h, o, ho => by
    have h2 := (Q_step st x c).1 h
    have ih := Q_all c _ h2.2
    have hx : ¬ x < 0 := by omega
    rw [ex] at ho
    rcases List.mem_cons.1 ho with rfl | ho
    · rw [if_neg hx]
      obtain ⟨m, e, _⟩ := h2.2
      rw [e]
      simp
    · exact ih o ho
theorem absE_le (c : List Int) : ∀ (es : List (Option Nat)) (i : Nat), WF es → ∀ e ∈ absE es i, e ≤ i + es.length
  | [], i, _, e, he => by simp [absE] at he
  | o :: t, i, hw, e, he => by
    rw [absE] at he
    rcases List.mem_cons.1 he with rfl | he
    · cases o with
      | none => simp
      | some m => have := hw.1 m rfl; simp only [Option.getD_some, List.length_cons]; omega
    · have := absE_le c t (i + 1) hw.2 e he
      simp only [List.length_cons]
      omega
theorem flev_ev (f : List S34) (hn : f.length ≤ 2097152) (ls : List Nat) (h : mach [] (K f) = some ls) : Ev (fun k => forest_levels.f k f (absZ (-1) (ex (K f)) 0)) (toI ls) := by
  have hl : (ex (K f)).length = f.length := by rw [ex_length, K_length]
  have hQ : Q [] (ex (K f)) := (mach_iff _ _).1 (by rw [h]; rfl)
  have hA := absE_absZ (-1) (ex (K f)) 0 (Q_all _ _ hQ)
  have hal : (absE (ex (K f)) 0).length = f.length := by rw [absE_length, hl]
  have hls := mach_lev2 (K f) [] 0 ls h
  obtain ⟨k, hk⟩ := flev_l0 (absE (ex (K f)) 0) f (by omega) (fun e he => by have := absE_le (K f) _ 0 (ex_wf _) e he; omega) _ 0 (Nat.zero_add _) (List.replicate f.length 0) [] (by simp [hal]) (by simp)
  refine Ev.of (fun k => forest_levels.mono f _ k) (k := k) ?_
  unfold forest_levels.f
  rw [if_pos (by omega), if_pos (by omega), Int.toNat_natCast, hA, hls]
  rw [hal] at hk
  simpa [toI, stk] using hk
theorem rt_mach (f : List S34) : (rt f.length (ex (K f)) 0).isSome = (mach [] (K f)).isSome := by
  have h1 := mach_iff (K f) []
  have h2 := rt_iff f.length (ex (K f)) 0 (ex_wf _) (by rw [ex_length, K_length]; exact Nat.le_refl _)
  rw [Bool.eq_iff_iff, h1, h2]
  exact Iff.rfl
end Go.Proofs.Ytkebableanenkaa.Fo
