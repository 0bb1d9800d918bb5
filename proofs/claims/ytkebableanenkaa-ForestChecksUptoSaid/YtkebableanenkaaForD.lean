/- The document's Levels, as it is printed, in the plain terms of ForA. Conditions: a list of at most 2^21 nodes, whose counts of kids are Go ints. -/
import Derived.Test.YtkebableanenkaaForC
namespace Go.Proofs.Ytkebableanenkaa.Fo
open Go.RowKit Go.Proofs.Ytkebableanenkaa.Qall Go.Proofs.YtkebableanenkaaW.PrintWords Go.Proofs.YtkebableanenkaaW.PrintLast Go.Proofs.YtkebableanenkaaW.PrintMore
set_option linter.unusedSimpArgs false
set_option linter.unusedVariables false
abbrev Op := S59
/-- The open nodes' missing kids, the innermost last. -/
def Rel (opn : List Op) (st : List Nat) : Prop := opn.map (·.f1) = st.reverse.map (fun n : Nat => (n : Int))
theorem Rel.length {opn : List Op} {st : List Nat} (h : Rel opn st) : opn.length = st.length := by
  have := congrArg List.length h
  simpa using this
theorem Rel.nil {opn : List Op} (h : Rel opn []) : opn = [] := List.eq_nil_of_length_eq_zero h.length
theorem Rel.inv {opn : List Op} {l : Nat} {st : List Nat} (h : Rel opn (l :: st)) : ∃ o x, opn = o ++ [x] ∧ x.f1 = (l : Int) ∧ Rel o st := by
  rcases List.eq_nil_or_concat opn with rfl | ⟨o, x, rfl⟩
  · have := h.length; simp at this
  · unfold Rel at h
    rw [List.concat_eq_append, List.map_append, List.reverse_cons, List.map_append] at h
    obtain ⟨h1, h2⟩ := List.append_inj' h rfl
    exact ⟨o, x, List.concat_eq_append, by simpa using h2, h1⟩
theorem Rel.push {o : List Op} {st : List Nat} (h : Rel o st) (x : Op) (l : Nat) (hx : x.f1 = (l : Int)) : Rel (o ++ [x]) (l :: st) := by
  unfold Rel at *
  rw [List.map_append, List.reverse_cons, List.map_append, h]
  simp [hx]
theorem rd_last (o : List Op) (x : Op) : rd_T59 (o ++ [x]) (o.length : Int) = x := by
  unfold rd_T59
  rw [Int.toNat_natCast, List.getD_eq_getElem?_getD, List.getElem?_append_right (Nat.le_refl _)]
  simp
def fin (lv : List Int) (i : Nat) (st : List Nat) (c : List Int) : List Int × Bool := match mach st c with
  | none => ([], false)
  | some ls => (lv.take i ++ ls.map (fun n : Nat => (n : Int)), true)
theorem levels_l2 (lv : List Int) (opn : List Op) (ho : opn.length ≤ 2097152) : ∀ d q, q + d = opn.length → ∃ k, dowelref12_Levels.l2 k lv opn (q : Int) = some (if (opn.drop q).all (fun x => decide (x.f1 ≤ 0)) then (lv, true) else ([], false))
  | 0, q, hq => ⟨1, by rw [dowelref12_Levels.l2, if_neg (by omega), List.drop_eq_nil_of_le (by omega)]; simp⟩
  | d + 1, q, hq => by
    have hlt : q < opn.length := by omega
    have hr : (rd_T59 opn (q : Int)) = opn[q] := by
      unfold rd_T59
      rw [Int.toNat_natCast, List.getD_eq_getElem?_getD, List.getElem?_eq_getElem hlt]
      rfl
    rw [List.drop_eq_getElem_cons hlt, List.all_cons]
    by_cases h : opn[q].f1 > 0
    · refine ⟨1, ?_⟩
      rw [dowelref12_Levels.l2, if_pos (by omega), if_pos (by omega), hr, if_pos h, if_neg (by simp; omega)]
    · obtain ⟨k, hk⟩ := levels_l2 lv opn ho d (q + 1) (by omega)
      refine ⟨k + 1, ?_⟩
      rw [dowelref12_Levels.l2, if_pos (by omega), if_pos (by omega), hr, if_neg h, wrap_of (by omega) (by omega), decide_eq_true (by omega), Bool.true_and]
      exact hk
theorem rel_all (opn : List Op) (st : List Nat) (h : Rel opn st) : opn.all (fun x => decide (x.f1 ≤ 0)) = st.all (· == 0) := by
  have e : opn.all (fun x => decide (x.f1 ≤ 0)) = (opn.map (·.f1)).all (fun z => decide (z ≤ 0)) := by rw [List.all_map]; rfl
  rw [e, h, List.all_map, List.all_reverse]
  congr 1
  funext n
  cases n with
  | zero => rfl
  | succ n => simp
theorem set_take (lv : List Int) (i : Nat) (v : Int) (h : i < lv.length) : (lv.set i v).take (i + 1) = lv.take i ++ [v] := by
  rw [List.take_succ_eq_append_getElem (by simpa using h)]
  rw [List.take_set_of_le (Nat.le_refl _)]
  simp
theorem levels_push (f : List S34) (hn : f.length ≤ 2097152) (i : Nat) (hi : i < f.length) (x : Int) (hx : (K f)[i]'(by rw [K_length]; exact hi) = x) (h0 : 0 ≤ x) (lv : List Int) (hlv : lv.length = f.length) (o : List Op) (st st2 : List Nat) (ho : Rel o st2) (hol : o.length = (pop st).length) (hd2 : st2 = dec (pop st)) (hL : o.length ≤ i)
    (ih : ∃ k, dowelref12_Levels.l0 k f (lv.set i (o.length : Int)) (o ++ [⟨(i : Int), x, 0⟩]) ((i + 1 : Nat) : Int) = some (fin (lv.set i (o.length : Int)) (i + 1) (x.toNat :: st2) ((K f).drop (i + 1)))) :
    ∃ k, dowelref12_Levels.l0 k f (lv.set i (o.length : Int)) (o ++ [⟨(i : Int), x, 0⟩]) (wrap64 ((i : Int) + 1)) = some (fin lv i st ((K f).drop i)) := by
  obtain ⟨k, hk⟩ := ih
  refine ⟨k, ?_⟩
  rw [wrap_of (by omega) (by omega), show (i : Int) + 1 = ((i + 1 : Nat) : Int) by omega, hk]
  have hd : (K f).drop i = x :: (K f).drop (i + 1) := by rw [← hx]; exact List.drop_eq_getElem_cons _
  unfold fin
  rw [hd, mach, if_neg (by omega), ← hd2]
  cases mach (x.toNat :: st2) ((K f).drop (i + 1)) with
  | none => rfl
  | some ls =>
    simp only [Option.map_some, List.map_cons]
    rw [set_take _ _ _ (by omega), hol]
    simp
theorem levels_l0 (f : List S34) (hn : f.length ≤ 2097152) (hb : ∀ c ∈ f, c.f3 ≤ 9223372036854775807) : ∀ d i, i + d = f.length → ∀ (lv : List Int) (opn : List Op) (st : List Nat), lv.length = f.length → Rel opn st → st.length ≤ i → (∀ l ∈ st, (l : Int) ≤ 9223372036854775807) →
    ∃ k, dowelref12_Levels.l0 k f lv opn (i : Int) = some (fin lv i st ((K f).drop i))
  | 0, i, hd, lv, opn, st, hlv, hR, hst, hbs => by
    have hl := hR.length
    obtain ⟨k, hk⟩ := levels_l2 lv opn (by omega) opn.length 0 (by omega)
    refine ⟨k + 1, ?_⟩
    rw [dowelref12_Levels.l0, if_neg (by omega)]
    rw [List.drop_zero, rel_all opn st hR] at hk
    rw [show ((0 : Nat) : Int) = 0 from rfl] at hk
    rw [hk, List.drop_eq_nil_of_le (by rw [K_length]; omega)]
    unfold fin
    rw [mach]
    split
    · simp; rw [List.take_of_length_le (by omega)]
    · rfl
  | d + 1, i, hd, lv, opn, st, hlv, hR, hst, hbs => by
    have hi : i < f.length := by omega
    obtain ⟨x, hx⟩ : ∃ x, (K f)[i]'(by rw [K_length]; exact hi) = x := ⟨_, rfl⟩
    have hxb : x ≤ 9223372036854775807 := by rw [← hx]; simp only [K, List.getElem_map]; exact hb _ (List.getElem_mem hi)
    have hdr : (K f).drop i = x :: (K f).drop (i + 1) := by rw [← hx]; exact List.drop_eq_getElem_cons _
    by_cases h0 : x < 0
    · refine ⟨1, ?_⟩
      rw [dowelref12_Levels.l0, if_pos (by omega), if_pos (by omega), rd_f3 f i hi, hx, if_pos h0, hdr]
      unfold fin
      rw [mach, if_pos h0]
    · suffices hl1 : ∃ k, dowelref12_Levels.l1 k f lv opn (i : Int) = some (fin lv i st ((K f).drop i)) by
        obtain ⟨k, hk⟩ := hl1
        refine ⟨k + 1, ?_⟩
        rw [dowelref12_Levels.l0, if_pos (by omega), if_pos (by omega), rd_f3 f i hi, hx, if_neg h0]
        exact hk
      have hid : i + 1 + d = f.length := by omega
      clear hd
      induction st generalizing opn with
      | nil =>
        obtain rfl := hR.nil
        obtain ⟨k, hk⟩ := levels_push f hn i hi x hx (by omega) lv hlv [] [] [] hR rfl rfl (by simp) (levels_l0 f hn hb d (i + 1) hid _ _ _ (by simp [hlv]) (hR.push _ x.toNat (by show x = ((x.toNat : Nat) : Int); omega)) (by simp) (fun l hl => by simp at hl; omega))
        refine ⟨k + 1, ?_⟩
        rw [dowelref12_Levels.l1, if_neg (by simp), if_pos (by omega), if_pos (by omega), if_pos (by omega), if_pos (by simp), rd_f3 f i hi, hx, Int.toNat_natCast]
        exact hk
      | cons l st ih =>
        obtain ⟨o, y, rfl, hy, hRo⟩ := hR.inv
        have hol := hRo.length
        have hlast : wrap64 (((o ++ [y]).length : Nat) - 1 : Int) = (o.length : Int) := by rw [List.length_append]; simp only [List.length_singleton]; rw [wrap_of (by simp at hst; omega) (by simp at hst; omega)]; omega
        cases l with
        | zero =>
          obtain ⟨k, hk⟩ := ih o hRo (by simp at hst; omega) (fun l hl => hbs l (List.mem_cons_of_mem _ hl))
          refine ⟨k + 1, ?_⟩
          rw [dowelref12_Levels.l1, if_pos (by rw [List.length_append]; simp only [List.length_singleton]; omega), hlast, if_pos (by omega), if_pos (by rw [List.length_append]; simp only [List.length_singleton]; omega), rd_last, hy, if_pos (by rfl), if_pos (by rw [List.length_append]; simp only [List.length_singleton]; omega), Int.toNat_natCast, List.take_left]
          rw [hk, hdr]
          unfold fin
          rw [mach, mach, pop]
        | succ l =>
          have hlb := hbs (l + 1) (List.mem_cons_self ..)
          have hset : (o ++ [y]).set o.length (⟨y.f0, (l : Int), y.f2⟩ : Op) = o ++ [⟨y.f0, (l : Int), y.f2⟩] := by rw [List.set_append_right _ _ (Nat.le_refl _)]; simp
          obtain ⟨k, hk⟩ := levels_push f hn i hi x hx (by omega) lv hlv (o ++ [⟨y.f0, (l : Int), y.f2⟩]) ((l + 1) :: st) (l :: st) (hRo.push _ l rfl) (by simp [pop, hol]) rfl (by simp at hst ⊢; omega) (levels_l0 f hn hb d (i + 1) hid _ _ _ (by simp [hlv]) ((hRo.push _ l rfl).push _ x.toNat (by show x = ((x.toNat : Nat) : Int); omega)) (by simp at hst ⊢; omega) (fun m hm => by
            rcases List.mem_cons.1 hm with rfl | hm
            · omega
            · rcases List.mem_cons.1 hm with rfl | hm
              · omega
              · exact hbs m (List.mem_cons_of_mem _ hm)))
          refine ⟨k + 1, ?_⟩
          rw [dowelref12_Levels.l1, if_pos (by rw [List.length_append]; simp only [List.length_singleton]; omega), hlast, if_pos (by omega), if_pos (by rw [List.length_append]; simp only [List.length_singleton]; omega), rd_last, hy, if_neg (by omega), Int.toNat_natCast, wrap_of (i := ((l + 1 : Nat) : Int) - 1) (by omega) (by omega), show ((l + 1 : Nat) : Int) - 1 = (l : Int) by omega, hset, Option.bind_some, if_pos (by omega), if_pos (by omega), if_pos (by omega), if_pos (by simp at hst ⊢; omega), rd_f3 f i hi, hx]
          have e : (o ++ [y]).length = (o ++ [(⟨y.f0, (l : Int), y.f2⟩ : Op)]).length := by simp
          rw [e]
          exact hk
theorem levels_ev (f : List S34) (hn : f.length ≤ 2097152) (hb : ∀ c ∈ f, c.f3 ≤ 9223372036854775807) : Ev (fun k => dowelref12_Levels.f k f) (fin [] 0 [] (K f)) := by
  obtain ⟨k, hk⟩ := levels_l0 f hn hb f.length 0 (by omega) (List.replicate f.length 0) [] [] (by simp) rfl (by simp) (fun l hl => by simp at hl)
  refine Ev.of (fun k => dowelref12_Levels.mono f k) (k := k) ?_
  unfold dowelref12_Levels.f
  rw [if_pos (by omega), if_pos (by omega), Int.toNat_natCast]
  have e : fin (List.replicate f.length 0) 0 [] ((K f).drop 0) = fin [] 0 [] (K f) := by unfold fin; simp
  rw [← e]
  exact hk
end Go.Proofs.Ytkebableanenkaa.Fo
