/- forest.Kids and the document's Kids, as they are printed, tell one list. Conditions: a list of at most 2^21 nodes, whose counts of kids are Go ints. -/
import Derived.Test.YtkebableanenkaaForD
import Derived.Test.YtkebableanenkaaQallx9
import Derived.Test.YtkebableanenkaaQallx11
namespace Go.Proofs.Ytkebableanenkaa.Fo
open Go.RowKit Go.Proofs.Ytkebableanenkaa.Qall Go.Proofs.YtkebableanenkaaW.PrintWords Go.Proofs.YtkebableanenkaaW.PrintLast Go.Proofs.YtkebableanenkaaW.PrintMore
set_option linter.unusedSimpArgs false
set_option linter.unusedVariables false
/-- The roots' places, up to the end; none: one has no extent. -/
def rt : Nat → List (Option Nat) → Nat → Option (List Int)
  | _, [], _ => some []
  | 0, _ :: _, _ => none
  | _ + 1, none :: _, _ => none
  | f + 1, some m :: t, i => (rt f ((some m :: t).drop m) (i + m)).map ((i : Int) :: ·)
theorem rt_iff : ∀ (f : Nat) (es : List (Option Nat)) (i : Nat), WF es → es.length ≤ f → ((rt f es i).isSome = true ↔ Rts es)
  | f, [], i, _, _ => by simp [rt, Rts.nil]
  | 0, _ :: _, i, _, h => by simp at h
  | f + 1, none :: t, i, hw, h => by
    simp only [rt, Option.isSome_none, Bool.false_eq_true, false_iff]
    intro hr
    obtain ⟨m, e, _⟩ := hr.inv
    cases e
  | f + 1, some m :: t, i, hw, h => by
    have hm := hw.1 m rfl
    rw [rt, Option.isSome_map, rts_cons, rt_iff f _ _ (hw.drop m) (by simp only [List.length_drop, List.length_cons] at h ⊢; omega)]
theorem rt_len : ∀ (f : Nat) (es : List (Option Nat)) (i : Nat) (l : List Int), WF es → rt f es i = some l → l.length ≤ es.length
  | f, [], i, l, _, h => by cases f <;> simp [rt] at h <;> simp [← h]
  | 0, _ :: _, i, l, _, h => by simp [rt] at h
  | f + 1, none :: t, i, l, _, h => by simp [rt] at h
  | f + 1, some m :: t, i, l, hw, h => by
    have hm := hw.1 m rfl
    rw [rt, Option.map_eq_some_iff] at h
    obtain ⟨l', h1, rfl⟩ := h
    have := rt_len f _ _ l' (hw.drop m) h1
    simp only [List.length_drop, List.length_cons] at this ⊢
    omega
theorem drop_hd (E : List (Option Nat)) (i : Nat) (h : i < E.length) : E.drop i = hd (E.drop i) :: E.drop (i + 1) := by
  rw [List.drop_eq_getElem_cons h]; rfl
theorem abs_rd (z : Int) (E : List (Option Nat)) (i : Nat) (h : i < E.length) : rd (absZ z E 0) (i : Int) = val z i (hd (E.drop i)) := by
  unfold rd
  rw [Int.toNat_natCast, absZ_get z E 0 i h, Nat.zero_add]
theorem roots_l0 (E : List (Option Nat)) (hw : WF E) (hn : E.length ≤ 2097152) : ∀ (fu i : Nat) (acc : List Int), E.length ≤ i + fu → i ≤ E.length → acc.length ≤ i →
    ∃ k, forest_roots.l0 k (absZ (-1) E 0) acc (i : Int) = some (match rt fu (E.drop i) i with | none => ([], false) | some l => (acc ++ l, true))
  | fu, i, acc, hf, hi, ha => by
    have hal := absZ_length (-1) E 0
    by_cases hlt : i < E.length
    · cases fu with
      | zero => omega
      | succ fu =>
        have hd0 := drop_hd E i hlt
        have hr := abs_rd (-1) E i hlt
        cases hh : hd (E.drop i) with
        | none =>
          rw [hh] at hd0 hr
          refine ⟨1, ?_⟩
          rw [forest_roots.l0, if_pos (by omega), if_pos (by omega), hr, if_pos (by simp [val]), hd0, rt]
        | some m =>
          have hm := (hw.drop i).hd hh
          rw [List.length_drop] at hm
          rw [hh] at hd0 hr
          obtain ⟨k, hk⟩ := roots_l0 E hw hn fu (i + m) (acc ++ [(i : Int)]) (by omega) (by omega) (by simp; omega)
          refine ⟨k + 1, ?_⟩
          rw [forest_roots.l0, if_pos (by omega), if_pos (by omega), hr, if_neg (by simp [val]; omega), if_pos (by omega)]
          show forest_roots.l0 k (absZ (-1) E 0) (acc ++ [(i : Int)]) ((i + m : Nat) : Int) = _
          rw [hk]
          have e : (E.drop i).drop m = E.drop (i + m) := List.drop_drop ..
          rw [hd0] at e
          rw [hd0, rt, e]
          cases rt fu (E.drop (i + m)) (i + m) with
          | none => rfl
          | some l => simp
    · refine ⟨1, ?_⟩
      rw [forest_roots.l0, if_neg (by omega), List.drop_eq_nil_of_le (by omega)]
      cases fu <;> simp [rt]
  termination_by fu => fu
theorem roots_ev (f : List S34) (hn : f.length ≤ 2097152) : Ev (fun k => forest_roots.f k (absZ (-1) (ex (K f)) 0)) (match rt f.length (ex (K f)) 0 with | none => ([], false) | some l => (l, true)) := by
  have hl : (ex (K f)).length = f.length := by rw [ex_length, K_length]
  obtain ⟨k, hk⟩ := roots_l0 (ex (K f)) (ex_wf _) (by omega) f.length 0 [] (by omega) (by omega) (by simp)
  exact Ev.of (fun k => forest_roots.mono _ k) (k := k) hk
/-- The kids' places. -/
def kd : Nat → List (Option Nat) → Nat → List Int
  | 0, _, _ => []
  | k + 1, es, i => (i : Int) :: kd k (es.drop ((hd es).getD 0)) (i + (hd es).getD 0)
theorem kd_length : ∀ k es i, (kd k es i).length = k
  | 0, _, _ => rfl
  | k + 1, es, i => by simp [kd, kd_length k]
theorem kids_l0 (f : List S34) (hn : f.length ≤ 2097152) (i : Nat) (hi : i < f.length) (x : Nat) (hx : (K f)[i]'(by rw [K_length]; exact hi) = (x : Int)) (hxn : x ≤ f.length) :
    ∀ (d q at_ : Nat) (acc : List Int), q + d = x → acc.length ≤ q → at_ ≤ f.length → (∃ M, jump d ((ex (K f)).drop at_) = some M) → ∃ k, forest_kids.l0 k f (absZ (-1) (ex (K f)) 0) (i : Int) acc (at_ : Int) (q : Int) = some (acc ++ kd d ((ex (K f)).drop at_) at_)
  | 0, q, at_, acc, hq, ha, hat, _ => by
    refine ⟨1, ?_⟩
    rw [forest_kids.l0, if_pos (by omega), if_pos (by omega), rd_f3 f i hi, hx, if_neg (by omega)]
    simp [kd]
  | d + 1, q, at_, acc, hq, ha, hat, hM => by
    have hl : (ex (K f)).length = f.length := by rw [ex_length, K_length]
    have hal := absZ_length (-1) (ex (K f)) 0
    obtain ⟨M, hM⟩ := hM
    rw [jump] at hM
    cases hh : hd ((ex (K f)).drop at_) with
    | none => rw [hh] at hM; simp at hM
    | some m =>
      rw [hh, Option.map_eq_some_iff] at hM
      obtain ⟨M2, hM2, _⟩ := hM
      have hm := (ex_wf (K f) |>.drop at_).hd hh
      rw [List.length_drop] at hm
      rw [List.drop_drop] at hM2
      obtain ⟨k, hk⟩ := kids_l0 f hn i hi x hx hxn d (q + 1) (at_ + m) (acc ++ [(at_ : Int)]) (by omega) (by simp; omega) (by omega) ⟨M2, hM2⟩
      refine ⟨k + 1, ?_⟩
      rw [forest_kids.l0, if_pos (by omega), if_pos (by omega), rd_f3 f i hi, hx, if_pos (by omega), if_pos (by omega), if_pos (by omega), if_pos (by omega), abs_rd _ _ _ (by omega), hh, wrap_of (by omega) (by omega)]
      show forest_kids.l0 k f (absZ (-1) (ex (K f)) 0) (i : Int) (acc ++ [(at_ : Int)]) ((at_ + m : Nat) : Int) ((q + 1 : Nat) : Int) = _
      rw [hk, kd, hh, Option.getD_some, List.drop_drop]
      simp
/-- What Kids tells. -/
def kidsAns (f : List S34) (i : Int) : List Int :=
  if i = -1 then (rt f.length (ex (K f)) 0).getD [] else if h : 0 ≤ i ∧ i < (f.length : Int) then
    (match hd ((ex (K f)).drop i.toNat) with | none => [] | some _ => kd ((K f)[i.toNat]'(by rw [K_length]; omega)).toNat ((ex (K f)).drop (i.toNat + 1)) (i.toNat + 1)) else []
theorem kids_some (f : List S34) (i : Nat) (hi : i < f.length) (m : Nat) (h : hd ((ex (K f)).drop i) = some m) : ∃ x : Nat, (K f)[i]'(by rw [K_length]; exact hi) = (x : Int) ∧ jump x ((ex (K f)).drop (i + 1)) = some (m - 1) ∧ 1 ≤ m ∧ x ≤ f.length ∧ i + m ≤ f.length := by
  have hh := hd_at f i hi _ rfl
  have hm := (ex_wf (K f) |>.drop i).hd h
  have hl : (ex (K f)).length = f.length := by rw [ex_length, K_length]
  rw [List.length_drop] at hm
  rw [h] at hh
  split at hh
  · cases hh
  · obtain ⟨M, e1, e2⟩ := Option.map_eq_some_iff.1 hh.symm
    have hb := jump_bounds _ (ex_wf (K f) |>.drop (i + 1)) e1
    rw [List.length_drop] at hb
    refine ⟨_, (Int.toNat_of_nonneg (by omega)).symm, by rw [e1]; congr 1; omega, hm.1, by omega, by omega⟩
theorem kids_ev (f : List S34) (hn : f.length ≤ 2097152) (i : Int) : Ev (fun k => forest_Kids.f k f i) (kidsAns f i) := by
  have hl : (ex (K f)).length = f.length := by rw [ex_length, K_length]
  have hal := absZ_length (-1) (ex (K f)) 0
  obtain ⟨K1, h1⟩ : ∃ K1, ∀ k, K1 ≤ k → forest_ends.f k f = some (absZ (-1) (ex (K f)) 0) := ends_ev f hn
  by_cases hneg : i < -1
  · refine ⟨1, fun k hk => ?_⟩
    obtain ⟨k, rfl⟩ : ∃ j, k = j + 1 := ⟨k - 1, by omega⟩
    show forest_Kids.f (k + 1) f _ = _
    unfold forest_Kids.f kidsAns
    rw [if_pos hneg, forest_Kids.j0, if_pos rfl, if_neg (by omega), dif_neg (by omega)]
  · by_cases hge : i ≥ (f.length : Int)
    · refine ⟨1, fun k hk => ?_⟩
      obtain ⟨k, rfl⟩ : ∃ j, k = j + 1 := ⟨k - 1, by omega⟩
      show forest_Kids.f (k + 1) f _ = _
      unfold forest_Kids.f kidsAns
      rw [if_neg hneg, decide_eq_true hge, forest_Kids.j0, if_pos rfl, if_neg (by omega), dif_neg (by omega)]
    · by_cases h1' : i = -1
      · obtain ⟨K2, h2⟩ : ∃ K2, ∀ k, K2 ≤ k → forest_roots.f k (absZ (-1) (ex (K f)) 0) = some (match rt f.length (ex (K f)) 0 with | none => ([], false) | some l => (l, true)) := roots_ev f hn
        refine ⟨K1 + K2 + 1, fun k hk => ?_⟩
        obtain ⟨k, rfl⟩ : ∃ j, k = j + 1 := ⟨k - 1, by omega⟩
        show forest_Kids.f (k + 1) f _ = _
        unfold forest_Kids.f kidsAns
        rw [if_neg hneg, decide_eq_false hge, forest_Kids.j0, if_neg (by simp), h1 k (by omega), Option.bind_some, if_pos h1', h2 k (by omega), Option.bind_some, if_pos h1']
        cases rt f.length (ex (K f)) 0 <;> rfl
      · obtain ⟨n, rfl⟩ : ∃ n : Nat, i = (n : Int) := ⟨i.toNat, by omega⟩
        have hn2 : n < f.length := by omega
        have hr := abs_rd (-1) (ex (K f)) n (by omega)
        cases hh : hd ((ex (K f)).drop n) with
        | none =>
          refine ⟨K1 + 1, fun k hk => ?_⟩
          obtain ⟨k, rfl⟩ : ∃ j, k = j + 1 := ⟨k - 1, by omega⟩
          show forest_Kids.f (k + 1) f _ = _
          unfold forest_Kids.f kidsAns
          rw [if_neg hneg, decide_eq_false hge, forest_Kids.j0, if_neg (by simp), h1 k (by omega), Option.bind_some, if_neg h1', if_pos (by omega), if_pos (by omega), hr, hh, if_pos (by simp [val]), if_neg h1', dif_pos (by omega)]
          simp only [Int.toNat_natCast, hh]
        | some m =>
          obtain ⟨x, hx, hj, _, hxn, _⟩ := kids_some f n hn2 m hh
          obtain ⟨k3, h3⟩ := kids_l0 f hn n hn2 x hx hxn x 0 (n + 1) [] (by omega) (by simp) (by omega) ⟨_, hj⟩
          have hk3 : forest_kids.f k3 f (absZ (-1) (ex (K f)) 0) (n : Int) = some (kd x ((ex (K f)).drop (n + 1)) (n + 1)) := by
            unfold forest_kids.f
            rw [wrap_of (by omega) (by omega), show (n : Int) + 1 = ((n + 1 : Nat) : Int) by omega]
            exact h3
          obtain ⟨K3, h3'⟩ : ∃ K3, ∀ k, K3 ≤ k → forest_kids.f k f (absZ (-1) (ex (K f)) 0) (n : Int) = some (kd x ((ex (K f)).drop (n + 1)) (n + 1)) := Ev.of (fun k => forest_kids.mono _ _ _ k) hk3
          refine ⟨K1 + K3 + 1, fun k hk => ?_⟩
          obtain ⟨k, rfl⟩ : ∃ j, k = j + 1 := ⟨k - 1, by omega⟩
          show forest_Kids.f (k + 1) f _ = _
          unfold forest_Kids.f kidsAns
          rw [if_neg hneg, decide_eq_false hge, forest_Kids.j0, if_neg (by simp), h1 k (by omega), Option.bind_some, if_neg h1', if_pos (by omega), if_pos (by omega), hr, hh, if_neg (by simp [val]; omega), h3' k (by omega), Option.bind_some, if_neg h1', dif_pos (by omega)]
          simp only [Int.toNat_natCast, hh, hx]
theorem refRoots_l0 (f : List S34) (hn : f.length ≤ 2097152) : ∀ (fu i : Nat) (acc l : List Int), i ≤ f.length → acc.length ≤ i → rt fu ((ex (K f)).drop i) i = some l →
    ∃ k, dowelref12_Kids.l0 k f (absZ 0 (ex (K f)) 0) acc true (i : Int) = some (acc ++ l)
  | fu, i, acc, l, hi, ha, hr => by
    have hl : (ex (K f)).length = f.length := by rw [ex_length, K_length]
    have hal := absZ_length 0 (ex (K f)) 0
    by_cases hlt : i < f.length
    · have hd0 := drop_hd (ex (K f)) i (by omega)
      have hv := abs_rd 0 (ex (K f)) i (by omega)
      cases hh : hd ((ex (K f)).drop i) with
      | none => rw [hh] at hd0; rw [hd0] at hr; cases fu <;> simp [rt] at hr
      | some m =>
        have hm := (ex_wf (K f) |>.drop i).hd hh
        rw [List.length_drop] at hm
        rw [hh] at hd0 hv
        cases fu with
        | zero => rw [hd0] at hr; simp [rt] at hr
        | succ fu =>
          have e : ((ex (K f)).drop i).drop m = (ex (K f)).drop (i + m) := List.drop_drop ..
          rw [hd0] at e
          rw [hd0, rt, e, Option.map_eq_some_iff] at hr
          obtain ⟨l2, hr2, rfl⟩ := hr
          obtain ⟨k, hk⟩ := refRoots_l0 f hn fu (i + m) (acc ++ [(i : Int)]) l2 (by omega) (by simp; omega) hr2
          refine ⟨k + 1, ?_⟩
          rw [dowelref12_Kids.l0, if_pos rfl, if_pos (by omega), if_pos (by omega), if_pos (by omega), if_pos (by omega), hv]
          show dowelref12_Kids.l0 k f (absZ 0 (ex (K f)) 0) (acc ++ [(i : Int)]) true ((i + m : Nat) : Int) = _
          rw [hk]
          simp
    · refine ⟨1, ?_⟩
      rw [List.drop_eq_nil_of_le (by omega)] at hr
      have : l = [] := by cases fu <;> simp [rt] at hr <;> exact hr
      rw [dowelref12_Kids.l0, if_pos rfl, if_neg (by omega), this, List.append_nil]
  termination_by fu => fu
theorem refKids_l1 (f : List S34) (hn : f.length ≤ 2097152) (i : Nat) (hi : i < f.length) (m : Nat) (hm : hd ((ex (K f)).drop i) = some m) (him : i + m ≤ f.length) : ∀ (d at_ : Nat) (acc : List Int) (M : Nat), jump d ((ex (K f)).drop at_) = some M → at_ + M = i + m → acc.length ≤ at_ →
    ∃ k, dowelref12_Kids.l1 k (i : Int) (absZ 0 (ex (K f)) 0) acc (at_ : Int) = some (acc ++ kd d ((ex (K f)).drop at_) at_)
  | d, at_, acc, M, hM, he, ha => by
    have hl : (ex (K f)).length = f.length := by rw [ex_length, K_length]
    have hal := absZ_length 0 (ex (K f)) 0
    have hv := abs_rd 0 (ex (K f)) i (by omega)
    rw [hm] at hv
    have hv2 : rd (absZ 0 (ex (K f)) 0) (i : Int) = ((i + m : Nat) : Int) := hv
    cases d with
    | zero =>
      have : M = 0 := by simpa [jump] using hM.symm
      refine ⟨1, ?_⟩
      rw [dowelref12_Kids.l1, if_pos (by omega), if_pos (by omega), hv2, if_neg (by omega), kd, List.append_nil]
    | succ d =>
      rw [jump] at hM
      cases hh : hd ((ex (K f)).drop at_) with
      | none => rw [hh] at hM; simp at hM
      | some u =>
        rw [hh] at hM
        obtain ⟨M2, hM2, e2⟩ := Option.map_eq_some_iff.1 hM
        have hu := (ex_wf (K f) |>.drop at_).hd hh
        rw [List.length_drop] at hu
        rw [List.drop_drop] at hM2
        obtain ⟨k, hk⟩ := refKids_l1 f hn i hi m hm him d (at_ + u) (acc ++ [(at_ : Int)]) M2 hM2 (by omega) (by simp; omega)
        refine ⟨k + 1, ?_⟩
        rw [dowelref12_Kids.l1, if_pos (by omega), if_pos (by omega), hv2, if_pos (by omega), if_pos (by omega), if_pos (by omega), if_pos (by omega), abs_rd 0 _ at_ (by omega), hh]
        show dowelref12_Kids.l1 k (i : Int) (absZ 0 (ex (K f)) 0) (acc ++ [(at_ : Int)]) ((at_ + u : Nat) : Int) = _
        rw [hk, kd, hh, Option.getD_some, List.drop_drop]
        simp
  termination_by d => d
theorem levels_ok (f : List S34) : (fin [] 0 [] (K f)).2 = (rt f.length (ex (K f)) 0).isSome := by
  have h1 := mach_iff (K f) []
  have h2 := rt_iff f.length (ex (K f)) 0 (ex_wf _) (by rw [ex_length, K_length]; exact Nat.le_refl _)
  unfold fin
  have h3 : (mach [] (K f)).isSome = true ↔ (rt f.length (ex (K f)) 0).isSome = true := by rw [h1, h2]; exact Iff.rfl
  cases e : mach [] (K f) with
  | none => rw [e] at h3; simp at h3; simp [h3]
  | some ls => rw [e] at h3; simp only [Option.isSome_some, true_iff] at h3; rw [h3]
theorem refKids_ev (f : List S34) (hn : f.length ≤ 2097152) (hb : ∀ c ∈ f, c.f3 ≤ 9223372036854775807) (i : Int) : Ev (fun k => dowelref12_Kids.f k f i) (kidsAns f i) := by
  have hl : (ex (K f)).length = f.length := by rw [ex_length, K_length]
  have hal := absZ_length 0 (ex (K f)) 0
  obtain ⟨K1, h1⟩ : ∃ K1, ∀ k, K1 ≤ k → dowelref12_Ends.f k f = some (absZ 0 (ex (K f)) 0) := refEnds_ev f hn hb
  have top : ∀ g : Nat → Option (List Int), Ev g (kidsAns f i) → (∀ k, K1 ≤ k → dowelref12_Kids.f k f i = g k) → Ev (fun k => dowelref12_Kids.f k f i) (kidsAns f i) := fun g hg he => by
    obtain ⟨K2, h2⟩ := hg
    exact ⟨K1 + K2, fun k hk => by show dowelref12_Kids.f k f i = _; rw [he k (by omega), h2 k (by omega)]⟩
  by_cases h1' : i = -1
  · obtain ⟨K2, h2⟩ : ∃ K2, ∀ k, K2 ≤ k → dowelref12_Levels.f k f = some (fin [] 0 [] (K f)) := levels_ev f hn hb
    cases hr : rt f.length (ex (K f)) 0 with
    | none =>
      refine ⟨K1 + K2 + 1, fun k hk => ?_⟩
      obtain ⟨k', rfl⟩ : ∃ j, k = j + 1 := ⟨k - 1, by omega⟩
      show dowelref12_Kids.f _ f _ = _
      unfold dowelref12_Kids.f kidsAns
      rw [h1 _ (by omega), Option.bind_some, if_pos h1', h2 _ (by omega), Option.bind_some, levels_ok, hr, if_pos h1', dowelref12_Kids.l0, if_neg (by simp)]
      rfl
    | some l =>
      obtain ⟨k3, h3⟩ := refRoots_l0 f hn f.length 0 [] l (by omega) (by simp) hr
      obtain ⟨K3, h3'⟩ : ∃ K3, ∀ k, K3 ≤ k → dowelref12_Kids.l0 k f (absZ 0 (ex (K f)) 0) [] true 0 = some l := Ev.of (fun k => (dowelref12_Kids.mono_l k).1 _ _ _ _ _) h3
      refine ⟨K1 + K2 + K3, fun k hk => ?_⟩
      show dowelref12_Kids.f _ f _ = _
      unfold dowelref12_Kids.f kidsAns
      rw [h1 _ (by omega), Option.bind_some, if_pos h1', h2 _ (by omega), Option.bind_some, levels_ok, hr, if_pos h1']
      exact h3' k (by omega)
  · by_cases hout : i < 0 ∨ i ≥ (f.length : Int)
    · refine ⟨K1 + 1, fun k hk => ?_⟩
      obtain ⟨k', rfl⟩ : ∃ j, k = j + 1 := ⟨k - 1, by omega⟩
      show dowelref12_Kids.f _ f _ = _
      unfold dowelref12_Kids.f kidsAns
      rw [h1 _ (by omega), Option.bind_some, if_neg h1', if_neg h1', dif_neg (by omega)]
      rcases hout with h | h
      · rw [if_pos h, dowelref12_Kids.j1, if_pos rfl]
      · rw [if_neg (by omega), if_pos h, dowelref12_Kids.j1, if_pos rfl]
    · obtain ⟨n, rfl⟩ : ∃ n : Nat, i = (n : Int) := ⟨i.toNat, by omega⟩
      have hn2 : n < f.length := by omega
      have hv := abs_rd 0 (ex (K f)) n (by omega)
      cases hh : hd ((ex (K f)).drop n) with
      | none =>
        rw [hh] at hv
        refine ⟨K1 + 1, fun k hk => ?_⟩
        obtain ⟨k', rfl⟩ : ∃ j, k = j + 1 := ⟨k - 1, by omega⟩
        show dowelref12_Kids.f _ f _ = _
        unfold dowelref12_Kids.f kidsAns
        rw [h1 _ (by omega), Option.bind_some, if_neg h1', if_neg (by omega), if_neg (by omega), if_pos (by omega), if_pos (by omega), hv, dowelref12_Kids.j1, if_pos (by simp [val]), if_neg h1', dif_pos (by omega)]
        simp only [Int.toNat_natCast, hh]
      | some m =>
        rw [hh] at hv
        obtain ⟨x, hx, hj, hm1, hxn, him⟩ := kids_some f n hn2 m hh
        obtain ⟨k3, h3⟩ := refKids_l1 f hn n hn2 m hh him x (n + 1) [] (m - 1) hj (by omega) (by simp)
        obtain ⟨K3, h3'⟩ : ∃ K3, ∀ k, K3 ≤ k → dowelref12_Kids.l1 k (n : Int) (absZ 0 (ex (K f)) 0) [] ((n + 1 : Nat) : Int) = some ([] ++ kd x ((ex (K f)).drop (n + 1)) (n + 1)) := Ev.of (fun k => (dowelref12_Kids.mono_l k).2.2 _ _ _ _) h3
        refine ⟨K1 + K3 + 1, fun k hk => ?_⟩
        obtain ⟨k', rfl⟩ : ∃ j, k = j + 1 := ⟨k - 1, by omega⟩
        show dowelref12_Kids.f _ f _ = _
        unfold dowelref12_Kids.f kidsAns
        rw [h1 _ (by omega), Option.bind_some, if_neg h1', if_neg (by omega), if_neg (by omega), if_pos (by omega), if_pos (by omega), hv, dowelref12_Kids.j1, if_neg (by simp [val]; omega), if_neg h1', dif_pos (by omega), wrap_of (by omega) (by omega), show (n : Int) + 1 = ((n + 1 : Nat) : Int) by omega]
        rw [show dowelref12_Kids.l1 k' (n : Int) (absZ 0 (ex (K f)) 0) [] ((n + 1 : Nat) : Int) = _ from h3' k' (by omega)]
        simp only [Int.toNat_natCast, hh, hx, List.nil_append]
end Go.Proofs.Ytkebableanenkaa.Fo
