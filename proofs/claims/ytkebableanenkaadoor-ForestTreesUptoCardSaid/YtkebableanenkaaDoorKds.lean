/- forest.Kids, as it is printed, tells kidsAns. Conditions: a list of at most 2^21 nodes. -/
import Derived.Test.YtkebableanenkaaDoorFor2
import Derived.Test.YtkebableanenkaaDoorKdq
namespace Go.Proofs.YtkebableanenkaaDoor.Fo
open Go.RowKit Go.Proofs.YtkebableanenkaaDoor.Qall Go.Proofs.YtkebableanenkaaDoorW.PrintWords Go.Proofs.YtkebableanenkaaDoorW.PrintLast Go.Proofs.YtkebableanenkaaDoorW.PrintMore
set_option linter.unusedSimpArgs false
set_option linter.unusedVariables false
theorem kids_l0 (f : List S37) (hn : f.length ≤ 2097152) (i : Nat) (hi : i < f.length) (x : Nat) (hx : (K f)[i]'(by rw [K_length]; exact hi) = (x : Int)) (hxn : x ≤ f.length) :
    ∀ (d q at_ : Nat) (acc : List Int), q + d = x → acc.length ≤ q → at_ ≤ f.length → (∃ M, jump d ((ex (K f)).drop at_) = some M) → ∃ k, forest_kids.l0 k f (absZ (-1) (ex (K f)) 0) (i : Int) acc (at_ : Int) (q : Int) = some (acc ++ kd d ((ex (K f)).drop at_) at_)
  | 0, q, at_, acc, hq, ha, hat, _ => by
    refine ⟨1, ?_⟩
    rw [forest_kids.l0, if_pos (by omega), if_pos (by omega), rd_f3 f i hi, hx, if_neg (by omega)]
    simp [kd]
  | d + 1, q, at_, acc, hq, ha, hat, hM => by
    have hl : (ex (K f)).length = f.length := by rw [ex_length, K_length]
    have hal := absZ_length (-1) (ex (K f)) 0
    obtain ⟨M, hM⟩ := hM
    rw [jump] at hM
    cases hh : hd ((ex (K f)).drop at_) with
    | none => rw [hh] at hM; simp at hM
    | some m =>
      rw [hh, Option.map_eq_some_iff] at hM
      obtain ⟨M2, hM2, _⟩ := hM
      have hm := (ex_wf (K f) |>.drop at_).hd hh
      rw [List.length_drop] at hm
      rw [List.drop_drop] at hM2
      obtain ⟨k, hk⟩ := kids_l0 f hn i hi x hx hxn d (q + 1) (at_ + m) (acc ++ [(at_ : Int)]) (by omega) (by simp; omega) (by omega) ⟨M2, hM2⟩
      refine ⟨k + 1, ?_⟩
      rw [forest_kids.l0, if_pos (by omega), if_pos (by omega), rd_f3 f i hi, hx, if_pos (by omega), if_pos (by omega), if_pos (by omega), if_pos (by omega), abs_rd _ _ _ (by omega), hh, wrap_of (by omega) (by omega)]
      show forest_kids.l0 k f (absZ (-1) (ex (K f)) 0) (i : Int) (acc ++ [(at_ : Int)]) ((at_ + m : Nat) : Int) ((q + 1 : Nat) : Int) = _
      rw [hk, kd, hh, Option.getD_some, List.drop_drop]
      simp
theorem kids_ev (f : List S37) (hn : f.length ≤ 2097152) (i : Int) : Ev (fun k => forest_Kids.f k f i) (kidsAns f i) := by
  have hl : (ex (K f)).length = f.length := by rw [ex_length, K_length]
  have hal := absZ_length (-1) (ex (K f)) 0
  obtain ⟨K1, h1⟩ : ∃ K1, ∀ k, K1 ≤ k → forest_ends.f k f = some (absZ (-1) (ex (K f)) 0) := ends_ev f hn
  by_cases hneg : i < -1
  · refine ⟨1, fun k hk => ?_⟩
    obtain ⟨k, rfl⟩ : ∃ j, k = j + 1 := ⟨k - 1, by omega⟩
    show forest_Kids.f (k + 1) f _ = _
    unfold forest_Kids.f kidsAns
    rw [if_pos hneg, forest_Kids.j0, if_pos rfl, if_neg (by omega), dif_neg (by omega)]
  · by_cases hge : i ≥ (f.length : Int)
    · refine ⟨1, fun k hk => ?_⟩
      obtain ⟨k, rfl⟩ : ∃ j, k = j + 1 := ⟨k - 1, by omega⟩
      show forest_Kids.f (k + 1) f _ = _
      unfold forest_Kids.f kidsAns
      rw [if_neg hneg, decide_eq_true hge, forest_Kids.j0, if_pos rfl, if_neg (by omega), dif_neg (by omega)]
    · by_cases h1' : i = -1
      · obtain ⟨K2, h2⟩ : ∃ K2, ∀ k, K2 ≤ k → forest_roots.f k (absZ (-1) (ex (K f)) 0) = some (match rt f.length (ex (K f)) 0 with | none => ([], false) | some l => (l, true)) := roots_ev f hn
        refine ⟨K1 + K2 + 1, fun k hk => ?_⟩
        obtain ⟨k, rfl⟩ : ∃ j, k = j + 1 := ⟨k - 1, by omega⟩
        show forest_Kids.f (k + 1) f _ = _
        unfold forest_Kids.f kidsAns
        rw [if_neg hneg, decide_eq_false hge, forest_Kids.j0, if_neg (by simp), h1 k (by omega), Option.bind_some, if_pos h1', h2 k (by omega), Option.bind_some, if_pos h1']
        cases rt f.length (ex (K f)) 0 <;> rfl
      · obtain ⟨n, rfl⟩ : ∃ n : Nat, i = (n : Int) := ⟨i.toNat, by omega⟩
        have hn2 : n < f.length := by omega
        have hr := abs_rd (-1) (ex (K f)) n (by omega)
        cases hh : hd ((ex (K f)).drop n) with
        | none =>
          refine ⟨K1 + 1, fun k hk => ?_⟩
          obtain ⟨k, rfl⟩ : ∃ j, k = j + 1 := ⟨k - 1, by omega⟩
          show forest_Kids.f (k + 1) f _ = _
          unfold forest_Kids.f kidsAns
          rw [if_neg hneg, decide_eq_false hge, forest_Kids.j0, if_neg (by simp), h1 k (by omega), Option.bind_some, if_neg h1', if_pos (by omega), if_pos (by omega), hr, hh, if_pos (by simp [val]), if_neg h1', dif_pos (by omega)]
          simp only [Int.toNat_natCast, hh]
        | some m =>
          obtain ⟨x, hx, hj, _, hxn, _⟩ := kids_some f n hn2 m hh
          obtain ⟨k3, h3⟩ := kids_l0 f hn n hn2 x hx hxn x 0 (n + 1) [] (by omega) (by simp) (by omega) ⟨_, hj⟩
          have hk3 : forest_kids.f k3 f (absZ (-1) (ex (K f)) 0) (n : Int) = some (kd x ((ex (K f)).drop (n + 1)) (n + 1)) := by
            unfold forest_kids.f
            rw [wrap_of (by omega) (by omega), show (n : Int) + 1 = ((n + 1 : Nat) : Int) by omega]
            exact h3
          obtain ⟨K3, h3'⟩ : ∃ K3, ∀ k, K3 ≤ k → forest_kids.f k f (absZ (-1) (ex (K f)) 0) (n : Int) = some (kd x ((ex (K f)).drop (n + 1)) (n + 1)) := Ev.of (fun k => forest_kids.mono _ _ _ k) hk3
          refine ⟨K1 + K3 + 1, fun k hk => ?_⟩
          obtain ⟨k, rfl⟩ : ∃ j, k = j + 1 := ⟨k - 1, by omega⟩
          show forest_Kids.f (k + 1) f _ = _
          unfold forest_Kids.f kidsAns
          rw [if_neg hneg, decide_eq_false hge, forest_Kids.j0, if_neg (by simp), h1 k (by omega), Option.bind_some, if_neg h1', if_pos (by omega), if_pos (by omega), hr, hh, if_neg (by simp [val]; omega), h3' k (by omega), Option.bind_some, if_neg h1', dif_pos (by omega)]
          simp only [Int.toNat_natCast, hh, hx]
end Go.Proofs.YtkebableanenkaaDoor.Fo
