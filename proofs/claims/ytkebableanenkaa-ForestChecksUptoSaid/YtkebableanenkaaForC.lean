/- The document's Ends and Levels, as they are printed, in the plain terms of ForA. Conditions: a list of at most 2^21 nodes, whose counts of kids are Go ints. -/
import Derived.Test.YtkebableanenkaaForB
import Derived.Test.YtkebableanenkaaQallx6
import Derived.Test.YtkebableanenkaaQallx10
namespace Go.Proofs.Ytkebableanenkaa.Fo
open Go.RowKit Go.Proofs.Ytkebableanenkaa.Qall Go.Proofs.YtkebableanenkaaW.PrintWords Go.Proofs.YtkebableanenkaaW.PrintLast Go.Proofs.YtkebableanenkaaW.PrintMore
set_option linter.unusedSimpArgs false
set_option linter.unusedVariables false
theorem filled_keep (f : List S34) (j : Nat) (hj : j < f.length) (h : hd ((ex (K f)).drop j) = none) : filled 0 f (j + 1) = filled 0 f j := by
  have hK : j < (K f).length := by rw [K_length]; exact hj
  unfold filled
  rw [ex_at _ _ hK] at h ⊢
  rw [List.replicate_succ', List.append_assoc]
  congr 1
  simp only [hd] at h
  rw [h]
  rfl
theorem refEnds_l1 (f : List S34) (hn : f.length ≤ 2097152) (j : Nat) (hj : j < f.length) (r : List Int) (hr : ∃ k, dowelref12_Ends.l0 k f (filled 0 f j) ((j : Int) - 1) = some r) (x : Int) (hx : (K f)[j]'(by rw [K_length]; exact hj) = x) (hxb : x ≤ 9223372036854775807) :
    ∀ d (q m : Nat), (x.toNat - q) = d → (x < 0 → q = 0) → (0 ≤ x → (q : Int) ≤ x) → jump q ((ex (K f)).drop (j + 1)) = some m → ∃ k, dowelref12_Ends.l1 k f (filled 0 f (j + 1)) (j : Int) ((j + 1 + m : Nat) : Int) (q : Int) = some r
  | d, q, m, hq, hneg, hpos, hjq => by
    have hel : ((ex (K f)).drop (j + 1)).length = f.length - (j + 1) := by rw [List.length_drop, ex_length, K_length]
    have hh := hd_at f j hj x hx
    have hm := jump_bounds q (ex_wf (K f) |>.drop (j + 1)) hjq
    obtain ⟨k0, hk0⟩ := hr
    have hlen := filled_length 0 f (j + 1) (by omega)
    have keep : hd ((ex (K f)).drop j) = none → dowelref12_Ends.l0 k0 f (filled 0 f (j + 1)) (wrap64 ((j : Int) - 1)) = some r := fun h => by
      rw [filled_keep f j hj h, wrap_of (by omega) (by omega)]
      exact hk0
    have hstart : ∀ k, dowelref12_Ends.l1 (k + 1) f (filled 0 f (j + 1)) (j : Int) ((j + 1 + m : Nat) : Int) (q : Int) =
        (if (q : Int) < x then (if ((j + 1 + m : Nat) : Int) < (f.length : Int) then (if 0 ≤ ((j + 1 + m : Nat) : Int) then (if ((j + 1 + m : Nat) : Int) < ((filled 0 f (j + 1)).length : Int) then (if (rd (filled 0 f (j + 1)) ((j + 1 + m : Nat) : Int)) > 0 then (dowelref12_Ends.l1 k f (filled 0 f (j + 1)) (j : Int) (rd (filled 0 f (j + 1)) ((j + 1 + m : Nat) : Int)) (wrap64 ((q : Int) + 1))) else (if x ≥ 0 then (if (q : Int) = x then (if (j : Int) < ((filled 0 f (j + 1)).length : Int) then (dowelref12_Ends.l0 k f ((filled 0 f (j + 1)).set ((j : Int)).toNat ((j + 1 + m : Nat) : Int)) (wrap64 ((j : Int) - 1))) else (none)) else (dowelref12_Ends.l0 k f (filled 0 f (j + 1)) (wrap64 ((j : Int) - 1)))) else (dowelref12_Ends.l0 k f (filled 0 f (j + 1)) (wrap64 ((j : Int) - 1))))) else (none)) else (none)) else (if x ≥ 0 then (if (q : Int) = x then (if (j : Int) < ((filled 0 f (j + 1)).length : Int) then (dowelref12_Ends.l0 k f ((filled 0 f (j + 1)).set ((j : Int)).toNat ((j + 1 + m : Nat) : Int)) (wrap64 ((j : Int) - 1))) else (none)) else (dowelref12_Ends.l0 k f (filled 0 f (j + 1)) (wrap64 ((j : Int) - 1)))) else (dowelref12_Ends.l0 k f (filled 0 f (j + 1)) (wrap64 ((j : Int) - 1))))) else (if x ≥ 0 then (if (q : Int) = x then (if (j : Int) < ((filled 0 f (j + 1)).length : Int) then (dowelref12_Ends.l0 k f ((filled 0 f (j + 1)).set ((j : Int)).toNat ((j + 1 + m : Nat) : Int)) (wrap64 ((j : Int) - 1))) else (none)) else (dowelref12_Ends.l0 k f (filled 0 f (j + 1)) (wrap64 ((j : Int) - 1)))) else (dowelref12_Ends.l0 k f (filled 0 f (j + 1)) (wrap64 ((j : Int) - 1))))) := fun k => by
      rw [dowelref12_Ends.l1, if_pos (by omega), if_pos (by omega), rd_f3 f j hj, hx]
    by_cases h0 : x < 0
    · rw [if_pos h0] at hh
      refine ⟨k0 + 1, ?_⟩
      rw [hstart, if_neg (by omega), if_neg (by omega)]
      exact keep hh
    · rw [if_neg h0] at hh
      by_cases h1 : (q : Int) = x
      · have hqx : x.toNat = q := by omega
        rw [hqx, hjq] at hh
        refine ⟨k0 + 1, ?_⟩
        rw [hstart, if_neg (by omega), if_pos (by omega), if_pos h1, if_pos (by omega), filled_set 0 f j hj _ (by rw [hh]; simp [val]; omega), wrap_of (by omega) (by omega)]
        exact hk0
      · have hlt : (q : Int) < x := by have := hpos (by omega); omega
        have hsn := jump_snoc q ((ex (K f)).drop (j + 1))
        rw [hjq, Option.bind_some, List.drop_drop] at hsn
        have none_of : jump (q + 1) ((ex (K f)).drop (j + 1)) = none → hd ((ex (K f)).drop j) = none := fun h => by
          rw [hh, jump_none_of_lt h (by omega)]; rfl
        by_cases hge : f.length ≤ j + 1 + m
        · have e : hd ((ex (K f)).drop (j + 1 + m)) = none := by rw [List.drop_eq_nil_of_le (by rw [ex_length, K_length]; exact hge)]; rfl
          rw [e] at hsn
          refine ⟨k0 + 1, ?_⟩
          rw [hstart, if_pos hlt, if_neg (by omega), if_pos (by omega), if_neg h1]
          exact keep (none_of hsn)
        · have hg := filled_get 0 f (j + 1) (j + 1 + m) (by omega) (by omega)
          cases hw : hd ((ex (K f)).drop (j + 1 + m)) with
          | none =>
            rw [hw] at hsn hg
            refine ⟨k0 + 1, ?_⟩
            rw [hstart, if_pos hlt, if_pos (by omega), if_pos (by omega), if_pos (by omega), hg, if_neg (by simp [val]), if_pos (by omega), if_neg h1]
            exact keep (none_of hsn)
          | some u =>
            rw [hw] at hsn hg
            have hu := (ex_wf (K f) |>.drop (j + 1 + m)).hd hw
            obtain ⟨k, hk⟩ := refEnds_l1 f hn j hj r ⟨k0, hk0⟩ x hx hxb (d - 1) (q + 1) (m + u) (by omega) (fun h => by omega) (fun _ => by omega) hsn
            refine ⟨k + 1, ?_⟩
            rw [hstart, if_pos hlt, if_pos (by omega), if_pos (by omega), if_pos (by omega), hg, if_pos (by simp [val]; omega), wrap_of (by omega) (by omega), show val 0 (j + 1 + m) (some u) = ((j + 1 + (m + u) : Nat) : Int) by simp [val]; omega, show (q : Int) + 1 = ((q + 1 : Nat) : Int) by omega]
            exact hk
  termination_by d => d
  decreasing_by omega
theorem refEnds_l0 (f : List S34) (hn : f.length ≤ 2097152) (hb : ∀ c ∈ f, c.f3 ≤ 9223372036854775807) : ∀ i, i ≤ f.length → ∃ k, dowelref12_Ends.l0 k f (filled 0 f i) ((i : Int) - 1) = some (filled 0 f 0)
  | 0, _ => ⟨1, by rw [dowelref12_Ends.l0, if_neg (by omega)]⟩
  | j + 1, hi => by
    have ih := refEnds_l0 f hn hb j (by omega)
    have hj : j < f.length := by omega
    have hxb : (K f)[j]'(by rw [K_length]; exact hj) ≤ 9223372036854775807 := by simp only [K, List.getElem_map]; exact hb _ (List.getElem_mem hj)
    obtain ⟨k, hk⟩ := refEnds_l1 f hn j hj _ ih _ rfl hxb _ 0 0 rfl (fun _ => rfl) (fun h => by omega) (by simp [jump])
    refine ⟨k + 1, ?_⟩
    rw [show ((j + 1 : Nat) : Int) - 1 = (j : Int) by omega, dowelref12_Ends.l0, if_pos (by omega), wrap_of (by omega) (by omega)]
    exact hk
theorem refEnds_ev (f : List S34) (hn : f.length ≤ 2097152) (hb : ∀ c ∈ f, c.f3 ≤ 9223372036854775807) : Ev (fun k => dowelref12_Ends.f k f) (absZ 0 (ex (K f)) 0) := by
  obtain ⟨k, hk⟩ := refEnds_l0 f hn hb f.length (Nat.le_refl _)
  refine Ev.of (fun k => dowelref12_Ends.mono f k) (k := k) ?_
  rw [filled_zero] at hk
  unfold dowelref12_Ends.f
  rw [if_pos (by omega), if_pos (by omega), Int.toNat_natCast, wrap_of (by omega) (by omega), ← filled_all 0 f]
  exact hk
end Go.Proofs.Ytkebableanenkaa.Fo
