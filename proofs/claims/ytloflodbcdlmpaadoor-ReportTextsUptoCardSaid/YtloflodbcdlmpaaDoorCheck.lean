/- forest.Check and the document's Check tell the same of every list of nodes, over an input of any length. Conditions: a list of at most 2^20 nodes. -/
import Derived.Test.YtloflodbcdlmpaaDoorRight
namespace Go.Proofs.YtloflodbcdlmpaaDoor.Chk
open Go.RowKit Go.Proofs.YtloflodbcdlmpaaDoor.Qall Go.Proofs.YtloflodbcdlmpaaDoor.Fo Go.Proofs.YtloflodbcdlmpaaDoor.Nest Go.Proofs.YtloflodbcdlmpaaDoor.Right Go.Proofs.YtloflodbcdlmpaaDoorW.PrintWords Go.Proofs.YtloflodbcdlmpaaDoorW.PrintLast Go.Proofs.YtloflodbcdlmpaaDoorW.PrintMore
set_option linter.unusedSimpArgs false
set_option linter.unusedVariables false
theorem wrap_of {i : Int} (h0 : -9223372036854775808 ≤ i) (h1 : i ≤ 9223372036854775807) : wrap64 i = i := by
  unfold wrap64
  omega
def rightB (f : List S60) (size : Int) : Bool := (mach [] (K f)).isSome && nst Own.nameOk f (absZ (-1) (ex (K f)) 0) f.length 0 [((f.length : Int), size, 0)]
/-- What Check tells. -/
def chkAns (f : List S60) (size : Int) : Int := if size < 0 ∨ size > 65536 then 5 else if f.length > 1048576 then 1 else if rightB f size = true then 0 else 6
theorem ls_eq (f : List S60) (ls : List Nat) (h : mach [] (K f) = some ls) : ls = lev2 [] 0 (absE (ex (K f)) 0) ∧ absZ (-1) (ex (K f)) 0 = toI (absE (ex (K f)) 0) ∧ (absE (ex (K f)) 0).length = f.length := by
  have h1 := mach_lev2 (K f) [] 0 ls h
  have hq : Q [] (ex (K f)) := (mach_iff (K f) []).1 (by rw [h]; rfl)
  exact ⟨h1, absE_absZ (-1) _ 0 (Q_all _ _ hq), by rw [absE_length, ex_length, K_length]⟩
theorem rd_toI (l : List Nat) (j : Nat) : rd (toI l) (j : Int) = ((l.getD j 0 : Nat) : Int) := by
  unfold rd toI
  rw [Int.toNat_natCast, List.getD_eq_getElem?_getD, List.getElem?_map, List.getD_eq_getElem?_getD]
  cases l[j]? <;> rfl
theorem lev_get (f : List S60) (ls : List Nat) (h : mach [] (K f) = some ls) (j : Nat) (hj : j < f.length) : rd (toI ls) (j : Int) = ((pops (absE (ex (K f)) 0) j).length : Int) ∧ ls.length = f.length := by
  obtain ⟨h1, _, h3⟩ := ls_eq f ls h
  have hg := lev2_get (absE (ex (K f)) 0) f.length 0 j (by omega) hj
  rw [List.drop_zero, Nat.zero_add] at hg
  have e : (Tst (absE (ex (K f)) 0) 0).map (·.2) = [] := rfl
  rw [e, ← h1] at hg
  refine ⟨?_, ?_⟩
  · rw [rd_toI, List.getD_eq_getElem?_getD, hg]; rfl
  · have h4 := LawLen.mach_length (K f) [] ls h
    rw [h4, K_length]
theorem ref_right (f : List S60) (hn : f.length ≤ 2097152) (size : Int) (hs : 0 ≤ size) (M : Nat) (hM : ∀ x ∈ f, x.f0.size ≤ M) (hM2 : M ≤ 1073741824) (ls : List Nat) (h : mach [] (K f) = some ls) (k : Nat) (hk : 2 * f.length + M + 5 < k) :
    dowelref12_right.f k f (toI ls) size = some (nst Own.nameOk f (absZ (-1) (ex (K f)) 0) f.length 0 [((f.length : Int), size, 0)]) := by
  obtain ⟨h1, h2, h3⟩ := ls_eq f ls h
  have hll : (toI ls).length = f.length := by
    rw [toI_length, LawLen.mach_length (K f) [] ls h, K_length]
  obtain ⟨r, hr1, hr2, hr3⟩ := above_l0 (absE (ex (K f)) 0) (toI ls) f.length hn hll (fun j hj => (lev_get f ls h j hj).1) f.length k 0 (List.replicate f.length 0) (by omega) (by omega) List.length_replicate (fun j hj => absurd hj (Nat.not_lt_zero j))
  have hab : dowelref12_Above.f k (toI ls) = some r := by
    unfold dowelref12_Above.f
    rw [hll, if_pos (by omega), Int.toNat_natCast, if_pos (by omega)]
    exact hr1
  unfold dowelref12_right.f
  rw [hab, Option.bind_some, wrap_of (by omega) (by omega), if_pos (by omega), show ((f.length : Int) + 1).toNat = f.length + 1 by omega, if_pos (by omega)]
  have hz : ∀ j : Int, rd (List.replicate (f.length + 1) (0 : Int)) j = 0 := fun j => by
    unfold rd
    rw [List.getD_eq_getElem?_getD, List.getElem?_replicate]
    split <;> rfl
  have hm := right_l0 f size hs (absE (ex (K f)) 0) M hM hM2 hn r (absZ (-1) (ex (K f)) 0) hr2 hr3 (fun j hj => by rw [h2]; exact rd_toI _ j) f.length 0 k (List.replicate (f.length + 1) 0) (by omega) hk List.length_replicate (fun a ha => by cases ha) (fun j _ _ => hz _)
  have e : rooms f size (absE (ex (K f)) 0) (List.replicate (f.length + 1) 0) 0 = [((f.length : Int), size, 0)] := by
    unfold rooms
    rw [hz 0]
    rfl
  rw [e] at hm
  exact hm
theorem refCheck_ev (f : List S60) (hn : f.length ≤ 1048576) (hb : ∀ c ∈ f, c.f3 ≤ 9223372036854775807) (size : Int) (M : Nat) (hM : ∀ x ∈ f, x.f0.size ≤ M) (hM2 : M ≤ 1073741824) : ∃ K0, ∀ k, K0 ≤ k → dowelref12_Check.f k f size = some (chkAns f size) := by
  obtain ⟨K1, h1⟩ : ∃ K1, ∀ k, K1 ≤ k → dowelref12_Levels.f k f = some (fin [] 0 [] (K f)) := levels_ev f (by omega) hb
  refine ⟨K1 + 2 * f.length + M + 7, fun k hk => ?_⟩
  obtain ⟨k, rfl⟩ : ∃ m, k = m + 1 := ⟨k - 1, by omega⟩
  unfold chkAns
  unfold dowelref12_Check.f
  by_cases h0 : size < 0
  · rw [if_pos h0, dowelref12_Check.j0, if_pos rfl, if_pos (.inl h0)]
  · rw [if_neg h0, dowelref12_Check.j0]
    by_cases h2 : size > 65536
    · rw [if_pos (by simpa using h2), if_pos (.inr h2)]
    · rw [if_neg (by simpa using h2), if_neg (by omega), if_neg (by omega), if_neg (by omega), h1 k (by omega), Option.bind_some]
      unfold rightB
      cases hm : mach [] (K f) with
      | none =>
        have e : fin [] 0 [] (K f) = ([], false) := by unfold fin; rw [hm]
        rw [e, if_neg (by simp), if_neg (by simp)]
      | some ls =>
        have e : fin [] 0 [] (K f) = (toI ls, true) := by unfold fin; rw [hm]; rfl
        rw [e, if_pos rfl]
        dsimp only
        rw [ref_right f (by omega) size (by omega) M hM hM2 ls hm k (by omega), Option.bind_some, Option.isSome_some, Bool.true_and]
        cases nst Own.nameOk f (absZ (-1) (ex (K f)) 0) f.length 0 [((f.length : Int), size, 0)] <;> rfl
set_option maxRecDepth 100000 in
set_option maxHeartbeats 4000000 in
theorem check_calls (f : List S60) (hn : f.length ≤ 2097152) (size : Int) (M : Nat) (hM : ∀ x ∈ f, x.f0.size ≤ M) (hM2 : M ≤ 1073741824) (Af : Option Addr) (cf : Nat) (w : World) (hCf : Kd.C k60 w Af f.length f) (hcf : f.length ≤ cf) :
    Calls Tryd.prog 22 #[.slice Af f.length cf, .int .i64 size] w fun e w' => e = .returned (.int .i64 (chkAns f size)) ∧ Below w.heap.size w w' := by
  obtain ⟨K1, h1⟩ : ∃ K1, ∀ k, K1 ≤ k → forest_ends.f k f = some (absZ (-1) (ex (K f)) 0) := ends_ev f hn
  obtain ⟨K2, h2⟩ : ∃ K2, ∀ k, K2 ≤ k → forest_roots.f k (absZ (-1) (ex (K f)) 0) = some (match rt f.length (ex (K f)) 0 with | none => ([], false) | some l => (l, true)) := roots_ev f hn
  have hen := Aside0.mk (h1 K1 (Nat.le_refl _))
  have hro := h2 K2 (Nat.le_refl _)
  have hal : (absZ (-1) (ex (K f)) 0).length = f.length := by rw [absZ_length, ex_length, K_length]
  have hrm := rt_mach f
  clear h1 h2
  have HAL := Aside0.mk hal
  have hown : ∀ s, (∃ x ∈ f, x.f0 = s) → forest_own.f (2 * M + 2) s = some (Own.nameOk s) := fun s hs => by
    obtain ⟨x, hx, rfl⟩ := hs
    exact Own.own_eq x.f0 (by have := hM x hx; omega) (2 * M + 2) (by have := hM x hx; omega)
  by_cases c1 : size < 0
  · have e : chkAns f size = 5 := by unfold chkAns; rw [if_pos (.inl c1)]
    rw [e]
    clear e hro hal hrm hown
    go_enter Tryd.func22, Tryd.ntmps22
    go_wp2
    go_ret
    exact ⟨rfl, Below.refl _ _⟩
  · by_cases c2 : 65536 < size
    · have e : chkAns f size = 5 := by unfold chkAns; rw [if_pos (.inr c2)]
      rw [e]
      clear e hro hal hrm hown
      go_enter Tryd.func22, Tryd.ntmps22
      go_wp2
      go_ret
      exact ⟨rfl, Below.refl _ _⟩
    · by_cases c3 : 1048576 < f.length
      · have e : chkAns f size = 1 := by unfold chkAns; rw [if_neg (by omega), if_pos c3]
        rw [e]
        clear e hro hal hrm hown
        go_enter Tryd.func22, Tryd.ntmps22
        go_wp2
        go_ret
        exact ⟨rfl, Below.refl _ _⟩
      · have ea : chkAns f size = if rightB f size = true then 0 else 6 := by unfold chkAns; rw [if_neg (by omega), if_neg (by omega)]
        cases hr : rt f.length (ex (K f)) 0 with
        | none =>
          rw [hr] at hro hrm
          have e : chkAns f size = 6 := by
            rw [ea]
            unfold rightB
            rw [← hrm]
            rfl
          rw [e]
          dsimp only at hro
          have HRO := Aside0.mk hro
          clear e ea hro hal hrm hown hr
          go_enter Tryd.func22, Tryd.ntmps22
          go_wp2_with (first | (go_at_call 48; go_loud (refine (forest_ends.calls K1 Af cf f _ w hCf hcf hen.out).mono ?_; rintro e w1 ⟨v0, rfl, hR, hb⟩; obtain ⟨Ae, ce, hve⟩ := Kd.R_slice hR; rw [HAL.out] at hve; subst hve; have hE := (Kd.R_reads' hR).2; rw [HAL.out] at hE)) | (go_at_call 49; go_loud (have hq := forest_roots.calls K2 Ae ce (absZ (-1) (ex (K f)) 0) [] false w1; rw [HAL.out] at hq; refine (hq hE.2 hE.1 HRO.out).mono ?_; rintro e w2 ⟨v1, rfl, hR1, hb1⟩; obtain ⟨A1, ce1, rfl⟩ := Kd.R_slice hR1)) | fail)
          go_ret
          exact ⟨rfl, hb.trans (hb1.mono hb.size)⟩
        | some rs =>
          rw [hr] at hro hrm
          have hms : (mach [] (K f)).isSome = true := by rw [← hrm]; rfl
          have e : chkAns f size = if nst Own.nameOk f (absZ (-1) (ex (K f)) 0) f.length 0 [((f.length : Int), size, 0)] = true then 0 else 6 := by
            rw [ea]
            unfold rightB
            rw [hms, Bool.true_and]
          rw [e]
          dsimp only at hro
          have HRO := Aside0.mk hro
          have HN := fun (Al : Option Addr) (cl : Nat) (W : World) (hC1 : Kd.C k60 W Af f.length f) (hC2 : Kd.C (Kd.int .i64) W Al f.length (absZ (-1) (ex (K f)) 0)) (h3 : f.length ≤ cl) => nested_calls Own.nameOk f (absZ (-1) (ex (K f)) 0) size (2 * M + 2) hown hn Af cf Al cl hal W hC1 hcf hC2 h3
          obtain ⟨b, hb⟩ : ∃ b, nst Own.nameOk f (absZ (-1) (ex (K f)) 0) f.length 0 [((f.length : Int), size, 0)] = b := ⟨_, rfl⟩
          rw [hb] at HN ⊢
          have HNN := Aside0.mk HN
          clear e ea hro hal hrm hown hr HN hb hms
          cases b with
          | false =>
            rw [if_neg (by simp)]
            go_enter Tryd.func22, Tryd.ntmps22
            go_wp2_with (first | (go_at_call 48; go_loud (refine (forest_ends.calls K1 Af cf f _ w hCf hcf hen.out).mono ?_; rintro e w1 ⟨v0, rfl, hR, hb⟩; obtain ⟨Ae, ce, hve⟩ := Kd.R_slice hR; rw [HAL.out] at hve; subst hve; have hE := (Kd.R_reads' hR).2; rw [HAL.out] at hE)) | (go_at_call 49; go_loud (have hq := forest_roots.calls K2 Ae ce (absZ (-1) (ex (K f)) 0) rs true w1; rw [HAL.out] at hq; refine (hq hE.2 hE.1 HRO.out).mono ?_; rintro e w2 ⟨v1, rfl, hR1, hb1⟩; obtain ⟨A1, ce1, rfl⟩ := Kd.R_slice hR1; have b2 := hb.trans (hb1.mono hb.size))) | (go_at_call 50; refine (HNN.out Ae ce w2 (Kd.C_below hCf b2) (Kd.C_below hE.2 hb1) hE.1).mono ?_; rintro e w3 ⟨rfl, hb3⟩) | fail)
            go_ret
            exact ⟨rfl, b2.trans (hb3.mono b2.size)⟩
          | true =>
            rw [if_pos rfl]
            go_enter Tryd.func22, Tryd.ntmps22
            go_wp2_with (first | (go_at_call 48; go_loud (refine (forest_ends.calls K1 Af cf f _ w hCf hcf hen.out).mono ?_; rintro e w1 ⟨v0, rfl, hR, hb⟩; obtain ⟨Ae, ce, hve⟩ := Kd.R_slice hR; rw [HAL.out] at hve; subst hve; have hE := (Kd.R_reads' hR).2; rw [HAL.out] at hE)) | (go_at_call 49; go_loud (have hq := forest_roots.calls K2 Ae ce (absZ (-1) (ex (K f)) 0) rs true w1; rw [HAL.out] at hq; refine (hq hE.2 hE.1 HRO.out).mono ?_; rintro e w2 ⟨v1, rfl, hR1, hb1⟩; obtain ⟨A1, ce1, rfl⟩ := Kd.R_slice hR1; have b2 := hb.trans (hb1.mono hb.size))) | (go_at_call 50; refine (HNN.out Ae ce w2 (Kd.C_below hCf b2) (Kd.C_below hE.2 hb1) hE.1).mono ?_; rintro e w3 ⟨rfl, hb3⟩) | fail)
            go_ret
            exact ⟨rfl, b2.trans (hb3.mono b2.size)⟩
end Go.Proofs.YtloflodbcdlmpaaDoor.Chk
