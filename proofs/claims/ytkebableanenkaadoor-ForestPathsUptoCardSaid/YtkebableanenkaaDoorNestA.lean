/- Of two nodes of a right forest the later one lies within the other, or begins where that one has ended: the plain law. -/
import Derived.Test.YtkebableanenkaaDoorFind2
namespace Go.Proofs.YtkebableanenkaaDoor.Nsa
open Go.RowKit Go.Proofs.YtkebableanenkaaDoor.Qall Go.Proofs.YtkebableanenkaaDoor.Fo Go.Proofs.YtkebableanenkaaDoor.Nest Go.Proofs.YtkebableanenkaaDoor.Chk Go.Proofs.YtkebableanenkaaDoor.Fi Go.Proofs.YtkebableanenkaaDoorW.PrintWords Go.Proofs.YtkebableanenkaaDoorW.PrintLast Go.Proofs.YtkebableanenkaaDoorW.PrintMore
set_option linter.unusedSimpArgs false
set_option linter.unusedVariables false
theorem jump_nest : ∀ (n m : Nat), m ≤ n → ∀ (x : Nat) (c : List Int), jump x (ex c) = some m → ∀ j, j < m → ∃ m', Fo.hd ((ex c).drop j) = some m' ∧ j + m' ≤ m
  | 0, m, hm, _, _, _, j, hj => by omega
  | n + 1, m, hm, x, c, h, j, hj => by
    cases x with
    | zero => simp [jump] at h; omega
    | succ x =>
      unfold jump at h
      cases h1 : Fo.hd (ex c) with
      | none => rw [h1] at h; cases h
      | some m1 =>
        rw [h1] at h
        simp only [Option.map_eq_some_iff] at h
        obtain ⟨m2, h2, h3⟩ := h
        have hw := (ex_wf c).hd h1
        rcases Nat.lt_or_ge j m1 with hj1 | hj1
        · cases j with
          | zero => exact ⟨m1, by rw [List.drop_zero]; exact h1, by omega⟩
          | succ j =>
            cases c with
            | nil => simp [ex, Fo.hd] at h1
            | cons y c =>
              rw [hd_ex] at h1
              split at h1
              · cases h1
              · simp only [Option.map_eq_some_iff] at h1
                obtain ⟨m3, h4, h5⟩ := h1
                obtain ⟨m', h6, h7⟩ := jump_nest n m3 (by omega) y.toNat c h4 j (by omega)
                exact ⟨m', h6, by omega⟩
        · rw [← ex_drop] at h2
          obtain ⟨m', h6, h7⟩ := jump_nest n m2 (by omega) x (c.drop m1) h2 (j - m1) (by omega)
          rw [ex_drop, List.drop_drop, show m1 + (j - m1) = j by omega] at h6
          exact ⟨m', h6, by omega⟩
theorem el_some (f : List SC) (h : chkAns f 65536 = 0) (a : Nat) (ha : a < f.length) : ∃ m : Nat, Fo.hd ((ex (K f)).drop a) = some m ∧ rd (elOf f) (a : Int) = ((a + m : Nat) : Int) := by
  have hl : (ex (K f)).length = f.length := by rw [ex_length, K_length]
  have hrd := abs_rd (-1) (ex (K f)) a (by omega)
  have hx := (right_ex f h a ha).1
  cases hh : Fo.hd ((ex (K f)).drop a) with
  | none =>
    exfalso
    rw [hh] at hrd
    have hv : rd (elOf f) (a : Int) = -1 := hrd
    omega
  | some m => rw [hh] at hrd; exact ⟨m, rfl, hrd⟩
/-- Extents nest. -/
theorem el_nest (f : List SC) (h : chkAns f 65536 = 0) (p k : Nat) (hp : p < f.length) (hk : k < f.length) (hpk : p < k) (hin : (k : Int) < rd (elOf f) (p : Int)) : rd (elOf f) (k : Int) ≤ rd (elOf f) (p : Int) := by
  obtain ⟨m, h1, h2⟩ := el_some f h p hp
  obtain ⟨mk, h3, h4⟩ := el_some f h k hk
  rw [h2] at hin ⊢
  rw [h4]
  have hl : (K f).length = f.length := K_length f
  obtain ⟨y, c, hyc⟩ : ∃ y c, (K f).drop p = y :: c := ⟨_, _, List.drop_eq_getElem_cons (by omega)⟩
  rw [← ex_drop, hyc, hd_ex] at h1
  split at h1
  · cases h1
  · simp only [Option.map_eq_some_iff] at h1
    obtain ⟨m3, h5, h6⟩ := h1
    obtain ⟨m', h7, h8⟩ := jump_nest m3 m3 (Nat.le_refl _) y.toNat c h5 (k - p - 1) (by omega)
    have hd2 : (ex c).drop (k - p - 1) = (ex (K f)).drop k := by
      rw [← ex_drop, ← ex_drop]
      congr 1
      have : c = (K f).drop (p + 1) := by
        have := congrArg (List.drop 1) hyc
        rw [List.drop_drop] at this
        exact this.symm
      rw [this, List.drop_drop, show p + 1 + (k - p - 1) = k by omega]
    rw [hd2, h3] at h7
    injection h7 with h7
    omega
section
variable {own : ByteArray → Bool} {f : List SC} {l : List Int}
abbrev nd (f : List SC) (i : Nat) : SC := rd_T37 f (i : Int)
abbrev drp (i : Nat) (st : List Rm) : List Rm := st.dropWhile (fun r => decide (r.1 ≤ (i : Int)))
theorem nst_step {d i : Nat} {st : List Rm} (h : nst own f l (d + 1) i st = true) : ∃ up r, drp i st = up :: r ∧ up.2.2 ≤ (nd f i).f1 ∧ (nd f i).f1 ≤ (nd f i).f2 ∧ (nd f i).f2 ≤ up.2.1 ∧
    nst own f l d (i + 1) ((rd l (i : Int), (nd f i).f2, (nd f i).f1) :: (up.1, up.2.1, (nd f i).f2) :: r) = true := by
  unfold nst at h
  split at h
  · cases h
  · rename_i up r hd
    split at h
    · cases h
    · split at h
      · cases h
      · split at h
        · cases h
        · split at h
          · cases h
          · exact ⟨up, r, hd, by show _ ≤ (rd_T37 f (i : Int)).f1; omega, by show (rd_T37 f (i : Int)).f1 ≤ (rd_T37 f (i : Int)).f2; omega, by show (rd_T37 f (i : Int)).f2 ≤ _; omega, h⟩
theorem drp_sub {i : Nat} {st : List Rm} : ∀ y ∈ drp i st, y ∈ st := fun y hy => (List.dropWhile_sublist _).subset hy
/-- Rooms ordered: each ends where the one below begins, or ahead of it. -/
def Ord : List Rm → Prop
  | [] => True
  | x :: r => x.2.2 ≤ x.2.1 ∧ (∀ y ∈ r, x.2.1 ≤ y.2.2) ∧ Ord r
theorem Ord.drp {i : Nat} : ∀ {st : List Rm}, Ord st → Ord (drp i st)
  | [], h => h
  | x :: r, h => by
    show Ord (List.dropWhile _ (x :: r))
    rw [List.dropWhile_cons]
    split
    · exact Ord.drp (st := r) h.2.2
    · exact h
theorem Ord.push {up : Rm} {r : List Rm} (h : Ord (up :: r)) {e a b : Int} (h1 : a ≤ b) (h2 : b ≤ up.2.1) : Ord ((e, b, a) :: (up.1, up.2.1, b) :: r) :=
  ⟨h1, fun y hy => (List.mem_cons.1 hy).elim (fun e => by rw [e]; exact Int.le_refl _) (fun hy => Int.le_trans h2 (h.2.1 y hy)), h2, h.2.1, h.2.2⟩
/-- Where all rooms begin at c or behind it, so do all nodes to come. -/
theorem after (c : Int) : ∀ d i st, nst own f l d i st = true → (∀ y ∈ drp i st, c ≤ y.2.2) → ∀ k, i ≤ k → k < i + d → c ≤ (nd f k).f1
  | 0, i, st, _, _, k, h1, h2 => by omega
  | d + 1, i, st, h, hc, k, h1, h2 => by
    obtain ⟨up, r, hd, a1, a2, a3, hn⟩ := nst_step h
    have hu := hc up (by rw [hd]; exact List.mem_cons_self ..)
    rcases Nat.lt_or_ge i k with hk | hk
    · refine after c d (i + 1) _ hn (fun y hy => ?_) k hk (by omega)
      rcases List.mem_cons.1 (drp_sub y hy) with rfl | hy
      · show c ≤ (nd f i).f1; omega
      · rcases List.mem_cons.1 hy with rfl | hy
        · show c ≤ (nd f i).f2; omega
        · exact hc y (by rw [hd]; exact List.mem_cons_of_mem _ hy)
    · obtain rfl : k = i := by omega
      omega
theorem drp_app {i : Nat} {e : Int} {R : Rm} {D : List Rm} (hR : R.1 = e) (hi : (i : Int) < e) : ∀ U : List Rm, drp i (U ++ R :: D) = drp i U ++ R :: D
  | [] => by
    show List.dropWhile _ (R :: D) = _
    rw [List.dropWhile_cons, if_neg (by simp; omega)]
    rfl
  | u :: U => by
    have ih := drp_app (D := D) hR hi U
    show List.dropWhile _ (u :: (U ++ R :: D)) = List.dropWhile _ (u :: U) ++ R :: D
    rw [List.dropWhile_cons, List.dropWhile_cons]
    split
    · exact ih
    · rfl
theorem drp_all {i : Nat} {e : Int} {R : Rm} {D : List Rm} (hR : R.1 = e) (hi : e ≤ (i : Int)) : ∀ U : List Rm, (∀ y ∈ U, y.1 ≤ e) → drp i (U ++ R :: D) = drp i D
  | [], _ => by
    show List.dropWhile _ (R :: D) = _
    rw [List.dropWhile_cons, if_pos (by simp; omega)]
  | u :: U, hU => by
    have ih := drp_all (D := D) hR hi U (fun y hy => hU y (List.mem_cons_of_mem _ hy))
    have := hU u (List.mem_cons_self ..)
    show List.dropWhile _ (u :: (U ++ R :: D)) = _
    rw [List.dropWhile_cons, if_pos (by simp; omega)]
    exact ih
/-- While a room lies open all that comes lies within it; behind it all begins where it has ended. -/
theorem inside (lo hi e : Int) : ∀ d i (U : List Rm) (R : Rm) (D : List Rm), nst own f l d i (U ++ R :: D) = true → (∀ y ∈ U, y.1 ≤ e) → R.1 = e → (∀ y ∈ U, lo ≤ y.2.2 ∧ y.2.1 ≤ hi) → (lo ≤ R.2.2 ∧ R.2.1 ≤ hi) → (∀ y ∈ D, hi ≤ y.2.2) →
    (∀ k : Nat, i ≤ k → k < i + d → (k : Int) < e → rd l (k : Int) ≤ e) → ∀ k : Nat, i ≤ k → k < i + d → ((k : Int) < e → lo ≤ (nd f k).f1 ∧ (nd f k).f2 ≤ hi) ∧ (e ≤ (k : Int) → hi ≤ (nd f k).f1)
  | 0, i, U, R, D, _, _, _, _, _, _, _, k, h1, h2 => by omega
  | d + 1, i, U, R, D, h, hU, hR, hL, hRL, hD, hex, k, h1, h2 => by
    rcases Int.lt_or_le (i : Int) e with hie | hie
    · obtain ⟨up, r, hd, a1, a2, a3, hn⟩ := nst_step h
      rw [drp_app hR hie] at hd
      have hxi := hex i (Nat.le_refl _) (by omega) hie
      have hU' : ∀ y ∈ drp i U, y ∈ U := drp_sub
      rcases Nat.lt_or_ge i k with hk | hk
      · cases hd2 : drp i U with
        | nil =>
          rw [hd2, List.nil_append] at hd
          injection hd with e1 e2
          subst e1 e2
          refine inside lo hi e d (i + 1) [(rd l (i : Int), (nd f i).f2, (nd f i).f1)] (R.1, R.2.1, (nd f i).f2) D hn (fun y hy => ?_) hR (fun y hy => ?_) ⟨?_, hRL.2⟩ hD (fun k' g1 g2 g3 => hex k' (by omega) (by omega) g3) k hk (by omega)
          · rw [List.mem_singleton.1 hy]; exact hxi
          · rw [List.mem_singleton.1 hy]
            have := hRL.1; have := hRL.2
            exact ⟨by show lo ≤ (nd f i).f1; omega, by show (nd f i).f2 ≤ hi; omega⟩
          · show lo ≤ (nd f i).f2; have := hRL.1; omega
        | cons u U2 =>
          rw [hd2, List.cons_append] at hd
          injection hd with e1 e2
          subst e1 e2
          have hu : u ∈ U := hU' u (by rw [hd2]; exact List.mem_cons_self ..)
          have hU2 : ∀ y ∈ U2, y ∈ U := fun y hy => hU' y (by rw [hd2]; exact List.mem_cons_of_mem _ hy)
          have hlu := hL u hu
          refine inside lo hi e d (i + 1) ((rd l (i : Int), (nd f i).f2, (nd f i).f1) :: (u.1, u.2.1, (nd f i).f2) :: U2) R D hn (fun y hy => ?_) hR (fun y hy => ?_) hRL hD (fun k' g1 g2 g3 => hex k' (by omega) (by omega) g3) k hk (by omega)
          · rcases List.mem_cons.1 hy with rfl | hy
            · exact hxi
            · rcases List.mem_cons.1 hy with rfl | hy
              · exact hU u hu
              · exact hU y (hU2 y hy)
          · rcases List.mem_cons.1 hy with rfl | hy
            · exact ⟨by show lo ≤ (nd f i).f1; omega, by show (nd f i).f2 ≤ hi; omega⟩
            · rcases List.mem_cons.1 hy with rfl | hy
              · exact ⟨by show lo ≤ (nd f i).f2; omega, hlu.2⟩
              · exact hL y (hU2 y hy)
      · obtain rfl : k = i := by omega
        have hup : lo ≤ up.2.2 ∧ up.2.1 ≤ hi := by
          cases hd2 : drp k U with
          | nil => rw [hd2, List.nil_append] at hd; injection hd with e1 _; rw [← e1]; exact hRL
          | cons u U2 => rw [hd2, List.cons_append] at hd; injection hd with e1 _; rw [← e1]; exact hL u (hU' u (by rw [hd2]; exact List.mem_cons_self ..))
        exact ⟨fun _ => ⟨by omega, by omega⟩, fun h => by omega⟩
    · have hk := after hi (d + 1) i (U ++ R :: D) h (fun y hy => by rw [drp_all hR hie U hU] at hy; exact hD y (drp_sub y hy)) k h1 h2
      exact ⟨fun h => by omega, fun _ => hk⟩
theorem upto : ∀ (p d i : Nat) (st : List Rm), nst own f l (p + d) i st = true → Ord st → ∃ st', nst own f l d (i + p) st' = true ∧ Ord st'
  | 0, d, i, st, h, ho => ⟨st, by rw [Nat.zero_add] at h; exact h, ho⟩
  | p + 1, d, i, st, h, ho => by
    rw [show p + 1 + d = (p + d) + 1 by omega] at h
    obtain ⟨up, r, hd, a1, a2, a3, hn⟩ := nst_step h
    have ho2 : Ord (up :: r) := by rw [← hd]; exact ho.drp
    obtain ⟨st', h1, h2⟩ := upto p d (i + 1) _ hn (ho2.push a2 a3)
    exact ⟨st', by rw [show i + (p + 1) = i + 1 + p by omega]; exact h1, h2⟩
end
theorem chk_nst (f : List SC) (h : chkAns f 65536 = 0) : nst Own.nameOk f (elOf f) f.length 0 [((f.length : Int), 65536, 0)] = true := by
  unfold chkAns at h
  rw [if_neg (by omega)] at h
  split at h
  · cases h
  split at h
  · rename_i h1 h2
    unfold rightB at h2
    rw [Bool.and_eq_true] at h2
    exact h2.2
  · cases h
/-- Spans nest. -/
theorem nests (f : List SC) (h : chkAns f 65536 = 0) (p : Nat) (hp : p < f.length) : (nd f p).f1 ≤ (nd f p).f2 ∧ ∀ k : Nat, p < k → k < f.length →
    ((k : Int) < rd (elOf f) (p : Int) → (nd f p).f1 ≤ (nd f k).f1 ∧ (nd f k).f2 ≤ (nd f p).f2) ∧ (rd (elOf f) (p : Int) ≤ (k : Int) → (nd f p).f2 ≤ (nd f k).f1) := by
  obtain ⟨d, hd⟩ : ∃ d, f.length = p + (d + 1) := ⟨f.length - p - 1, by omega⟩
  have hn := chk_nst f h
  have ho : Ord [((f.length : Int), (65536 : Int), (0 : Int))] := ⟨show (0 : Int) ≤ 65536 by decide, fun y hy => (by cases hy), trivial⟩
  obtain ⟨st', h1, h2⟩ := upto p (d + 1) 0 [((f.length : Int), 65536, 0)] (by rw [← hd]; exact hn) ho
  rw [Nat.zero_add] at h1
  obtain ⟨up, r, hd2, a1, a2, a3, hn2⟩ := nst_step h1
  have ho2 : Ord (up :: r) := by rw [← hd2]; exact h2.drp
  have ho3 := (ho2.push (e := rd (elOf f) (p : Int)) a2 a3).2.1
  refine ⟨a2, fun k hk1 hk2 => ?_⟩
  have hi := inside (own := Own.nameOk) (f := f) (l := elOf f) (nd f p).f1 (nd f p).f2 (rd (elOf f) (p : Int)) d (p + 1) [] (rd (elOf f) (p : Int), (nd f p).f2, (nd f p).f1) ((up.1, up.2.1, (nd f p).f2) :: r) hn2 (fun y hy => (by cases hy)) rfl (fun y hy => (by cases hy)) ⟨Int.le_refl _, Int.le_refl _⟩ ho3
    (fun k' g1 g2 g3 => el_nest f h p k' hp (by omega) (by omega) g3) k hk1 (by omega)
  exact hi
end Go.Proofs.YtkebableanenkaaDoor.Nsa
