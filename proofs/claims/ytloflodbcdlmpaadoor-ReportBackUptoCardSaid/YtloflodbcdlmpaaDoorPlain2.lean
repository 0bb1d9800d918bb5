/- Of a right forest: the ends of its nodes (the plain part of forest.Find's text). || Of two nodes of a right forest the later one lies within the other, or begins where that one has ended: the plain law. || A printed line is read back: the plain law. || What is read of a right forest's text is the forest: the plain law. || A line that is read is the line that is printed of it: the plain law. || Of what is read: its levels are the lines', its counts are right, its text is what was read: the plain law. || What is read is right: the plain law. || Of a text that is not read, and of a text's beginning: the plain law. || Of what is read: how long its names are, how big its numbers: the plain law. -/
import Derived.Test.YtloflodbcdlmpaaDoorFor2
import Derived.Test.YtloflodbcdlmpaaDoorLine2
import Derived.Test.YtloflodbcdlmpaaDoorText2
import Derived.Lib.ItoaNum
import Derived.Test.YtloflodbcdlmpaaDoorParse2
namespace Go.Proofs.YtloflodbcdlmpaaDoor.Fi
open Go.RowKit Go.Proofs.YtloflodbcdlmpaaDoor.Qall Go.Proofs.YtloflodbcdlmpaaDoor.Fo Go.Proofs.YtloflodbcdlmpaaDoor.Chk Go.Proofs.YtloflodbcdlmpaaDoorW.PrintWords Go.Proofs.YtloflodbcdlmpaaDoorW.PrintLast Go.Proofs.YtloflodbcdlmpaaDoorW.PrintMore
set_option linter.unusedSimpArgs false
set_option linter.unusedVariables false
abbrev SC := S60
/-- The ends of the extents, as the program has them. -/
def elOf (f : List SC) : List Int := absZ (-1) (ex (K f)) 0
theorem chk_mach (f : List SC) (h : chkAns f 65536 = 0) : f.length ≤ 1048576 ∧ (mach [] (K f)).isSome = true := by
  unfold chkAns at h
  rw [if_neg (by omega)] at h
  split at h
  · cases h
  split at h
  · rename_i h1 h2
    unfold rightB at h2
    rw [Bool.and_eq_true] at h2
    exact ⟨by omega, h2.1⟩
  · cases h
theorem right_ex (f : List SC) (h : chkAns f 65536 = 0) : ∀ a : Nat, a < f.length → (a : Int) < rd (elOf f) (a : Int) ∧ rd (elOf f) (a : Int) ≤ (f.length : Int) := by
  intro a ha
  have hq : Q [] (ex (K f)) := (mach_iff (K f) []).1 (chk_mach f h).2
  have hl : (ex (K f)).length = f.length := by rw [ex_length, K_length]
  have hrd := abs_rd (-1) (ex (K f)) a (by omega)
  have hdr := drop_hd (ex (K f)) a (by omega)
  cases hh : Fo.hd ((ex (K f)).drop a) with
  | none =>
    exfalso
    rw [hh] at hdr
    have hm : (none : Option Nat) ∈ ex (K f) := List.mem_of_mem_drop (i := a) (by rw [hdr]; exact List.mem_cons_self ..)
    exact Q_all _ _ hq none hm rfl
  | some m =>
    have hw := ((ex_wf (K f)).drop a).hd hh
    rw [List.length_drop, hl] at hw
    rw [hh] at hrd
    have hv : rd (elOf f) (a : Int) = ((a + m : Nat) : Int) := hrd
    rw [hv]
    omega
end Go.Proofs.YtloflodbcdlmpaaDoor.Fi
namespace Go.Proofs.YtloflodbcdlmpaaDoor.Nsa
open Go.RowKit Go.Proofs.YtloflodbcdlmpaaDoor.Qall Go.Proofs.YtloflodbcdlmpaaDoor.Fo Go.Proofs.YtloflodbcdlmpaaDoor.Nest Go.Proofs.YtloflodbcdlmpaaDoor.Chk Go.Proofs.YtloflodbcdlmpaaDoor.Fi Go.Proofs.YtloflodbcdlmpaaDoorW.PrintWords Go.Proofs.YtloflodbcdlmpaaDoorW.PrintLast Go.Proofs.YtloflodbcdlmpaaDoorW.PrintMore
set_option linter.unusedSimpArgs false
set_option linter.unusedVariables false
theorem jump_nest : ∀ (n m : Nat), m ≤ n → ∀ (x : Nat) (c : List Int), jump x (ex c) = some m → ∀ j, j < m → ∃ m', Fo.hd ((ex c).drop j) = some m' ∧ j + m' ≤ m
  | 0, m, hm, _, _, _, j, hj => by omega
  | n + 1, m, hm, x, c, h, j, hj => by
    cases x with
    | zero => simp [jump] at h; omega
    | succ x =>
      unfold jump at h
      cases h1 : Fo.hd (ex c) with
      | none => rw [h1] at h; cases h
      | some m1 =>
        rw [h1] at h
        simp only [Option.map_eq_some_iff] at h
        obtain ⟨m2, h2, h3⟩ := h
        have hw := (ex_wf c).hd h1
        rcases Nat.lt_or_ge j m1 with hj1 | hj1
        · cases j with
          | zero => exact ⟨m1, by rw [List.drop_zero]; exact h1, by omega⟩
          | succ j =>
            cases c with
            | nil => simp [ex, Fo.hd] at h1
            | cons y c =>
              rw [hd_ex] at h1
              split at h1
              · cases h1
              · simp only [Option.map_eq_some_iff] at h1
                obtain ⟨m3, h4, h5⟩ := h1
                obtain ⟨m', h6, h7⟩ := jump_nest n m3 (by omega) y.toNat c h4 j (by omega)
                exact ⟨m', h6, by omega⟩
        · rw [← ex_drop] at h2
          obtain ⟨m', h6, h7⟩ := jump_nest n m2 (by omega) x (c.drop m1) h2 (j - m1) (by omega)
          rw [ex_drop, List.drop_drop, show m1 + (j - m1) = j by omega] at h6
          exact ⟨m', h6, by omega⟩
theorem el_some (f : List SC) (h : chkAns f 65536 = 0) (a : Nat) (ha : a < f.length) : ∃ m : Nat, Fo.hd ((ex (K f)).drop a) = some m ∧ rd (elOf f) (a : Int) = ((a + m : Nat) : Int) := by
  have hl : (ex (K f)).length = f.length := by rw [ex_length, K_length]
  have hrd := abs_rd (-1) (ex (K f)) a (by omega)
  have hx := (right_ex f h a ha).1
  cases hh : Fo.hd ((ex (K f)).drop a) with
  | none =>
    exfalso
    rw [hh] at hrd
    have hv : rd (elOf f) (a : Int) = -1 := hrd
    omega
  | some m => rw [hh] at hrd; exact ⟨m, rfl, hrd⟩
/-- Extents nest. -/
theorem el_nest (f : List SC) (h : chkAns f 65536 = 0) (p k : Nat) (hp : p < f.length) (hk : k < f.length) (hpk : p < k) (hin : (k : Int) < rd (elOf f) (p : Int)) : rd (elOf f) (k : Int) ≤ rd (elOf f) (p : Int) := by
  obtain ⟨m, h1, h2⟩ := el_some f h p hp
  obtain ⟨mk, h3, h4⟩ := el_some f h k hk
  rw [h2] at hin ⊢
  rw [h4]
  have hl : (K f).length = f.length := K_length f
  obtain ⟨y, c, hyc⟩ : ∃ y c, (K f).drop p = y :: c := ⟨_, _, List.drop_eq_getElem_cons (by omega)⟩
  rw [← ex_drop, hyc, hd_ex] at h1
  split at h1
  · cases h1
  · simp only [Option.map_eq_some_iff] at h1
    obtain ⟨m3, h5, h6⟩ := h1
    obtain ⟨m', h7, h8⟩ := jump_nest m3 m3 (Nat.le_refl _) y.toNat c h5 (k - p - 1) (by omega)
    have hd2 : (ex c).drop (k - p - 1) = (ex (K f)).drop k := by
      rw [← ex_drop, ← ex_drop]
      congr 1
      have : c = (K f).drop (p + 1) := by
        have := congrArg (List.drop 1) hyc
        rw [List.drop_drop] at this
        exact this.symm
      rw [this, List.drop_drop, show p + 1 + (k - p - 1) = k by omega]
    rw [hd2, h3] at h7
    injection h7 with h7
    omega
section
variable {own : ByteArray → Bool} {f : List SC} {l : List Int}
abbrev nd (f : List SC) (i : Nat) : SC := rd_T60 f (i : Int)
abbrev drp (i : Nat) (st : List Rm) : List Rm := st.dropWhile (fun r => decide (r.1 ≤ (i : Int)))
theorem nst_step {d i : Nat} {st : List Rm} (h : nst own f l (d + 1) i st = true) : ∃ up r, drp i st = up :: r ∧ up.2.2 ≤ (nd f i).f1 ∧ (nd f i).f1 ≤ (nd f i).f2 ∧ (nd f i).f2 ≤ up.2.1 ∧
    nst own f l d (i + 1) ((rd l (i : Int), (nd f i).f2, (nd f i).f1) :: (up.1, up.2.1, (nd f i).f2) :: r) = true := by
  unfold nst at h
  split at h
  · cases h
  · rename_i up r hd
    split at h
    · cases h
    · split at h
      · cases h
      · split at h
        · cases h
        · split at h
          · cases h
          · exact ⟨up, r, hd, by show _ ≤ (rd_T60 f (i : Int)).f1; omega, by show (rd_T60 f (i : Int)).f1 ≤ (rd_T60 f (i : Int)).f2; omega, by show (rd_T60 f (i : Int)).f2 ≤ _; omega, h⟩
theorem drp_sub {i : Nat} {st : List Rm} : ∀ y ∈ drp i st, y ∈ st := fun y hy => (List.dropWhile_sublist _).subset hy
/-- Rooms ordered: each ends where the one below begins, or ahead of it. -/
def Ord : List Rm → Prop
  | [] => True
  | x :: r => x.2.2 ≤ x.2.1 ∧ (∀ y ∈ r, x.2.1 ≤ y.2.2) ∧ Ord r
theorem Ord.drp {i : Nat} : ∀ {st : List Rm}, Ord st → Ord (drp i st)
  | [], h => h
  | x :: r, h => by
    show Ord (List.dropWhile _ (x :: r))
    rw [List.dropWhile_cons]
    split
    · exact Ord.drp (st := r) h.2.2
    · exact h
theorem Ord.push {up : Rm} {r : List Rm} (h : Ord (up :: r)) {e a b : Int} (h1 : a ≤ b) (h2 : b ≤ up.2.1) : Ord ((e, b, a) :: (up.1, up.2.1, b) :: r) :=
  ⟨h1, fun y hy => (List.mem_cons.1 hy).elim (fun e => by rw [e]; exact Int.le_refl _) (fun hy => Int.le_trans h2 (h.2.1 y hy)), h2, h.2.1, h.2.2⟩
/-- Where all rooms begin at c or behind it, so do all nodes to come. -/
theorem after (c : Int) : ∀ d i st, nst own f l d i st = true → (∀ y ∈ drp i st, c ≤ y.2.2) → ∀ k, i ≤ k → k < i + d → c ≤ (nd f k).f1
  | 0, i, st, _, _, k, h1, h2 => by omega
  | d + 1, i, st, h, hc, k, h1, h2 => by
    obtain ⟨up, r, hd, a1, a2, a3, hn⟩ := nst_step h
    have hu := hc up (by rw [hd]; exact List.mem_cons_self ..)
    rcases Nat.lt_or_ge i k with hk | hk
    · refine after c d (i + 1) _ hn (fun y hy => ?_) k hk (by omega)
      rcases List.mem_cons.1 (drp_sub y hy) with rfl | hy
      · show c ≤ (nd f i).f1; omega
      · rcases List.mem_cons.1 hy with rfl | hy
        · show c ≤ (nd f i).f2; omega
        · exact hc y (by rw [hd]; exact List.mem_cons_of_mem _ hy)
    · obtain rfl : k = i := by omega
      omega
theorem drp_app {i : Nat} {e : Int} {R : Rm} {D : List Rm} (hR : R.1 = e) (hi : (i : Int) < e) : ∀ U : List Rm, drp i (U ++ R :: D) = drp i U ++ R :: D
  | [] => by
    show List.dropWhile _ (R :: D) = _
    rw [List.dropWhile_cons, if_neg (by simp; omega)]
    rfl
  | u :: U => by
    have ih := drp_app (D := D) hR hi U
    show List.dropWhile _ (u :: (U ++ R :: D)) = List.dropWhile _ (u :: U) ++ R :: D
    rw [List.dropWhile_cons, List.dropWhile_cons]
    split
    · exact ih
    · rfl
theorem drp_all {i : Nat} {e : Int} {R : Rm} {D : List Rm} (hR : R.1 = e) (hi : e ≤ (i : Int)) : ∀ U : List Rm, (∀ y ∈ U, y.1 ≤ e) → drp i (U ++ R :: D) = drp i D
  | [], _ => by
    show List.dropWhile _ (R :: D) = _
    rw [List.dropWhile_cons, if_pos (by simp; omega)]
  | u :: U, hU => by
    have ih := drp_all (D := D) hR hi U (fun y hy => hU y (List.mem_cons_of_mem _ hy))
    have := hU u (List.mem_cons_self ..)
    show List.dropWhile _ (u :: (U ++ R :: D)) = _
    rw [List.dropWhile_cons, if_pos (by simp; omega)]
    exact ih
/-- While a room lies open all that comes lies within it; behind it all begins where it has ended. -/
theorem inside (lo hi e : Int) : ∀ d i (U : List Rm) (R : Rm) (D : List Rm), nst own f l d i (U ++ R :: D) = true → (∀ y ∈ U, y.1 ≤ e) → R.1 = e → (∀ y ∈ U, lo ≤ y.2.2 ∧ y.2.1 ≤ hi) → (lo ≤ R.2.2 ∧ R.2.1 ≤ hi) → (∀ y ∈ D, hi ≤ y.2.2) →
    (∀ k : Nat, i ≤ k → k < i + d → (k : Int) < e → rd l (k : Int) ≤ e) → ∀ k : Nat, i ≤ k → k < i + d → ((k : Int) < e → lo ≤ (nd f k).f1 ∧ (nd f k).f2 ≤ hi) ∧ (e ≤ (k : Int) → hi ≤ (nd f k).f1)
  | 0, i, U, R, D, _, _, _, _, _, _, _, k, h1, h2 => by omega
  | d + 1, i, U, R, D, h, hU, hR, hL, hRL, hD, hex, k, h1, h2 => by
    rcases Int.lt_or_le (i : Int) e with hie | hie
    · obtain ⟨up, r, hd, a1, a2, a3, hn⟩ := nst_step h
      rw [drp_app hR hie] at hd
      have hxi := hex i (Nat.le_refl _) (by omega) hie
      have hU' : ∀ y ∈ drp i U, y ∈ U := drp_sub
      rcases Nat.lt_or_ge i k with hk | hk
      · cases hd2 : drp i U with
        | nil =>
          rw [hd2, List.nil_append] at hd
          injection hd with e1 e2
          subst e1 e2
          refine inside lo hi e d (i + 1) [(rd l (i : Int), (nd f i).f2, (nd f i).f1)] (R.1, R.2.1, (nd f i).f2) D hn (fun y hy => ?_) hR (fun y hy => ?_) ⟨?_, hRL.2⟩ hD (fun k' g1 g2 g3 => hex k' (by omega) (by omega) g3) k hk (by omega)
          · rw [List.mem_singleton.1 hy]; exact hxi
          · rw [List.mem_singleton.1 hy]
            have := hRL.1; have := hRL.2
            exact ⟨by show lo ≤ (nd f i).f1; omega, by show (nd f i).f2 ≤ hi; omega⟩
          · show lo ≤ (nd f i).f2; have := hRL.1; omega
        | cons u U2 =>
          rw [hd2, List.cons_append] at hd
          injection hd with e1 e2
          subst e1 e2
          have hu : u ∈ U := hU' u (by rw [hd2]; exact List.mem_cons_self ..)
          have hU2 : ∀ y ∈ U2, y ∈ U := fun y hy => hU' y (by rw [hd2]; exact List.mem_cons_of_mem _ hy)
          have hlu := hL u hu
          refine inside lo hi e d (i + 1) ((rd l (i : Int), (nd f i).f2, (nd f i).f1) :: (u.1, u.2.1, (nd f i).f2) :: U2) R D hn (fun y hy => ?_) hR (fun y hy => ?_) hRL hD (fun k' g1 g2 g3 => hex k' (by omega) (by omega) g3) k hk (by omega)
          · rcases List.mem_cons.1 hy with rfl | hy
            · exact hxi
            · rcases List.mem_cons.1 hy with rfl | hy
              · exact hU u hu
              · exact hU y (hU2 y hy)
          · rcases List.mem_cons.1 hy with rfl | hy
            · exact ⟨by show lo ≤ (nd f i).f1; omega, by show (nd f i).f2 ≤ hi; omega⟩
            · rcases List.mem_cons.1 hy with rfl | hy
              · exact ⟨by show lo ≤ (nd f i).f2; omega, hlu.2⟩
              · exact hL y (hU2 y hy)
      · obtain rfl : k = i := by omega
        have hup : lo ≤ up.2.2 ∧ up.2.1 ≤ hi := by
          cases hd2 : drp k U with
          | nil => rw [hd2, List.nil_append] at hd; injection hd with e1 _; rw [← e1]; exact hRL
          | cons u U2 => rw [hd2, List.cons_append] at hd; injection hd with e1 _; rw [← e1]; exact hL u (hU' u (by rw [hd2]; exact List.mem_cons_self ..))
        exact ⟨fun _ => ⟨by omega, by omega⟩, fun h => by omega⟩
    · have hk := after hi (d + 1) i (U ++ R :: D) h (fun y hy => by rw [drp_all hR hie U hU] at hy; exact hD y (drp_sub y hy)) k h1 h2
      exact ⟨fun h => by omega, fun _ => hk⟩
theorem upto : ∀ (p d i : Nat) (st : List Rm), nst own f l (p + d) i st = true → Ord st → ∃ st', nst own f l d (i + p) st' = true ∧ Ord st'
  | 0, d, i, st, h, ho => ⟨st, by rw [Nat.zero_add] at h; exact h, ho⟩
  | p + 1, d, i, st, h, ho => by
    rw [show p + 1 + d = (p + d) + 1 by omega] at h
    obtain ⟨up, r, hd, a1, a2, a3, hn⟩ := nst_step h
    have ho2 : Ord (up :: r) := by rw [← hd]; exact ho.drp
    obtain ⟨st', h1, h2⟩ := upto p d (i + 1) _ hn (ho2.push a2 a3)
    exact ⟨st', by rw [show i + (p + 1) = i + 1 + p by omega]; exact h1, h2⟩
end
theorem chk_nst (f : List SC) (h : chkAns f 65536 = 0) : nst Own.nameOk f (elOf f) f.length 0 [((f.length : Int), 65536, 0)] = true := by
  unfold chkAns at h
  rw [if_neg (by omega)] at h
  split at h
  · cases h
  split at h
  · rename_i h1 h2
    unfold rightB at h2
    rw [Bool.and_eq_true] at h2
    exact h2.2
  · cases h
/-- Spans nest. -/
theorem nests (f : List SC) (h : chkAns f 65536 = 0) (p : Nat) (hp : p < f.length) : (nd f p).f1 ≤ (nd f p).f2 ∧ ∀ k : Nat, p < k → k < f.length →
    ((k : Int) < rd (elOf f) (p : Int) → (nd f p).f1 ≤ (nd f k).f1 ∧ (nd f k).f2 ≤ (nd f p).f2) ∧ (rd (elOf f) (p : Int) ≤ (k : Int) → (nd f p).f2 ≤ (nd f k).f1) := by
  obtain ⟨d, hd⟩ : ∃ d, f.length = p + (d + 1) := ⟨f.length - p - 1, by omega⟩
  have hn := chk_nst f h
  have ho : Ord [((f.length : Int), (65536 : Int), (0 : Int))] := ⟨show (0 : Int) ≤ 65536 by decide, fun y hy => (by cases hy), trivial⟩
  obtain ⟨st', h1, h2⟩ := upto p (d + 1) 0 [((f.length : Int), 65536, 0)] (by rw [← hd]; exact hn) ho
  rw [Nat.zero_add] at h1
  obtain ⟨up, r, hd2, a1, a2, a3, hn2⟩ := nst_step h1
  have ho2 : Ord (up :: r) := by rw [← hd2]; exact h2.drp
  have ho3 := (ho2.push (e := rd (elOf f) (p : Int)) a2 a3).2.1
  refine ⟨a2, fun k hk1 hk2 => ?_⟩
  have hi := inside (own := Own.nameOk) (f := f) (l := elOf f) (nd f p).f1 (nd f p).f2 (rd (elOf f) (p : Int)) d (p + 1) [] (rd (elOf f) (p : Int), (nd f p).f2, (nd f p).f1) ((up.1, up.2.1, (nd f p).f2) :: r) hn2 (fun y hy => (by cases hy)) rfl (fun y hy => (by cases hy)) ⟨Int.le_refl _, Int.le_refl _⟩ ho3
    (fun k' g1 g2 g3 => el_nest f h p k' hp (by omega) (by omega) g3) k hk1 (by omega)
  exact hi
end Go.Proofs.YtloflodbcdlmpaaDoor.Nsa
namespace Go.Proofs.YtloflodbcdlmpaaDoor.Bk
open Go.RowKit Go.Proofs.YtloflodbcdlmpaaDoor.Qall Go.Proofs.YtloflodbcdlmpaaDoor.Ln Go.Proofs.YtloflodbcdlmpaaDoor.Tx Go.Proofs.YtloflodbcdlmpaaDoorW.PrintWords Go.Proofs.YtloflodbcdlmpaaDoorW.PrintLast Go.Proofs.YtloflodbcdlmpaaDoorW.PrintMore
set_option linter.unusedSimpArgs false
set_option linter.unusedVariables false
theorem u8_of (n : Nat) (h : n < 10) : (UInt8.ofNat (48 + n)).toNat = 48 + n := by
  simp [UInt8.toNat_ofNat']
  omega
theorem dig_of (n : Nat) (h : n < 10) : isDig (UInt8.ofNat (48 + n)) = true := by
  unfold isDig
  rw [u8_of n h]
  exact decide_eq_true (by omega)
theorem dd_dig : ∀ (m u : Nat), u ≤ m → ∀ b ∈ Lib.decDigits u, isDig b = true
  | m, u, hm, b, hb => by
    rw [Lib.decDigits] at hb
    split at hb
    · rename_i h
      rw [List.mem_singleton.1 hb]
      exact dig_of u h
    · rename_i h
      rcases List.mem_append.1 hb with hb | hb
      · cases m with
        | zero => omega
        | succ m => exact dd_dig m (u / 10) (by omega) b hb
      · rw [List.mem_singleton.1 hb]
        exact dig_of (u % 10) (by omega)
theorem val_snoc : ∀ (l : List UInt8) (b : UInt8) (n : Nat), val (l ++ [b]) n = 10 * val l n + (b.toNat - 48)
  | [], b, n => by simp [val]
  | a :: l, b, n => by rw [List.cons_append, val, val, val_snoc l b]
theorem dd_val : ∀ (m u : Nat), u ≤ m → val (Lib.decDigits u) 0 = u
  | m, u, hm => by
    rw [Lib.decDigits]
    split
    · rename_i h
      simp only [val]
      rw [u8_of u h]
      omega
    · rename_i h
      cases m with
      | zero => omega
      | succ m =>
        rw [val_snoc, dd_val m (u / 10) (by omega), u8_of (u % 10) (by omega)]
        omega
theorem dd_ne (u : Nat) : Lib.decDigits u ≠ [] := by
  rw [Lib.decDigits]
  split <;> simp
theorem dd_head : ∀ (m u : Nat), u ≤ m → 1 ≤ u → (Lib.decDigits u).head? ≠ some 48
  | m, u, hm, h1 => by
    rw [Lib.decDigits]
    split
    · rename_i h
      intro e
      have e2 : UInt8.ofNat (48 + u) = 48 := Option.some.inj e
      have := u8_of u h
      rw [e2] at this
      have h3 : (48 : UInt8).toNat = 48 := rfl
      omega
    · rename_i h
      cases m with
      | zero => omega
      | succ m =>
        have ih := dd_head m (u / 10) (by omega) (by omega)
        obtain ⟨x, l, hx⟩ := List.exists_cons_of_ne_nil (dd_ne (u / 10))
        rw [hx] at ih ⊢
        exact ih
theorem good_itoa (n : Int) (h0 : 0 ≤ n) (h1 : n ≤ 65536) : good (Lib.itoa n) ∧ val (Lib.itoa n) 0 = n.toNat := by
  have e : Lib.itoa n = Lib.decDigits n.toNat := by unfold Lib.itoa; rw [if_neg (by omega)]
  rw [e]
  have hv := dd_val n.toNat n.toNat (Nat.le_refl _)
  refine ⟨⟨dd_ne _, dd_dig n.toNat n.toNat (Nat.le_refl _), by omega, fun h => ?_⟩, hv⟩
  by_cases h2 : 1 ≤ n.toNat
  · exact dd_head n.toNat n.toNat (Nat.le_refl _) h2 h.1
  · have h3 : n.toNat = 0 := by omega
    rw [h3, Lib.decDigits, dif_pos (by omega)] at h
    simp at h
theorem num_itoa (n : Int) (h0 : 0 ≤ n) (h1 : n ≤ 65536) (s : ByteArray) (hs : s.data.toList = Lib.itoa n) : numAns s = (n, true) := by
  obtain ⟨hg, hv⟩ := good_itoa n h0 h1
  have h := numAns_good s
  rw [hs] at h
  have h2 := h.1.2 hg
  have h3 := h.2 h2
  rw [hv] at h3
  have h4 : (numAns s).1 = n := by omega
  exact Prod.ext h4 h2
theorem lead_rep (b : UInt8) (l : List UInt8) (hb : b ≠ 32) : ∀ z, lead (Lib.repeatL [32, 32] z ++ b :: l) = z
  | 0 => by
    show lead (b :: l) = 0
    cases l with
    | nil => rfl
    | cons c l => rw [lead, if_neg (fun h => hb h.1)]
  | z + 1 => by
    show lead (32 :: 32 :: (Lib.repeatL [32, 32] z ++ b :: l)) = z + 1
    rw [lead, if_pos ⟨rfl, rfl⟩, lead_rep b l hb z]
theorem drop_rep (l : List UInt8) (z : Nat) : (Lib.repeatL [32, 32] z ++ l).drop (2 * z) = l := by
  have h : (Lib.repeatL [32, 32] z).length = 2 * z := by rw [Lib.repeatL_length]; simp; omega
  rw [← h, List.drop_left]
/-- A line without its LF. -/
def bodyOf (c : S60) (z : Nat) : List UInt8 := Lib.repeatL [32, 32] z ++ (c.f0.data.toList ++ 32 :: (Lib.itoa c.f1 ++ 32 :: Lib.itoa c.f2))
theorem ln_body (c : S60) (z : Nat) : ln c (z : Int) = bodyOf c z ++ [10] := by
  unfold ln lnB bodyOf
  rw [Int.toNat_natCast]
  simp
theorem line_read (c : S60) (z : Nat) (hn : Own.nameOk c.f0 = true) (h1 : 0 ≤ c.f1 ∧ c.f1 ≤ 65536) (h2 : 0 ≤ c.f2 ∧ c.f2 ≤ 65536) (s : ByteArray) (hs : s.data.toList = bodyOf c z) :
    lineAns s = ((z : Int), c.f0, c.f1, c.f2, true) := by
  obtain ⟨hne, hall⟩ := nameOk_all c.f0 hn
  obtain ⟨b, nm, hnm⟩ : ∃ b nm, c.f0.data.toList = b :: nm := by
    cases h : c.f0.data.toList with
    | nil => exfalso; apply hne; rw [← data_length, h]; rfl
    | cons b nm => exact ⟨b, nm, rfl⟩
  have hb : b ≠ 32 := fun e => own_no _ hall (by rw [hnm, e]; exact List.mem_cons_self ..)
  have hlead : lead s.data.toList = z := by rw [hs]; unfold bodyOf; rw [hnm]; exact lead_rep b _ hb z
  have hrest : (restOf s).data.toList = c.f0.data.toList ++ 32 :: (Lib.itoa c.f1 ++ 32 :: Lib.itoa c.f2) := by
    unfold restOf
    rw [hlead, hs]
    exact drop_rep _ z
  have g1 := good_itoa c.f1 h1.1 h1.2
  have g2 := good_itoa c.f2 h2.1 h2.2
  have h3 := (three_iff (restOf s) c.f0.data.toList (Lib.itoa c.f1) (Lib.itoa c.f2)).2 ⟨hrest, own_no _ hall, dig_no _ g1.1.2.1, dig_no _ g2.1.2.1⟩
  obtain ⟨wa, wb, wc, hw, ea, eb, ec⟩ : ∃ wa wb wc, wordsOf (restOf s) = [wa, wb, wc] ∧ wa.data.toList = c.f0.data.toList ∧ wb.data.toList = Lib.itoa c.f1 ∧ wc.data.toList = Lib.itoa c.f2 := by
    match hw : wordsOf (restOf s) with
    | [] => rw [hw] at h3; cases h3
    | [_] => rw [hw] at h3; simp at h3
    | [_, _] => rw [hw] at h3; simp at h3
    | [wa, wb, wc] => rw [hw] at h3; simp only [List.map_cons, List.map_nil, List.cons.injEq, and_true] at h3; exact ⟨wa, wb, wc, rfl, h3.1, h3.2.1, h3.2.2⟩
    | _ :: _ :: _ :: _ :: _ => rw [hw] at h3; simp at h3
  have ea2 : wa = c.f0 := ByteArray.ext (Array.toList_inj.1 ea)
  have eb2 := num_itoa c.f1 h1.1 h1.2 wb eb
  have ec2 := num_itoa c.f2 h2.1 h2.2 wc ec
  unfold lineAns
  rw [hw]
  dsimp only
  rw [ea2, if_pos hn, eb2, ec2, hlead]
  rfl
theorem body_nolf (c : S60) (z : Nat) (hn : Own.nameOk c.f0 = true) (h1 : 0 ≤ c.f1 ∧ c.f1 ≤ 65536) (h2 : 0 ≤ c.f2 ∧ c.f2 ≤ 65536) : ∀ b ∈ bodyOf c z, (b != 10) = true := by
  have g1 := (good_itoa c.f1 h1.1 h1.2).1.2.1
  have g2 := (good_itoa c.f2 h2.1 h2.2).1.2.1
  have hd : ∀ b, isDig b = true → (b != 10) = true := fun b h => by
    have := of_decide_eq_true h
    refine bne_iff_ne.2 (fun e => ?_)
    rw [e] at this
    exact absurd this.1 (by decide)
  have hrep : ∀ z, ∀ b ∈ Lib.repeatL [32, 32] z, b = 32 := by
    intro z
    induction z with
    | zero => intro b hb; cases hb
    | succ z ih =>
      intro b hb
      rcases List.mem_append.1 hb with hb | hb
      · simpa using hb
      · exact ih b hb
  intro b hb
  unfold bodyOf at hb
  rcases List.mem_append.1 hb with hb | hb
  · rw [hrep z b hb]; decide
  · rcases List.mem_append.1 hb with hb | hb
    · have := of_decide_eq_true ((nameOk_all c.f0 hn).2 b hb)
      refine bne_iff_ne.2 (fun e => ?_)
      rw [e] at this
      exact absurd this (by decide)
    · rcases List.mem_cons.1 hb with rfl | hb
      · decide
      · rcases List.mem_append.1 hb with hb | hb
        · exact hd b (g1 b hb)
        · rcases List.mem_cons.1 hb with rfl | hb
          · decide
          · exact hd b (g2 b hb)
end Go.Proofs.YtloflodbcdlmpaaDoor.Bk
namespace Go.Proofs.YtloflodbcdlmpaaDoor.Bk
open Go.RowKit Go.Proofs.YtloflodbcdlmpaaDoor.Qall Go.Proofs.YtloflodbcdlmpaaDoor.Fo Go.Proofs.YtloflodbcdlmpaaDoor.Chk Go.Proofs.YtloflodbcdlmpaaDoor.Ln Go.Proofs.YtloflodbcdlmpaaDoor.Tx Go.Proofs.YtloflodbcdlmpaaDoor.Ps Go.Proofs.YtloflodbcdlmpaaDoor.Nsa Go.Proofs.YtloflodbcdlmpaaDoorW.PrintWords Go.Proofs.YtloflodbcdlmpaaDoorW.PrintLast Go.Proofs.YtloflodbcdlmpaaDoorW.PrintMore
set_option linter.unusedSimpArgs false
set_option linter.unusedVariables false
abbrev SC := S60
abbrev nd (f : List SC) (i : Nat) : SC := rd_T60 f (i : Int)
abbrev elOf := @Fi.elOf
/-- Open nodes (the innermost first), how many kids each lacks, where each ends. -/
def Al (f F : List SC) (i : Nat) : List Nat → List Nat → List Nat → Prop
  | [], [], [] => True
  | w :: W, a :: st, e :: E => (nd F w).f3 + (a : Int) = (nd f w).f3 ∧ 0 ≤ (nd F w).f3 ∧ rd (elOf f) (w : Int) = (e : Int) ∧ w < i ∧ (∀ x ∈ W, x < w) ∧ Al f F i W st E
  | _, _, _ => False
theorem Al.len {f F : List SC} {i : Nat} : ∀ {W st E : List Nat}, Al f F i W st E → W.length = st.length
  | [], [], [], _ => rfl
  | w :: W, a :: st, e :: E, h => by rw [List.length_cons, List.length_cons, Al.len h.2.2.2.2.2]
theorem Al.lt {f F : List SC} {i : Nat} : ∀ {W st E : List Nat}, Al f F i W st E → ∀ x ∈ W, x < i
  | [], [], [], _, x, hx => by cases hx
  | w :: W, a :: st, e :: E, h, x, hx => by
    rcases List.mem_cons.1 hx with rfl | hx
    · exact h.2.2.2.1
    · exact Al.lt h.2.2.2.2.2 x hx
/-- Nodes that are not touched. -/
theorem Al.keep {f F F' : List SC} {i i' : Nat} (hi : i ≤ i') : ∀ {W st E : List Nat}, Al f F i W st E → (∀ x ∈ W, (nd F' x).f3 = (nd F x).f3) → Al f F' i' W st E
  | [], [], [], _, _ => trivial
  | w :: W, a :: st, e :: E, h, hk => by
    have hw := hk w (List.mem_cons_self ..)
    exact ⟨by rw [hw]; exact h.1, by rw [hw]; exact h.2.1, h.2.2.1, Nat.lt_of_lt_of_le h.2.2.2.1 hi, h.2.2.2.2.1, Al.keep hi h.2.2.2.2.2 (fun x hx => hk x (List.mem_cons_of_mem _ hx))⟩
/-- Those that lack nothing any more are closed. -/
theorem Al.pop {f F : List SC} {i : Nat} {es : List (Option Nat)} (hw : WF es) : ∀ {st W : List Nat}, Q st es → Al f F i W st (stk st es i) →
    ∃ n, n ≤ W.length ∧ (Fo.pop st).length = W.length - n ∧ Al f F i (W.drop n) (Fo.pop st) (stk (Fo.pop st) es i) ∧ (∀ x ∈ W.take n, (nd F x).f3 = (nd f x).f3 ∧ rd (elOf f) (x : Int) ≤ (i : Int)) ∧ (∀ x, (W.drop n).head? = some x → (i : Int) < rd (elOf f) (x : Int))
  | [], [], _, h => ⟨0, Nat.le_refl _, rfl, h, (fun x hx => by cases hx), (fun x hx => by cases hx)⟩
  | a :: st, [], _, h => by simp [stk, Al] at h
  | [], w :: W, _, h => by simp [stk, Al] at h
  | a :: st, w :: W, hq, h => by
    obtain ⟨m, e, hq2⟩ := hq
    cases a with
    | zero =>
      obtain rfl : 0 = m := by simpa [jump] using e
      rw [List.drop_zero] at hq2
      simp only [stk, jump, Option.getD_some, Nat.add_zero, List.drop_zero] at h
      obtain ⟨h1, h2, h3, h4, h5, h6⟩ := h
      obtain ⟨n, g1, g2, g3, g4, g5⟩ := Al.pop hw hq2 h6
      refine ⟨n + 1, by rw [List.length_cons]; omega, ?_, by rw [List.drop_succ_cons]; exact g3, fun x hx => ?_, by rw [List.drop_succ_cons]; exact g5⟩
      · show (Fo.pop st).length = _
        rw [List.length_cons]; omega
      · rw [List.take_succ_cons] at hx
        rcases List.mem_cons.1 hx with rfl | hx
        · exact ⟨by simpa using h1, by omega⟩
        · exact g4 x hx
    | succ a =>
      have hb := jump_bounds _ hw e
      refine ⟨0, Nat.zero_le _, ?_, h, (fun x hx => by simp at hx), fun x hx => ?_⟩
      · show ((a + 1) :: st).length = _
        rw [Nat.sub_zero]
        exact h.len.symm
      · rw [List.drop_zero] at hx
        obtain rfl : w = x := by simpa using hx
        have h3 := h.2.2.1
        rw [e, Option.getD_some] at h3
        omega
/-- The lines from node i on. -/
def txt (f : List SC) : List Nat → Nat → List UInt8
  | [], _ => []
  | z :: ls, i => bodyOf (nd f i) z ++ 10 :: txt f ls (i + 1)
theorem rd_at (f : List SC) (x : Nat) (h : x < f.length) : nd f x = f[x] := by
  show rd_T60 f (x : Int) = _
  unfold rd_T60
  rw [Int.toNat_natCast, List.getD_eq_getElem?_getD, List.getElem?_eq_getElem h]
  rfl
theorem nd_kid (F : List SC) (p x : Nat) (hp : p < F.length) : (nd (kid1 F (p : Int)) x).f3 = if x = p then wrap64 ((nd F p).f3 + 1) else (nd F x).f3 := by
  show (rd_T60 (kid1 F (p : Int)) (x : Int)).f3 = _
  unfold kid1 rd_T60
  simp only [List.getD_eq_getElem?_getD, List.getElem?_set, Int.toNat_natCast]
  by_cases h : x = p
  · subst h
    rw [if_pos rfl, if_pos hp, if_pos rfl]
    rfl
  · rw [if_neg (fun e => h e.symm), if_neg h]
    show _ = (rd_T60 F (x : Int)).f3
    unfold rd_T60
    rw [Int.toNat_natCast, List.getD_eq_getElem?_getD]
theorem nd_kid2 (F : List SC) (p x : Nat) : (nd (kid1 F (p : Int)) x).f0 = (nd F x).f0 ∧ (nd (kid1 F (p : Int)) x).f1 = (nd F x).f1 ∧ (nd (kid1 F (p : Int)) x).f2 = (nd F x).f2 := by
  show (rd_T60 (kid1 F (p : Int)) (x : Int)).f0 = (rd_T60 F (x : Int)).f0 ∧ _
  unfold kid1 nd rd_T60
  simp only [List.getD_eq_getElem?_getD, List.getElem?_set, Int.toNat_natCast]
  by_cases h : p = x
  · rw [if_pos h]
    by_cases h2 : p < F.length
    · rw [if_pos h2, h]; exact ⟨rfl, rfl, rfl⟩
    · rw [if_neg h2, ← h, List.getElem?_eq_none (by omega)]; exact ⟨rfl, rfl, rfl⟩
  · rw [if_neg h]; exact ⟨rfl, rfl, rfl⟩
theorem nd_app (f g : List SC) (x : Nat) (h : x < f.length) : nd (f ++ g) x = nd f x := by
  rw [rd_at _ x (by rw [List.length_append]; omega), rd_at f x h, List.getElem_append_left h]
theorem nd_new (f : List SC) (c : SC) : nd (f ++ [c]) f.length = c := by
  rw [rd_at _ _ (by simp), List.getElem_append_right (Nat.le_refl _)]
  simp
theorem eq_of_nd (f F : List SC) (hl : F.length = f.length) (h : ∀ x, x < f.length → nd F x = nd f x) : F = f := by
  apply List.ext_getElem hl
  intro x h1 h2
  rw [← rd_at F x h1, ← rd_at f x h2]
  exact h x h2
/-- What the reader holds ahead of node i. -/
structure St (f F : List SC) (way : List Int) (i : Nat) (W st : List Nat) : Prop where
  hl : F.length = i
  hil : i ≤ f.length
  hw : way = (W.map (fun x : Nat => (x : Int))).reverse
  al : Al f F i W st (stk st (ex ((K f).drop i)) i)
  q : Q st (ex ((K f).drop i))
  cl : ∀ x, x < i → x ∉ W → (nd F x).f3 = (nd f x).f3
  sm : ∀ x, x < i → (nd F x).f0 = (nd f x).f0 ∧ (nd F x).f1 = (nd f x).f1 ∧ (nd F x).f2 = (nd f x).f2
theorem way_rd (W : List Nat) (t : Nat) (h : t < W.length) : rd (W.map (fun x : Nat => (x : Int))).reverse (t : Int) = ((W[W.length - 1 - t]'(by omega) : Nat) : Int) := by
  have hl : (W.map (fun x : Nat => (x : Int))).reverse.length = W.length := by simp
  unfold rd
  rw [Int.toNat_natCast, List.getD_eq_getElem?_getD, List.getElem?_eq_getElem (by omega)]
  show (W.map (fun x : Nat => (x : Int))).reverse[t] = _
  rw [List.getElem_reverse, List.getElem_map]
  congr 2
  simp
theorem way_take (W : List Nat) (n : Nat) (h : n ≤ W.length) : (W.map (fun x : Nat => (x : Int))).reverse.take (W.length - n) = ((W.drop n).map (fun x : Nat => (x : Int))).reverse := by
  have e := List.take_append_drop n W
  conv => lhs; rw [← e]
  rw [List.map_append, List.reverse_append, List.take_left']
  simp
theorem K_at (f : List SC) (i : Nat) (hi : i < f.length) : (K f).drop i = (nd f i).f3 :: (K f).drop (i + 1) := by
  have hl : (K f).length = f.length := K_length f
  rw [List.drop_eq_getElem_cons (by omega), rd_at f i hi]
  congr 1
  unfold K
  rw [List.getElem_map]
theorem st_step (f : List SC) (hc : chkAns f 65536 = 0) (hbd : ∀ c ∈ f, c.f3 ≤ 9223372036854775807) {F : List SC} {way : List Int} {i : Nat} {W st : List Nat} (h : St f F way i W st) (hi : i < f.length) (h0 : 0 ≤ (nd f i).f1 ∧ (nd f i).f2 ≤ 65536) :
    ∃ F' way' W', putAns F way (Fo.pop st).length ⟨(nd f i).f0, (nd f i).f1, (nd f i).f2, 0⟩ = some (F', way') ∧ St f F' way' (i + 1) W' ((nd f i).f3.toNat :: dec (Fo.pop st)) := by
  have hK := K_at f i hi
  have hq := h.q
  have hal := h.al
  rw [hK] at hq hal
  obtain ⟨hx0, hq2⟩ := (Q_step st (nd f i).f3 ((K f).drop (i + 1))).1 hq
  have hss := stk_step st (nd f i).f3 ((K f).drop (i + 1)) i hq
  obtain ⟨n, g1, g2, g3, g4, g5⟩ := Al.pop (ex_wf _) hq hal
  have hn1 : (nd f i).f1 ≤ (nd f i).f2 := (nests f hc i hi).1
  have h20 := (Fi.chk_mach f hc).1
  have hwl : way.length = W.length := by rw [h.hw]; simp
  have hlt := hal.lt
  obtain ⟨d, hd⟩ : ∃ d, (Fo.pop st).length = d := ⟨_, rfl⟩
  rw [hd] at g2 ⊢
  have hhead : ∀ p, (W.drop n).head? = some p → p < i ∧ (nd f p).f1 ≤ (nd f i).f1 ∧ (nd f i).f2 ≤ (nd f p).f2 := fun p hp => by
    have hpi : p < i := hlt p (List.mem_of_mem_drop (List.mem_of_mem_head? hp))
    have := ((nests f hc p (by omega)).2 i hpi hi).1 (g5 p hp)
    exact ⟨hpi, this⟩
  have hup : 0 < d → ∃ p, (W.drop n).head? = some p ∧ rd way ((d : Int) - 1) = (p : Int) := fun hd0 => by
    have hnl : n < W.length := by omega
    refine ⟨W[n], by rw [List.drop_eq_getElem_cons hnl]; rfl, ?_⟩
    rw [h.hw, show ((d : Int) - 1) = ((d - 1 : Nat) : Int) by omega, way_rd W (d - 1) (by omega)]
    congr 2
    omega
  have hlo : loOf F way d ≤ (nd f i).f1 := by
    unfold loOf
    split
    · rename_i hdl
      have hn0 : W.length - 1 - d < W.length := by omega
      have hs : rd way (d : Int) = ((W[W.length - 1 - d] : Nat) : Int) := by rw [h.hw]; exact way_rd W d (by omega)
      have hm : W[W.length - 1 - d] ∈ W.take n := by
        rw [List.mem_take_iff_getElem]
        exact ⟨W.length - 1 - d, by omega, rfl⟩
      have hsi : W[W.length - 1 - d] < i := hlt _ (List.getElem_mem _)
      have := ((nests f hc W[W.length - 1 - d] (by omega)).2 i hsi hi).2 (g4 _ hm).2
      rw [hs]
      show (nd F W[W.length - 1 - d]).f2 ≤ _
      rw [(h.sm _ hsi).2.2]
      exact this
    · unfold lo0
      split
      · rename_i hd0
        obtain ⟨p, hp, hr⟩ := hup hd0
        obtain ⟨a1, a2, a3⟩ := hhead p hp
        rw [hr]
        show (nd F p).f1 ≤ _
        rw [(h.sm p a1).2.1]
        exact a2
      · exact h0.1
  have hhi : (nd f i).f2 ≤ hiOf F way d := by
    unfold hiOf
    split
    · rename_i hd0
      obtain ⟨p, hp, hr⟩ := hup hd0
      obtain ⟨a1, a2, a3⟩ := hhead p hp
      rw [hr]
      show _ ≤ (nd F p).f2
      rw [(h.sm p a1).2.2]
      exact a3
    · exact h0.2
  have hput : putAns F way d ⟨(nd f i).f0, (nd f i).f1, (nd f i).f2, 0⟩ = some (kidOf F way d ++ [⟨(nd f i).f0, (nd f i).f1, (nd f i).f2, 0⟩], way.take d ++ [(F.length : Int)]) := by
    have hFl := h.hl
    unfold putAns
    rw [if_neg (by rintro (e | e | e) <;> first | omega | exact absurd e (by show ¬ (nd f i).f2 < (nd f i).f1; omega)), if_neg (by rintro (e | e) <;> first | exact absurd e (by show ¬ (nd f i).f1 < _; omega) | exact absurd e (by show ¬ _ < (nd f i).f2; omega))]
  have hkl := kidOf_length F way d
  have hFl := h.hl
  -- what the kid's count does to the others
  have hkid : ∀ x, x < i → ((W.drop n).head? ≠ some x → (nd (kidOf F way d ++ [⟨(nd f i).f0, (nd f i).f1, (nd f i).f2, 0⟩]) x).f3 = (nd F x).f3) ∧
      (nd (kidOf F way d ++ [⟨(nd f i).f0, (nd f i).f1, (nd f i).f2, 0⟩]) x).f0 = (nd F x).f0 ∧ (nd (kidOf F way d ++ [⟨(nd f i).f0, (nd f i).f1, (nd f i).f2, 0⟩]) x).f1 = (nd F x).f1 ∧ (nd (kidOf F way d ++ [⟨(nd f i).f0, (nd f i).f1, (nd f i).f2, 0⟩]) x).f2 = (nd F x).f2 := fun x hx => by
    rw [nd_app _ _ x (by omega)]
    unfold kidOf
    split
    · rename_i hd0
      obtain ⟨p, hp, hr⟩ := hup hd0
      have hpi := (hhead p hp).1
      rw [hr]
      refine ⟨fun hne => ?_, nd_kid2 F p x⟩
      rw [nd_kid F p x (by omega), if_neg (fun e => hne (by rw [hp, e]))]
    · exact ⟨fun _ => rfl, rfl, rfl, rfl⟩
  refine ⟨_, _, i :: W.drop n, hput, ?_⟩
  refine ⟨by rw [List.length_append, hkl, hFl]; rfl, hi, ?_, ?_, hq2, fun x hx hxn => ?_, fun x hx => ?_⟩
  · rw [h.hw, hFl, g2, way_take W n g1, List.map_cons, List.reverse_cons]
  · rw [hss]
    obtain ⟨m, e1, e2⟩ := el_some f hc i hi
    have hm : Fo.hd (ex ((nd f i).f3 :: (K f).drop (i + 1))) = some m := by rw [← hK, ex_drop]; exact e1
    have hnew : nd (kidOf F way d ++ [⟨(nd f i).f0, (nd f i).f1, (nd f i).f2, 0⟩]) i = ⟨(nd f i).f0, (nd f i).f1, (nd f i).f2, 0⟩ := by
      have := nd_new (kidOf F way d) ⟨(nd f i).f0, (nd f i).f1, (nd f i).f2, 0⟩
      rwa [hkl, hFl] at this
    refine ⟨by rw [hnew]; show (0 : Int) + _ = _; omega, by rw [hnew]; exact Int.le_refl _, by rw [hm]; exact e2, Nat.lt_succ_self _, fun x hx => hlt x (List.mem_of_mem_drop hx), ?_⟩
    rcases pop_cases st with e | ⟨l, s, e⟩
    · rw [e] at g3 ⊢
      cases hWd : W.drop n with
      | nil => rw [hWd] at g3; exact g3
      | cons p W2 => rw [hWd] at g3; simp [stk, Al] at g3
    · rw [e] at g3 ⊢
      cases hWd : W.drop n with
      | nil => rw [hWd] at g3; simp [stk, Al] at g3
      | cons p W2 =>
        rw [hWd] at g3
        obtain ⟨a1, a2, a3, a4, a5, a6⟩ := g3
        have hp : (W.drop n).head? = some p := by rw [hWd]; rfl
        have hd0 : 0 < d := by rw [← hd, e]; exact Nat.succ_pos _
        obtain ⟨p', hp', hr⟩ := hup hd0
        obtain rfl : p = p' := by rw [hp] at hp'; exact Option.some.inj hp'
        have hfp := hbd (nd f p) (by rw [rd_at f p (by omega)]; exact List.getElem_mem _)
        have hpk : (nd (kidOf F way d ++ [⟨(nd f i).f0, (nd f i).f1, (nd f i).f2, 0⟩]) p).f3 = (nd F p).f3 + 1 := by
          rw [nd_app _ _ p (by omega)]
          unfold kidOf
          rw [if_pos hd0, hr, nd_kid F p p (by omega), if_pos rfl]
          exact Ln.wrap_of (by omega) (by omega)
        refine ⟨by rw [hpk]; show _ + (l : Int) = _; omega, by rw [hpk]; omega, a3, by omega, a5, ?_⟩
        exact Al.keep (Nat.le_succ i) a6 (fun x hx => (hkid x (by have := a5 x hx; omega)).1 (by rw [hp]; intro e2; have := a5 x hx; have := Option.some.inj e2; omega))
  · rw [List.mem_cons] at hxn
    have hxi : x < i := by
      rcases Nat.lt_or_ge x i with h1 | h1
      · exact h1
      · exact absurd (show x = i by omega) (fun e => hxn (.inl e))
    have hxd : x ∉ W.drop n := fun e => hxn (.inr e)
    rw [(hkid x hxi).1 (fun e => hxd (List.mem_of_mem_head? e))]
    by_cases hxW : x ∈ W
    · have e := List.take_append_drop n W
      rw [← e] at hxW
      rcases List.mem_append.1 hxW with h1 | h1
      · exact (g4 x h1).1
      · exact absurd h1 hxd
    · exact h.cl x hxi hxW
  · rcases Nat.lt_or_ge x i with h1 | h1
    · obtain ⟨_, b1, b2, b3⟩ := hkid x h1
      have := h.sm x h1
      exact ⟨b1.trans this.1, b2.trans this.2.1, b3.trans this.2.2⟩
    · obtain rfl : x = i := by omega
      have := nd_new (kidOf F way d) ⟨(nd f x).f0, (nd f x).f1, (nd f x).f2, 0⟩
      rw [hkl, hFl] at this
      rw [this]
      exact ⟨rfl, rfl, rfl⟩
theorem al_zero {f F : List SC} {i : Nat} : ∀ {W st E : List Nat}, Al f F i W st E → st.all (· == 0) = true → ∀ x ∈ W, (nd F x).f3 = (nd f x).f3
  | [], [], [], _, _, x, hx => by cases hx
  | w :: W, a :: st, e :: E, h, hz, x, hx => by
    rw [List.all_cons, Bool.and_eq_true] at hz
    rcases List.mem_cons.1 hx with rfl | hx
    · have := h.1
      have ha : a = 0 := by simpa using hz.1
      subst ha
      simpa using this
    · exact al_zero h.2.2.2.2.2 hz.2 x hx
theorem ext_list (t : ByteArray) (a b : Nat) : (t.extract a b).data.toList = (t.data.toList.drop a).take (b - a) := by
  simp [ByteArray.data_extract, Array.toList_extract, List.extract]
theorem sc_ext (a b : SC) (h0 : a.f0 = b.f0) (h1 : a.f1 = b.f1) (h2 : a.f2 = b.f2) (h3 : a.f3 = b.f3) : a = b := by
  cases a; cases b; simp_all
theorem back_go (f : List SC) (hc : chkAns f 65536 = 0) (hbd : ∀ c ∈ f, c.f3 ≤ 9223372036854775807) (hr : ∀ i, i < f.length → Own.nameOk (nd f i).f0 = true ∧ 0 ≤ (nd f i).f1 ∧ (nd f i).f2 ≤ 65536) (t : ByteArray) :
    ∀ (ls : List Nat) (i : Nat) (st W : List Nat) (F : List SC) (way : List Int) (at_ k : Nat), mach st ((K f).drop i) = some ls → St f F way i W st → t.data.toList.drop at_ = txt f ls i → at_ ≤ t.size → t.size < k + at_ → parseGo t k at_ F way = (f, 0, 0)
  | [], i, st, W, F, way, at_, k, hm, hs, ht, hle, hk => by
    obtain ⟨k, rfl⟩ : ∃ j, k = j + 1 := ⟨k - 1, by omega⟩
    have hl : (K f).length = f.length := K_length f
    have hil : i = f.length := by
      rcases Nat.lt_or_ge i f.length with h1 | h1
      · rw [K_at f i h1, mach] at hm
        split at hm
        · cases hm
        · obtain ⟨_, _, e⟩ := Option.map_eq_some_iff.1 hm
          cases e
      · have := hs.hil; omega
    have hz : st.all (· == 0) = true := by
      rw [List.drop_eq_nil_of_le (by omega), mach] at hm
      split at hm
      · rename_i h1; exact h1
      · cases hm
    have hat : ¬ at_ < t.size := by
      have := congrArg List.length ht
      rw [Ps.drop_len] at this
      have h2 : (txt f [] i).length = 0 := rfl
      omega
    rw [parseGo_end hat]
    have hF : F = f := by
      refine eq_of_nd f F (by rw [hs.hl]; exact hil) (fun x hx => ?_)
      have hxi : x < i := by omega
      obtain ⟨a0, a1, a2⟩ := hs.sm x hxi
      refine sc_ext _ _ a0 a1 a2 ?_
      by_cases hxW : x ∈ W
      · exact al_zero hs.al hz x hxW
      · exact hs.cl x hxi hxW
    rw [hF]
  | z :: ls, i, st, W, F, way, at_, k, hm, hs, ht, hle, hk => by
    obtain ⟨k, rfl⟩ : ∃ j, k = j + 1 := ⟨k - 1, by omega⟩
    have hl : (K f).length = f.length := K_length f
    have hi : i < f.length := by
      rcases Nat.lt_or_ge i f.length with h1 | h1
      · exact h1
      · rw [List.drop_eq_nil_of_le (by omega), mach] at hm
        split at hm
        · cases hm
        · cases hm
    rw [K_at f i hi, mach] at hm
    split at hm
    · cases hm
    · obtain ⟨ls', hm2, e⟩ := Option.map_eq_some_iff.1 hm
      injection e with e1 e2
      subst e1 e2
      obtain ⟨r1, r2, r3⟩ := hr i hi
      have hn1 : (nd f i).f1 ≤ (nd f i).f2 := (nests f hc i hi).1
      obtain ⟨F', way', W', hput, hs'⟩ := st_step f hc hbd hs hi ⟨r2, r3⟩
      obtain ⟨z, hz⟩ : ∃ z, (Fo.pop st).length = z := ⟨_, rfl⟩
      rw [hz] at hput ht
      have ht2 : t.data.toList.drop at_ = bodyOf (nd f i) z ++ 10 :: txt f ls' (i + 1) := ht
      have hlen := congrArg List.length ht2
      rw [Ps.drop_len, List.length_append, List.length_cons] at hlen
      have htw : (t.data.toList.drop at_).takeWhile (· != 10) = bodyOf (nd f i) z := by
        rw [ht2]
        exact takeWhile_all _ _ (body_nolf (nd f i) z r1 ⟨r2, by omega⟩ ⟨by omega, r3⟩) (fun b hb => by have := Option.some.inj hb; rw [← this]; rfl)
      have hlf : lfAt t at_ = at_ + (bodyOf (nd f i) z).length := by unfold lfAt; rw [htw]
      have hline : lineAns (t.extract at_ (lfAt t at_)) = ((z : Int), (nd f i).f0, (nd f i).f1, (nd f i).f2, true) := by
        refine line_read (nd f i) z r1 ⟨r2, by omega⟩ ⟨by omega, r3⟩ _ ?_
        rw [ext_list, hlf, show at_ + (bodyOf (nd f i) z).length - at_ = (bodyOf (nd f i) z).length by omega, ht2, List.take_left]
      have hstep : stepAns t at_ F way = some (F', way') := by
        unfold stepAns lineAt nodeOf
        rw [hline, if_pos ⟨by omega, rfl⟩]
        exact hput
      rw [parseGo_some (by omega) hstep]
      refine back_go f hc hbd hr t ls' (i + 1) _ W' F' way' (lfAt t at_ + 1) k hm2 hs' ?_ (by omega) (by omega)
      have := drop_more ht2
      rw [← hlf] at this
      rw [← List.drop_drop, this]
      rfl
theorem nst_own {own : ByteArray → Bool} {f : List SC} {l : List Int} : ∀ d i (st : List Nest.Rm), Nest.nst own f l d i st = true → ∀ k, i ≤ k → k < i + d → own (nd f k).f0 = true
  | 0, i, st, _, k, h1, h2 => by omega
  | d + 1, i, st, h, k, h1, h2 => by
    unfold Nest.nst at h
    split at h
    · cases h
    · split at h
      · cases h
      · rename_i ho
        split at h
        · cases h
        · split at h
          · cases h
          · split at h
            · cases h
            · rcases Nat.lt_or_ge i k with hk | hk
              · exact nst_own d (i + 1) _ h k hk (by omega)
              · obtain rfl : k = i := by omega
                exact Bool.not_eq_false _ |>.mp ho
theorem right_nodes (f : List SC) (hc : chkAns f 65536 = 0) : ∀ i, i < f.length → Own.nameOk (nd f i).f0 = true ∧ 0 ≤ (nd f i).f1 ∧ (nd f i).f2 ≤ 65536 := fun i hi => by
  have hn := chk_nst f hc
  have h1 := nst_own f.length 0 _ hn i (Nat.zero_le _) (by omega)
  have h2 := (inside (own := Own.nameOk) (f := f) (l := Fi.elOf f) 0 65536 (f.length : Int) f.length 0 [] ((f.length : Int), 65536, 0) [] hn (fun y hy => (by cases hy)) rfl (fun y hy => (by cases hy)) ⟨Int.le_refl _, Int.le_refl _⟩ (fun y hy => (by cases hy)) (fun k _ hk _ => (Fi.right_ex f hc k (by omega)).2) i (Nat.zero_le _) (by omega)).1 (by omega)
  exact ⟨h1, h2⟩
theorem txt_total (f : List SC) (L : List Nat) : ∀ (n i : Nat), i + n = L.length → (List.range' i n).flatMap (lnAt f (toI L)) = txt f (L.drop i) i
  | 0, i, h => by rw [List.drop_eq_nil_of_le (by omega)]; rfl
  | n + 1, i, h => by
    have hi : i < L.length := by omega
    rw [List.range'_succ, List.flatMap_cons, txt_total f L n (i + 1) (by omega), List.drop_eq_getElem_cons hi]
    show _ = bodyOf (nd f i) L[i] ++ 10 :: txt f (L.drop (i + 1)) (i + 1)
    have e : lnAt f (toI L) i = bodyOf (nd f i) L[i] ++ [10] := by
      unfold lnAt
      have : (toI L)[i]?.getD 0 = ((L[i] : Nat) : Int) := by
        unfold toI
        rw [List.getElem?_map, List.getElem?_eq_getElem hi]
        rfl
      rw [this]
      exact ln_body (nd f i) L[i]
    rw [e, List.append_assoc]
    rfl
/-- THERE AND BACK. -/
theorem parse_text (f : List SC) (hbd : ∀ c ∈ f, c.f3 ≤ 9223372036854775807) (s : ByteArray) (h : txtAns f = (s, 0)) : chkAns f 65536 = 0 ∧ parseAns s = (f, 0, 0) := by
  unfold txtAns at h
  split at h
  · rename_i hc
    split at h
    · rename_i hlen
      injection h with h1 _
      refine ⟨hc, ?_⟩
      obtain ⟨ls, hls⟩ := Option.isSome_iff_exists.1 (Fi.chk_mach f hc).2
      have hw : walkAns f = toI ls := by unfold walkAns; rw [hls]
      rw [hw] at h1 hlen
      have hsd : s.data.toList = total f (toI ls) := by rw [← h1]
      have hss : s.size = (total f (toI ls)).length := by rw [← hsd]; exact (data_length s).symm
      have ht := txt_total f ls ls.length 0 (by omega)
      have hq : Q [] (ex (K f)) := (mach_iff (K f) []).1 (Fi.chk_mach f hc).2
      unfold parseAns
      rw [if_neg (by omega)]
      refine back_go f hc hbd (right_nodes f hc) s ls 0 [] [] [] [] 0 (s.size + 1) hls ⟨rfl, Nat.zero_le _, rfl, trivial, hq, (fun x hx => by omega), (fun x hx => by omega)⟩ ?_ (Nat.zero_le _) (by omega)
      rw [List.drop_zero, hsd]
      unfold total tx
      rw [toI_length, List.range_eq_range', ht, List.drop_zero]
    · injection h with _ h2
      exact absurd h2 (by decide)
  · rename_i hc
    injection h with _ h2
    exact absurd h2 hc
end Go.Proofs.YtloflodbcdlmpaaDoor.Bk
namespace Go.Proofs.YtloflodbcdlmpaaDoor.Rdb
open Go.RowKit Go.Proofs.YtloflodbcdlmpaaDoor.Qall Go.Proofs.YtloflodbcdlmpaaDoor.Ln Go.Proofs.YtloflodbcdlmpaaDoor.Tx Go.Proofs.YtloflodbcdlmpaaDoor.Bk Go.Proofs.YtloflodbcdlmpaaDoorW.PrintWords Go.Proofs.YtloflodbcdlmpaaDoorW.PrintLast Go.Proofs.YtloflodbcdlmpaaDoorW.PrintMore
set_option linter.unusedSimpArgs false
set_option linter.unusedVariables false
theorem lead_split : ∀ (n : Nat) (l : List UInt8), l.length ≤ n → l = Lib.repeatL [32, 32] (lead l) ++ l.drop (2 * lead l)
  | 0, l, h => by
    obtain rfl : l = [] := List.length_eq_zero_iff.1 (by omega)
    rfl
  | n + 1, [], _ => rfl
  | n + 1, [a], _ => rfl
  | n + 1, a :: b :: l, h => by
    rw [lead]
    split
    · rename_i hab
      have ih := lead_split n l (by simp at h; omega)
      show _ = 32 :: 32 :: (Lib.repeatL [32, 32] (lead l) ++ (a :: b :: l).drop (2 * (lead l + 1)))
      rw [show 2 * (lead l + 1) = 2 * lead l + 1 + 1 by omega, List.drop_succ_cons, List.drop_succ_cons, ← ih, hab.1, hab.2]
    · rfl
theorem val_pos : ∀ (l : List UInt8) (n : Nat), 1 ≤ n → 1 ≤ val l n
  | [], n, h => h
  | b :: l, n, h => by
    rw [val]
    exact val_pos l _ (by omega)
/-- Digits without a needless 0 ahead are the number's own. -/
theorem dd_back : ∀ (n : Nat) (l : List UInt8), l.length ≤ n → l ≠ [] → (∀ b ∈ l, isDig b = true) → ¬ (l.head? = some 48 ∧ 1 < l.length) → Lib.decDigits (val l 0) = l
  | 0, l, h, hne, _, _ => by exact absurd (List.length_eq_zero_iff.1 (by omega)) hne
  | n + 1, l, h, hne, hd, h0 => by
    obtain ⟨m, b, rfl⟩ : ∃ m b, l = m ++ [b] := ⟨l.dropLast, l.getLast hne, (List.dropLast_concat_getLast hne).symm⟩
    have hb := of_decide_eq_true (hd b (by simp))
    rw [val_snoc]
    have hbe : UInt8.ofNat (48 + (b.toNat - 48)) = b := by
      apply UInt8.toNat_inj.1
      rw [u8_of _ (by omega)]
      omega
    by_cases hm : m = []
    · subst hm
      simp only [val, List.nil_append]
      rw [Nat.mul_zero, Nat.zero_add, Lib.decDigits, dif_pos (by omega), hbe]
    · obtain ⟨x, r, rfl⟩ := List.exists_cons_of_ne_nil hm
      have hx48 : x ≠ 48 := fun e => h0 ⟨by rw [e]; rfl, by simp⟩
      have hx := of_decide_eq_true (hd x (by simp))
      have hx2 : x.toNat ≠ 48 := fun e => hx48 (UInt8.toNat_inj.1 e)
      have hpos : 1 ≤ val (x :: r) 0 := by rw [val]; exact val_pos r _ (by omega)
      have ih := dd_back n (x :: r) (by simp at h ⊢; omega) (by simp) (fun c hc => hd c (List.mem_append_left _ hc)) (fun hh => hx48 (Option.some.inj hh.1))
      rw [Lib.decDigits, dif_neg (by omega), show (10 * val (x :: r) 0 + (b.toNat - 48)) / 10 = val (x :: r) 0 by omega, ih, show (10 * val (x :: r) 0 + (b.toNat - 48)) % 10 = b.toNat - 48 by omega, hbe]
theorem num_back (s : ByteArray) (h : (numAns s).2 = true) : s.data.toList = Lib.itoa (numAns s).1 ∧ 0 ≤ (numAns s).1 ∧ (numAns s).1 ≤ 65536 := by
  obtain ⟨hg, hv⟩ := numAns_good s
  have g := hg.1 h
  rw [hv h]
  refine ⟨?_, by omega, by have := g.2.2.1; omega⟩
  unfold Lib.itoa
  rw [if_neg (by omega), Int.toNat_natCast]
  exact (dd_back _ s.data.toList (Nat.le_refl _) g.1 g.2.1 g.2.2.2).symm
theorem line_ok (s : ByteArray) (h : (lineAns s).2.2.2.2 = true) : ∃ a b c, wordsOf (restOf s) = [a, b, c] ∧ Own.nameOk a = true ∧ (numAns b).2 = true ∧ (numAns c).2 = true ∧ lineAns s = ((lead s.data.toList : Int), a, (numAns b).1, (numAns c).1, true) := by
  unfold lineAns at h ⊢
  split at h
  · rename_i a b c hw
    by_cases hn : Own.nameOk a = true
    · rw [if_pos hn] at h
      have h2 : ((numAns b).2 && (numAns c).2) = true := h
      have h3 := Bool.and_eq_true_iff.1 h2
      exact ⟨a, b, c, hw, hn, h3.1, h3.2, by rw [if_pos hn, h2]⟩
    · rw [if_neg hn] at h
      cases h
  · cases h
theorem line_back2 (s : ByteArray) (h : (lineAns s).2.2.2.2 = true) : ∃ d : Nat, (lineAns s).1 = (d : Int) ∧ s.data.toList = bodyOf ⟨(lineAns s).2.1, (lineAns s).2.2.1, (lineAns s).2.2.2.1, 0⟩ d ∧
    Own.nameOk (lineAns s).2.1 = true ∧ (0 ≤ (lineAns s).2.2.1 ∧ (lineAns s).2.2.1 ≤ 65536) ∧ (0 ≤ (lineAns s).2.2.2.1 ∧ (lineAns s).2.2.2.1 ≤ 65536) := by
  obtain ⟨a, b, c, hw, hn, hb, hc, hans⟩ := line_ok s h
  rw [hans]
  have h3 := (three_iff (restOf s) a.data.toList b.data.toList c.data.toList).1 (by rw [hw]; rfl)
  obtain ⟨eb, b1, b2⟩ := num_back b hb
  obtain ⟨ec, c1, c2⟩ := num_back c hc
  refine ⟨lead s.data.toList, rfl, ?_, hn, ⟨b1, b2⟩, ⟨c1, c2⟩⟩
  unfold bodyOf
  dsimp only
  rw [← eb, ← ec, ← h3.1]
  have := lead_split _ s.data.toList (Nat.le_refl _)
  unfold restOf
  exact this
end Go.Proofs.YtloflodbcdlmpaaDoor.Rdb
namespace Go.Proofs.YtloflodbcdlmpaaDoor.Rdb
open Go.RowKit Go.Proofs.YtloflodbcdlmpaaDoor.Qall Go.Proofs.YtloflodbcdlmpaaDoor.Fo Go.Proofs.YtloflodbcdlmpaaDoor.Ln Go.Proofs.YtloflodbcdlmpaaDoor.Ps Go.Proofs.YtloflodbcdlmpaaDoor.Tx Go.Proofs.YtloflodbcdlmpaaDoor.Bk Go.Proofs.YtloflodbcdlmpaaDoorW.PrintWords Go.Proofs.YtloflodbcdlmpaaDoorW.PrintLast Go.Proofs.YtloflodbcdlmpaaDoorW.PrintMore
set_option linter.unusedSimpArgs false
set_option linter.unusedVariables false
theorem tw_split : ∀ l : List UInt8, (l.takeWhile (· != 10)).length < l.length → l = l.takeWhile (· != 10) ++ 10 :: l.drop ((l.takeWhile (· != 10)).length + 1)
  | [], h => by simp at h
  | b :: l, h => by
    by_cases hb : b = 10
    · subst hb
      rw [List.takeWhile_cons_of_neg (by decide)]
      rfl
    · rw [List.takeWhile_cons_of_pos (by simpa using hb)] at h ⊢
      rw [List.length_cons, List.drop_succ_cons, List.cons_append]
      congr 1
      exact tw_split l (by simpa using h)
theorem pop_app : ∀ (z s : List Nat), (∀ a ∈ z, a = 0) → (s = [] ∨ ∃ a s', s = (a + 1) :: s') → Fo.pop (z ++ s) = s
  | [], s, _, h => by
    rcases h with rfl | ⟨a, s', rfl⟩
    · rfl
    · rfl
  | a :: z, s, hz, h => by
    have := hz a (List.mem_cons_self ..)
    subst this
    exact pop_app z s (fun x hx => hz x (List.mem_cons_of_mem _ hx)) h
/-- What the reader holds. -/
structure Pre (F : List Bk.SC) (way : List Int) (W : List Nat) : Prop where
  hw : way = (W.map (fun x : Nat => (x : Int))).reverse
  lt : ∀ x ∈ W, x < F.length
  pw : W.Pairwise (fun a b => b < a)
  f3 : ∀ x, x < F.length → 0 ≤ (Bk.nd F x).f3 ∧ (Bk.nd F x).f3 ≤ (F.length : Int)
  cap : F.length ≤ 1048576
theorem Pre.put {F : List Bk.SC} {way : List Int} {W : List Nat} (h : Pre F way W) {d : Nat} {c : Bk.SC} (hc : c.f3 = 0) {F1 : List Bk.SC} {way1 : List Int} (hp : putAns F way d c = some (F1, way1)) :
    d ≤ W.length ∧ Pre F1 way1 (F.length :: W.drop (W.length - d)) ∧ F1.length = F.length + 1 ∧ Bk.nd F1 F.length = c ∧
      (∀ x, x < F.length → ((W.drop (W.length - d)).head? ≠ some x → (Bk.nd F1 x).f3 = (Bk.nd F x).f3) ∧ ((W.drop (W.length - d)).head? = some x → (Bk.nd F1 x).f3 = (Bk.nd F x).f3 + 1) ∧
        (Bk.nd F1 x).f0 = (Bk.nd F x).f0 ∧ (Bk.nd F1 x).f1 = (Bk.nd F x).f1 ∧ (Bk.nd F1 x).f2 = (Bk.nd F x).f2) := by
  obtain ⟨h1, h2, h3, h4, h5, rfl, rfl⟩ := putAns_some hp
  have hwl : way.length = W.length := by rw [h.hw]; simp
  have hkl := kidOf_length F way d
  obtain ⟨n, hn⟩ : ∃ n, W.length - d = n := ⟨_, rfl⟩
  rw [hn]
  have hdW : d = W.length - n := by omega
  have hnW : n ≤ W.length := by omega
  have hdl : d ≤ W.length := by omega
  have hup : 0 < d → ∃ p, (W.drop n).head? = some p ∧ rd way ((d : Int) - 1) = (p : Int) := fun hd0 => by
    have hnl : n < W.length := by omega
    refine ⟨W[n], by rw [List.drop_eq_getElem_cons hnl]; rfl, ?_⟩
    rw [h.hw, show ((d : Int) - 1) = ((d - 1 : Nat) : Int) by omega, way_rd W (d - 1) (by omega)]
    congr 2
    omega
  have hno : ¬ 0 < d → (W.drop n).head? = none := fun hd0 => by
    rw [List.drop_eq_nil_of_le (by omega)]
    rfl
  have hkid : ∀ x, x < F.length → ((W.drop n).head? ≠ some x → (Bk.nd (kidOf F way d ++ [c]) x).f3 = (Bk.nd F x).f3) ∧ ((W.drop n).head? = some x → (Bk.nd (kidOf F way d ++ [c]) x).f3 = (Bk.nd F x).f3 + 1) ∧
        (Bk.nd (kidOf F way d ++ [c]) x).f0 = (Bk.nd F x).f0 ∧ (Bk.nd (kidOf F way d ++ [c]) x).f1 = (Bk.nd F x).f1 ∧ (Bk.nd (kidOf F way d ++ [c]) x).f2 = (Bk.nd F x).f2 := fun x hx => by
    rw [nd_app _ _ x (by omega)]
    unfold kidOf
    split
    · rename_i hd0
      obtain ⟨p, hp, hr⟩ := hup hd0
      have hpl : p < F.length := h.lt p (List.mem_of_mem_drop (List.mem_of_mem_head? hp))
      have hf := h.f3 p hpl
      have hcap := h.cap
      rw [hr]
      refine ⟨fun hne => ?_, fun he => ?_, nd_kid2 F p x⟩
      · rw [nd_kid F p x hpl, if_neg (fun e => hne (by rw [hp, e]))]
      · have : p = x := Option.some.inj (hp.symm.trans he)
        subst this
        rw [nd_kid F p p hpl, if_pos rfl]
        exact Ln.wrap_of (by omega) (by omega)
    · rename_i hd0
      exact ⟨fun _ => rfl, fun he => (by rw [hno hd0] at he; cases he), rfl, rfl, rfl⟩
  have hnew : Bk.nd (kidOf F way d ++ [c]) F.length = c := by
    have := Bk.nd_new (kidOf F way d) c
    rwa [hkl] at this
  refine ⟨hdl, ⟨?_, ?_, ?_, ?_, ?_⟩, by rw [List.length_append, hkl]; rfl, hnew, hkid⟩
  · rw [h.hw, hdW, Bk.way_take W n hnW, List.map_cons, List.reverse_cons]
  · intro x hx
    rw [List.length_append, hkl, List.length_singleton]
    rcases List.mem_cons.1 hx with rfl | hx
    · exact Nat.lt_succ_self _
    · have := h.lt x (List.mem_of_mem_drop hx); omega
  · rw [List.pairwise_cons]
    exact ⟨fun x hx => h.lt x (List.mem_of_mem_drop hx), h.pw.drop⟩
  · intro x hx
    rw [List.length_append, hkl, List.length_singleton] at hx ⊢
    rcases Nat.lt_or_ge x F.length with hx1 | hx1
    · have hf := h.f3 x hx1
      obtain ⟨k1, k2, _⟩ := hkid x hx1
      by_cases he : (W.drop n).head? = some x
      · rw [k2 he]; omega
      · rw [k1 he]; omega
    · obtain rfl : x = F.length := by omega
      rw [hnew, hc]
      omega
  · rw [List.length_append, hkl, List.length_singleton]; omega
set_option maxHeartbeats 8000000 in
theorem read_go (t : ByteArray) (F : List Bk.SC) : ∀ (k at_ : Nat) (G : List Bk.SC) (way : List Int) (W : List Nat), parseGo t k at_ G way = (F, 0, 0) → t.size < k + at_ → at_ ≤ t.size → Pre G way W →
    ∃ ls : List Nat, G.length + ls.length = F.length ∧ mach (W.map (fun w => ((Bk.nd F w).f3 - (Bk.nd G w).f3).toNat)) ((K F).drop G.length) = some ls ∧ (∀ w ∈ W, (Bk.nd G w).f3 ≤ (Bk.nd F w).f3) ∧
      (∀ x, x < G.length → x ∉ W → (Bk.nd F x).f3 = (Bk.nd G x).f3) ∧ (∀ x, x < G.length → (Bk.nd F x).f0 = (Bk.nd G x).f0 ∧ (Bk.nd F x).f1 = (Bk.nd G x).f1 ∧ (Bk.nd F x).f2 = (Bk.nd G x).f2) ∧
      t.data.toList.drop at_ = txt F ls G.length
  | 0, at_, G, way, W, h, hk, hle, hp => by omega
  | k + 1, at_, G, way, W, h, hk, hle, hp => by
    have hlK : (K F).length = F.length := K_length F
    by_cases hlt : at_ < t.size
    · cases hs : stepAns t at_ G way with
      | none =>
        rw [parseGo_none hlt hs] at h
        injection h with _ h
        injection h with _ h
        exact absurd h (by decide)
      | some r =>
        obtain ⟨F1, way1⟩ := r
        rw [parseGo_some hlt hs] at h
        unfold stepAns lineAt nodeOf at hs
        split at hs
        · rename_i hok
          obtain ⟨hlf, hok⟩ := hok
          obtain ⟨d, hd, hbody, hnm, h1, h2⟩ := line_back2 _ hok
          rw [hd, Int.toNat_natCast] at hs
          obtain ⟨c, hc⟩ : ∃ c : Bk.SC, (⟨(lineAns (t.extract at_ (lfAt t at_))).2.1, (lineAns (t.extract at_ (lfAt t at_))).2.2.1, (lineAns (t.extract at_ (lfAt t at_))).2.2.2.1, 0⟩ : Bk.SC) = c := ⟨_, rfl⟩
          have hc0 : c.f3 = 0 := by rw [← hc]
          rw [hc] at hbody hs
          obtain ⟨q1, q2, q3, q4, q5⟩ := hp.put hc0 hs
          have hll := lf_le t at_ hle
          obtain ⟨ls, e1, e2, e3, e4, e5, e6⟩ := read_go t F k (lfAt t at_ + 1) F1 way1 _ h (by omega) (by omega) q2
          rw [q3] at e1 e2 e4 e5 e6
          obtain ⟨n, hn⟩ : ∃ n, W.length - d = n := ⟨_, rfl⟩
          rw [hn] at e2 e3 e4 q2 q5
          have hsp := List.take_append_drop n W
          have hpw := hp.pw
          rw [← hsp, List.pairwise_append] at hpw
          have hiF : G.length < F.length := by omega
          have hfi := e3 G.length (List.mem_cons_self ..)
          rw [q4, hc0] at hfi
          -- the closed ones lack nothing
          have hz : ∀ a ∈ (W.take n).map (fun w => ((Bk.nd F w).f3 - (Bk.nd G w).f3).toNat), a = 0 := fun a ha => by
            obtain ⟨w, hw, rfl⟩ := List.mem_map.1 ha
            have hwG := hp.lt w (List.mem_of_mem_take hw)
            have hwd : w ∉ W.drop n := fun e => by have := hpw.2.2 w hw w e; omega
            have h4 := e4 w (by omega) (fun e => by
              rcases List.mem_cons.1 e with e | e
              · omega
              · exact hwd e)
            rw [h4, (q5 w hwG).1 (fun e => hwd (List.mem_of_mem_head? e))]
            simp
          have hdr : ((W.drop n).map (fun w => ((Bk.nd F w).f3 - (Bk.nd G w).f3).toNat) = [] ∧ (W.drop n).map (fun w => ((Bk.nd F w).f3 - (Bk.nd F1 w).f3).toNat) = []) ∨
              ∃ a s', (W.drop n).map (fun w => ((Bk.nd F w).f3 - (Bk.nd G w).f3).toNat) = (a + 1) :: s' ∧ (W.drop n).map (fun w => ((Bk.nd F w).f3 - (Bk.nd F1 w).f3).toNat) = a :: s' := by
            cases hWd : W.drop n with
            | nil => exact .inl ⟨rfl, rfl⟩
            | cons p W2 =>
              right
              have hpm : p ∈ W := List.mem_of_mem_drop (by rw [hWd]; exact List.mem_cons_self ..)
              have hpG := hp.lt p hpm
              have hh : (W.drop n).head? = some p := by rw [hWd]; rfl
              have h5 := (q5 p hpG).2.1 hh
              have h6 := e3 p (List.mem_cons_of_mem _ (by rw [hWd]; exact List.mem_cons_self ..))
              refine ⟨((Bk.nd F p).f3 - (Bk.nd F1 p).f3).toNat, W2.map (fun w => ((Bk.nd F w).f3 - (Bk.nd G w).f3).toNat), ?_, ?_⟩
              · rw [List.map_cons]
                congr 1
                omega
              · rw [List.map_cons]
                congr 1
                refine List.map_congr_left fun w hw => ?_
                have hpw2 := hpw.2.1
                rw [hWd, List.pairwise_cons] at hpw2
                have hwp := hpw2.1 w hw
                rw [(q5 w (by omega)).1 (fun e => by rw [hh] at e; have := Option.some.inj e; omega)]
          have hrem : W.map (fun w => ((Bk.nd F w).f3 - (Bk.nd G w).f3).toNat) = (W.take n).map (fun w => ((Bk.nd F w).f3 - (Bk.nd G w).f3).toNat) ++ (W.drop n).map (fun w => ((Bk.nd F w).f3 - (Bk.nd G w).f3).toNat) := by
            rw [← List.map_append, hsp]
          have hpop : Fo.pop (W.map (fun w => ((Bk.nd F w).f3 - (Bk.nd G w).f3).toNat)) = (W.drop n).map (fun w => ((Bk.nd F w).f3 - (Bk.nd G w).f3).toNat) := by
            rw [hrem]
            refine pop_app _ _ hz ?_
            rcases hdr with ⟨h7, _⟩ | ⟨a, s', h7, _⟩
            · exact .inl h7
            · exact .inr ⟨a, s', h7⟩
          have hdec : dec ((W.drop n).map (fun w => ((Bk.nd F w).f3 - (Bk.nd G w).f3).toNat)) = (W.drop n).map (fun w => ((Bk.nd F w).f3 - (Bk.nd F1 w).f3).toNat) := by
            rcases hdr with ⟨h7, h8⟩ | ⟨a, s', h7, h8⟩
            · rw [h7, h8]; rfl
            · rw [h7, h8]; rfl
          refine ⟨d :: ls, by rw [List.length_cons]; omega, ?_, fun w hw => ?_, fun x hx hxn => ?_, fun x hx => ?_, ?_⟩
          · rw [K_at F G.length hiF, mach, if_neg (by omega), hpop, hdec]
            rw [List.map_cons, q4, hc0, Int.sub_zero] at e2
            rw [e2, Option.map_some, List.length_map, List.length_drop]
            congr 2
            omega
          · have hwG := hp.lt w hw
            obtain ⟨k1, k2, _⟩ := q5 w hwG
            by_cases hwd : w ∈ W.drop n
            · have := e3 w (List.mem_cons_of_mem _ hwd)
              by_cases he : (W.drop n).head? = some w
              · rw [k2 he] at this; omega
              · rw [k1 he] at this; exact this
            · have h4 := e4 w (by omega) (fun e => by
                rcases List.mem_cons.1 e with e | e
                · omega
                · exact hwd e)
              rw [h4, k1 (fun e => hwd (List.mem_of_mem_head? e))]
              exact Int.le_refl _
          · have hxd : x ∉ W.drop n := fun e => hxn (List.mem_of_mem_drop e)
            rw [e4 x (by omega) (fun e => by
              rcases List.mem_cons.1 e with e | e
              · omega
              · exact hxd e), (q5 x hx).1 (fun e => hxd (List.mem_of_mem_head? e))]
          · have h7 := e5 x (by omega)
            obtain ⟨_, _, k0, k1, k2⟩ := q5 x hx
            exact ⟨h7.1.trans k0, h7.2.1.trans k1, h7.2.2.trans k2⟩
          · have h7 := e5 G.length (by omega)
            rw [q4] at h7
            have hb : bodyOf (Bk.nd F G.length) d = bodyOf c d := by
              unfold bodyOf
              rw [h7.1, h7.2.1, h7.2.2]
            show _ = bodyOf (Bk.nd F G.length) d ++ 10 :: txt F ls (G.length + 1)
            rw [hb, ← e6, ← hbody, ext_list]
            have hlen : ((t.data.toList.drop at_).takeWhile (· != 10)).length = lfAt t at_ - at_ := by unfold lfAt; omega
            have hsz : (t.data.toList.drop at_).length = t.size - at_ := Ps.drop_len t at_
            have hts := tw_split (t.data.toList.drop at_) (by omega)
            rw [hlen, List.drop_drop] at hts
            have htk : (t.data.toList.drop at_).take (lfAt t at_ - at_) = (t.data.toList.drop at_).takeWhile (· != 10) := by
              conv => lhs; rw [hts]
              rw [← hlen, List.take_left]
            rw [htk, show lfAt t at_ + 1 = at_ + (lfAt t at_ - at_ + 1) by omega]
            exact hts
        · cases hs
    · rw [parseGo_end hlt] at h
      injection h with h _
      subst h
      refine ⟨[], rfl, ?_, fun _ _ => Int.le_refl _, fun _ _ _ => rfl, fun _ _ => ⟨rfl, rfl, rfl⟩, ?_⟩
      · rw [List.drop_eq_nil_of_le (by omega), mach, if_pos]
        rw [List.all_eq_true]
        intro a ha
        obtain ⟨w, _, rfl⟩ := List.mem_map.1 ha
        simp
      · rw [List.drop_eq_nil_of_le (by rw [Array.length_toList]; have : t.data.size = t.size := rfl; omega)]
        rfl
end Go.Proofs.YtloflodbcdlmpaaDoor.Rdb
namespace Go.Proofs.YtloflodbcdlmpaaDoor.Rdc
open Go.RowKit Go.Proofs.YtloflodbcdlmpaaDoor.Qall Go.Proofs.YtloflodbcdlmpaaDoor.Fo Go.Proofs.YtloflodbcdlmpaaDoor.Chk Go.Proofs.YtloflodbcdlmpaaDoor.Ln Go.Proofs.YtloflodbcdlmpaaDoor.Ps Go.Proofs.YtloflodbcdlmpaaDoor.Tx Go.Proofs.YtloflodbcdlmpaaDoor.Nsa Go.Proofs.YtloflodbcdlmpaaDoor.Bk Go.Proofs.YtloflodbcdlmpaaDoorW.PrintWords Go.Proofs.YtloflodbcdlmpaaDoorW.PrintLast Go.Proofs.YtloflodbcdlmpaaDoorW.PrintMore
set_option linter.unusedSimpArgs false
set_option linter.unusedVariables false
theorem el_some2 (f : List Bk.SC) (hq : Q [] (ex (K f))) (a : Nat) (ha : a < f.length) : ∃ m, Fo.hd ((ex (K f)).drop a) = some m ∧ rd (Bk.elOf f) (a : Int) = ((a + m : Nat) : Int) := by
  have hl : (ex (K f)).length = f.length := by rw [ex_length, K_length]
  have hrd := abs_rd (-1) (ex (K f)) a (by omega)
  have hdr := drop_hd (ex (K f)) a (by omega)
  cases hh : Fo.hd ((ex (K f)).drop a) with
  | none =>
    exfalso
    rw [hh] at hdr
    have hm : (none : Option Nat) ∈ ex (K f) := List.mem_of_mem_drop (i := a) (by rw [hdr]; exact List.mem_cons_self ..)
    exact Q_all _ _ hq none hm rfl
  | some m => rw [hh] at hrd; exact ⟨m, rfl, hrd⟩
/-- The rooms of the open nodes. -/
def rooms (F : List Bk.SC) : Int → List Nat → List Nest.Rm
  | lo, [] => [((F.length : Int), 65536, lo)]
  | lo, w :: W => (rd (Bk.elOf F) (w : Int), (Bk.nd F w).f2, lo) :: rooms F (Bk.nd F w).f2 W
/-- What begins where the closed ones end. -/
def loA (F : List Bk.SC) (lo : Int) : Nat → List Nat → Int
  | 0, _ => lo
  | n + 1, [] => lo
  | n + 1, w :: W => loA F (Bk.nd F w).f2 n W
def hiA (F : List Bk.SC) : List Nat → Int
  | [] => 65536
  | w :: _ => (Bk.nd F w).f2
def lo1 (F : List Bk.SC) : List Nat → Int
  | [] => 0
  | w :: _ => (Bk.nd F w).f1
theorem rooms_form (F : List Bk.SC) (lo lo2 : Int) : ∀ W : List Nat, ∃ up r, rooms F lo W = up :: r ∧ up.2.2 = lo ∧ up.2.1 = hiA F W ∧ rooms F lo2 W = (up.1, up.2.1, lo2) :: r
  | [] => ⟨_, _, rfl, rfl, rfl, rfl⟩
  | w :: W => ⟨_, _, rfl, rfl, rfl, rfl⟩
theorem drop_rooms (F : List Bk.SC) (i : Nat) (hi : i < F.length) : ∀ (n : Nat) (W : List Nat) (lo : Int), n ≤ W.length → (∀ x ∈ W.take n, rd (Bk.elOf F) (x : Int) ≤ (i : Int)) → (∀ x, (W.drop n).head? = some x → (i : Int) < rd (Bk.elOf F) (x : Int)) →
    (rooms F lo W).dropWhile (fun r => decide (r.1 ≤ (i : Int))) = rooms F (loA F lo n W) (W.drop n)
  | 0, [], lo, _, _, _ => by
    show List.dropWhile _ [((F.length : Int), (65536 : Int), lo)] = _
    rw [List.dropWhile_cons_of_neg (by simp; omega)]
    rfl
  | 0, w :: W, lo, _, _, h => by
    have := h w rfl
    show List.dropWhile _ ((rd (Bk.elOf F) (w : Int), (Bk.nd F w).f2, lo) :: rooms F (Bk.nd F w).f2 W) = _
    rw [List.dropWhile_cons_of_neg (by simp; omega)]
    rfl
  | n + 1, [], lo, h, _, _ => by simp at h
  | n + 1, w :: W, lo, h, h1, h2 => by
    have := h1 w (by rw [List.take_succ_cons]; exact List.mem_cons_self ..)
    show List.dropWhile _ ((rd (Bk.elOf F) (w : Int), (Bk.nd F w).f2, lo) :: rooms F (Bk.nd F w).f2 W) = _
    rw [List.dropWhile_cons_of_pos (by simp; omega)]
    exact drop_rooms F i hi n W (Bk.nd F w).f2 (by simpa using h) (fun x hx => h1 x (by rw [List.take_succ_cons]; exact List.mem_cons_of_mem _ hx)) (fun x hx => h2 x hx)
theorem loA_at (F : List Bk.SC) : ∀ (n : Nat) (W : List Nat) (lo : Int) (h : n < W.length), loA F lo (n + 1) W = (Bk.nd F W[n]).f2
  | n, [], lo, h => by simp at h
  | 0, w :: W, lo, h => rfl
  | n + 1, w :: W, lo, h => by
    show loA F (Bk.nd F w).f2 (n + 1) W = _
    rw [loA_at F n W _ (by simpa using h)]
    rfl
theorem rd_step (f : List Bk.SC) (hq0 : Q [] (ex (K f))) (h20 : f.length ≤ 1048576) (hbd : ∀ c ∈ f, c.f3 ≤ 9223372036854775807) {F : List Bk.SC} {way : List Int} {i : Nat} {W st : List Nat} (h : Bk.St f F way i W st) (hi : i < f.length) {F' : List Bk.SC} {way' : List Int}
    (hput : putAns F way (Fo.pop st).length ⟨(Bk.nd f i).f0, (Bk.nd f i).f1, (Bk.nd f i).f2, 0⟩ = some (F', way')) :
    ∃ n, n ≤ W.length ∧ (Fo.pop st).length = W.length - n ∧ (∀ x ∈ W, x < i) ∧ (∀ x ∈ W.take n, rd (Bk.elOf f) (x : Int) ≤ (i : Int)) ∧ (∀ x, (W.drop n).head? = some x → (i : Int) < rd (Bk.elOf f) (x : Int)) ∧
      (Bk.nd f i).f1 ≤ (Bk.nd f i).f2 ∧ loOf F way (Fo.pop st).length ≤ (Bk.nd f i).f1 ∧ (Bk.nd f i).f2 ≤ hiOf F way (Fo.pop st).length ∧ Bk.St f F' way' (i + 1) (i :: W.drop n) ((Bk.nd f i).f3.toNat :: dec (Fo.pop st)) := by
  have hK := K_at f i hi
  have hq := h.q
  have hal := h.al
  rw [hK] at hq hal
  obtain ⟨hx0, hq2⟩ := (Q_step st (Bk.nd f i).f3 ((K f).drop (i + 1))).1 hq
  have hss := stk_step st (Bk.nd f i).f3 ((K f).drop (i + 1)) i hq
  obtain ⟨n, g1, g2, g3, g4, g5⟩ := Al.pop (ex_wf _) hq hal
  have hwl : way.length = W.length := by rw [h.hw]; simp
  have hlt := hal.lt
  obtain ⟨d, hd⟩ : ∃ d, (Fo.pop st).length = d := ⟨_, rfl⟩
  rw [hd] at g2 hput ⊢
  have hhead : ∀ p, (W.drop n).head? = some p → p < i ∧ (i : Int) < rd (Bk.elOf f) (p : Int) := fun p hp => by
    have hpi : p < i := hlt p (List.mem_of_mem_drop (List.mem_of_mem_head? hp))
    exact ⟨hpi, g5 p hp⟩
  have hup : 0 < d → ∃ p, (W.drop n).head? = some p ∧ rd way ((d : Int) - 1) = (p : Int) := fun hd0 => by
    have hnl : n < W.length := by omega
    refine ⟨W[n], by rw [List.drop_eq_getElem_cons hnl]; rfl, ?_⟩
    rw [h.hw, show ((d : Int) - 1) = ((d - 1 : Nat) : Int) by omega, way_rd W (d - 1) (by omega)]
    congr 2
    omega
  obtain ⟨p1, p2, p3, p4, p5, rfl, rfl⟩ := putAns_some hput
  have hkl := kidOf_length F way d
  have hFl := h.hl
  -- what the kid's count does to the others
  have hkid : ∀ x, x < i → ((W.drop n).head? ≠ some x → (Bk.nd (kidOf F way d ++ [⟨(Bk.nd f i).f0, (Bk.nd f i).f1, (Bk.nd f i).f2, 0⟩]) x).f3 = (Bk.nd F x).f3) ∧
      (Bk.nd (kidOf F way d ++ [⟨(Bk.nd f i).f0, (Bk.nd f i).f1, (Bk.nd f i).f2, 0⟩]) x).f0 = (Bk.nd F x).f0 ∧ (Bk.nd (kidOf F way d ++ [⟨(Bk.nd f i).f0, (Bk.nd f i).f1, (Bk.nd f i).f2, 0⟩]) x).f1 = (Bk.nd F x).f1 ∧ (Bk.nd (kidOf F way d ++ [⟨(Bk.nd f i).f0, (Bk.nd f i).f1, (Bk.nd f i).f2, 0⟩]) x).f2 = (Bk.nd F x).f2 := fun x hx => by
    rw [nd_app _ _ x (by omega)]
    unfold kidOf
    split
    · rename_i hd0
      obtain ⟨p, hp, hr⟩ := hup hd0
      have hpi := (hhead p hp).1
      rw [hr]
      refine ⟨fun hne => ?_, nd_kid2 F p x⟩
      rw [nd_kid F p x (by omega), if_neg (fun e => hne (by rw [hp, e]))]
    · exact ⟨fun _ => rfl, rfl, rfl, rfl⟩
  refine ⟨n, g1, g2, hlt, fun x hx => (g4 x hx).2, g5, p3, p4, p5, ?_⟩
  refine ⟨by rw [List.length_append, hkl, hFl]; rfl, hi, ?_, ?_, hq2, fun x hx hxn => ?_, fun x hx => ?_⟩
  · rw [h.hw, hFl, g2, way_take W n g1, List.map_cons, List.reverse_cons]
  · rw [hss]
    obtain ⟨m, e1, e2⟩ := el_some2 f hq0 i hi
    have hm : Fo.hd (ex ((Bk.nd f i).f3 :: (K f).drop (i + 1))) = some m := by rw [← hK, ex_drop]; exact e1
    have hnew : Bk.nd (kidOf F way d ++ [⟨(Bk.nd f i).f0, (Bk.nd f i).f1, (Bk.nd f i).f2, 0⟩]) i = ⟨(Bk.nd f i).f0, (Bk.nd f i).f1, (Bk.nd f i).f2, 0⟩ := by
      have := nd_new (kidOf F way d) ⟨(Bk.nd f i).f0, (Bk.nd f i).f1, (Bk.nd f i).f2, 0⟩
      rwa [hkl, hFl] at this
    refine ⟨by rw [hnew]; show (0 : Int) + _ = _; omega, by rw [hnew]; exact Int.le_refl _, by rw [hm]; exact e2, Nat.lt_succ_self _, fun x hx => hlt x (List.mem_of_mem_drop hx), ?_⟩
    rcases pop_cases st with e | ⟨l, s, e⟩
    · rw [e] at g3 ⊢
      cases hWd : W.drop n with
      | nil => rw [hWd] at g3; exact g3
      | cons p W2 => rw [hWd] at g3; simp [stk, Al] at g3
    · rw [e] at g3 ⊢
      cases hWd : W.drop n with
      | nil => rw [hWd] at g3; simp [stk, Al] at g3
      | cons p W2 =>
        rw [hWd] at g3
        obtain ⟨a1, a2, a3, a4, a5, a6⟩ := g3
        have hp : (W.drop n).head? = some p := by rw [hWd]; rfl
        have hd0 : 0 < d := by rw [← hd, e]; exact Nat.succ_pos _
        obtain ⟨p', hp', hr⟩ := hup hd0
        obtain rfl : p = p' := by rw [hp] at hp'; exact Option.some.inj hp'
        have hfp := hbd (Bk.nd f p) (by rw [rd_at f p (by omega)]; exact List.getElem_mem _)
        have hpk : (Bk.nd (kidOf F way d ++ [⟨(Bk.nd f i).f0, (Bk.nd f i).f1, (Bk.nd f i).f2, 0⟩]) p).f3 = (Bk.nd F p).f3 + 1 := by
          rw [nd_app _ _ p (by omega)]
          unfold kidOf
          rw [if_pos hd0, hr, nd_kid F p p (by omega), if_pos rfl]
          exact Ln.wrap_of (by omega) (by omega)
        refine ⟨by rw [hpk]; show _ + (l : Int) = _; omega, by rw [hpk]; omega, a3, by omega, a5, ?_⟩
        exact Al.keep (Nat.le_succ i) a6 (fun x hx => (hkid x (by have := a5 x hx; omega)).1 (by rw [hp]; intro e2; have := a5 x hx; have := Option.some.inj e2; omega))
  · rw [List.mem_cons] at hxn
    have hxi : x < i := by
      rcases Nat.lt_or_ge x i with h1 | h1
      · exact h1
      · exact absurd (show x = i by omega) (fun e => hxn (.inl e))
    have hxd : x ∉ W.drop n := fun e => hxn (.inr e)
    rw [(hkid x hxi).1 (fun e => hxd (List.mem_of_mem_head? e))]
    by_cases hxW : x ∈ W
    · have e := List.take_append_drop n W
      rw [← e] at hxW
      rcases List.mem_append.1 hxW with h1 | h1
      · exact (g4 x h1).1
      · exact absurd h1 hxd
    · exact h.cl x hxi hxW
  · rcases Nat.lt_or_ge x i with h1 | h1
    · obtain ⟨_, b1, b2, b3⟩ := hkid x h1
      have := h.sm x h1
      exact ⟨b1.trans this.1, b2.trans this.2.1, b3.trans this.2.2⟩
    · obtain rfl : x = i := by omega
      have := nd_new (kidOf F way d) ⟨(Bk.nd f x).f0, (Bk.nd f x).f1, (Bk.nd f x).f2, 0⟩
      rw [hkl, hFl] at this
      rw [this]
      exact ⟨rfl, rfl, rfl⟩
theorem al_rem {f F : List Bk.SC} {i : Nat} : ∀ {W st E : List Nat}, Al f F i W st E → st = W.map (fun w => ((Bk.nd f w).f3 - (Bk.nd F w).f3).toNat)
  | [], [], [], _ => rfl
  | w :: W, a :: st, e :: E, h => by
    rw [List.map_cons, ← al_rem h.2.2.2.2.2]
    have := h.1
    congr 1
    omega
theorem lo_eq (F G : List Bk.SC) (way : List Int) (W : List Nat) (hw : way = (W.map (fun x : Nat => (x : Int))).reverse) (hs : ∀ w ∈ W, (Bk.nd F w).f1 = (Bk.nd G w).f1 ∧ (Bk.nd F w).f2 = (Bk.nd G w).f2) (lo : Int)
    (hlo : lo = lo1 F W) (n : Nat) (hn : n ≤ W.length) : loA F lo n W = loOf G way (W.length - n) := by
  have hwl : way.length = W.length := by rw [hw]; simp
  unfold loOf
  cases n with
  | zero =>
    rw [if_neg (by omega)]
    unfold lo0
    cases W with
    | nil => exact hlo
    | cons w W =>
      have h1 := (hs w (List.mem_cons_self ..)).1
      rw [if_pos (by rw [List.length_cons]; omega)]
      have hr : rd way ((((w :: W).length - 0 : Nat) : Int) - 1) = (w : Int) := by
        rw [hw, show ((((w :: W).length - 0 : Nat) : Int) - 1) = (((w :: W).length - 1 : Nat) : Int) by rw [List.length_cons]; omega, way_rd (w :: W) ((w :: W).length - 1) (by rw [List.length_cons]; omega)]
        congr 1
        simp
      rw [hr]
      show lo = (Bk.nd G w).f1
      rw [hlo, ← h1]
      rfl
  | succ m =>
    rw [if_pos (by omega)]
    have hr : rd way ((W.length - (m + 1) : Nat) : Int) = ((W[m] : Nat) : Int) := by
      rw [hw, way_rd W (W.length - (m + 1)) (by omega)]
      congr 2
      omega
    rw [hr, loA_at F m W lo (by omega)]
    exact (hs _ (List.getElem_mem _)).2
theorem hi_eq (F G : List Bk.SC) (way : List Int) (W : List Nat) (hw : way = (W.map (fun x : Nat => (x : Int))).reverse) (hs : ∀ w ∈ W, (Bk.nd F w).f1 = (Bk.nd G w).f1 ∧ (Bk.nd F w).f2 = (Bk.nd G w).f2) (n : Nat) (hn : n ≤ W.length) :
    hiA F (W.drop n) = hiOf G way (W.length - n) := by
  unfold hiOf
  by_cases h : n < W.length
  · rw [if_pos (by omega), List.drop_eq_getElem_cons h]
    have hr : rd way (((W.length - n : Nat) : Int) - 1) = ((W[n] : Nat) : Int) := by
      rw [hw, show (((W.length - n : Nat) : Int) - 1) = ((W.length - n - 1 : Nat) : Int) by omega, way_rd W (W.length - n - 1) (by omega)]
      congr 2
      omega
    rw [hr]
    exact (hs _ (List.getElem_mem _)).2
  · rw [if_neg (by omega), List.drop_eq_nil_of_le (by omega)]
    rfl
theorem body_len (c : Bk.SC) (z : Nat) : (bodyOf c z).length = 2 * z + (bodyOf c 0).length := by
  unfold bodyOf
  simp only [List.length_append, Lib.repeatL_length]
  simp
  omega
theorem tw_stop (l r : List UInt8) (h : ∀ b ∈ l, (b != 10) = true) : (l ++ 10 :: r).takeWhile (· != 10) = l :=
  takeWhile_all l (10 :: r) h (fun b hb => by have := Option.some.inj hb; rw [← this]; rfl)
set_option maxHeartbeats 8000000 in
theorem go_right (t : ByteArray) (F : List Bk.SC) (hq0 : Q [] (ex (K F))) (h20 : F.length ≤ 1048576) (hbd : ∀ c ∈ F, c.f3 ≤ 9223372036854775807) :
    ∀ (k at_ : Nat) (G : List Bk.SC) (way : List Int) (W st : List Nat) (lo : Int), parseGo t k at_ G way = (F, 0, 0) → t.size < k + at_ → at_ ≤ t.size → Rdb.Pre G way W → Bk.St F G way G.length W st →
      (lo = lo1 F W) → Nest.nst Own.nameOk F (Bk.elOf F) (F.length - G.length) G.length (rooms F lo W) = true
  | 0, at_, G, way, W, st, lo, h, hk, hle, hp, hS, hlo => by omega
  | k + 1, at_, G, way, W, st, lo, h, hk, hle, hp, hS, hlo => by
    obtain ⟨ls, e1, e2, e3, e4, e5, e6⟩ := Rdb.read_go t F (k + 1) at_ G way W h hk hle hp
    rw [← al_rem hS.al] at e2
    by_cases hlt : at_ < t.size
    · cases hs : stepAns t at_ G way with
      | none =>
        rw [parseGo_none hlt hs] at h
        injection h with _ h
        injection h with _ h
        exact absurd h (by decide)
      | some r =>
        obtain ⟨F1, way1⟩ := r
        rw [parseGo_some hlt hs] at h
        unfold stepAns lineAt nodeOf at hs
        split at hs
        · rename_i hok
          obtain ⟨hlf, hok⟩ := hok
          obtain ⟨d, hd, hbody, hnm, h1, h2⟩ := Rdb.line_back2 _ hok
          rw [hd, Int.toNat_natCast] at hs
          obtain ⟨c, hc⟩ : ∃ c : Bk.SC, (⟨(lineAns (t.extract at_ (lfAt t at_))).2.1, (lineAns (t.extract at_ (lfAt t at_))).2.2.1, (lineAns (t.extract at_ (lfAt t at_))).2.2.2.1, 0⟩ : Bk.SC) = c := ⟨_, rfl⟩
          have hc0 : c.f3 = 0 := by rw [← hc]
          have hcn : Own.nameOk c.f0 = true := by rw [← hc]; exact hnm
          have hc1 : 0 ≤ c.f1 ∧ c.f1 ≤ 65536 := by rw [← hc]; exact h1
          have hc2 : 0 ≤ c.f2 ∧ c.f2 ≤ 65536 := by rw [← hc]; exact h2
          rw [hc] at hbody hs
          clear hc hnm h1 h2 hd hok
          obtain ⟨q1, q2, q3, q4, q5⟩ := hp.put hc0 hs
          have hll := lf_le t at_ hle
          obtain ⟨ls2, u1, u2, u3, u4, u5, u6⟩ := Rdb.read_go t F k (lfAt t at_ + 1) F1 way1 _ h (by omega) (by omega) q2
          have hiF : G.length < F.length := by omega
          have h7 := u5 G.length (by omega)
          rw [q4] at h7
          have hcF : (⟨(Bk.nd F G.length).f0, (Bk.nd F G.length).f1, (Bk.nd F G.length).f2, 0⟩ : Bk.SC) = c := sc_ext _ _ h7.1 h7.2.1 h7.2.2 hc0.symm
          obtain ⟨z, ls', hlz⟩ : ∃ z ls', ls = z :: ls' := by
            cases ls with
            | nil => exfalso; rw [List.length_nil] at e1; omega
            | cons z ls' => exact ⟨z, ls', rfl⟩
          subst hlz
          rw [K_at F G.length hiF, mach] at e2
          split at e2
          · cases e2
          obtain ⟨_, _, e⟩ := Option.map_eq_some_iff.1 e2
          injection e with hz _
          have hbe : ∀ z, bodyOf (Bk.nd F G.length) z = bodyOf c z := fun z => by
            unfold bodyOf
            rw [h7.1, h7.2.1, h7.2.2]
          have hdz : d = z := by
            have ht2 : t.data.toList.drop at_ = bodyOf (Bk.nd F G.length) z ++ 10 :: txt F ls' (G.length + 1) := e6
            rw [hbe z] at ht2
            have htw : (t.data.toList.drop at_).takeWhile (· != 10) = bodyOf c z := by
              rw [ht2]
              exact tw_stop _ _ (body_nolf c z hcn hc1 hc2)
            have hlen : lfAt t at_ = at_ + (bodyOf c z).length := by unfold lfAt; rw [htw]
            have hb2 := congrArg List.length hbody
            rw [ext_list, hlen, ht2, show at_ + (bodyOf c z).length - at_ = (bodyOf c z).length by omega, List.take_left] at hb2
            have := body_len c z
            have := body_len c d
            omega
          rw [hdz, ← hz, ← hcF] at hs
          obtain ⟨n, n1, n2, n3, n4, n5, n6, n7, n8, n9⟩ := rd_step F hq0 h20 hbd hS hiF hs
          have hWn : W.length - d = n := by rw [hdz, ← hz, n2]; omega
          rw [hWn] at q2
          rw [← q3] at n9
          have hsm : ∀ w ∈ W, (Bk.nd F w).f1 = (Bk.nd G w).f1 ∧ (Bk.nd F w).f2 = (Bk.nd G w).f2 := fun w hw => (e5 w (hp.lt w hw)).2
          rw [n2, ← lo_eq F G way W hp.hw hsm lo hlo n n1] at n7
          rw [n2, ← hi_eq F G way W hp.hw hsm n n1] at n8
          have ih := go_right t F hq0 h20 hbd k (lfAt t at_ + 1) F1 way1 (G.length :: W.drop n) _ (Bk.nd F G.length).f1 h (by omega) (by omega) q2 n9 rfl
          obtain ⟨up, r, r1, r2, r3, r4⟩ := rooms_form F (loA F lo n W) (Bk.nd F G.length).f2 (W.drop n)
          rw [q3] at ih
          rw [show F.length - G.length = (F.length - (G.length + 1)) + 1 by omega, Nest.nst, drop_rooms F G.length hiF n W lo n1 n4 n5, r1]
          show (if Own.nameOk (Bk.nd F G.length).f0 = false then false else if (Bk.nd F G.length).f1 < up.2.2 then false else if (Bk.nd F G.length).f2 < (Bk.nd F G.length).f1 then false else if (Bk.nd F G.length).f2 > up.2.1 then false else _) = true
          rw [if_neg (by rw [h7.1, hcn]; decide), if_neg (by rw [r2]; omega), if_neg (by omega), if_neg (by rw [r3]; omega), ← r4]
          exact ih
        · cases hs
    · rw [parseGo_end hlt] at h
      injection h with h _
      subst h
      rw [Nat.sub_self]
      rfl
theorem go_pre (t : ByteArray) (F : List Bk.SC) : ∀ (k at_ : Nat) (G : List Bk.SC) (way : List Int) (W : List Nat), parseGo t k at_ G way = (F, 0, 0) → t.size < k + at_ → at_ ≤ t.size → Rdb.Pre G way W → ∃ way' W', Rdb.Pre F way' W'
  | 0, at_, G, way, W, h, hk, hle, hp => by omega
  | k + 1, at_, G, way, W, h, hk, hle, hp => by
    by_cases hlt : at_ < t.size
    · cases hs : stepAns t at_ G way with
      | none =>
        rw [parseGo_none hlt hs] at h
        injection h with _ h
        injection h with _ h
        exact absurd h (by decide)
      | some r =>
        obtain ⟨F1, way1⟩ := r
        rw [parseGo_some hlt hs] at h
        unfold stepAns lineAt nodeOf at hs
        split at hs
        · rename_i hok
          have hll := lf_le t at_ hle
          have hlf := hok.1
          exact go_pre t F k (lfAt t at_ + 1) F1 way1 _ h (by omega) (by omega) (hp.put rfl hs).2.1
        · cases hs
    · rw [parseGo_end hlt] at h
      injection h with h _
      subst h
      exact ⟨_, _, hp⟩
theorem pre_nil : Rdb.Pre [] [] [] := ⟨rfl, fun x hx => (by cases hx), List.Pairwise.nil, fun x hx => absurd hx (Nat.not_lt_zero _), by simp⟩
/-- WHAT IS READ IS RIGHT, AND HAS THAT TEXT. -/
theorem read_right (t : ByteArray) (F : List Bk.SC) (h : parseAns t = (F, 0, 0)) : chkAns F 65536 = 0 ∧ txtAns F = (t, 0) := by
  unfold parseAns at h
  split at h
  · injection h with _ h
    injection h with _ h
    exact absurd h (by decide)
  · rename_i hsz
    obtain ⟨way', W', hP⟩ := go_pre t F _ 0 [] [] [] h (by omega) (by omega) pre_nil
    have h20 := hP.cap
    have hbd : ∀ c ∈ F, c.f3 ≤ 9223372036854775807 := fun c hc => by
      obtain ⟨x, hx, rfl⟩ := List.mem_iff_getElem.1 hc
      have := (hP.f3 x hx).2
      rw [rd_at F x hx] at this
      omega
    obtain ⟨ls, e1, e2, _, _, _, e6⟩ := Rdb.read_go t F _ 0 [] [] [] h (by omega) (by omega) pre_nil
    rw [List.length_nil, List.drop_zero, List.map_nil] at e2
    rw [List.drop_zero, List.length_nil] at e6
    have hm : (mach [] (K F)).isSome = true := by rw [e2]; rfl
    have hq : Q [] (ex (K F)) := (mach_iff (K F) []).1 hm
    have hn := go_right t F hq h20 hbd _ 0 [] [] [] [] 0 h (by omega) (by omega) pre_nil ⟨rfl, Nat.zero_le _, rfl, trivial, hq, (fun x hx => absurd hx (Nat.not_lt_zero _)), (fun x hx => absurd hx (Nat.not_lt_zero _))⟩ rfl
    have hc : chkAns F 65536 = 0 := by
      unfold chkAns
      rw [if_neg (by omega), if_neg (by omega), if_pos]
      unfold rightB
      rw [Bool.and_eq_true]
      exact ⟨hm, hn⟩
    refine ⟨hc, ?_⟩
    have hw : walkAns F = toI ls := by unfold walkAns; rw [e2]
    have ht := txt_total F ls ls.length 0 (by omega)
    have htot : total F (toI ls) = t.data.toList := by
      unfold total tx
      rw [toI_length, List.range_eq_range', ht, List.drop_zero, e6]
    have hts : t.data.toList.length = t.size := data_length t
    unfold txtAns
    rw [if_pos hc, hw, htot, if_pos (by omega)]
end Go.Proofs.YtloflodbcdlmpaaDoor.Rdc
namespace Go.Proofs.YtloflodbcdlmpaaDoor.Rdd
open Go.RowKit Go.Proofs.YtloflodbcdlmpaaDoor.Qall Go.Proofs.YtloflodbcdlmpaaDoor.Fo Go.Proofs.YtloflodbcdlmpaaDoor.Ln Go.Proofs.YtloflodbcdlmpaaDoor.Ps Go.Proofs.YtloflodbcdlmpaaDoor.Tx Go.Proofs.YtloflodbcdlmpaaDoor.Bk Go.Proofs.YtloflodbcdlmpaaDoorW.PrintWords Go.Proofs.YtloflodbcdlmpaaDoorW.PrintLast Go.Proofs.YtloflodbcdlmpaaDoorW.PrintMore
set_option linter.unusedSimpArgs false
set_option linter.unusedVariables false
theorem tw_take (p : UInt8 → Bool) : ∀ (l : List UInt8) (m : Nat), ((l.take m).takeWhile p).length = min m (l.takeWhile p).length
  | [], m => by simp
  | b :: l, 0 => by simp
  | b :: l, m + 1 => by
    rw [List.take_succ_cons]
    by_cases hb : p b = true
    · rw [List.takeWhile_cons_of_pos hb, List.takeWhile_cons_of_pos hb, List.length_cons, List.length_cons, tw_take p l m]
      omega
    · rw [List.takeWhile_cons_of_neg hb, List.takeWhile_cons_of_neg hb]
      simp
theorem tw_get (p : UInt8 → Bool) : ∀ (l : List UInt8) (j : Nat), j < (l.takeWhile p).length → ∀ b, l[j]? = some b → p b = true
  | [], j, h, b, hb => by simp at hb
  | a :: l, j, h, b, hb => by
    by_cases ha : p a = true
    · cases j with
      | zero => obtain rfl : a = b := by simpa using hb
                exact ha
      | succ j =>
        rw [List.takeWhile_cons_of_pos ha, List.length_cons] at h
        exact tw_get p l j (by omega) b (by simpa using hb)
    · rw [List.takeWhile_cons_of_neg ha] at h
      simp at h
theorem tw_at : ∀ l : List UInt8, (l.takeWhile (· != 10)).length < l.length → l[(l.takeWhile (· != 10)).length]? = some 10
  | [], h => by simp at h
  | b :: l, h => by
    by_cases hb : b = 10
    · subst hb
      rw [List.takeWhile_cons_of_neg (by decide)]
      rfl
    · rw [List.takeWhile_cons_of_pos (by simpa using hb)] at h ⊢
      rw [List.length_cons, List.getElem?_cons_succ]
      exact tw_at l (by simpa using h)
/-- It lies behind an LF, or at the text's begin. -/
def Beg (t : ByteArray) (m : Nat) : Prop := m = 0 ∨ t.data.toList[m - 1]? = some 10
theorem beg_next (t : ByteArray) (at_ : Nat) (h : lfAt t at_ < t.size) (hle : at_ ≤ t.size) : Beg t (lfAt t at_ + 1) := by
  right
  have hs := drop_len t at_
  have h2 := tw_at (t.data.toList.drop at_) (by unfold lfAt at h; omega)
  rw [List.getElem?_drop] at h2
  exact h2
theorem go_fault (t : ByteArray) (F : List Bk.SC) (a c : Int) : ∀ (k at_ : Nat) (G : List Bk.SC) (way : List Int), parseGo t k at_ G way = (F, a, c) → t.size < k + at_ → at_ ≤ t.size → Beg t at_ →
    (a = 0 ∧ c = 0) ∨ (F = [] ∧ c = 120 ∧ ∃ m : Nat, a = (m : Int) ∧ m ≤ t.size ∧ Beg t m)
  | 0, at_, G, way, h, hk, hle, hb => by omega
  | k + 1, at_, G, way, h, hk, hle, hb => by
    by_cases hlt : at_ < t.size
    · cases hs : stepAns t at_ G way with
      | none =>
        rw [parseGo_none hlt hs] at h
        injection h with h1 h
        injection h with h2 h3
        exact .inr ⟨h1.symm, h3.symm, at_, h2.symm, hle, hb⟩
      | some r =>
        rw [parseGo_some hlt hs] at h
        unfold stepAns at hs
        split at hs
        · rename_i hok
          have hll := lf_le t at_ hle
          have hlf := hok.1
          exact go_fault t F a c k (lfAt t at_ + 1) r.1 r.2 h (by omega) (by omega) (beg_next t at_ hlf hle)
        · cases hs
    · rw [parseGo_end hlt] at h
      injection h with h1 h
      injection h with h2 h3
      exact .inl ⟨h2.symm, h3.symm⟩
/-- OF A TEXT THAT IS NOT READ. -/
theorem read_fault (t : ByteArray) (F : List Bk.SC) (a c : Int) (h : parseAns t = (F, a, c)) :
    (a = 0 ∧ c = 0) ∨ (F = [] ∧ c ≠ 0 ∧ (c = 1 ↔ 4194304 < t.size) ∧ ∃ m : Nat, a = (m : Int) ∧ m ≤ t.size ∧ Beg t m ∧ m ≤ 4194304) := by
  unfold parseAns at h
  split at h
  · injection h with h1 h
    injection h with h2 h3
    subst h1 h2 h3
    exact .inr ⟨rfl, by decide, ⟨fun _ => by assumption, fun _ => rfl⟩, 0, rfl, Nat.zero_le _, .inl rfl, Nat.zero_le _⟩
  · rename_i hsz
    rcases go_fault t F a c _ 0 [] [] h (by omega) (by omega) (.inl rfl) with h1 | ⟨h1, h2, h3⟩
    · exact .inl h1
    · subst h2
      obtain ⟨m, g1, g2, g3⟩ := h3
      exact .inr ⟨h1, by decide, ⟨fun e => absurd e (by decide), fun e => absurd e hsz⟩, m, g1, g2, g3, by omega⟩
theorem ext_list2 (t : ByteArray) (k : Nat) : (t.extract 0 k).data.toList = t.data.toList.take k := by rw [ext_list, List.drop_zero, Nat.sub_zero]
theorem size_of (t : ByteArray) (k : Nat) (h : k ≤ t.size) : (t.extract 0 k).size = k := by
  have := congrArg List.length (ext_list2 t k)
  rw [data_length, List.length_take, data_length] at this
  omega
theorem lf_cut (t : ByteArray) (k at_ : Nat) : lfAt (t.extract 0 k) at_ = at_ + min (k - at_) (lfAt t at_ - at_) := by
  unfold lfAt
  rw [ext_list2, List.drop_take, tw_take]
  omega
theorem ext_cut (t : ByteArray) (k at_ l : Nat) (h : l ≤ k) : (t.extract 0 k).extract at_ l = t.extract at_ l := by
  apply ByteArray.ext
  apply Array.toList_inj.1
  rw [ext_list (t.extract 0 k), ext_list2, ext_list t, List.drop_take, List.take_take]
  congr 1
  omega
theorem go_cut (t : ByteArray) (F : List Bk.SC) (k : Nat) (hk : k ≤ t.size) : ∀ (j j2 at_ : Nat) (G : List Bk.SC) (way : List Int) (W : List Nat), parseGo t j at_ G way = (F, 0, 0) → t.size < j + at_ → k < j2 + at_ → at_ ≤ k → Rdb.Pre G way W → Beg t at_ →
    (Beg t k → ∃ H : List Bk.SC, parseGo (t.extract 0 k) j2 at_ G way = (H, 0, 0) ∧ H.length ≤ F.length) ∧ (¬ Beg t k → ∃ a : Int, parseGo (t.extract 0 k) j2 at_ G way = ([], a, 120))
  | 0, j2, at_, G, way, W, h, h1, h2, h3, hp, hb => by omega
  | j + 1, 0, at_, G, way, W, h, h1, h2, h3, hp, hb => by omega
  | j + 1, j2 + 1, at_, G, way, W, h, h1, h2, h3, hp, hb => by
    have hus := size_of t k hk
    by_cases hak : at_ = k
    · subst hak
      obtain ⟨ls, e1, _⟩ := Rdb.read_go t F (j + 1) at_ G way W h h1 hk hp
      exact ⟨fun _ => ⟨G, parseGo_end (by omega), by omega⟩, fun hn => absurd hb hn⟩
    · have hlt : at_ < t.size := by omega
      cases hs : stepAns t at_ G way with
      | none =>
        rw [parseGo_none hlt hs] at h
        injection h with _ h
        injection h with _ h
        exact absurd h (by decide)
      | some r =>
        obtain ⟨F1, way1⟩ := r
        rw [parseGo_some hlt hs] at h
        have hs0 := hs
        unfold stepAns at hs
        split at hs
        · rename_i hok
          have hll := lf_le t at_ (by omega)
          have hlf := hok.1
          have hlu := lf_cut t k at_
          by_cases hl : lfAt t at_ < k
          · have hle : lfAt (t.extract 0 k) at_ = lfAt t at_ := by omega
            have hsu : stepAns (t.extract 0 k) at_ G way = some (F1, way1) := by
              rw [← hs0]
              unfold stepAns lineAt
              rw [hle, ext_cut t k at_ _ (by omega), hus]
              simp only [hl, hlf, true_and]
            obtain ⟨_, q2, _⟩ := hp.put rfl hs
            have ih := go_cut t F k hk j j2 (lfAt t at_ + 1) F1 way1 _ h (by omega) (by omega) (by omega) q2 (beg_next t at_ hlf (by omega))
            rw [parseGo_some (by omega) hsu, hle]
            exact ih
          · have hle : lfAt (t.extract 0 k) at_ = k := by omega
            have hsu : stepAns (t.extract 0 k) at_ G way = none := by
              unfold stepAns
              rw [if_neg (by rw [hle, hus]; exact fun e => Nat.lt_irrefl _ e.1)]
            refine ⟨fun hB => ?_, fun _ => ⟨at_, parseGo_none (by omega) hsu⟩⟩
            exfalso
            rcases hB with h0 | h0
            · omega
            · have := tw_get (· != 10) (t.data.toList.drop at_) (k - 1 - at_) (by unfold lfAt at hl; omega) 10 (by rw [List.getElem?_drop, show at_ + (k - 1 - at_) = k - 1 by omega]; exact h0)
              exact absurd this (by decide)
        · cases hs
end Go.Proofs.YtloflodbcdlmpaaDoor.Rdd
namespace Go.Proofs.YtloflodbcdlmpaaDoor.Rde
open Go.RowKit Go.Proofs.YtloflodbcdlmpaaDoor.Qall Go.Proofs.YtloflodbcdlmpaaDoor.Fo Go.Proofs.YtloflodbcdlmpaaDoor.Chk Go.Proofs.YtloflodbcdlmpaaDoor.Ln Go.Proofs.YtloflodbcdlmpaaDoor.Ps Go.Proofs.YtloflodbcdlmpaaDoor.Tx Go.Proofs.YtloflodbcdlmpaaDoor.Bk Go.Proofs.YtloflodbcdlmpaaDoorW.PrintWords Go.Proofs.YtloflodbcdlmpaaDoorW.PrintLast Go.Proofs.YtloflodbcdlmpaaDoorW.PrintMore
set_option linter.unusedSimpArgs false
set_option linter.unusedVariables false
theorem txt_name (F : List Bk.SC) : ∀ (ls : List Nat) (i k : Nat), i ≤ k → k < i + ls.length → (Bk.nd F k).f0.size ≤ (txt F ls i).length
  | [], i, k, h1, h2 => by rw [List.length_nil] at h2; omega
  | z :: ls, i, k, h1, h2 => by
    show _ ≤ (bodyOf (Bk.nd F i) z ++ 10 :: txt F ls (i + 1)).length
    rw [List.length_append, List.length_cons]
    by_cases hik : i = k
    · subst hik
      have : (Bk.nd F i).f0.size ≤ (bodyOf (Bk.nd F i) z).length := by
        unfold bodyOf
        rw [List.length_append, List.length_append, data_length]
        omega
      omega
    · have := txt_name F ls (i + 1) k (by omega) (by rw [List.length_cons] at h2; omega)
      omega
theorem read_bounds (t : ByteArray) (F : List Bk.SC) (h : parseAns t = (F, 0, 0)) : t.size ≤ 4194304 ∧ F.length ≤ 1048576 ∧ (∀ x ∈ F, x.f0.size ≤ 4194304) ∧ (∀ x ∈ F, 0 ≤ x.f1 ∧ x.f1 ≤ 65536) ∧ (∀ x ∈ F, 0 ≤ x.f2 ∧ x.f2 ≤ 65536) := by
  obtain ⟨hc, _⟩ := Rdc.read_right t F h
  have hg := h
  unfold parseAns at hg
  split at hg
  · injection hg with _ hg
    injection hg with _ hg
    exact absurd hg (by decide)
  · rename_i hsz
    obtain ⟨ls, e1, e2, _, _, _, e6⟩ := Rdb.read_go t F _ 0 [] [] [] hg (by omega) (by omega) Rdc.pre_nil
    rw [List.drop_zero, List.length_nil] at e6
    rw [List.length_nil] at e1
    have hts : t.data.toList.length = t.size := data_length t
    have hr := right_nodes F hc
    have hn := fun i hi => (Nsa.nests F hc i hi).1
    refine ⟨by omega, (Fi.chk_mach F hc).1, fun x hx => ?_, fun x hx => ?_, fun x hx => ?_⟩
    · obtain ⟨i, hi, rfl⟩ := List.mem_iff_getElem.1 hx
      have := txt_name F ls 0 i (Nat.zero_le _) (by omega)
      rw [← e6, rd_at F i hi] at this
      omega
    · obtain ⟨i, hi, rfl⟩ := List.mem_iff_getElem.1 hx
      have h1 := hr i hi
      have h2 : (Bk.nd F i).f1 ≤ (Bk.nd F i).f2 := hn i hi
      rw [rd_at F i hi] at h1 h2
      omega
    · obtain ⟨i, hi, rfl⟩ := List.mem_iff_getElem.1 hx
      have h1 := hr i hi
      have h2 : (Bk.nd F i).f1 ≤ (Bk.nd F i).f2 := hn i hi
      rw [rd_at F i hi] at h1 h2
      omega
end Go.Proofs.YtloflodbcdlmpaaDoor.Rde
