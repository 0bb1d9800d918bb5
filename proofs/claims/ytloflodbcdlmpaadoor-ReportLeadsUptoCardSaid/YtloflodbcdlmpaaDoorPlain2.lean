/- Of a right forest: the ends of its nodes (the plain part of forest.Find's text). || Of two nodes of a right forest the later one lies within the other, or begins where that one has ended: the plain law. || A printed line is read back: the plain law. || What is read of a right forest's text is the forest: the plain law. || A line that is read is the line that is printed of it: the plain law. || Of what is read: its levels are the lines', its counts are right, its text is what was read: the plain law. || What is read is right: the plain law. || Of a text that is not read, and of a text's beginning: the plain law. || Of what is read: how long its names are, how big its numbers: the plain law. -/
import Derived.Test.YtloflodbcdlmpaaDoorFor2
import Derived.Test.YtloflodbcdlmpaaDoorLine2
import Derived.Test.YtloflodbcdlmpaaDoorText2
import Derived.Lib.ItoaNum
import Derived.Test.YtloflodbcdlmpaaDoorParse2
namespace Go.Proofs.YtloflodbcdlmpaaDoor.Fi
open Go.RowKit Go.Proofs.YtloflodbcdlmpaaDoor.Qall Go.Proofs.YtloflodbcdlmpaaDoor.Fo Go.Proofs.YtloflodbcdlmpaaDoor.Chk Go.Proofs.YtloflodbcdlmpaaDoorW.PrintWords Go.Proofs.YtloflodbcdlmpaaDoorW.PrintLast Go.Proofs.YtloflodbcdlmpaaDoorW.PrintMore
set_option linter.unusedSimpArgs false
set_option linter.unusedVariables false
abbrev SC := S60
/-- The ends of the extents, as the program has them. -/
def elOf (f : List SC) : List Int := absZ (-1) (ex (K f)) 0
end Go.Proofs.YtloflodbcdlmpaaDoor.Fi
namespace Go.Proofs.YtloflodbcdlmpaaDoor.Nsa
open Go.RowKit Go.Proofs.YtloflodbcdlmpaaDoor.Qall Go.Proofs.YtloflodbcdlmpaaDoor.Fo Go.Proofs.YtloflodbcdlmpaaDoor.Nest Go.Proofs.YtloflodbcdlmpaaDoor.Chk Go.Proofs.YtloflodbcdlmpaaDoor.Fi Go.Proofs.YtloflodbcdlmpaaDoorW.PrintWords Go.Proofs.YtloflodbcdlmpaaDoorW.PrintLast Go.Proofs.YtloflodbcdlmpaaDoorW.PrintMore
set_option linter.unusedSimpArgs false
set_option linter.unusedVariables false
section
variable {own : ByteArray → Bool} {f : List SC} {l : List Int}
abbrev nd (f : List SC) (i : Nat) : SC := rd_T60 f (i : Int)
abbrev drp (i : Nat) (st : List Rm) : List Rm := st.dropWhile (fun r => decide (r.1 ≤ (i : Int)))
theorem nst_step {d i : Nat} {st : List Rm} (h : nst own f l (d + 1) i st = true) : ∃ up r, drp i st = up :: r ∧ up.2.2 ≤ (nd f i).f1 ∧ (nd f i).f1 ≤ (nd f i).f2 ∧ (nd f i).f2 ≤ up.2.1 ∧
    nst own f l d (i + 1) ((rd l (i : Int), (nd f i).f2, (nd f i).f1) :: (up.1, up.2.1, (nd f i).f2) :: r) = true := by
  unfold nst at h
  split at h
  · cases h
  · rename_i up r hd
    split at h
    · cases h
    · split at h
      · cases h
      · split at h
        · cases h
        · split at h
          · cases h
          · exact ⟨up, r, hd, by show _ ≤ (rd_T60 f (i : Int)).f1; omega, by show (rd_T60 f (i : Int)).f1 ≤ (rd_T60 f (i : Int)).f2; omega, by show (rd_T60 f (i : Int)).f2 ≤ _; omega, h⟩
theorem drp_sub {i : Nat} {st : List Rm} : ∀ y ∈ drp i st, y ∈ st := fun y hy => (List.dropWhile_sublist _).subset hy
/-- Rooms ordered: each ends where the one below begins, or ahead of it. -/
def Ord : List Rm → Prop
  | [] => True
  | x :: r => x.2.2 ≤ x.2.1 ∧ (∀ y ∈ r, x.2.1 ≤ y.2.2) ∧ Ord r
theorem Ord.drp {i : Nat} : ∀ {st : List Rm}, Ord st → Ord (drp i st)
  | [], h => h
  | x :: r, h => by
    show Ord (List.dropWhile _ (x :: r))
    rw [List.dropWhile_cons]
    split
    · exact Ord.drp (st := r) h.2.2
    · exact h
theorem Ord.push {up : Rm} {r : List Rm} (h : Ord (up :: r)) {e a b : Int} (h1 : a ≤ b) (h2 : b ≤ up.2.1) : Ord ((e, b, a) :: (up.1, up.2.1, b) :: r) :=
  ⟨h1, fun y hy => (List.mem_cons.1 hy).elim (fun e => by rw [e]; exact Int.le_refl _) (fun hy => Int.le_trans h2 (h.2.1 y hy)), h2, h.2.1, h.2.2⟩
/-- Where all rooms begin at c or behind it, so do all nodes to come. -/
theorem after (c : Int) : ∀ d i st, nst own f l d i st = true → (∀ y ∈ drp i st, c ≤ y.2.2) → ∀ k, i ≤ k → k < i + d → c ≤ (nd f k).f1
  | 0, i, st, _, _, k, h1, h2 => by omega
  | d + 1, i, st, h, hc, k, h1, h2 => by
    obtain ⟨up, r, hd, a1, a2, a3, hn⟩ := nst_step h
    have hu := hc up (by rw [hd]; exact List.mem_cons_self ..)
    rcases Nat.lt_or_ge i k with hk | hk
    · refine after c d (i + 1) _ hn (fun y hy => ?_) k hk (by omega)
      rcases List.mem_cons.1 (drp_sub y hy) with rfl | hy
      · show c ≤ (nd f i).f1; omega
      · rcases List.mem_cons.1 hy with rfl | hy
        · show c ≤ (nd f i).f2; omega
        · exact hc y (by rw [hd]; exact List.mem_cons_of_mem _ hy)
    · obtain rfl : k = i := by omega
      omega
theorem drp_app {i : Nat} {e : Int} {R : Rm} {D : List Rm} (hR : R.1 = e) (hi : (i : Int) < e) : ∀ U : List Rm, drp i (U ++ R :: D) = drp i U ++ R :: D
  | [] => by
    show List.dropWhile _ (R :: D) = _
    rw [List.dropWhile_cons, if_neg (by simp; omega)]
    rfl
  | u :: U => by
    have ih := drp_app (D := D) hR hi U
    show List.dropWhile _ (u :: (U ++ R :: D)) = List.dropWhile _ (u :: U) ++ R :: D
    rw [List.dropWhile_cons, List.dropWhile_cons]
    split
    · exact ih
    · rfl
theorem drp_all {i : Nat} {e : Int} {R : Rm} {D : List Rm} (hR : R.1 = e) (hi : e ≤ (i : Int)) : ∀ U : List Rm, (∀ y ∈ U, y.1 ≤ e) → drp i (U ++ R :: D) = drp i D
  | [], _ => by
    show List.dropWhile _ (R :: D) = _
    rw [List.dropWhile_cons, if_pos (by simp; omega)]
  | u :: U, hU => by
    have ih := drp_all (D := D) hR hi U (fun y hy => hU y (List.mem_cons_of_mem _ hy))
    have := hU u (List.mem_cons_self ..)
    show List.dropWhile _ (u :: (U ++ R :: D)) = _
    rw [List.dropWhile_cons, if_pos (by simp; omega)]
    exact ih
/-- While a room lies open all that comes lies within it; behind it all begins where it has ended. -/
theorem inside (lo hi e : Int) : ∀ d i (U : List Rm) (R : Rm) (D : List Rm), nst own f l d i (U ++ R :: D) = true → (∀ y ∈ U, y.1 ≤ e) → R.1 = e → (∀ y ∈ U, lo ≤ y.2.2 ∧ y.2.1 ≤ hi) → (lo ≤ R.2.2 ∧ R.2.1 ≤ hi) → (∀ y ∈ D, hi ≤ y.2.2) →
    (∀ k : Nat, i ≤ k → k < i + d → (k : Int) < e → rd l (k : Int) ≤ e) → ∀ k : Nat, i ≤ k → k < i + d → ((k : Int) < e → lo ≤ (nd f k).f1 ∧ (nd f k).f2 ≤ hi) ∧ (e ≤ (k : Int) → hi ≤ (nd f k).f1)
  | 0, i, U, R, D, _, _, _, _, _, _, _, k, h1, h2 => by omega
  | d + 1, i, U, R, D, h, hU, hR, hL, hRL, hD, hex, k, h1, h2 => by
    rcases Int.lt_or_le (i : Int) e with hie | hie
    · obtain ⟨up, r, hd, a1, a2, a3, hn⟩ := nst_step h
      rw [drp_app hR hie] at hd
      have hxi := hex i (Nat.le_refl _) (by omega) hie
      have hU' : ∀ y ∈ drp i U, y ∈ U := drp_sub
      rcases Nat.lt_or_ge i k with hk | hk
      · cases hd2 : drp i U with
        | nil =>
          rw [hd2, List.nil_append] at hd
          injection hd with e1 e2
          subst e1 e2
          refine inside lo hi e d (i + 1) [(rd l (i : Int), (nd f i).f2, (nd f i).f1)] (R.1, R.2.1, (nd f i).f2) D hn (fun y hy => ?_) hR (fun y hy => ?_) ⟨?_, hRL.2⟩ hD (fun k' g1 g2 g3 => hex k' (by omega) (by omega) g3) k hk (by omega)
          · rw [List.mem_singleton.1 hy]; exact hxi
          · rw [List.mem_singleton.1 hy]
            have := hRL.1; have := hRL.2
            exact ⟨by show lo ≤ (nd f i).f1; omega, by show (nd f i).f2 ≤ hi; omega⟩
          · show lo ≤ (nd f i).f2; have := hRL.1; omega
        | cons u U2 =>
          rw [hd2, List.cons_append] at hd
          injection hd with e1 e2
          subst e1 e2
          have hu : u ∈ U := hU' u (by rw [hd2]; exact List.mem_cons_self ..)
          have hU2 : ∀ y ∈ U2, y ∈ U := fun y hy => hU' y (by rw [hd2]; exact List.mem_cons_of_mem _ hy)
          have hlu := hL u hu
          refine inside lo hi e d (i + 1) ((rd l (i : Int), (nd f i).f2, (nd f i).f1) :: (u.1, u.2.1, (nd f i).f2) :: U2) R D hn (fun y hy => ?_) hR (fun y hy => ?_) hRL hD (fun k' g1 g2 g3 => hex k' (by omega) (by omega) g3) k hk (by omega)
          · rcases List.mem_cons.1 hy with rfl | hy
            · exact hxi
            · rcases List.mem_cons.1 hy with rfl | hy
              · exact hU u hu
              · exact hU y (hU2 y hy)
          · rcases List.mem_cons.1 hy with rfl | hy
            · exact ⟨by show lo ≤ (nd f i).f1; omega, by show (nd f i).f2 ≤ hi; omega⟩
            · rcases List.mem_cons.1 hy with rfl | hy
              · exact ⟨by show lo ≤ (nd f i).f2; omega, hlu.2⟩
              · exact hL y (hU2 y hy)
      · obtain rfl : k = i := by omega
        have hup : lo ≤ up.2.2 ∧ up.2.1 ≤ hi := by
          cases hd2 : drp k U with
          | nil => rw [hd2, List.nil_append] at hd; injection hd with e1 _; rw [← e1]; exact hRL
          | cons u U2 => rw [hd2, List.cons_append] at hd; injection hd with e1 _; rw [← e1]; exact hL u (hU' u (by rw [hd2]; exact List.mem_cons_self ..))
        exact ⟨fun _ => ⟨by omega, by omega⟩, fun h => by omega⟩
    · have hk := after hi (d + 1) i (U ++ R :: D) h (fun y hy => by rw [drp_all hR hie U hU] at hy; exact hD y (drp_sub y hy)) k h1 h2
      exact ⟨fun h => by omega, fun _ => hk⟩
theorem upto : ∀ (p d i : Nat) (st : List Rm), nst own f l (p + d) i st = true → Ord st → ∃ st', nst own f l d (i + p) st' = true ∧ Ord st'
  | 0, d, i, st, h, ho => ⟨st, by rw [Nat.zero_add] at h; exact h, ho⟩
  | p + 1, d, i, st, h, ho => by
    rw [show p + 1 + d = (p + d) + 1 by omega] at h
    obtain ⟨up, r, hd, a1, a2, a3, hn⟩ := nst_step h
    have ho2 : Ord (up :: r) := by rw [← hd]; exact ho.drp
    obtain ⟨st', h1, h2⟩ := upto p d (i + 1) _ hn (ho2.push a2 a3)
    exact ⟨st', by rw [show i + (p + 1) = i + 1 + p by omega]; exact h1, h2⟩
end
end Go.Proofs.YtloflodbcdlmpaaDoor.Nsa
namespace Go.Proofs.YtloflodbcdlmpaaDoor.Bk
open Go.RowKit Go.Proofs.YtloflodbcdlmpaaDoor.Qall Go.Proofs.YtloflodbcdlmpaaDoor.Ln Go.Proofs.YtloflodbcdlmpaaDoor.Tx Go.Proofs.YtloflodbcdlmpaaDoorW.PrintWords Go.Proofs.YtloflodbcdlmpaaDoorW.PrintLast Go.Proofs.YtloflodbcdlmpaaDoorW.PrintMore
set_option linter.unusedSimpArgs false
set_option linter.unusedVariables false
theorem u8_of (n : Nat) (h : n < 10) : (UInt8.ofNat (48 + n)).toNat = 48 + n := by
  simp [UInt8.toNat_ofNat']
  omega
theorem dig_of (n : Nat) (h : n < 10) : isDig (UInt8.ofNat (48 + n)) = true := by
  unfold isDig
  rw [u8_of n h]
  exact decide_eq_true (by omega)
theorem dd_dig : ∀ (m u : Nat), u ≤ m → ∀ b ∈ Lib.decDigits u, isDig b = true
  | m, u, hm, b, hb => by
    rw [Lib.decDigits] at hb
    split at hb
    · rename_i h
      rw [List.mem_singleton.1 hb]
      exact dig_of u h
    · rename_i h
      rcases List.mem_append.1 hb with hb | hb
      · cases m with
        | zero => omega
        | succ m => exact dd_dig m (u / 10) (by omega) b hb
      · rw [List.mem_singleton.1 hb]
        exact dig_of (u % 10) (by omega)
theorem val_snoc : ∀ (l : List UInt8) (b : UInt8) (n : Nat), val (l ++ [b]) n = 10 * val l n + (b.toNat - 48)
  | [], b, n => by simp [val]
  | a :: l, b, n => by rw [List.cons_append, val, val, val_snoc l b]
theorem dd_val : ∀ (m u : Nat), u ≤ m → val (Lib.decDigits u) 0 = u
  | m, u, hm => by
    rw [Lib.decDigits]
    split
    · rename_i h
      simp only [val]
      rw [u8_of u h]
      omega
    · rename_i h
      cases m with
      | zero => omega
      | succ m =>
        rw [val_snoc, dd_val m (u / 10) (by omega), u8_of (u % 10) (by omega)]
        omega
theorem dd_ne (u : Nat) : Lib.decDigits u ≠ [] := by
  rw [Lib.decDigits]
  split <;> simp
theorem dd_head : ∀ (m u : Nat), u ≤ m → 1 ≤ u → (Lib.decDigits u).head? ≠ some 48
  | m, u, hm, h1 => by
    rw [Lib.decDigits]
    split
    · rename_i h
      intro e
      have e2 : UInt8.ofNat (48 + u) = 48 := Option.some.inj e
      have := u8_of u h
      rw [e2] at this
      have h3 : (48 : UInt8).toNat = 48 := rfl
      omega
    · rename_i h
      cases m with
      | zero => omega
      | succ m =>
        have ih := dd_head m (u / 10) (by omega) (by omega)
        obtain ⟨x, l, hx⟩ := List.exists_cons_of_ne_nil (dd_ne (u / 10))
        rw [hx] at ih ⊢
        exact ih
theorem good_itoa (n : Int) (h0 : 0 ≤ n) (h1 : n ≤ 65536) : good (Lib.itoa n) ∧ val (Lib.itoa n) 0 = n.toNat := by
  have e : Lib.itoa n = Lib.decDigits n.toNat := by unfold Lib.itoa; rw [if_neg (by omega)]
  rw [e]
  have hv := dd_val n.toNat n.toNat (Nat.le_refl _)
  refine ⟨⟨dd_ne _, dd_dig n.toNat n.toNat (Nat.le_refl _), by omega, fun h => ?_⟩, hv⟩
  by_cases h2 : 1 ≤ n.toNat
  · exact dd_head n.toNat n.toNat (Nat.le_refl _) h2 h.1
  · have h3 : n.toNat = 0 := by omega
    rw [h3, Lib.decDigits, dif_pos (by omega)] at h
    simp at h
/-- A line without its LF. -/
def bodyOf (c : S60) (z : Nat) : List UInt8 := Lib.repeatL [32, 32] z ++ (c.f0.data.toList ++ 32 :: (Lib.itoa c.f1 ++ 32 :: Lib.itoa c.f2))
end Go.Proofs.YtloflodbcdlmpaaDoor.Bk
namespace Go.Proofs.YtloflodbcdlmpaaDoor.Bk
open Go.RowKit Go.Proofs.YtloflodbcdlmpaaDoor.Qall Go.Proofs.YtloflodbcdlmpaaDoor.Fo Go.Proofs.YtloflodbcdlmpaaDoor.Chk Go.Proofs.YtloflodbcdlmpaaDoor.Ln Go.Proofs.YtloflodbcdlmpaaDoor.Tx Go.Proofs.YtloflodbcdlmpaaDoor.Ps Go.Proofs.YtloflodbcdlmpaaDoor.Nsa Go.Proofs.YtloflodbcdlmpaaDoorW.PrintWords Go.Proofs.YtloflodbcdlmpaaDoorW.PrintLast Go.Proofs.YtloflodbcdlmpaaDoorW.PrintMore
set_option linter.unusedSimpArgs false
set_option linter.unusedVariables false
abbrev SC := S60
abbrev nd (f : List SC) (i : Nat) : SC := rd_T60 f (i : Int)
abbrev elOf := @Fi.elOf
/-- Open nodes (the innermost first), how many kids each lacks, where each ends. -/
def Al (f F : List SC) (i : Nat) : List Nat → List Nat → List Nat → Prop
  | [], [], [] => True
  | w :: W, a :: st, e :: E => (nd F w).f3 + (a : Int) = (nd f w).f3 ∧ 0 ≤ (nd F w).f3 ∧ rd (elOf f) (w : Int) = (e : Int) ∧ w < i ∧ (∀ x ∈ W, x < w) ∧ Al f F i W st E
  | _, _, _ => False
theorem Al.len {f F : List SC} {i : Nat} : ∀ {W st E : List Nat}, Al f F i W st E → W.length = st.length
  | [], [], [], _ => rfl
  | w :: W, a :: st, e :: E, h => by rw [List.length_cons, List.length_cons, Al.len h.2.2.2.2.2]
theorem Al.lt {f F : List SC} {i : Nat} : ∀ {W st E : List Nat}, Al f F i W st E → ∀ x ∈ W, x < i
  | [], [], [], _, x, hx => by cases hx
  | w :: W, a :: st, e :: E, h, x, hx => by
    rcases List.mem_cons.1 hx with rfl | hx
    · exact h.2.2.2.1
    · exact Al.lt h.2.2.2.2.2 x hx
/-- Nodes that are not touched. -/
theorem Al.keep {f F F' : List SC} {i i' : Nat} (hi : i ≤ i') : ∀ {W st E : List Nat}, Al f F i W st E → (∀ x ∈ W, (nd F' x).f3 = (nd F x).f3) → Al f F' i' W st E
  | [], [], [], _, _ => trivial
  | w :: W, a :: st, e :: E, h, hk => by
    have hw := hk w (List.mem_cons_self ..)
    exact ⟨by rw [hw]; exact h.1, by rw [hw]; exact h.2.1, h.2.2.1, Nat.lt_of_lt_of_le h.2.2.2.1 hi, h.2.2.2.2.1, Al.keep hi h.2.2.2.2.2 (fun x hx => hk x (List.mem_cons_of_mem _ hx))⟩
/-- Those that lack nothing any more are closed. -/
theorem Al.pop {f F : List SC} {i : Nat} {es : List (Option Nat)} (hw : WF es) : ∀ {st W : List Nat}, Q st es → Al f F i W st (stk st es i) →
    ∃ n, n ≤ W.length ∧ (Fo.pop st).length = W.length - n ∧ Al f F i (W.drop n) (Fo.pop st) (stk (Fo.pop st) es i) ∧ (∀ x ∈ W.take n, (nd F x).f3 = (nd f x).f3 ∧ rd (elOf f) (x : Int) ≤ (i : Int)) ∧ (∀ x, (W.drop n).head? = some x → (i : Int) < rd (elOf f) (x : Int))
  | [], [], _, h => ⟨0, Nat.le_refl _, rfl, h, (fun x hx => by cases hx), (fun x hx => by cases hx)⟩
  | a :: st, [], _, h => by simp [stk, Al] at h
  | [], w :: W, _, h => by simp [stk, Al] at h
  | a :: st, w :: W, hq, h => by
    obtain ⟨m, e, hq2⟩ := hq
    cases a with
    | zero =>
      obtain rfl : 0 = m := by simpa [jump] using e
      rw [List.drop_zero] at hq2
      simp only [stk, jump, Option.getD_some, Nat.add_zero, List.drop_zero] at h
      obtain ⟨h1, h2, h3, h4, h5, h6⟩ := h
      obtain ⟨n, g1, g2, g3, g4, g5⟩ := Al.pop hw hq2 h6
      refine ⟨n + 1, by rw [List.length_cons]; omega, ?_, by rw [List.drop_succ_cons]; exact g3, fun x hx => ?_, by rw [List.drop_succ_cons]; exact g5⟩
      · show (Fo.pop st).length = _
        rw [List.length_cons]; omega
      · rw [List.take_succ_cons] at hx
        rcases List.mem_cons.1 hx with rfl | hx
        · exact ⟨by simpa using h1, by omega⟩
        · exact g4 x hx
    | succ a =>
      have hb := jump_bounds _ hw e
      refine ⟨0, Nat.zero_le _, ?_, h, (fun x hx => by simp at hx), fun x hx => ?_⟩
      · show ((a + 1) :: st).length = _
        rw [Nat.sub_zero]
        exact h.len.symm
      · rw [List.drop_zero] at hx
        obtain rfl : w = x := by simpa using hx
        have h3 := h.2.2.1
        rw [e, Option.getD_some] at h3
        omega
/-- The lines from node i on. -/
def txt (f : List SC) : List Nat → Nat → List UInt8
  | [], _ => []
  | z :: ls, i => bodyOf (nd f i) z ++ 10 :: txt f ls (i + 1)
theorem rd_at (f : List SC) (x : Nat) (h : x < f.length) : nd f x = f[x] := by
  show rd_T60 f (x : Int) = _
  unfold rd_T60
  rw [Int.toNat_natCast, List.getD_eq_getElem?_getD, List.getElem?_eq_getElem h]
  rfl
theorem nd_kid (F : List SC) (p x : Nat) (hp : p < F.length) : (nd (kid1 F (p : Int)) x).f3 = if x = p then wrap64 ((nd F p).f3 + 1) else (nd F x).f3 := by
  show (rd_T60 (kid1 F (p : Int)) (x : Int)).f3 = _
  unfold kid1 rd_T60
  simp only [List.getD_eq_getElem?_getD, List.getElem?_set, Int.toNat_natCast]
  by_cases h : x = p
  · subst h
    rw [if_pos rfl, if_pos hp, if_pos rfl]
    rfl
  · rw [if_neg (fun e => h e.symm), if_neg h]
    show _ = (rd_T60 F (x : Int)).f3
    unfold rd_T60
    rw [Int.toNat_natCast, List.getD_eq_getElem?_getD]
theorem nd_kid2 (F : List SC) (p x : Nat) : (nd (kid1 F (p : Int)) x).f0 = (nd F x).f0 ∧ (nd (kid1 F (p : Int)) x).f1 = (nd F x).f1 ∧ (nd (kid1 F (p : Int)) x).f2 = (nd F x).f2 := by
  show (rd_T60 (kid1 F (p : Int)) (x : Int)).f0 = (rd_T60 F (x : Int)).f0 ∧ _
  unfold kid1 nd rd_T60
  simp only [List.getD_eq_getElem?_getD, List.getElem?_set, Int.toNat_natCast]
  by_cases h : p = x
  · rw [if_pos h]
    by_cases h2 : p < F.length
    · rw [if_pos h2, h]; exact ⟨rfl, rfl, rfl⟩
    · rw [if_neg h2, ← h, List.getElem?_eq_none (by omega)]; exact ⟨rfl, rfl, rfl⟩
  · rw [if_neg h]; exact ⟨rfl, rfl, rfl⟩
theorem nd_app (f g : List SC) (x : Nat) (h : x < f.length) : nd (f ++ g) x = nd f x := by
  rw [rd_at _ x (by rw [List.length_append]; omega), rd_at f x h, List.getElem_append_left h]
theorem nd_new (f : List SC) (c : SC) : nd (f ++ [c]) f.length = c := by
  rw [rd_at _ _ (by simp), List.getElem_append_right (Nat.le_refl _)]
  simp
/-- What the reader holds ahead of node i. -/
structure St (f F : List SC) (way : List Int) (i : Nat) (W st : List Nat) : Prop where
  hl : F.length = i
  hil : i ≤ f.length
  hw : way = (W.map (fun x : Nat => (x : Int))).reverse
  al : Al f F i W st (stk st (ex ((K f).drop i)) i)
  q : Q st (ex ((K f).drop i))
  cl : ∀ x, x < i → x ∉ W → (nd F x).f3 = (nd f x).f3
  sm : ∀ x, x < i → (nd F x).f0 = (nd f x).f0 ∧ (nd F x).f1 = (nd f x).f1 ∧ (nd F x).f2 = (nd f x).f2
theorem way_rd (W : List Nat) (t : Nat) (h : t < W.length) : rd (W.map (fun x : Nat => (x : Int))).reverse (t : Int) = ((W[W.length - 1 - t]'(by omega) : Nat) : Int) := by
  have hl : (W.map (fun x : Nat => (x : Int))).reverse.length = W.length := by simp
  unfold rd
  rw [Int.toNat_natCast, List.getD_eq_getElem?_getD, List.getElem?_eq_getElem (by omega)]
  show (W.map (fun x : Nat => (x : Int))).reverse[t] = _
  rw [List.getElem_reverse, List.getElem_map]
  congr 2
  simp
theorem way_take (W : List Nat) (n : Nat) (h : n ≤ W.length) : (W.map (fun x : Nat => (x : Int))).reverse.take (W.length - n) = ((W.drop n).map (fun x : Nat => (x : Int))).reverse := by
  have e := List.take_append_drop n W
  conv => lhs; rw [← e]
  rw [List.map_append, List.reverse_append, List.take_left']
  simp
theorem K_at (f : List SC) (i : Nat) (hi : i < f.length) : (K f).drop i = (nd f i).f3 :: (K f).drop (i + 1) := by
  have hl : (K f).length = f.length := K_length f
  rw [List.drop_eq_getElem_cons (by omega), rd_at f i hi]
  congr 1
  unfold K
  rw [List.getElem_map]
theorem ext_list (t : ByteArray) (a b : Nat) : (t.extract a b).data.toList = (t.data.toList.drop a).take (b - a) := by
  simp [ByteArray.data_extract, Array.toList_extract, List.extract]
end Go.Proofs.YtloflodbcdlmpaaDoor.Bk
namespace Go.Proofs.YtloflodbcdlmpaaDoor.Rdb
open Go.RowKit Go.Proofs.YtloflodbcdlmpaaDoor.Qall Go.Proofs.YtloflodbcdlmpaaDoor.Ln Go.Proofs.YtloflodbcdlmpaaDoor.Tx Go.Proofs.YtloflodbcdlmpaaDoor.Bk Go.Proofs.YtloflodbcdlmpaaDoorW.PrintWords Go.Proofs.YtloflodbcdlmpaaDoorW.PrintLast Go.Proofs.YtloflodbcdlmpaaDoorW.PrintMore
set_option linter.unusedSimpArgs false
set_option linter.unusedVariables false
theorem lead_split : ∀ (n : Nat) (l : List UInt8), l.length ≤ n → l = Lib.repeatL [32, 32] (lead l) ++ l.drop (2 * lead l)
  | 0, l, h => by
    obtain rfl : l = [] := List.length_eq_zero_iff.1 (by omega)
    rfl
  | n + 1, [], _ => rfl
  | n + 1, [a], _ => rfl
  | n + 1, a :: b :: l, h => by
    rw [lead]
    split
    · rename_i hab
      have ih := lead_split n l (by simp at h; omega)
      show _ = 32 :: 32 :: (Lib.repeatL [32, 32] (lead l) ++ (a :: b :: l).drop (2 * (lead l + 1)))
      rw [show 2 * (lead l + 1) = 2 * lead l + 1 + 1 by omega, List.drop_succ_cons, List.drop_succ_cons, ← ih, hab.1, hab.2]
    · rfl
theorem val_pos : ∀ (l : List UInt8) (n : Nat), 1 ≤ n → 1 ≤ val l n
  | [], n, h => h
  | b :: l, n, h => by
    rw [val]
    exact val_pos l _ (by omega)
/-- Digits without a needless 0 ahead are the number's own. -/
theorem dd_back : ∀ (n : Nat) (l : List UInt8), l.length ≤ n → l ≠ [] → (∀ b ∈ l, isDig b = true) → ¬ (l.head? = some 48 ∧ 1 < l.length) → Lib.decDigits (val l 0) = l
  | 0, l, h, hne, _, _ => by exact absurd (List.length_eq_zero_iff.1 (by omega)) hne
  | n + 1, l, h, hne, hd, h0 => by
    obtain ⟨m, b, rfl⟩ : ∃ m b, l = m ++ [b] := ⟨l.dropLast, l.getLast hne, (List.dropLast_concat_getLast hne).symm⟩
    have hb := of_decide_eq_true (hd b (by simp))
    rw [val_snoc]
    have hbe : UInt8.ofNat (48 + (b.toNat - 48)) = b := by
      apply UInt8.toNat_inj.1
      rw [u8_of _ (by omega)]
      omega
    by_cases hm : m = []
    · subst hm
      simp only [val, List.nil_append]
      rw [Nat.mul_zero, Nat.zero_add, Lib.decDigits, dif_pos (by omega), hbe]
    · obtain ⟨x, r, rfl⟩ := List.exists_cons_of_ne_nil hm
      have hx48 : x ≠ 48 := fun e => h0 ⟨by rw [e]; rfl, by simp⟩
      have hx := of_decide_eq_true (hd x (by simp))
      have hx2 : x.toNat ≠ 48 := fun e => hx48 (UInt8.toNat_inj.1 e)
      have hpos : 1 ≤ val (x :: r) 0 := by rw [val]; exact val_pos r _ (by omega)
      have ih := dd_back n (x :: r) (by simp at h ⊢; omega) (by simp) (fun c hc => hd c (List.mem_append_left _ hc)) (fun hh => hx48 (Option.some.inj hh.1))
      rw [Lib.decDigits, dif_neg (by omega), show (10 * val (x :: r) 0 + (b.toNat - 48)) / 10 = val (x :: r) 0 by omega, ih, show (10 * val (x :: r) 0 + (b.toNat - 48)) % 10 = b.toNat - 48 by omega, hbe]
theorem num_back (s : ByteArray) (h : (numAns s).2 = true) : s.data.toList = Lib.itoa (numAns s).1 ∧ 0 ≤ (numAns s).1 ∧ (numAns s).1 ≤ 65536 := by
  obtain ⟨hg, hv⟩ := numAns_good s
  have g := hg.1 h
  rw [hv h]
  refine ⟨?_, by omega, by have := g.2.2.1; omega⟩
  unfold Lib.itoa
  rw [if_neg (by omega), Int.toNat_natCast]
  exact (dd_back _ s.data.toList (Nat.le_refl _) g.1 g.2.1 g.2.2.2).symm
theorem line_ok (s : ByteArray) (h : (lineAns s).2.2.2.2 = true) : ∃ a b c, wordsOf (restOf s) = [a, b, c] ∧ Own.nameOk a = true ∧ (numAns b).2 = true ∧ (numAns c).2 = true ∧ lineAns s = ((lead s.data.toList : Int), a, (numAns b).1, (numAns c).1, true) := by
  unfold lineAns at h ⊢
  split at h
  · rename_i a b c hw
    by_cases hn : Own.nameOk a = true
    · rw [if_pos hn] at h
      have h2 : ((numAns b).2 && (numAns c).2) = true := h
      have h3 := Bool.and_eq_true_iff.1 h2
      exact ⟨a, b, c, hw, hn, h3.1, h3.2, by rw [if_pos hn, h2]⟩
    · rw [if_neg hn] at h
      cases h
  · cases h
theorem line_back2 (s : ByteArray) (h : (lineAns s).2.2.2.2 = true) : ∃ d : Nat, (lineAns s).1 = (d : Int) ∧ s.data.toList = bodyOf ⟨(lineAns s).2.1, (lineAns s).2.2.1, (lineAns s).2.2.2.1, 0⟩ d ∧
    Own.nameOk (lineAns s).2.1 = true ∧ (0 ≤ (lineAns s).2.2.1 ∧ (lineAns s).2.2.1 ≤ 65536) ∧ (0 ≤ (lineAns s).2.2.2.1 ∧ (lineAns s).2.2.2.1 ≤ 65536) := by
  obtain ⟨a, b, c, hw, hn, hb, hc, hans⟩ := line_ok s h
  rw [hans]
  have h3 := (three_iff (restOf s) a.data.toList b.data.toList c.data.toList).1 (by rw [hw]; rfl)
  obtain ⟨eb, b1, b2⟩ := num_back b hb
  obtain ⟨ec, c1, c2⟩ := num_back c hc
  refine ⟨lead s.data.toList, rfl, ?_, hn, ⟨b1, b2⟩, ⟨c1, c2⟩⟩
  unfold bodyOf
  dsimp only
  rw [← eb, ← ec, ← h3.1]
  have := lead_split _ s.data.toList (Nat.le_refl _)
  unfold restOf
  exact this
end Go.Proofs.YtloflodbcdlmpaaDoor.Rdb
namespace Go.Proofs.YtloflodbcdlmpaaDoor.Rdb
open Go.RowKit Go.Proofs.YtloflodbcdlmpaaDoor.Qall Go.Proofs.YtloflodbcdlmpaaDoor.Fo Go.Proofs.YtloflodbcdlmpaaDoor.Ln Go.Proofs.YtloflodbcdlmpaaDoor.Ps Go.Proofs.YtloflodbcdlmpaaDoor.Tx Go.Proofs.YtloflodbcdlmpaaDoor.Bk Go.Proofs.YtloflodbcdlmpaaDoorW.PrintWords Go.Proofs.YtloflodbcdlmpaaDoorW.PrintLast Go.Proofs.YtloflodbcdlmpaaDoorW.PrintMore
set_option linter.unusedSimpArgs false
set_option linter.unusedVariables false
theorem tw_split : ∀ l : List UInt8, (l.takeWhile (· != 10)).length < l.length → l = l.takeWhile (· != 10) ++ 10 :: l.drop ((l.takeWhile (· != 10)).length + 1)
  | [], h => by simp at h
  | b :: l, h => by
    by_cases hb : b = 10
    · subst hb
      rw [List.takeWhile_cons_of_neg (by decide)]
      rfl
    · rw [List.takeWhile_cons_of_pos (by simpa using hb)] at h ⊢
      rw [List.length_cons, List.drop_succ_cons, List.cons_append]
      congr 1
      exact tw_split l (by simpa using h)
theorem pop_app : ∀ (z s : List Nat), (∀ a ∈ z, a = 0) → (s = [] ∨ ∃ a s', s = (a + 1) :: s') → Fo.pop (z ++ s) = s
  | [], s, _, h => by
    rcases h with rfl | ⟨a, s', rfl⟩
    · rfl
    · rfl
  | a :: z, s, hz, h => by
    have := hz a (List.mem_cons_self ..)
    subst this
    exact pop_app z s (fun x hx => hz x (List.mem_cons_of_mem _ hx)) h
/-- What the reader holds. -/
structure Pre (F : List Bk.SC) (way : List Int) (W : List Nat) : Prop where
  hw : way = (W.map (fun x : Nat => (x : Int))).reverse
  lt : ∀ x ∈ W, x < F.length
  pw : W.Pairwise (fun a b => b < a)
  f3 : ∀ x, x < F.length → 0 ≤ (Bk.nd F x).f3 ∧ (Bk.nd F x).f3 ≤ (F.length : Int)
  cap : F.length ≤ 1048576
theorem Pre.put {F : List Bk.SC} {way : List Int} {W : List Nat} (h : Pre F way W) {d : Nat} {c : Bk.SC} (hc : c.f3 = 0) {F1 : List Bk.SC} {way1 : List Int} (hp : putAns F way d c = some (F1, way1)) :
    d ≤ W.length ∧ Pre F1 way1 (F.length :: W.drop (W.length - d)) ∧ F1.length = F.length + 1 ∧ Bk.nd F1 F.length = c ∧
      (∀ x, x < F.length → ((W.drop (W.length - d)).head? ≠ some x → (Bk.nd F1 x).f3 = (Bk.nd F x).f3) ∧ ((W.drop (W.length - d)).head? = some x → (Bk.nd F1 x).f3 = (Bk.nd F x).f3 + 1) ∧
        (Bk.nd F1 x).f0 = (Bk.nd F x).f0 ∧ (Bk.nd F1 x).f1 = (Bk.nd F x).f1 ∧ (Bk.nd F1 x).f2 = (Bk.nd F x).f2) := by
  obtain ⟨h1, h2, h3, h4, h5, rfl, rfl⟩ := putAns_some hp
  have hwl : way.length = W.length := by rw [h.hw]; simp
  have hkl := kidOf_length F way d
  obtain ⟨n, hn⟩ : ∃ n, W.length - d = n := ⟨_, rfl⟩
  rw [hn]
  have hdW : d = W.length - n := by omega
  have hnW : n ≤ W.length := by omega
  have hdl : d ≤ W.length := by omega
  have hup : 0 < d → ∃ p, (W.drop n).head? = some p ∧ rd way ((d : Int) - 1) = (p : Int) := fun hd0 => by
    have hnl : n < W.length := by omega
    refine ⟨W[n], by rw [List.drop_eq_getElem_cons hnl]; rfl, ?_⟩
    rw [h.hw, show ((d : Int) - 1) = ((d - 1 : Nat) : Int) by omega, way_rd W (d - 1) (by omega)]
    congr 2
    omega
  have hno : ¬ 0 < d → (W.drop n).head? = none := fun hd0 => by
    rw [List.drop_eq_nil_of_le (by omega)]
    rfl
  have hkid : ∀ x, x < F.length → ((W.drop n).head? ≠ some x → (Bk.nd (kidOf F way d ++ [c]) x).f3 = (Bk.nd F x).f3) ∧ ((W.drop n).head? = some x → (Bk.nd (kidOf F way d ++ [c]) x).f3 = (Bk.nd F x).f3 + 1) ∧
        (Bk.nd (kidOf F way d ++ [c]) x).f0 = (Bk.nd F x).f0 ∧ (Bk.nd (kidOf F way d ++ [c]) x).f1 = (Bk.nd F x).f1 ∧ (Bk.nd (kidOf F way d ++ [c]) x).f2 = (Bk.nd F x).f2 := fun x hx => by
    rw [nd_app _ _ x (by omega)]
    unfold kidOf
    split
    · rename_i hd0
      obtain ⟨p, hp, hr⟩ := hup hd0
      have hpl : p < F.length := h.lt p (List.mem_of_mem_drop (List.mem_of_mem_head? hp))
      have hf := h.f3 p hpl
      have hcap := h.cap
      rw [hr]
      refine ⟨fun hne => ?_, fun he => ?_, nd_kid2 F p x⟩
      · rw [nd_kid F p x hpl, if_neg (fun e => hne (by rw [hp, e]))]
      · have : p = x := Option.some.inj (hp.symm.trans he)
        subst this
        rw [nd_kid F p p hpl, if_pos rfl]
        exact Ln.wrap_of (by omega) (by omega)
    · rename_i hd0
      exact ⟨fun _ => rfl, fun he => (by rw [hno hd0] at he; cases he), rfl, rfl, rfl⟩
  have hnew : Bk.nd (kidOf F way d ++ [c]) F.length = c := by
    have := Bk.nd_new (kidOf F way d) c
    rwa [hkl] at this
  refine ⟨hdl, ⟨?_, ?_, ?_, ?_, ?_⟩, by rw [List.length_append, hkl]; rfl, hnew, hkid⟩
  · rw [h.hw, hdW, Bk.way_take W n hnW, List.map_cons, List.reverse_cons]
  · intro x hx
    rw [List.length_append, hkl, List.length_singleton]
    rcases List.mem_cons.1 hx with rfl | hx
    · exact Nat.lt_succ_self _
    · have := h.lt x (List.mem_of_mem_drop hx); omega
  · rw [List.pairwise_cons]
    exact ⟨fun x hx => h.lt x (List.mem_of_mem_drop hx), h.pw.drop⟩
  · intro x hx
    rw [List.length_append, hkl, List.length_singleton] at hx ⊢
    rcases Nat.lt_or_ge x F.length with hx1 | hx1
    · have hf := h.f3 x hx1
      obtain ⟨k1, k2, _⟩ := hkid x hx1
      by_cases he : (W.drop n).head? = some x
      · rw [k2 he]; omega
      · rw [k1 he]; omega
    · obtain rfl : x = F.length := by omega
      rw [hnew, hc]
      omega
  · rw [List.length_append, hkl, List.length_singleton]; omega
set_option maxHeartbeats 8000000 in
theorem read_go (t : ByteArray) (F : List Bk.SC) : ∀ (k at_ : Nat) (G : List Bk.SC) (way : List Int) (W : List Nat), parseGo t k at_ G way = (F, 0, 0) → t.size < k + at_ → at_ ≤ t.size → Pre G way W →
    ∃ ls : List Nat, G.length + ls.length = F.length ∧ mach (W.map (fun w => ((Bk.nd F w).f3 - (Bk.nd G w).f3).toNat)) ((K F).drop G.length) = some ls ∧ (∀ w ∈ W, (Bk.nd G w).f3 ≤ (Bk.nd F w).f3) ∧
      (∀ x, x < G.length → x ∉ W → (Bk.nd F x).f3 = (Bk.nd G x).f3) ∧ (∀ x, x < G.length → (Bk.nd F x).f0 = (Bk.nd G x).f0 ∧ (Bk.nd F x).f1 = (Bk.nd G x).f1 ∧ (Bk.nd F x).f2 = (Bk.nd G x).f2) ∧
      t.data.toList.drop at_ = txt F ls G.length
  | 0, at_, G, way, W, h, hk, hle, hp => by omega
  | k + 1, at_, G, way, W, h, hk, hle, hp => by
    have hlK : (K F).length = F.length := K_length F
    by_cases hlt : at_ < t.size
    · cases hs : stepAns t at_ G way with
      | none =>
        rw [parseGo_none hlt hs] at h
        injection h with _ h
        injection h with _ h
        exact absurd h (by decide)
      | some r =>
        obtain ⟨F1, way1⟩ := r
        rw [parseGo_some hlt hs] at h
        unfold stepAns lineAt nodeOf at hs
        split at hs
        · rename_i hok
          obtain ⟨hlf, hok⟩ := hok
          obtain ⟨d, hd, hbody, hnm, h1, h2⟩ := line_back2 _ hok
          rw [hd, Int.toNat_natCast] at hs
          obtain ⟨c, hc⟩ : ∃ c : Bk.SC, (⟨(lineAns (t.extract at_ (lfAt t at_))).2.1, (lineAns (t.extract at_ (lfAt t at_))).2.2.1, (lineAns (t.extract at_ (lfAt t at_))).2.2.2.1, 0⟩ : Bk.SC) = c := ⟨_, rfl⟩
          have hc0 : c.f3 = 0 := by rw [← hc]
          rw [hc] at hbody hs
          obtain ⟨q1, q2, q3, q4, q5⟩ := hp.put hc0 hs
          have hll := lf_le t at_ hle
          obtain ⟨ls, e1, e2, e3, e4, e5, e6⟩ := read_go t F k (lfAt t at_ + 1) F1 way1 _ h (by omega) (by omega) q2
          rw [q3] at e1 e2 e4 e5 e6
          obtain ⟨n, hn⟩ : ∃ n, W.length - d = n := ⟨_, rfl⟩
          rw [hn] at e2 e3 e4 q2 q5
          have hsp := List.take_append_drop n W
          have hpw := hp.pw
          rw [← hsp, List.pairwise_append] at hpw
          have hiF : G.length < F.length := by omega
          have hfi := e3 G.length (List.mem_cons_self ..)
          rw [q4, hc0] at hfi
          -- the closed ones lack nothing
          have hz : ∀ a ∈ (W.take n).map (fun w => ((Bk.nd F w).f3 - (Bk.nd G w).f3).toNat), a = 0 := fun a ha => by
            obtain ⟨w, hw, rfl⟩ := List.mem_map.1 ha
            have hwG := hp.lt w (List.mem_of_mem_take hw)
            have hwd : w ∉ W.drop n := fun e => by have := hpw.2.2 w hw w e; omega
            have h4 := e4 w (by omega) (fun e => by
              rcases List.mem_cons.1 e with e | e
              · omega
              · exact hwd e)
            rw [h4, (q5 w hwG).1 (fun e => hwd (List.mem_of_mem_head? e))]
            simp
          have hdr : ((W.drop n).map (fun w => ((Bk.nd F w).f3 - (Bk.nd G w).f3).toNat) = [] ∧ (W.drop n).map (fun w => ((Bk.nd F w).f3 - (Bk.nd F1 w).f3).toNat) = []) ∨
              ∃ a s', (W.drop n).map (fun w => ((Bk.nd F w).f3 - (Bk.nd G w).f3).toNat) = (a + 1) :: s' ∧ (W.drop n).map (fun w => ((Bk.nd F w).f3 - (Bk.nd F1 w).f3).toNat) = a :: s' := by
            cases hWd : W.drop n with
            | nil => exact .inl ⟨rfl, rfl⟩
            | cons p W2 =>
              right
              have hpm : p ∈ W := List.mem_of_mem_drop (by rw [hWd]; exact List.mem_cons_self ..)
              have hpG := hp.lt p hpm
              have hh : (W.drop n).head? = some p := by rw [hWd]; rfl
              have h5 := (q5 p hpG).2.1 hh
              have h6 := e3 p (List.mem_cons_of_mem _ (by rw [hWd]; exact List.mem_cons_self ..))
              refine ⟨((Bk.nd F p).f3 - (Bk.nd F1 p).f3).toNat, W2.map (fun w => ((Bk.nd F w).f3 - (Bk.nd G w).f3).toNat), ?_, ?_⟩
              · rw [List.map_cons]
                congr 1
                omega
              · rw [List.map_cons]
                congr 1
                refine List.map_congr_left fun w hw => ?_
                have hpw2 := hpw.2.1
                rw [hWd, List.pairwise_cons] at hpw2
                have hwp := hpw2.1 w hw
                rw [(q5 w (by omega)).1 (fun e => by rw [hh] at e; have := Option.some.inj e; omega)]
          have hrem : W.map (fun w => ((Bk.nd F w).f3 - (Bk.nd G w).f3).toNat) = (W.take n).map (fun w => ((Bk.nd F w).f3 - (Bk.nd G w).f3).toNat) ++ (W.drop n).map (fun w => ((Bk.nd F w).f3 - (Bk.nd G w).f3).toNat) := by
            rw [← List.map_append, hsp]
          have hpop : Fo.pop (W.map (fun w => ((Bk.nd F w).f3 - (Bk.nd G w).f3).toNat)) = (W.drop n).map (fun w => ((Bk.nd F w).f3 - (Bk.nd G w).f3).toNat) := by
            rw [hrem]
            refine pop_app _ _ hz ?_
            rcases hdr with ⟨h7, _⟩ | ⟨a, s', h7, _⟩
            · exact .inl h7
            · exact .inr ⟨a, s', h7⟩
          have hdec : dec ((W.drop n).map (fun w => ((Bk.nd F w).f3 - (Bk.nd G w).f3).toNat)) = (W.drop n).map (fun w => ((Bk.nd F w).f3 - (Bk.nd F1 w).f3).toNat) := by
            rcases hdr with ⟨h7, h8⟩ | ⟨a, s', h7, h8⟩
            · rw [h7, h8]; rfl
            · rw [h7, h8]; rfl
          refine ⟨d :: ls, by rw [List.length_cons]; omega, ?_, fun w hw => ?_, fun x hx hxn => ?_, fun x hx => ?_, ?_⟩
          · rw [K_at F G.length hiF, mach, if_neg (by omega), hpop, hdec]
            rw [List.map_cons, q4, hc0, Int.sub_zero] at e2
            rw [e2, Option.map_some, List.length_map, List.length_drop]
            congr 2
            omega
          · have hwG := hp.lt w hw
            obtain ⟨k1, k2, _⟩ := q5 w hwG
            by_cases hwd : w ∈ W.drop n
            · have := e3 w (List.mem_cons_of_mem _ hwd)
              by_cases he : (W.drop n).head? = some w
              · rw [k2 he] at this; omega
              · rw [k1 he] at this; exact this
            · have h4 := e4 w (by omega) (fun e => by
                rcases List.mem_cons.1 e with e | e
                · omega
                · exact hwd e)
              rw [h4, k1 (fun e => hwd (List.mem_of_mem_head? e))]
              exact Int.le_refl _
          · have hxd : x ∉ W.drop n := fun e => hxn (List.mem_of_mem_drop e)
            rw [e4 x (by omega) (fun e => by
              rcases List.mem_cons.1 e with e | e
              · omega
              · exact hxd e), (q5 x hx).1 (fun e => hxd (List.mem_of_mem_head? e))]
          · have h7 := e5 x (by omega)
            obtain ⟨_, _, k0, k1, k2⟩ := q5 x hx
            exact ⟨h7.1.trans k0, h7.2.1.trans k1, h7.2.2.trans k2⟩
          · have h7 := e5 G.length (by omega)
            rw [q4] at h7
            have hb : bodyOf (Bk.nd F G.length) d = bodyOf c d := by
              unfold bodyOf
              rw [h7.1, h7.2.1, h7.2.2]
            show _ = bodyOf (Bk.nd F G.length) d ++ 10 :: txt F ls (G.length + 1)
            rw [hb, ← e6, ← hbody, ext_list]
            have hlen : ((t.data.toList.drop at_).takeWhile (· != 10)).length = lfAt t at_ - at_ := by unfold lfAt; omega
            have hsz : (t.data.toList.drop at_).length = t.size - at_ := Ps.drop_len t at_
            have hts := tw_split (t.data.toList.drop at_) (by omega)
            rw [hlen, List.drop_drop] at hts
            have htk : (t.data.toList.drop at_).take (lfAt t at_ - at_) = (t.data.toList.drop at_).takeWhile (· != 10) := by
              conv => lhs; rw [hts]
              rw [← hlen, List.take_left]
            rw [htk, show lfAt t at_ + 1 = at_ + (lfAt t at_ - at_ + 1) by omega]
            exact hts
        · cases hs
    · rw [parseGo_end hlt] at h
      injection h with h _
      subst h
      refine ⟨[], rfl, ?_, fun _ _ => Int.le_refl _, fun _ _ _ => rfl, fun _ _ => ⟨rfl, rfl, rfl⟩, ?_⟩
      · rw [List.drop_eq_nil_of_le (by omega), mach, if_pos]
        rw [List.all_eq_true]
        intro a ha
        obtain ⟨w, _, rfl⟩ := List.mem_map.1 ha
        simp
      · rw [List.drop_eq_nil_of_le (by rw [Array.length_toList]; have : t.data.size = t.size := rfl; omega)]
        rfl
end Go.Proofs.YtloflodbcdlmpaaDoor.Rdb
namespace Go.Proofs.YtloflodbcdlmpaaDoor.Rdc
open Go.RowKit Go.Proofs.YtloflodbcdlmpaaDoor.Qall Go.Proofs.YtloflodbcdlmpaaDoor.Fo Go.Proofs.YtloflodbcdlmpaaDoor.Chk Go.Proofs.YtloflodbcdlmpaaDoor.Ln Go.Proofs.YtloflodbcdlmpaaDoor.Ps Go.Proofs.YtloflodbcdlmpaaDoor.Tx Go.Proofs.YtloflodbcdlmpaaDoor.Nsa Go.Proofs.YtloflodbcdlmpaaDoor.Bk Go.Proofs.YtloflodbcdlmpaaDoorW.PrintWords Go.Proofs.YtloflodbcdlmpaaDoorW.PrintLast Go.Proofs.YtloflodbcdlmpaaDoorW.PrintMore
set_option linter.unusedSimpArgs false
set_option linter.unusedVariables false
/-- The rooms of the open nodes. -/
def rooms (F : List Bk.SC) : Int → List Nat → List Nest.Rm
  | lo, [] => [((F.length : Int), 65536, lo)]
  | lo, w :: W => (rd (Bk.elOf F) (w : Int), (Bk.nd F w).f2, lo) :: rooms F (Bk.nd F w).f2 W
end Go.Proofs.YtloflodbcdlmpaaDoor.Rdc
namespace Go.Proofs.YtloflodbcdlmpaaDoor.Rdd
open Go.RowKit Go.Proofs.YtloflodbcdlmpaaDoor.Qall Go.Proofs.YtloflodbcdlmpaaDoor.Fo Go.Proofs.YtloflodbcdlmpaaDoor.Ln Go.Proofs.YtloflodbcdlmpaaDoor.Ps Go.Proofs.YtloflodbcdlmpaaDoor.Tx Go.Proofs.YtloflodbcdlmpaaDoor.Bk Go.Proofs.YtloflodbcdlmpaaDoorW.PrintWords Go.Proofs.YtloflodbcdlmpaaDoorW.PrintLast Go.Proofs.YtloflodbcdlmpaaDoorW.PrintMore
set_option linter.unusedSimpArgs false
set_option linter.unusedVariables false
theorem tw_take (p : UInt8 → Bool) : ∀ (l : List UInt8) (m : Nat), ((l.take m).takeWhile p).length = min m (l.takeWhile p).length
  | [], m => by simp
  | b :: l, 0 => by simp
  | b :: l, m + 1 => by
    rw [List.take_succ_cons]
    by_cases hb : p b = true
    · rw [List.takeWhile_cons_of_pos hb, List.takeWhile_cons_of_pos hb, List.length_cons, List.length_cons, tw_take p l m]
      omega
    · rw [List.takeWhile_cons_of_neg hb, List.takeWhile_cons_of_neg hb]
      simp
theorem tw_get (p : UInt8 → Bool) : ∀ (l : List UInt8) (j : Nat), j < (l.takeWhile p).length → ∀ b, l[j]? = some b → p b = true
  | [], j, h, b, hb => by simp at hb
  | a :: l, j, h, b, hb => by
    by_cases ha : p a = true
    · cases j with
      | zero => obtain rfl : a = b := by simpa using hb
                exact ha
      | succ j =>
        rw [List.takeWhile_cons_of_pos ha, List.length_cons] at h
        exact tw_get p l j (by omega) b (by simpa using hb)
    · rw [List.takeWhile_cons_of_neg ha] at h
      simp at h
theorem tw_at : ∀ l : List UInt8, (l.takeWhile (· != 10)).length < l.length → l[(l.takeWhile (· != 10)).length]? = some 10
  | [], h => by simp at h
  | b :: l, h => by
    by_cases hb : b = 10
    · subst hb
      rw [List.takeWhile_cons_of_neg (by decide)]
      rfl
    · rw [List.takeWhile_cons_of_pos (by simpa using hb)] at h ⊢
      rw [List.length_cons, List.getElem?_cons_succ]
      exact tw_at l (by simpa using h)
/-- It lies behind an LF, or at the text's begin. -/
def Beg (t : ByteArray) (m : Nat) : Prop := m = 0 ∨ t.data.toList[m - 1]? = some 10
theorem beg_next (t : ByteArray) (at_ : Nat) (h : lfAt t at_ < t.size) (hle : at_ ≤ t.size) : Beg t (lfAt t at_ + 1) := by
  right
  have hs := drop_len t at_
  have h2 := tw_at (t.data.toList.drop at_) (by unfold lfAt at h; omega)
  rw [List.getElem?_drop] at h2
  exact h2
theorem go_fault (t : ByteArray) (F : List Bk.SC) (a c : Int) : ∀ (k at_ : Nat) (G : List Bk.SC) (way : List Int), parseGo t k at_ G way = (F, a, c) → t.size < k + at_ → at_ ≤ t.size → Beg t at_ →
    (a = 0 ∧ c = 0) ∨ (F = [] ∧ c = 120 ∧ ∃ m : Nat, a = (m : Int) ∧ m ≤ t.size ∧ Beg t m)
  | 0, at_, G, way, h, hk, hle, hb => by omega
  | k + 1, at_, G, way, h, hk, hle, hb => by
    by_cases hlt : at_ < t.size
    · cases hs : stepAns t at_ G way with
      | none =>
        rw [parseGo_none hlt hs] at h
        injection h with h1 h
        injection h with h2 h3
        exact .inr ⟨h1.symm, h3.symm, at_, h2.symm, hle, hb⟩
      | some r =>
        rw [parseGo_some hlt hs] at h
        unfold stepAns at hs
        split at hs
        · rename_i hok
          have hll := lf_le t at_ hle
          have hlf := hok.1
          exact go_fault t F a c k (lfAt t at_ + 1) r.1 r.2 h (by omega) (by omega) (beg_next t at_ hlf hle)
        · cases hs
    · rw [parseGo_end hlt] at h
      injection h with h1 h
      injection h with h2 h3
      exact .inl ⟨h2.symm, h3.symm⟩
/-- OF A TEXT THAT IS NOT READ. -/
theorem read_fault (t : ByteArray) (F : List Bk.SC) (a c : Int) (h : parseAns t = (F, a, c)) :
    (a = 0 ∧ c = 0) ∨ (F = [] ∧ c ≠ 0 ∧ (c = 1 ↔ 4194304 < t.size) ∧ ∃ m : Nat, a = (m : Int) ∧ m ≤ t.size ∧ Beg t m ∧ m ≤ 4194304) := by
  unfold parseAns at h
  split at h
  · injection h with h1 h
    injection h with h2 h3
    subst h1 h2 h3
    exact .inr ⟨rfl, by decide, ⟨fun _ => by assumption, fun _ => rfl⟩, 0, rfl, Nat.zero_le _, .inl rfl, Nat.zero_le _⟩
  · rename_i hsz
    rcases go_fault t F a c _ 0 [] [] h (by omega) (by omega) (.inl rfl) with h1 | ⟨h1, h2, h3⟩
    · exact .inl h1
    · subst h2
      obtain ⟨m, g1, g2, g3⟩ := h3
      exact .inr ⟨h1, by decide, ⟨fun e => absurd e (by decide), fun e => absurd e hsz⟩, m, g1, g2, g3, by omega⟩
theorem ext_list2 (t : ByteArray) (k : Nat) : (t.extract 0 k).data.toList = t.data.toList.take k := by rw [ext_list, List.drop_zero, Nat.sub_zero]
theorem size_of (t : ByteArray) (k : Nat) (h : k ≤ t.size) : (t.extract 0 k).size = k := by
  have := congrArg List.length (ext_list2 t k)
  rw [data_length, List.length_take, data_length] at this
  omega
theorem lf_cut (t : ByteArray) (k at_ : Nat) : lfAt (t.extract 0 k) at_ = at_ + min (k - at_) (lfAt t at_ - at_) := by
  unfold lfAt
  rw [ext_list2, List.drop_take, tw_take]
  omega
theorem ext_cut (t : ByteArray) (k at_ l : Nat) (h : l ≤ k) : (t.extract 0 k).extract at_ l = t.extract at_ l := by
  apply ByteArray.ext
  apply Array.toList_inj.1
  rw [ext_list (t.extract 0 k), ext_list2, ext_list t, List.drop_take, List.take_take]
  congr 1
  omega
theorem go_cut (t : ByteArray) (F : List Bk.SC) (k : Nat) (hk : k ≤ t.size) : ∀ (j j2 at_ : Nat) (G : List Bk.SC) (way : List Int) (W : List Nat), parseGo t j at_ G way = (F, 0, 0) → t.size < j + at_ → k < j2 + at_ → at_ ≤ k → Rdb.Pre G way W → Beg t at_ →
    (Beg t k → ∃ H : List Bk.SC, parseGo (t.extract 0 k) j2 at_ G way = (H, 0, 0) ∧ H.length ≤ F.length) ∧ (¬ Beg t k → ∃ a : Int, parseGo (t.extract 0 k) j2 at_ G way = ([], a, 120))
  | 0, j2, at_, G, way, W, h, h1, h2, h3, hp, hb => by omega
  | j + 1, 0, at_, G, way, W, h, h1, h2, h3, hp, hb => by omega
  | j + 1, j2 + 1, at_, G, way, W, h, h1, h2, h3, hp, hb => by
    have hus := size_of t k hk
    by_cases hak : at_ = k
    · subst hak
      obtain ⟨ls, e1, _⟩ := Rdb.read_go t F (j + 1) at_ G way W h h1 hk hp
      exact ⟨fun _ => ⟨G, parseGo_end (by omega), by omega⟩, fun hn => absurd hb hn⟩
    · have hlt : at_ < t.size := by omega
      cases hs : stepAns t at_ G way with
      | none =>
        rw [parseGo_none hlt hs] at h
        injection h with _ h
        injection h with _ h
        exact absurd h (by decide)
      | some r =>
        obtain ⟨F1, way1⟩ := r
        rw [parseGo_some hlt hs] at h
        have hs0 := hs
        unfold stepAns at hs
        split at hs
        · rename_i hok
          have hll := lf_le t at_ (by omega)
          have hlf := hok.1
          have hlu := lf_cut t k at_
          by_cases hl : lfAt t at_ < k
          · have hle : lfAt (t.extract 0 k) at_ = lfAt t at_ := by omega
            have hsu : stepAns (t.extract 0 k) at_ G way = some (F1, way1) := by
              rw [← hs0]
              unfold stepAns lineAt
              rw [hle, ext_cut t k at_ _ (by omega), hus]
              simp only [hl, hlf, true_and]
            obtain ⟨_, q2, _⟩ := hp.put rfl hs
            have ih := go_cut t F k hk j j2 (lfAt t at_ + 1) F1 way1 _ h (by omega) (by omega) (by omega) q2 (beg_next t at_ hlf (by omega))
            rw [parseGo_some (by omega) hsu, hle]
            exact ih
          · have hle : lfAt (t.extract 0 k) at_ = k := by omega
            have hsu : stepAns (t.extract 0 k) at_ G way = none := by
              unfold stepAns
              rw [if_neg (by rw [hle, hus]; exact fun e => Nat.lt_irrefl _ e.1)]
            refine ⟨fun hB => ?_, fun _ => ⟨at_, parseGo_none (by omega) hsu⟩⟩
            exfalso
            rcases hB with h0 | h0
            · omega
            · have := tw_get (· != 10) (t.data.toList.drop at_) (k - 1 - at_) (by unfold lfAt at hl; omega) 10 (by rw [List.getElem?_drop, show at_ + (k - 1 - at_) = k - 1 by omega]; exact h0)
              exact absurd this (by decide)
        · cases hs
end Go.Proofs.YtloflodbcdlmpaaDoor.Rdd
namespace Go.Proofs.YtloflodbcdlmpaaDoor.Rde
open Go.RowKit Go.Proofs.YtloflodbcdlmpaaDoor.Qall Go.Proofs.YtloflodbcdlmpaaDoor.Fo Go.Proofs.YtloflodbcdlmpaaDoor.Chk Go.Proofs.YtloflodbcdlmpaaDoor.Ln Go.Proofs.YtloflodbcdlmpaaDoor.Ps Go.Proofs.YtloflodbcdlmpaaDoor.Tx Go.Proofs.YtloflodbcdlmpaaDoor.Bk Go.Proofs.YtloflodbcdlmpaaDoorW.PrintWords Go.Proofs.YtloflodbcdlmpaaDoorW.PrintLast Go.Proofs.YtloflodbcdlmpaaDoorW.PrintMore
set_option linter.unusedSimpArgs false
set_option linter.unusedVariables false
end Go.Proofs.YtloflodbcdlmpaaDoor.Rde
