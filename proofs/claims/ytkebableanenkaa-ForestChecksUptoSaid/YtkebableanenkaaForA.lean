/- Lists of nodes that are forests by their counts: extents, levels, spans: in plain terms, with no program in sight. -/
namespace Go.Proofs.Ytkebableanenkaa.Fo

/-- The extent of the first node. -/
def hd : List (Option Nat) → Option Nat
  | [] => none
  | o :: _ => o
/-- Over how many nodes k extents go. -/
def jump : Nat → List (Option Nat) → Option Nat
  | 0, _ => some 0
  | k + 1, es => match hd es with
    | none => none
    | some m => (jump k (es.drop m)).map (m + ·)
/-- The extents of nodes with these counts of kids. -/
def ex : List Int → List (Option Nat)
  | [] => []
  | x :: c => (if x < 0 then none else (jump x.toNat (ex c)).map (· + 1)) :: ex c
theorem ex_length (c : List Int) : (ex c).length = c.length := by
  induction c with
  | nil => rfl
  | cons x c ih => simp [ex, ih]
theorem ex_drop (c : List Int) (i : Nat) : ex (c.drop i) = (ex c).drop i := by
  induction c generalizing i with
  | nil => simp [ex]
  | cons x c ih =>
    cases i with
    | zero => rfl
    | succ i => simp only [List.drop_succ_cons, ex]; exact ih i
def WF : List (Option Nat) → Prop
  | [] => True
  | o :: t => (∀ m, o = some m → 1 ≤ m ∧ m ≤ t.length + 1) ∧ WF t
theorem WF.drop : ∀ {es : List (Option Nat)} (i : Nat), WF es → WF (es.drop i)
  | [], i, _ => by simp [WF]
  | _ :: _, 0, h => h
  | _ :: t, i + 1, h => WF.drop (es := t) i h.2
theorem WF.hd {es : List (Option Nat)} (h : WF es) {m : Nat} (e : Fo.hd es = some m) : 1 ≤ m ∧ m ≤ es.length := by
  cases es with
  | nil => simp [Fo.hd] at e
  | cons o t => exact h.1 m e
theorem jump_bounds : ∀ (k : Nat) {es : List (Option Nat)} (_ : WF es) {m : Nat} (_ : jump k es = some m), k ≤ m ∧ m ≤ es.length
  | 0, es, _, m, e => by simp [jump] at e; omega
  | k + 1, es, h, m, e => by
    unfold jump at e
    cases h1 : hd es with
    | none => rw [h1] at e; simp at e
    | some a =>
      rw [h1] at e
      simp only [Option.map_eq_some_iff] at e
      obtain ⟨b, e1, e2⟩ := e
      have := jump_bounds k (h.drop a) e1
      have ha := h.hd h1
      simp only [List.length_drop] at this
      omega
theorem ex_wf (c : List Int) : WF (ex c) := by
  induction c with
  | nil => trivial
  | cons x c ih =>
    refine ⟨fun m e => ?_, ih⟩
    split at e
    · cases e
    · simp only [Option.map_eq_some_iff] at e
      obtain ⟨a, e1, e2⟩ := e
      have := jump_bounds _ ih e1
      omega
/-- One extent more, at the end. -/
theorem jump_snoc : ∀ (k : Nat) (es : List (Option Nat)), jump (k + 1) es = (jump k es).bind fun m => (hd (es.drop m)).map (m + ·)
  | 0, es => by
    simp only [jump, List.drop_zero, Option.bind_some]
    cases hd es <;> simp
  | k + 1, es => by
    rw [jump]
    conv => rhs; rw [jump]
    cases h : hd es with
    | none => rfl
    | some m =>
      simp only []
      rw [jump_snoc k]
      cases h2 : jump k (es.drop m) with
      | none => rfl
      | some b =>
        simp only [Option.bind_some, Option.map_some, List.drop_drop]
        cases hd (es.drop (m + b)) <;> simp [Nat.add_assoc]
theorem jump_none_of_lt {k j : Nat} {es : List (Option Nat)} (h : jump k es = none) (hj : k ≤ j) : jump j es = none := by
  induction j with
  | zero => obtain rfl : k = 0 := by omega
            exact h
  | succ j ih =>
    by_cases e : k = j + 1
    · rw [← e]; exact h
    · rw [jump_snoc, ih (by omega)]; rfl
/-- The roots stand one behind the other up to the end. -/
inductive Rts : List (Option Nat) → Prop
  | nil : Rts []
  | cons {m : Nat} {t : List (Option Nat)} : Rts ((some m :: t).drop m) → Rts (some m :: t)
theorem Rts.inv {o : Option Nat} {t : List (Option Nat)} (h : Rts (o :: t)) : ∃ m, o = some m ∧ Rts ((o :: t).drop m) := by
  cases h with
  | cons h => exact ⟨_, rfl, h⟩
theorem rts_cons {m : Nat} {t : List (Option Nat)} : Rts (some m :: t) ↔ Rts ((some m :: t).drop m) :=
  ⟨fun h => by obtain ⟨_, e, h⟩ := h.inv; cases e; exact h, .cons⟩
/-- So many kids are missing of those that are open, the innermost first: the rest has them all, and is roots else. -/
def Q : List Nat → List (Option Nat) → Prop
  | [], es => Rts es
  | l :: st, es => ∃ m, jump l es = some m ∧ Q st (es.drop m)
def pop : List Nat → List Nat
  | 0 :: st => pop st
  | st => st
def dec : List Nat → List Nat
  | (l + 1) :: st => l :: st
  | st => st
/-- The levels, by the counts of those that are open. -/
def mach : List Nat → List Int → Option (List Nat)
  | st, [] => if st.all (· == 0) then some [] else none
  | st, x :: c => if x < 0 then none else (mach (x.toNat :: dec (pop st)) c).map ((pop st).length :: ·)
theorem pop_cases (st : List Nat) : pop st = [] ∨ ∃ l s, pop st = (l + 1) :: s := by
  induction st with
  | nil => exact .inl rfl
  | cons a st ih =>
    cases a with
    | zero => exact ih
    | succ a => exact .inr ⟨a, st, rfl⟩
theorem Q_pop (st : List Nat) (es : List (Option Nat)) : Q (pop st) es ↔ Q st es := by
  induction st with
  | nil => exact Iff.rfl
  | cons a st ih =>
    cases a with
    | zero => rw [pop, ih]; simp [Q, jump]
    | succ a => exact Iff.rfl
theorem Q_nil (st : List Nat) : Q st [] ↔ st.all (· == 0) = true := by
  induction st with
  | nil => simp [Q, Rts.nil]
  | cons a st ih =>
    cases a with
    | zero => simp [Q, jump, ih]
    | succ a => simp [Q, jump, hd]
theorem hd_ex (x : Int) (c : List Int) : hd (ex (x :: c)) = if x < 0 then none else (jump x.toNat (ex c)).map (· + 1) := rfl
theorem Q_open (x : Int) (c : List Int) : Q [] (ex (x :: c)) ↔ 0 ≤ x ∧ Q [x.toNat] (ex c) := by
  simp only [Q, ex]
  by_cases hx : x < 0
  · rw [if_pos hx]
    constructor
    · intro h; obtain ⟨m, e, _⟩ := h.inv; cases e
    · rintro ⟨h, _⟩; omega
  · rw [if_neg hx]
    cases h : jump x.toNat (ex c) with
    | none =>
      constructor
      · intro h; obtain ⟨m, e, _⟩ := h.inv; cases e
      · rintro ⟨_, m, e, _⟩; cases e
    | some m =>
      simp only [Option.map_some, rts_cons, List.drop_succ_cons]
      constructor
      · intro h; exact ⟨by omega, m, rfl, h⟩
      · rintro ⟨_, m', e, h⟩; cases e; exact h
theorem Q_kid (l : Nat) (st : List Nat) (x : Int) (c : List Int) : Q ((l + 1) :: st) (ex (x :: c)) ↔ 0 ≤ x ∧ Q (x.toNat :: l :: st) (ex c) := by
  simp only [Q, jump, hd_ex]
  by_cases hx : x < 0
  · rw [if_pos hx]
    constructor
    · rintro ⟨m, e, _⟩; cases e
    · rintro ⟨h, _⟩; omega
  · rw [if_neg hx]
    cases h : jump x.toNat (ex c) with
    | none =>
      constructor
      · rintro ⟨m, e, _⟩; cases e
      · rintro ⟨_, m, e, _⟩; cases e
    | some m =>
      simp only [Option.map_some, ex, List.drop_succ_cons]
      constructor
      · rintro ⟨a, e, hq⟩
        rw [Option.map_eq_some_iff] at e
        obtain ⟨b, e1, rfl⟩ := e
        refine ⟨by omega, m, rfl, b, e1, ?_⟩
        rw [List.drop_drop]
        rw [show m + 1 + b = (m + b) + 1 from by omega, List.drop_succ_cons] at hq
        exact hq
      · rintro ⟨_, m', e, b, e1, hq⟩
        cases e
        refine ⟨m + 1 + b, by rw [e1]; rfl, ?_⟩
        rw [show m + 1 + b = (m + b) + 1 from by omega, List.drop_succ_cons]
        rw [List.drop_drop] at hq
        exact hq
theorem Q_step (st : List Nat) (x : Int) (c : List Int) : Q st (ex (x :: c)) ↔ 0 ≤ x ∧ Q (x.toNat :: dec (pop st)) (ex c) := by
  rw [← Q_pop]
  rcases pop_cases st with e | ⟨l, s, e⟩
  · rw [e]; exact Q_open x c
  · rw [e]; exact Q_kid l s x c
/-- THE COUNTS COME OUT JUST WHERE THE EXTENTS DO. -/
theorem mach_iff : ∀ (c : List Int) (st : List Nat), (mach st c).isSome = true ↔ Q st (ex c)
  | [], st => by
    rw [ex, Q_nil, mach]
    by_cases h : st.all (· == 0) = true
    · rw [if_pos h, h]; simp
    · rw [if_neg h]; simp only [Option.isSome_none, Bool.false_eq_true, false_iff]; exact h
  | x :: c, st => by
    rw [Q_step, ← mach_iff c, mach]
    split
    · simp; omega
    · simp; omega
/-- The places at which the open ones' extents end. -/
def stk : List Nat → List (Option Nat) → Nat → List Nat
  | [], _, _ => []
  | l :: st, es, i => (i + (jump l es).getD 0) :: stk st (es.drop ((jump l es).getD 0)) (i + (jump l es).getD 0)
def absE : List (Option Nat) → Nat → List Nat
  | [], _ => []
  | o :: t, i => (i + o.getD 0) :: absE t (i + 1)
/-- The levels, by the ends of the extents that are open. -/
def lev2 : List Nat → Nat → List Nat → List Nat
  | _, _, [] => []
  | st, i, e :: es => (st.dropWhile (· ≤ i)).length :: lev2 (e :: st.dropWhile (· ≤ i)) (i + 1) es
theorem stk_pop (st : List Nat) (es : List (Option Nat)) (i : Nat) (hw : WF es) (h : Q st es) : (stk st es i).dropWhile (· ≤ i) = stk (pop st) es i := by
  induction st with
  | nil => rfl
  | cons a st ih =>
    obtain ⟨m, e, hq⟩ := h
    cases a with
    | zero =>
      obtain rfl : 0 = m := by simpa [jump] using e
      simp only [stk, jump, Option.getD_some, Nat.add_zero, List.drop_zero, pop] at hq ⊢
      rw [List.dropWhile_cons_of_pos (by simp)]
      exact ih hq
    | succ a =>
      have := jump_bounds _ hw e
      simp only [stk, e, Option.getD_some, pop]
      rw [List.dropWhile_cons_of_neg (by simp; omega)]
theorem stk_length (st : List Nat) (es : List (Option Nat)) (i : Nat) : (stk st es i).length = st.length := by
  induction st generalizing es i with
  | nil => rfl
  | cons a st ih => simp [stk, ih]
theorem stk_step (st : List Nat) (x : Int) (c : List Int) (i : Nat) (h : Q st (ex (x :: c))) :
    stk (x.toNat :: dec (pop st)) (ex c) (i + 1) = (i + (hd (ex (x :: c))).getD 0) :: stk (pop st) (ex (x :: c)) i := by
  rw [← Q_pop] at h
  rcases pop_cases st with e | ⟨l, s, e⟩
  · rw [e] at h ⊢
    obtain ⟨h0, m, e1, _⟩ := (Q_open x c).1 h
    simp only [dec, stk, e1, hd_ex, Option.getD_some, if_neg (show ¬ x < 0 by omega), Option.map_some]
    rw [show i + 1 + m = i + (m + 1) by omega]
  · rw [e] at h ⊢
    obtain ⟨h0, m, e1, b, e2, _⟩ := (Q_kid l s x c).1 h
    have e3 : jump (l + 1) (ex (x :: c)) = some (m + 1 + b) := by
      rw [jump, hd_ex, if_neg (show ¬ x < 0 by omega), e1]
      simp [ex, e2]
    simp only [dec, stk, e1, e2, e3, hd_ex, Option.getD_some, if_neg (show ¬ x < 0 by omega), Option.map_some, List.drop_drop]
    rw [show i + 1 + m = i + (m + 1) by omega, show i + (m + 1) + b = i + (m + 1 + b) by omega, show m + 1 + b = (m + b) + 1 by omega, ex, List.drop_succ_cons]
/-- THE LEVELS BY COUNTS ARE THE LEVELS BY ENDS. -/
theorem mach_lev2 : ∀ (c : List Int) (st : List Nat) (i : Nat) (ls : List Nat), mach st c = some ls → ls = lev2 (stk st (ex c) i) i (absE (ex c) i)
  | [], st, i, ls, h => by
    rw [mach] at h
    split at h
    · cases h; rfl
    · cases h
  | x :: c, st, i, ls, h => by
    have hQ : Q st (ex (x :: c)) := (mach_iff _ _).1 (by rw [h]; rfl)
    have hs := stk_step st x c i hQ
    rw [mach] at h
    split at h
    · cases h
    · rw [Option.map_eq_some_iff] at h
      obtain ⟨ls', h1, rfl⟩ := h
      have ih := mach_lev2 c _ (i + 1) ls' h1
      rw [ih, hs]
      show _ = lev2 _ _ (_ :: _)
      rw [lev2, stk_pop st _ i (ex_wf _) hQ, stk_length]
      rfl
end Go.Proofs.Ytkebableanenkaa.Fo
namespace Go.Proofs.Ytkebableanenkaa.LawLen
open Go.Proofs.Ytkebableanenkaa.Fo
theorem mach_length : ∀ (c : List Int) (st ls : List Nat), mach st c = some ls → ls.length = c.length
  | [], st, ls, h => by
    unfold mach at h
    split at h
    · cases h; rfl
    · cases h
  | x :: c, st, ls, h => by
    unfold mach at h
    split at h
    · cases h
    · obtain ⟨m, hm, rfl⟩ := Option.map_eq_some_iff.1 h
      simp [mach_length c _ m hm]
end Go.Proofs.Ytkebableanenkaa.LawLen
