/- Lists of nodes that are forests by their counts: extents, levels, spans: in plain terms, with no program in sight. || forest.ends and the document's Ends, as they are printed, in the plain terms of ForA. Conditions: a list of at most 2^21 nodes. || The document's Levels, as it is printed, in the plain terms of ForA. Conditions: a list of at most 2^21 nodes, whose counts of kids are Go ints. || forest.Kids and the document's Kids, as they are printed, tell one list. Conditions: a list of at most 2^21 nodes, whose counts of kids are Go ints. || forest.levels, as it is printed, tells the levels by counts. Conditions: a list of at most 2^21 nodes that is a forest by its counts. -/
import Derived.Test.YtloflodbcdlmpaaDoorQallx2
import Derived.Test.YtloflodbcdlmpaaDoorQallx5
import Derived.Test.YtloflodbcdlmpaaDoorQallx4
namespace Go.Proofs.YtloflodbcdlmpaaDoor.Fo

/-- The extent of the first node. -/
def hd : List (Option Nat) → Option Nat
  | [] => none
  | o :: _ => o
/-- Over how many nodes k extents go. -/
def jump : Nat → List (Option Nat) → Option Nat
  | 0, _ => some 0
  | k + 1, es => match hd es with
    | none => none
    | some m => (jump k (es.drop m)).map (m + ·)
/-- The extents of nodes with these counts of kids. -/
def ex : List Int → List (Option Nat)
  | [] => []
  | x :: c => (if x < 0 then none else (jump x.toNat (ex c)).map (· + 1)) :: ex c
theorem ex_length (c : List Int) : (ex c).length = c.length := by
  induction c with
  | nil => rfl
  | cons x c ih => simp [ex, ih]
theorem ex_drop (c : List Int) (i : Nat) : ex (c.drop i) = (ex c).drop i := by
  induction c generalizing i with
  | nil => simp [ex]
  | cons x c ih =>
    cases i with
    | zero => rfl
    | succ i => simp only [List.drop_succ_cons, ex]; exact ih i
def WF : List (Option Nat) → Prop
  | [] => True
  | o :: t => (∀ m, o = some m → 1 ≤ m ∧ m ≤ t.length + 1) ∧ WF t
theorem WF.drop : ∀ {es : List (Option Nat)} (i : Nat), WF es → WF (es.drop i)
  | [], i, _ => by simp [WF]
  | _ :: _, 0, h => h
  | _ :: t, i + 1, h => WF.drop (es := t) i h.2
theorem WF.hd {es : List (Option Nat)} (h : WF es) {m : Nat} (e : Fo.hd es = some m) : 1 ≤ m ∧ m ≤ es.length := by
  cases es with
  | nil => simp [Fo.hd] at e
  | cons o t => exact h.1 m e
theorem jump_bounds : ∀ (k : Nat) {es : List (Option Nat)} (_ : WF es) {m : Nat} (_ : jump k es = some m), k ≤ m ∧ m ≤ es.length
  | 0, es, _, m, e => by simp [jump] at e; omega
  | k + 1, es, h, m, e => by
    unfold jump at e
    cases h1 : hd es with
    | none => rw [h1] at e; simp at e
    | some a =>
      rw [h1] at e
      simp only [Option.map_eq_some_iff] at e
      obtain ⟨b, e1, e2⟩ := e
      have := jump_bounds k (h.drop a) e1
      have ha := h.hd h1
      simp only [List.length_drop] at this
      omega
theorem ex_wf (c : List Int) : WF (ex c) := by
  induction c with
  | nil => trivial
  | cons x c ih =>
    refine ⟨fun m e => ?_, ih⟩
    split at e
    · cases e
    · simp only [Option.map_eq_some_iff] at e
      obtain ⟨a, e1, e2⟩ := e
      have := jump_bounds _ ih e1
      omega
/-- One extent more, at the end. -/
theorem jump_snoc : ∀ (k : Nat) (es : List (Option Nat)), jump (k + 1) es = (jump k es).bind fun m => (hd (es.drop m)).map (m + ·)
  | 0, es => by
    simp only [jump, List.drop_zero, Option.bind_some]
    cases hd es <;> simp
  | k + 1, es => by
    rw [jump]
    conv => rhs; rw [jump]
    cases h : hd es with
    | none => rfl
    | some m =>
      simp only []
      rw [jump_snoc k]
      cases h2 : jump k (es.drop m) with
      | none => rfl
      | some b =>
        simp only [Option.bind_some, Option.map_some, List.drop_drop]
        cases hd (es.drop (m + b)) <;> simp [Nat.add_assoc]
theorem jump_none_of_lt {k j : Nat} {es : List (Option Nat)} (h : jump k es = none) (hj : k ≤ j) : jump j es = none := by
  induction j with
  | zero => obtain rfl : k = 0 := by omega
            exact h
  | succ j ih =>
    by_cases e : k = j + 1
    · rw [← e]; exact h
    · rw [jump_snoc, ih (by omega)]; rfl
/-- The roots stand one behind the other up to the end. -/
inductive Rts : List (Option Nat) → Prop
  | nil : Rts []
  | cons {m : Nat} {t : List (Option Nat)} : Rts ((some m :: t).drop m) → Rts (some m :: t)
theorem Rts.inv {o : Option Nat} {t : List (Option Nat)} (h : Rts (o :: t)) : ∃ m, o = some m ∧ Rts ((o :: t).drop m) := by
  cases h with
  | cons h => exact ⟨_, rfl, h⟩
theorem rts_cons {m : Nat} {t : List (Option Nat)} : Rts (some m :: t) ↔ Rts ((some m :: t).drop m) :=
  ⟨fun h => by obtain ⟨_, e, h⟩ := h.inv; cases e; exact h, .cons⟩
/-- So many kids are missing of those that are open, the innermost first: the rest has them all, and is roots else. -/
def Q : List Nat → List (Option Nat) → Prop
  | [], es => Rts es
  | l :: st, es => ∃ m, jump l es = some m ∧ Q st (es.drop m)
def pop : List Nat → List Nat
  | 0 :: st => pop st
  | st => st
def dec : List Nat → List Nat
  | (l + 1) :: st => l :: st
  | st => st
/-- The levels, by the counts of those that are open. -/
def mach : List Nat → List Int → Option (List Nat)
  | st, [] => if st.all (· == 0) then some [] else none
  | st, x :: c => if x < 0 then none else (mach (x.toNat :: dec (pop st)) c).map ((pop st).length :: ·)
theorem pop_cases (st : List Nat) : pop st = [] ∨ ∃ l s, pop st = (l + 1) :: s := by
  induction st with
  | nil => exact .inl rfl
  | cons a st ih =>
    cases a with
    | zero => exact ih
    | succ a => exact .inr ⟨a, st, rfl⟩
theorem Q_pop (st : List Nat) (es : List (Option Nat)) : Q (pop st) es ↔ Q st es := by
  induction st with
  | nil => exact Iff.rfl
  | cons a st ih =>
    cases a with
    | zero => rw [pop, ih]; simp [Q, jump]
    | succ a => exact Iff.rfl
theorem Q_nil (st : List Nat) : Q st [] ↔ st.all (· == 0) = true := by
  induction st with
  | nil => simp [Q, Rts.nil]
  | cons a st ih =>
    cases a with
    | zero => simp [Q, jump, ih]
    | succ a => simp [Q, jump, hd]
theorem hd_ex (x : Int) (c : List Int) : hd (ex (x :: c)) = if x < 0 then none else (jump x.toNat (ex c)).map (· + 1) := rfl
theorem Q_open (x : Int) (c : List Int) : Q [] (ex (x :: c)) ↔ 0 ≤ x ∧ Q [x.toNat] (ex c) := by
  simp only [Q, ex]
  by_cases hx : x < 0
  · rw [if_pos hx]
    constructor
    · intro h; obtain ⟨m, e, _⟩ := h.inv; cases e
    · rintro ⟨h, _⟩; omega
  · rw [if_neg hx]
    cases h : jump x.toNat (ex c) with
    | none =>
      constructor
      · intro h; obtain ⟨m, e, _⟩ := h.inv; cases e
      · rintro ⟨_, m, e, _⟩; cases e
    | some m =>
      simp only [Option.map_some, rts_cons, List.drop_succ_cons]
      constructor
      · intro h; exact ⟨by omega, m, rfl, h⟩
      · rintro ⟨_, m', e, h⟩; cases e; exact h
theorem Q_kid (l : Nat) (st : List Nat) (x : Int) (c : List Int) : Q ((l + 1) :: st) (ex (x :: c)) ↔ 0 ≤ x ∧ Q (x.toNat :: l :: st) (ex c) := by
  simp only [Q, jump, hd_ex]
  by_cases hx : x < 0
  · rw [if_pos hx]
    constructor
    · rintro ⟨m, e, _⟩; cases e
    · rintro ⟨h, _⟩; omega
  · rw [if_neg hx]
    cases h : jump x.toNat (ex c) with
    | none =>
      constructor
      · rintro ⟨m, e, _⟩; cases e
      · rintro ⟨_, m, e, _⟩; cases e
    | some m =>
      simp only [Option.map_some, ex, List.drop_succ_cons]
      constructor
      · rintro ⟨a, e, hq⟩
        rw [Option.map_eq_some_iff] at e
        obtain ⟨b, e1, rfl⟩ := e
        refine ⟨by omega, m, rfl, b, e1, ?_⟩
        rw [List.drop_drop]
        rw [show m + 1 + b = (m + b) + 1 from by omega, List.drop_succ_cons] at hq
        exact hq
      · rintro ⟨_, m', e, b, e1, hq⟩
        cases e
        refine ⟨m + 1 + b, by rw [e1]; rfl, ?_⟩
        rw [show m + 1 + b = (m + b) + 1 from by omega, List.drop_succ_cons]
        rw [List.drop_drop] at hq
        exact hq
theorem Q_step (st : List Nat) (x : Int) (c : List Int) : Q st (ex (x :: c)) ↔ 0 ≤ x ∧ Q (x.toNat :: dec (pop st)) (ex c) := by
  rw [← Q_pop]
  rcases pop_cases st with e | ⟨l, s, e⟩
  · rw [e]; exact Q_open x c
  · rw [e]; exact Q_kid l s x c
/-- THE COUNTS COME OUT JUST WHERE THE EXTENTS DO. -/
theorem mach_iff : ∀ (c : List Int) (st : List Nat), (mach st c).isSome = true ↔ Q st (ex c)
  | [], st => by
    rw [ex, Q_nil, mach]
    by_cases h : st.all (· == 0) = true
    · rw [if_pos h, h]; simp
    · rw [if_neg h]; simp only [Option.isSome_none, Bool.false_eq_true, false_iff]; exact h
  | x :: c, st => by
    rw [Q_step, ← mach_iff c, mach]
    split
    · simp; omega
    · simp; omega
/-- The places at which the open ones' extents end. -/
def stk : List Nat → List (Option Nat) → Nat → List Nat
  | [], _, _ => []
  | l :: st, es, i => (i + (jump l es).getD 0) :: stk st (es.drop ((jump l es).getD 0)) (i + (jump l es).getD 0)
def absE : List (Option Nat) → Nat → List Nat
  | [], _ => []
  | o :: t, i => (i + o.getD 0) :: absE t (i + 1)
/-- The levels, by the ends of the extents that are open. -/
def lev2 : List Nat → Nat → List Nat → List Nat
  | _, _, [] => []
  | st, i, e :: es => (st.dropWhile (· ≤ i)).length :: lev2 (e :: st.dropWhile (· ≤ i)) (i + 1) es
theorem stk_pop (st : List Nat) (es : List (Option Nat)) (i : Nat) (hw : WF es) (h : Q st es) : (stk st es i).dropWhile (· ≤ i) = stk (pop st) es i := by
  induction st with
  | nil => rfl
  | cons a st ih =>
    obtain ⟨m, e, hq⟩ := h
    cases a with
    | zero =>
      obtain rfl : 0 = m := by simpa [jump] using e
      simp only [stk, jump, Option.getD_some, Nat.add_zero, List.drop_zero, pop] at hq ⊢
      rw [List.dropWhile_cons_of_pos (by simp)]
      exact ih hq
    | succ a =>
      have := jump_bounds _ hw e
      simp only [stk, e, Option.getD_some, pop]
      rw [List.dropWhile_cons_of_neg (by simp; omega)]
theorem stk_length (st : List Nat) (es : List (Option Nat)) (i : Nat) : (stk st es i).length = st.length := by
  induction st generalizing es i with
  | nil => rfl
  | cons a st ih => simp [stk, ih]
theorem stk_step (st : List Nat) (x : Int) (c : List Int) (i : Nat) (h : Q st (ex (x :: c))) :
    stk (x.toNat :: dec (pop st)) (ex c) (i + 1) = (i + (hd (ex (x :: c))).getD 0) :: stk (pop st) (ex (x :: c)) i := by
  rw [← Q_pop] at h
  rcases pop_cases st with e | ⟨l, s, e⟩
  · rw [e] at h ⊢
    obtain ⟨h0, m, e1, _⟩ := (Q_open x c).1 h
    simp only [dec, stk, e1, hd_ex, Option.getD_some, if_neg (show ¬ x < 0 by omega), Option.map_some]
    rw [show i + 1 + m = i + (m + 1) by omega]
  · rw [e] at h ⊢
    obtain ⟨h0, m, e1, b, e2, _⟩ := (Q_kid l s x c).1 h
    have e3 : jump (l + 1) (ex (x :: c)) = some (m + 1 + b) := by
      rw [jump, hd_ex, if_neg (show ¬ x < 0 by omega), e1]
      simp [ex, e2]
    simp only [dec, stk, e1, e2, e3, hd_ex, Option.getD_some, if_neg (show ¬ x < 0 by omega), Option.map_some, List.drop_drop]
    rw [show i + 1 + m = i + (m + 1) by omega, show i + (m + 1) + b = i + (m + 1 + b) by omega, show m + 1 + b = (m + b) + 1 by omega, ex, List.drop_succ_cons]
/-- THE LEVELS BY COUNTS ARE THE LEVELS BY ENDS. -/
theorem mach_lev2 : ∀ (c : List Int) (st : List Nat) (i : Nat) (ls : List Nat), mach st c = some ls → ls = lev2 (stk st (ex c) i) i (absE (ex c) i)
  | [], st, i, ls, h => by
    rw [mach] at h
    split at h
    · cases h; rfl
    · cases h
  | x :: c, st, i, ls, h => by
    have hQ : Q st (ex (x :: c)) := (mach_iff _ _).1 (by rw [h]; rfl)
    have hs := stk_step st x c i hQ
    rw [mach] at h
    split at h
    · cases h
    · rw [Option.map_eq_some_iff] at h
      obtain ⟨ls', h1, rfl⟩ := h
      have ih := mach_lev2 c _ (i + 1) ls' h1
      rw [ih, hs]
      show _ = lev2 _ _ (_ :: _)
      rw [lev2, stk_pop st _ i (ex_wf _) hQ, stk_length]
      rfl
end Go.Proofs.YtloflodbcdlmpaaDoor.Fo
namespace Go.Proofs.YtloflodbcdlmpaaDoor.LawLen
open Go.Proofs.YtloflodbcdlmpaaDoor.Fo
theorem mach_length : ∀ (c : List Int) (st ls : List Nat), mach st c = some ls → ls.length = c.length
  | [], st, ls, h => by
    unfold mach at h
    split at h
    · cases h; rfl
    · cases h
  | x :: c, st, ls, h => by
    unfold mach at h
    split at h
    · cases h
    · obtain ⟨m, hm, rfl⟩ := Option.map_eq_some_iff.1 h
      simp [mach_length c _ m hm]
end Go.Proofs.YtloflodbcdlmpaaDoor.LawLen
namespace Go.Proofs.YtloflodbcdlmpaaDoor.Fo
open Go.RowKit Go.Proofs.YtloflodbcdlmpaaDoor.Qall Go.Proofs.YtloflodbcdlmpaaDoorW.PrintWords Go.Proofs.YtloflodbcdlmpaaDoorW.PrintLast Go.Proofs.YtloflodbcdlmpaaDoorW.PrintMore
set_option linter.unusedSimpArgs false
set_option linter.unusedVariables false
theorem wrap_of {i : Int} (h0 : -9223372036854775808 ≤ i) (h1 : i ≤ 9223372036854775807) : wrap64 i = i := by
  unfold wrap64
  omega
/-- The counts of kids. -/
def K (f : List S60) : List Int := f.map (·.f3)
theorem K_length (f : List S60) : (K f).length = f.length := List.length_map ..
/-- The places behind the extents; z: there is none. -/
def absZ (z : Int) : List (Option Nat) → Nat → List Int
  | [], _ => []
  | o :: t, i => (match o with | none => z | some m => ((i + m : Nat) : Int)) :: absZ z t (i + 1)
theorem absZ_length (z : Int) (es : List (Option Nat)) (i : Nat) : (absZ z es i).length = es.length := by
  induction es generalizing i with
  | nil => rfl
  | cons o t ih => simp [absZ, ih]
def val (z : Int) (i : Nat) : Option Nat → Int
  | none => z
  | some m => ((i + m : Nat) : Int)
theorem absZ_get (z : Int) (es : List (Option Nat)) (i j : Nat) (h : j < es.length) : (absZ z es i).getD j 0 = val z (i + j) (hd (es.drop j)) := by
  induction es generalizing i j with
  | nil => simp at h
  | cons o t ih =>
    cases j with
    | zero => cases o <;> simp [absZ, val, hd]
    | succ j =>
      have := ih (i + 1) j (by simpa using h)
      simp only [absZ, List.getD_cons_succ, List.drop_succ_cons]
      rw [this, show i + 1 + j = i + (j + 1) by omega]
theorem rd_f3 (f : List S60) (j : Nat) (h : j < f.length) : (rd_T60 f (j : Int)).f3 = (K f)[j]'(by rw [K_length]; exact h) := by
  unfold rd_T60 K
  rw [Int.toNat_natCast, List.getD_eq_getElem?_getD, List.getElem?_eq_getElem h]
  simp
theorem ex_at (c : List Int) (j : Nat) (h : j < c.length) : (ex c).drop j = (if c[j] < 0 then none else (jump c[j].toNat ((ex c).drop (j + 1))).map (· + 1)) :: (ex c).drop (j + 1) := by
  rw [← ex_drop, ← ex_drop]
  have : c.drop j = c[j] :: c.drop (j + 1) := List.drop_eq_getElem_cons h
  rw [this, ex]
/-- The list as it is filled from behind. -/
def filled (z : Int) (f : List S60) (i : Nat) : List Int := List.replicate i 0 ++ absZ z ((ex (K f)).drop i) i
theorem filled_length (z : Int) (f : List S60) (i : Nat) (h : i ≤ f.length) : (filled z f i).length = f.length := by
  unfold filled
  rw [List.length_append, List.length_replicate, absZ_length, List.length_drop, ex_length, K_length]
  omega
theorem filled_get (z : Int) (f : List S60) (i j : Nat) (h : i ≤ j) (hj : j < f.length) : rd (filled z f i) (j : Int) = val z j (hd ((ex (K f)).drop j)) := by
  unfold rd filled
  have e : ∀ L : List Int, (List.replicate i 0 ++ L).getD j 0 = L.getD (j - i) 0 := fun L => by
    rw [List.getD_eq_getElem?_getD, List.getElem?_append_right (by simpa using h), List.length_replicate, ← List.getD_eq_getElem?_getD]
  rw [Int.toNat_natCast, e, absZ_get _ _ _ _ (by rw [List.length_drop, ex_length, K_length]; omega), List.drop_drop, show i + (j - i) = j by omega]
theorem filled_set (z : Int) (f : List S60) (i : Nat) (hi : i < f.length) (v : Int) (hv : v = val z i (hd ((ex (K f)).drop i))) : (filled z f (i + 1)).set ((i : Int)).toNat v = filled z f i := by
  have hK : i < (K f).length := by rw [K_length]; exact hi
  unfold filled
  rw [Int.toNat_natCast, List.replicate_succ', List.append_assoc, List.set_append_right _ _ (by simp), List.length_replicate, Nat.sub_self, List.singleton_append, List.set_cons_zero]
  rw [ex_at _ _ hK] at hv ⊢
  rw [hv]
  rfl
theorem filled_all (z : Int) (f : List S60) : filled z f f.length = List.replicate f.length 0 := by
  unfold filled
  rw [List.drop_eq_nil_of_le (by rw [ex_length, K_length]; exact Nat.le_refl _)]
  simp [absZ]
theorem filled_zero (z : Int) (f : List S60) : filled z f 0 = absZ z (ex (K f)) 0 := by simp [filled]
/-- Where the kids of node j stand, after q of them. -/
def cur (f : List S60) (j q : Nat) : Int := val (-1) (j + 1) (jump q ((ex (K f)).drop (j + 1)))
theorem hd_at (f : List S60) (j : Nat) (hj : j < f.length) (x : Int) (hx : (K f)[j]'(by rw [K_length]; exact hj) = x) : hd ((ex (K f)).drop j) = if x < 0 then none else (jump x.toNat ((ex (K f)).drop (j + 1))).map (· + 1) := by
  rw [ex_at (K f) j (by rw [K_length]; exact hj), hd, hx]
theorem ends_fin (f : List S60) (j : Nat) (hj : j < f.length) (hn : f.length ≤ 2097152) (r : List Int) (hr : ∃ k, forest_ends.l0 k f (filled (-1) f j) ((j : Int) - 1) = some r) (q v : Int) (hv : v = val (-1) j (hd ((ex (K f)).drop j))) :
    ∃ k, forest_ends.j4 k f (filled (-1) f (j + 1)) (j : Int) v q false = some r := by
  obtain ⟨k, hk⟩ := hr
  refine ⟨k + 1, ?_⟩
  rw [forest_ends.j4, if_neg (by simp), if_pos (by omega), if_pos (by rw [filled_length _ _ _ (by omega)]; omega), filled_set _ _ _ hj _ hv, wrap_of (by omega) (by omega)]
  exact hk
theorem ends_l1 (f : List S60) (hn : f.length ≤ 2097152) (j : Nat) (hj : j < f.length) (r : List Int) (hr : ∃ k, forest_ends.l0 k f (filled (-1) f j) ((j : Int) - 1) = some r) (x : Nat) (hx : (K f)[j]'(by rw [K_length]; exact hj) = (x : Int)) (hxn : x ≤ f.length) :
    ∀ d q, q + d = x → ∃ k, forest_ends.l1 k f (filled (-1) f (j + 1)) (j : Int) (cur f j q) (q : Int) = some r
  | d, q, hq => by
    have hel : ((ex (K f)).drop (j + 1)).length = f.length - (j + 1) := by rw [List.length_drop, ex_length, K_length]
    have hh := hd_at f j hj (x : Int) hx
    rw [if_neg (by omega), Int.toNat_natCast] at hh
    have hstart : ∀ k, forest_ends.l1 (k + 1) f (filled (-1) f (j + 1)) (j : Int) (cur f j q) (q : Int) = if (q : Int) < (x : Int) then (forest_ends.j4 k f (filled (-1) f (j + 1)) (j : Int) (cur f j q) (q : Int) (decide (cur f j q ≥ 0))) else (forest_ends.j4 k f (filled (-1) f (j + 1)) (j : Int) (cur f j q) (q : Int) false) := fun k => by
      rw [forest_ends.l1, if_pos (by omega), if_pos (by omega), rd_f3 f j hj, hx]
    cases hjq : jump q ((ex (K f)).drop (j + 1)) with
    | none =>
      have hc : cur f j q = -1 := by unfold cur; rw [hjq]; rfl
      obtain ⟨k, hk⟩ := ends_fin f j hj hn r hr (q : Int) (-1) (by rw [hh, jump_none_of_lt hjq (show q ≤ x by omega)]; rfl)
      refine ⟨k + 1, ?_⟩
      rw [hstart, hc]
      split <;> exact hk
    | some m =>
      have hm := jump_bounds q (ex_wf (K f) |>.drop (j + 1)) hjq
      have hc : cur f j q = ((j + 1 + m : Nat) : Int) := by unfold cur; rw [hjq]; rfl
      cases d with
      | zero =>
        obtain rfl : q = x := by omega
        obtain ⟨k, hk⟩ := ends_fin f j hj hn r hr (q : Int) ((j + 1 + m : Nat) : Int) (by rw [hh, hjq]; simp [val]; omega)
        refine ⟨k + 1, ?_⟩
        rw [hstart, if_neg (by omega), hc]
        exact hk
      | succ d =>
        obtain ⟨k, hk⟩ := ends_l1 f hn j hj r hr x hx hxn d (q + 1) (by omega)
        refine ⟨k + 2, ?_⟩
        rw [hstart, if_pos (by omega), hc, forest_ends.j4, if_pos (by simp; omega), wrap_of (by omega) (by omega)]
        have hsn := jump_snoc q ((ex (K f)).drop (j + 1))
        rw [hjq, Option.bind_some, List.drop_drop] at hsn
        by_cases hge : f.length ≤ j + 1 + m
        · rw [if_pos (by omega)]
          have e : hd ((ex (K f)).drop (j + 1 + m)) = none := by rw [List.drop_eq_nil_of_le (by rw [ex_length, K_length]; exact hge)]; rfl
          rw [e] at hsn
          have : cur f j (q + 1) = -1 := by unfold cur; rw [hsn]; rfl
          rw [this] at hk
          exact hk
        · rw [if_neg (by omega), if_pos (by omega), if_pos (by rw [filled_length _ _ _ (by omega)]; omega), filled_get _ _ _ _ (by omega) (by omega)]
          have : cur f j (q + 1) = val (-1) (j + 1 + m) (hd ((ex (K f)).drop (j + 1 + m))) := by
            unfold cur
            rw [hsn]
            cases hd ((ex (K f)).drop (j + 1 + m)) <;> simp [val]
            omega
          rw [← this]
          exact hk
theorem ends_l0 (f : List S60) (hn : f.length ≤ 2097152) : ∀ i, i ≤ f.length → ∃ k, forest_ends.l0 k f (filled (-1) f i) ((i : Int) - 1) = some (filled (-1) f 0)
  | 0, _ => ⟨1, by rw [forest_ends.l0, if_neg (by omega)]⟩
  | j + 1, hi => by
    have ih := ends_l0 f hn j (by omega)
    have hj : j < f.length := by omega
    obtain ⟨x, hx⟩ : ∃ x, (K f)[j]'(by rw [K_length]; exact hj) = x := ⟨_, rfl⟩
    have hel : ((ex (K f)).drop (j + 1)).length = f.length - (j + 1) := by rw [List.length_drop, ex_length, K_length]
    have hh := hd_at f j hj x hx
    have e1 : ((j + 1 : Nat) : Int) - 1 = (j : Int) := by omega
    by_cases h0 : x < 0
    · rw [if_pos h0] at hh
      obtain ⟨k, hk⟩ := ends_fin f j hj hn _ ih 0 (-1) (by rw [hh]; rfl)
      refine ⟨k + 4, ?_⟩
      rw [e1, forest_ends.l0, if_pos (by omega), if_pos (by omega), if_pos (by omega), rd_f3 f j hj, hx, if_pos h0, forest_ends.j1, if_pos rfl, forest_ends.j2, forest_ends.l1, if_pos (by omega), if_pos (by omega), rd_f3 f j hj, hx, if_neg (by omega)]
      exact hk
    · rw [if_neg h0] at hh
      by_cases h1 : x > (f.length : Int) - 1 - j
      · obtain ⟨k, hk⟩ := ends_fin f j hj hn _ ih 0 (-1) (by
          cases hj2 : jump x.toNat ((ex (K f)).drop (j + 1)) with
          | none => rw [hh, hj2]; rfl
          | some m =>
            have := jump_bounds _ (ex_wf (K f) |>.drop (j + 1)) hj2
            omega)
        refine ⟨k + 4, ?_⟩
        rw [e1, forest_ends.l0, if_pos (by omega), if_pos (by omega), if_pos (by omega), rd_f3 f j hj, hx, if_neg h0, wrap_of (i := (f.length : Int) - 1) (by omega) (by omega), wrap_of (i := (f.length : Int) - 1 - j) (by omega) (by omega), forest_ends.j1, if_pos (by simpa using h1), forest_ends.j2, forest_ends.l1, if_pos (by omega), if_pos (by omega), rd_f3 f j hj, hx]
        split <;> exact hk
      · obtain ⟨k, hk⟩ := ends_l1 f hn j hj _ ih x.toNat (by rw [hx]; omega) (by omega) x.toNat 0 (by omega)
        have hc : cur f j 0 = (j : Int) + 1 := by simp [cur, jump, val]
        rw [hc] at hk
        refine ⟨k + 3, ?_⟩
        rw [e1, forest_ends.l0, if_pos (by omega), if_pos (by omega), if_pos (by omega), rd_f3 f j hj, hx, if_neg h0, wrap_of (i := (f.length : Int) - 1) (by omega) (by omega), wrap_of (i := (f.length : Int) - 1 - j) (by omega) (by omega), wrap_of (i := (j : Int) + 1) (by omega) (by omega), forest_ends.j1, if_neg (by simpa using h1), forest_ends.j2]
        exact hk
theorem ends_ev (f : List S60) (hn : f.length ≤ 2097152) : Ev (fun k => forest_ends.f k f) (absZ (-1) (ex (K f)) 0) := by
  obtain ⟨k, hk⟩ := ends_l0 f hn f.length (Nat.le_refl _)
  refine Ev.of (fun k => forest_ends.mono f k) (k := k) ?_
  rw [filled_zero] at hk
  unfold forest_ends.f
  rw [if_pos (by omega), if_pos (by omega), Int.toNat_natCast, wrap_of (by omega) (by omega), ← filled_all (-1) f]
  exact hk
end Go.Proofs.YtloflodbcdlmpaaDoor.Fo
namespace Go.Proofs.YtloflodbcdlmpaaDoor.Fo
open Go.RowKit Go.Proofs.YtloflodbcdlmpaaDoor.Qall Go.Proofs.YtloflodbcdlmpaaDoorW.PrintWords Go.Proofs.YtloflodbcdlmpaaDoorW.PrintLast Go.Proofs.YtloflodbcdlmpaaDoorW.PrintMore
set_option linter.unusedSimpArgs false
set_option linter.unusedVariables false
abbrev Op := S142
/-- The open nodes' missing kids, the innermost last. -/
def Rel (opn : List Op) (st : List Nat) : Prop := opn.map (·.f1) = st.reverse.map (fun n : Nat => (n : Int))
theorem Rel.length {opn : List Op} {st : List Nat} (h : Rel opn st) : opn.length = st.length := by
  have := congrArg List.length h
  simpa using this
theorem Rel.nil {opn : List Op} (h : Rel opn []) : opn = [] := List.eq_nil_of_length_eq_zero h.length
theorem Rel.inv {opn : List Op} {l : Nat} {st : List Nat} (h : Rel opn (l :: st)) : ∃ o x, opn = o ++ [x] ∧ x.f1 = (l : Int) ∧ Rel o st := by
  rcases List.eq_nil_or_concat opn with rfl | ⟨o, x, rfl⟩
  · have := h.length; simp at this
  · unfold Rel at h
    rw [List.concat_eq_append, List.map_append, List.reverse_cons, List.map_append] at h
    obtain ⟨h1, h2⟩ := List.append_inj' h rfl
    exact ⟨o, x, List.concat_eq_append, by simpa using h2, h1⟩
theorem Rel.push {o : List Op} {st : List Nat} (h : Rel o st) (x : Op) (l : Nat) (hx : x.f1 = (l : Int)) : Rel (o ++ [x]) (l :: st) := by
  unfold Rel at *
  rw [List.map_append, List.reverse_cons, List.map_append, h]
  simp [hx]
theorem rd_last (o : List Op) (x : Op) : rd_T142 (o ++ [x]) (o.length : Int) = x := by
  unfold rd_T142
  rw [Int.toNat_natCast, List.getD_eq_getElem?_getD, List.getElem?_append_right (Nat.le_refl _)]
  simp
def fin (lv : List Int) (i : Nat) (st : List Nat) (c : List Int) : List Int × Bool := match mach st c with
  | none => ([], false)
  | some ls => (lv.take i ++ ls.map (fun n : Nat => (n : Int)), true)
theorem levels_l2 (lv : List Int) (opn : List Op) (ho : opn.length ≤ 2097152) : ∀ d q, q + d = opn.length → ∃ k, dowelref12_Levels.l2 k lv opn (q : Int) = some (if (opn.drop q).all (fun x => decide (x.f1 ≤ 0)) then (lv, true) else ([], false))
  | 0, q, hq => ⟨1, by rw [dowelref12_Levels.l2, if_neg (by omega), List.drop_eq_nil_of_le (by omega)]; simp⟩
  | d + 1, q, hq => by
    have hlt : q < opn.length := by omega
    have hr : (rd_T142 opn (q : Int)) = opn[q] := by
      unfold rd_T142
      rw [Int.toNat_natCast, List.getD_eq_getElem?_getD, List.getElem?_eq_getElem hlt]
      rfl
    rw [List.drop_eq_getElem_cons hlt, List.all_cons]
    by_cases h : opn[q].f1 > 0
    · refine ⟨1, ?_⟩
      rw [dowelref12_Levels.l2, if_pos (by omega), if_pos (by omega), hr, if_pos h, if_neg (by simp; omega)]
    · obtain ⟨k, hk⟩ := levels_l2 lv opn ho d (q + 1) (by omega)
      refine ⟨k + 1, ?_⟩
      rw [dowelref12_Levels.l2, if_pos (by omega), if_pos (by omega), hr, if_neg h, wrap_of (by omega) (by omega), decide_eq_true (by omega), Bool.true_and]
      exact hk
theorem rel_all (opn : List Op) (st : List Nat) (h : Rel opn st) : opn.all (fun x => decide (x.f1 ≤ 0)) = st.all (· == 0) := by
  have e : opn.all (fun x => decide (x.f1 ≤ 0)) = (opn.map (·.f1)).all (fun z => decide (z ≤ 0)) := by rw [List.all_map]; rfl
  rw [e, h, List.all_map, List.all_reverse]
  congr 1
  funext n
  cases n with
  | zero => rfl
  | succ n => simp
theorem set_take (lv : List Int) (i : Nat) (v : Int) (h : i < lv.length) : (lv.set i v).take (i + 1) = lv.take i ++ [v] := by
  rw [List.take_succ_eq_append_getElem (by simpa using h)]
  rw [List.take_set_of_le (Nat.le_refl _)]
  simp
theorem levels_push (f : List S60) (hn : f.length ≤ 2097152) (i : Nat) (hi : i < f.length) (x : Int) (hx : (K f)[i]'(by rw [K_length]; exact hi) = x) (h0 : 0 ≤ x) (lv : List Int) (hlv : lv.length = f.length) (o : List Op) (st st2 : List Nat) (ho : Rel o st2) (hol : o.length = (pop st).length) (hd2 : st2 = dec (pop st)) (hL : o.length ≤ i)
    (ih : ∃ k, dowelref12_Levels.l0 k f (lv.set i (o.length : Int)) (o ++ [⟨(i : Int), x, 0⟩]) ((i + 1 : Nat) : Int) = some (fin (lv.set i (o.length : Int)) (i + 1) (x.toNat :: st2) ((K f).drop (i + 1)))) :
    ∃ k, dowelref12_Levels.l0 k f (lv.set i (o.length : Int)) (o ++ [⟨(i : Int), x, 0⟩]) (wrap64 ((i : Int) + 1)) = some (fin lv i st ((K f).drop i)) := by
  obtain ⟨k, hk⟩ := ih
  refine ⟨k, ?_⟩
  rw [wrap_of (by omega) (by omega), show (i : Int) + 1 = ((i + 1 : Nat) : Int) by omega, hk]
  have hd : (K f).drop i = x :: (K f).drop (i + 1) := by rw [← hx]; exact List.drop_eq_getElem_cons _
  unfold fin
  rw [hd, mach, if_neg (by omega), ← hd2]
  cases mach (x.toNat :: st2) ((K f).drop (i + 1)) with
  | none => rfl
  | some ls =>
    simp only [Option.map_some, List.map_cons]
    rw [set_take _ _ _ (by omega), hol]
    simp
theorem levels_l0 (f : List S60) (hn : f.length ≤ 2097152) (hb : ∀ c ∈ f, c.f3 ≤ 9223372036854775807) : ∀ d i, i + d = f.length → ∀ (lv : List Int) (opn : List Op) (st : List Nat), lv.length = f.length → Rel opn st → st.length ≤ i → (∀ l ∈ st, (l : Int) ≤ 9223372036854775807) →
    ∃ k, dowelref12_Levels.l0 k f lv opn (i : Int) = some (fin lv i st ((K f).drop i))
  | 0, i, hd, lv, opn, st, hlv, hR, hst, hbs => by
    have hl := hR.length
    obtain ⟨k, hk⟩ := levels_l2 lv opn (by omega) opn.length 0 (by omega)
    refine ⟨k + 1, ?_⟩
    rw [dowelref12_Levels.l0, if_neg (by omega)]
    rw [List.drop_zero, rel_all opn st hR] at hk
    rw [show ((0 : Nat) : Int) = 0 from rfl] at hk
    rw [hk, List.drop_eq_nil_of_le (by rw [K_length]; omega)]
    unfold fin
    rw [mach]
    split
    · simp; rw [List.take_of_length_le (by omega)]
    · rfl
  | d + 1, i, hd, lv, opn, st, hlv, hR, hst, hbs => by
    have hi : i < f.length := by omega
    obtain ⟨x, hx⟩ : ∃ x, (K f)[i]'(by rw [K_length]; exact hi) = x := ⟨_, rfl⟩
    have hxb : x ≤ 9223372036854775807 := by rw [← hx]; simp only [K, List.getElem_map]; exact hb _ (List.getElem_mem hi)
    have hdr : (K f).drop i = x :: (K f).drop (i + 1) := by rw [← hx]; exact List.drop_eq_getElem_cons _
    by_cases h0 : x < 0
    · refine ⟨1, ?_⟩
      rw [dowelref12_Levels.l0, if_pos (by omega), if_pos (by omega), rd_f3 f i hi, hx, if_pos h0, hdr]
      unfold fin
      rw [mach, if_pos h0]
    · suffices hl1 : ∃ k, dowelref12_Levels.l1 k f lv opn (i : Int) = some (fin lv i st ((K f).drop i)) by
        obtain ⟨k, hk⟩ := hl1
        refine ⟨k + 1, ?_⟩
        rw [dowelref12_Levels.l0, if_pos (by omega), if_pos (by omega), rd_f3 f i hi, hx, if_neg h0]
        exact hk
      have hid : i + 1 + d = f.length := by omega
      clear hd
      induction st generalizing opn with
      | nil =>
        obtain rfl := hR.nil
        obtain ⟨k, hk⟩ := levels_push f hn i hi x hx (by omega) lv hlv [] [] [] hR rfl rfl (by simp) (levels_l0 f hn hb d (i + 1) hid _ _ _ (by simp [hlv]) (hR.push _ x.toNat (by show x = ((x.toNat : Nat) : Int); omega)) (by simp) (fun l hl => by simp at hl; omega))
        refine ⟨k + 1, ?_⟩
        rw [dowelref12_Levels.l1, if_neg (by simp), if_pos (by omega), if_pos (by omega), if_pos (by omega), if_pos (by simp), rd_f3 f i hi, hx, Int.toNat_natCast]
        exact hk
      | cons l st ih =>
        obtain ⟨o, y, rfl, hy, hRo⟩ := hR.inv
        have hol := hRo.length
        have hlast : wrap64 (((o ++ [y]).length : Nat) - 1 : Int) = (o.length : Int) := by rw [List.length_append]; simp only [List.length_singleton]; rw [wrap_of (by simp at hst; omega) (by simp at hst; omega)]; omega
        cases l with
        | zero =>
          obtain ⟨k, hk⟩ := ih o hRo (by simp at hst; omega) (fun l hl => hbs l (List.mem_cons_of_mem _ hl))
          refine ⟨k + 1, ?_⟩
          rw [dowelref12_Levels.l1, if_pos (by rw [List.length_append]; simp only [List.length_singleton]; omega), hlast, if_pos (by omega), if_pos (by rw [List.length_append]; simp only [List.length_singleton]; omega), rd_last, hy, if_pos (by rfl), if_pos (by rw [List.length_append]; simp only [List.length_singleton]; omega), Int.toNat_natCast, List.take_left]
          rw [hk, hdr]
          unfold fin
          rw [mach, mach, pop]
        | succ l =>
          have hlb := hbs (l + 1) (List.mem_cons_self ..)
          have hset : (o ++ [y]).set o.length (⟨y.f0, (l : Int), y.f2⟩ : Op) = o ++ [⟨y.f0, (l : Int), y.f2⟩] := by rw [List.set_append_right _ _ (Nat.le_refl _)]; simp
          obtain ⟨k, hk⟩ := levels_push f hn i hi x hx (by omega) lv hlv (o ++ [⟨y.f0, (l : Int), y.f2⟩]) ((l + 1) :: st) (l :: st) (hRo.push _ l rfl) (by simp [pop, hol]) rfl (by simp at hst ⊢; omega) (levels_l0 f hn hb d (i + 1) hid _ _ _ (by simp [hlv]) ((hRo.push _ l rfl).push _ x.toNat (by show x = ((x.toNat : Nat) : Int); omega)) (by simp at hst ⊢; omega) (fun m hm => by
            rcases List.mem_cons.1 hm with rfl | hm
            · omega
            · rcases List.mem_cons.1 hm with rfl | hm
              · omega
              · exact hbs m (List.mem_cons_of_mem _ hm)))
          refine ⟨k + 1, ?_⟩
          rw [dowelref12_Levels.l1, if_pos (by rw [List.length_append]; simp only [List.length_singleton]; omega), hlast, if_pos (by omega), if_pos (by rw [List.length_append]; simp only [List.length_singleton]; omega), rd_last, hy, if_neg (by omega), Int.toNat_natCast, wrap_of (i := ((l + 1 : Nat) : Int) - 1) (by omega) (by omega), show ((l + 1 : Nat) : Int) - 1 = (l : Int) by omega, hset, Option.bind_some, if_pos (by omega), if_pos (by omega), if_pos (by omega), if_pos (by simp at hst ⊢; omega), rd_f3 f i hi, hx]
          have e : (o ++ [y]).length = (o ++ [(⟨y.f0, (l : Int), y.f2⟩ : Op)]).length := by simp
          rw [e]
          exact hk
theorem levels_ev (f : List S60) (hn : f.length ≤ 2097152) (hb : ∀ c ∈ f, c.f3 ≤ 9223372036854775807) : Ev (fun k => dowelref12_Levels.f k f) (fin [] 0 [] (K f)) := by
  obtain ⟨k, hk⟩ := levels_l0 f hn hb f.length 0 (by omega) (List.replicate f.length 0) [] [] (by simp) rfl (by simp) (fun l hl => by simp at hl)
  refine Ev.of (fun k => dowelref12_Levels.mono f k) (k := k) ?_
  unfold dowelref12_Levels.f
  rw [if_pos (by omega), if_pos (by omega), Int.toNat_natCast]
  have e : fin (List.replicate f.length 0) 0 [] ((K f).drop 0) = fin [] 0 [] (K f) := by unfold fin; simp
  rw [← e]
  exact hk
end Go.Proofs.YtloflodbcdlmpaaDoor.Fo
namespace Go.Proofs.YtloflodbcdlmpaaDoor.Fo
open Go.RowKit Go.Proofs.YtloflodbcdlmpaaDoor.Qall Go.Proofs.YtloflodbcdlmpaaDoorW.PrintWords Go.Proofs.YtloflodbcdlmpaaDoorW.PrintLast Go.Proofs.YtloflodbcdlmpaaDoorW.PrintMore
set_option linter.unusedSimpArgs false
set_option linter.unusedVariables false
/-- The roots' places, up to the end; none: one has no extent. -/
def rt : Nat → List (Option Nat) → Nat → Option (List Int)
  | _, [], _ => some []
  | 0, _ :: _, _ => none
  | _ + 1, none :: _, _ => none
  | f + 1, some m :: t, i => (rt f ((some m :: t).drop m) (i + m)).map ((i : Int) :: ·)
theorem rt_iff : ∀ (f : Nat) (es : List (Option Nat)) (i : Nat), WF es → es.length ≤ f → ((rt f es i).isSome = true ↔ Rts es)
  | f, [], i, _, _ => by simp [rt, Rts.nil]
  | 0, _ :: _, i, _, h => by simp at h
  | f + 1, none :: t, i, hw, h => by
    simp only [rt, Option.isSome_none, Bool.false_eq_true, false_iff]
    intro hr
    obtain ⟨m, e, _⟩ := hr.inv
    cases e
  | f + 1, some m :: t, i, hw, h => by
    have hm := hw.1 m rfl
    rw [rt, Option.isSome_map, rts_cons, rt_iff f _ _ (hw.drop m) (by simp only [List.length_drop, List.length_cons] at h ⊢; omega)]
theorem rt_len : ∀ (f : Nat) (es : List (Option Nat)) (i : Nat) (l : List Int), WF es → rt f es i = some l → l.length ≤ es.length
  | f, [], i, l, _, h => by cases f <;> simp [rt] at h <;> simp [← h]
  | 0, _ :: _, i, l, _, h => by simp [rt] at h
  | f + 1, none :: t, i, l, _, h => by simp [rt] at h
  | f + 1, some m :: t, i, l, hw, h => by
    have hm := hw.1 m rfl
    rw [rt, Option.map_eq_some_iff] at h
    obtain ⟨l', h1, rfl⟩ := h
    have := rt_len f _ _ l' (hw.drop m) h1
    simp only [List.length_drop, List.length_cons] at this ⊢
    omega
theorem drop_hd (E : List (Option Nat)) (i : Nat) (h : i < E.length) : E.drop i = hd (E.drop i) :: E.drop (i + 1) := by
  rw [List.drop_eq_getElem_cons h]; rfl
theorem abs_rd (z : Int) (E : List (Option Nat)) (i : Nat) (h : i < E.length) : rd (absZ z E 0) (i : Int) = val z i (hd (E.drop i)) := by
  unfold rd
  rw [Int.toNat_natCast, absZ_get z E 0 i h, Nat.zero_add]
theorem roots_l0 (E : List (Option Nat)) (hw : WF E) (hn : E.length ≤ 2097152) : ∀ (fu i : Nat) (acc : List Int), E.length ≤ i + fu → i ≤ E.length → acc.length ≤ i →
    ∃ k, forest_roots.l0 k (absZ (-1) E 0) acc (i : Int) = some (match rt fu (E.drop i) i with | none => ([], false) | some l => (acc ++ l, true))
  | fu, i, acc, hf, hi, ha => by
    have hal := absZ_length (-1) E 0
    by_cases hlt : i < E.length
    · cases fu with
      | zero => omega
      | succ fu =>
        have hd0 := drop_hd E i hlt
        have hr := abs_rd (-1) E i hlt
        cases hh : hd (E.drop i) with
        | none =>
          rw [hh] at hd0 hr
          refine ⟨1, ?_⟩
          rw [forest_roots.l0, if_pos (by omega), if_pos (by omega), hr, if_pos (by simp [val]), hd0, rt]
        | some m =>
          have hm := (hw.drop i).hd hh
          rw [List.length_drop] at hm
          rw [hh] at hd0 hr
          obtain ⟨k, hk⟩ := roots_l0 E hw hn fu (i + m) (acc ++ [(i : Int)]) (by omega) (by omega) (by simp; omega)
          refine ⟨k + 1, ?_⟩
          rw [forest_roots.l0, if_pos (by omega), if_pos (by omega), hr, if_neg (by simp [val]; omega), if_pos (by omega)]
          show forest_roots.l0 k (absZ (-1) E 0) (acc ++ [(i : Int)]) ((i + m : Nat) : Int) = _
          rw [hk]
          have e : (E.drop i).drop m = E.drop (i + m) := List.drop_drop ..
          rw [hd0] at e
          rw [hd0, rt, e]
          cases rt fu (E.drop (i + m)) (i + m) with
          | none => rfl
          | some l => simp
    · refine ⟨1, ?_⟩
      rw [forest_roots.l0, if_neg (by omega), List.drop_eq_nil_of_le (by omega)]
      cases fu <;> simp [rt]
  termination_by fu => fu
theorem roots_ev (f : List S60) (hn : f.length ≤ 2097152) : Ev (fun k => forest_roots.f k (absZ (-1) (ex (K f)) 0)) (match rt f.length (ex (K f)) 0 with | none => ([], false) | some l => (l, true)) := by
  have hl : (ex (K f)).length = f.length := by rw [ex_length, K_length]
  obtain ⟨k, hk⟩ := roots_l0 (ex (K f)) (ex_wf _) (by omega) f.length 0 [] (by omega) (by omega) (by simp)
  exact Ev.of (fun k => forest_roots.mono _ k) (k := k) hk
/-- The kids' places. -/
def kd : Nat → List (Option Nat) → Nat → List Int
  | 0, _, _ => []
  | k + 1, es, i => (i : Int) :: kd k (es.drop ((hd es).getD 0)) (i + (hd es).getD 0)
theorem kd_length : ∀ k es i, (kd k es i).length = k
  | 0, _, _ => rfl
  | k + 1, es, i => by simp [kd, kd_length k]
/-- What Kids tells. -/
def kidsAns (f : List S60) (i : Int) : List Int :=
  if i = -1 then (rt f.length (ex (K f)) 0).getD [] else if h : 0 ≤ i ∧ i < (f.length : Int) then
    (match hd ((ex (K f)).drop i.toNat) with | none => [] | some _ => kd ((K f)[i.toNat]'(by rw [K_length]; omega)).toNat ((ex (K f)).drop (i.toNat + 1)) (i.toNat + 1)) else []
theorem kids_some (f : List S60) (i : Nat) (hi : i < f.length) (m : Nat) (h : hd ((ex (K f)).drop i) = some m) : ∃ x : Nat, (K f)[i]'(by rw [K_length]; exact hi) = (x : Int) ∧ jump x ((ex (K f)).drop (i + 1)) = some (m - 1) ∧ 1 ≤ m ∧ x ≤ f.length ∧ i + m ≤ f.length := by
  have hh := hd_at f i hi _ rfl
  have hm := (ex_wf (K f) |>.drop i).hd h
  have hl : (ex (K f)).length = f.length := by rw [ex_length, K_length]
  rw [List.length_drop] at hm
  rw [h] at hh
  split at hh
  · cases hh
  · obtain ⟨M, e1, e2⟩ := Option.map_eq_some_iff.1 hh.symm
    have hb := jump_bounds _ (ex_wf (K f) |>.drop (i + 1)) e1
    rw [List.length_drop] at hb
    refine ⟨_, (Int.toNat_of_nonneg (by omega)).symm, by rw [e1]; congr 1; omega, hm.1, by omega, by omega⟩
theorem levels_ok (f : List S60) : (fin [] 0 [] (K f)).2 = (rt f.length (ex (K f)) 0).isSome := by
  have h1 := mach_iff (K f) []
  have h2 := rt_iff f.length (ex (K f)) 0 (ex_wf _) (by rw [ex_length, K_length]; exact Nat.le_refl _)
  unfold fin
  have h3 : (mach [] (K f)).isSome = true ↔ (rt f.length (ex (K f)) 0).isSome = true := by rw [h1, h2]; exact Iff.rfl
  cases e : mach [] (K f) with
  | none => rw [e] at h3; simp at h3; simp [h3]
  | some ls => rw [e] at h3; simp only [Option.isSome_some, true_iff] at h3; rw [h3]
end Go.Proofs.YtloflodbcdlmpaaDoor.Fo
namespace Go.Proofs.YtloflodbcdlmpaaDoor.Fo
open Go.RowKit Go.Proofs.YtloflodbcdlmpaaDoor.Qall Go.Proofs.YtloflodbcdlmpaaDoorW.PrintWords Go.Proofs.YtloflodbcdlmpaaDoorW.PrintLast Go.Proofs.YtloflodbcdlmpaaDoorW.PrintMore
set_option linter.unusedSimpArgs false
set_option linter.unusedVariables false
def toI (l : List Nat) : List Int := l.map (fun n : Nat => (n : Int))
theorem toI_length (l : List Nat) : (toI l).length = l.length := List.length_map ..
theorem flev_l0 (es : List Nat) (f : List S60) (hn : es.length ≤ 2097152) (hb : ∀ e ∈ es, e ≤ 2097152) : ∀ d i, i + d = es.length → ∀ (lv : List Int) (st : List Nat), lv.length = es.length → st.length ≤ i →
    ∃ k, forest_levels.l0 k (toI es) lv (toI st.reverse) (es.length : Int) (i : Int) = some (lv.take i ++ toI (lev2 st i (es.drop i)))
  | 0, i, hd, lv, st, hlv, hst => by
    refine ⟨1, ?_⟩
    rw [forest_levels.l0, if_neg (by omega), List.drop_eq_nil_of_le (by omega), lev2, List.take_of_length_le (by omega)]
    simp [toI]
  | d + 1, i, hd, lv, st, hlv, hst => by
    have hi : i < es.length := by omega
    have hte : (toI es).length = es.length := toI_length es
    have hrd : rd (toI es) (i : Int) = ((es[i] : Nat) : Int) := by
      unfold rd toI
      rw [Int.toNat_natCast, List.getD_eq_getElem?_getD, List.getElem?_map, List.getElem?_eq_getElem hi]
      rfl
    have hdr : es.drop i = es[i] :: es.drop (i + 1) := List.drop_eq_getElem_cons hi
    have fin_ : ∀ st2 : List Nat, st2.length ≤ i → st2 = st.dropWhile (· ≤ i) → ∃ k, forest_levels.l0 k (toI es) (lv.set (i : Int).toNat ((toI st2.reverse).length : Int)) (toI st2.reverse ++ [rd (toI es) (i : Int)]) (es.length : Int) (wrap64 ((i : Int) + 1)) = some (lv.take i ++ toI (lev2 st i (es.drop i))) := fun st2 h2 h3 => by
      obtain ⟨k, hk⟩ := flev_l0 es f hn hb d (i + 1) (by omega) (lv.set i (st2.length : Int)) (es[i] :: st2) (by simp [hlv]) (by simp; omega)
      refine ⟨k, ?_⟩
      rw [toI_length, List.length_reverse, Int.toNat_natCast, hrd, wrap_of (by omega) (by omega)]
      have e1 : toI st2.reverse ++ [((es[i] : Nat) : Int)] = toI (es[i] :: st2).reverse := by simp [toI]
      rw [e1, show (i : Int) + 1 = ((i + 1 : Nat) : Int) by omega, hk, set_take _ _ _ (by omega), hdr, lev2, ← h3]
      simp [toI]
    suffices hl1 : ∀ (st2 : List Nat), st2.length ≤ i → st2.dropWhile (· ≤ i) = st.dropWhile (· ≤ i) → ∃ k, forest_levels.l1 k (toI es) lv (toI st2.reverse) (i : Int) (es.length : Int) (i : Int) = some (lv.take i ++ toI (lev2 st i (es.drop i))) by
      obtain ⟨k, hk⟩ := hl1 st hst rfl
      refine ⟨k + 1, ?_⟩
      rw [forest_levels.l0, if_pos (by omega)]
      exact hk
    intro st2
    induction st2 with
    | nil =>
      intro h2 h3
      obtain ⟨k, hk⟩ := fin_ [] (by simp) h3
      refine ⟨k + 1, ?_⟩
      rw [forest_levels.l1, if_neg (by simp [toI]), if_pos (by omega), if_pos (by omega), if_pos (by omega), if_pos (by simp [toI])]
      exact hk
    | cons e st2 ih =>
      intro h2 h3
      have hL : toI (e :: st2).reverse = toI st2.reverse ++ [(e : Int)] := by simp [toI]
      have hl2 : (toI st2.reverse).length = st2.length := by rw [toI_length, List.length_reverse]
      have hlen : (toI (e :: st2).reverse).length = st2.length + 1 := by rw [toI_length, List.length_reverse]; rfl
      simp only [List.length_cons] at h2
      have hw : wrap64 (((toI (e :: st2).reverse).length : Int) - 1) = (st2.length : Int) := by rw [hlen, wrap_of (by omega) (by omega)]; omega
      have hlast : rd (toI (e :: st2).reverse) (st2.length : Int) = (e : Int) := by
        rw [hL]
        unfold rd
        rw [Int.toNat_natCast, List.getD_eq_getElem?_getD, List.getElem?_append_right (by omega), hl2]
        simp
      by_cases he : e ≤ i
      · obtain ⟨k, hk⟩ := ih (by omega) (by rw [← h3, List.dropWhile_cons_of_pos (by simpa using he)])
        refine ⟨k + 1, ?_⟩
        rw [forest_levels.l1, if_pos (by omega), hw, if_pos (by omega), if_pos (by omega), hlast, if_pos (by omega), if_pos (by omega), Int.toNat_natCast]
        have e2 : (toI (e :: st2).reverse).take st2.length = toI st2.reverse := by rw [hL, List.take_left' hl2]
        rw [e2]
        exact hk
      · obtain ⟨k, hk⟩ := fin_ (e :: st2) (by simp; omega) (by rw [← h3, List.dropWhile_cons_of_neg (by simpa using he)])
        refine ⟨k + 1, ?_⟩
        rw [forest_levels.l1, if_pos (by omega), hw, if_pos (by omega), if_pos (by omega), hlast, if_neg (by omega), if_pos (by omega), if_pos (by omega), if_pos (by omega), if_pos (by omega)]
        exact hk
theorem absE_absZ (z : Int) : ∀ (es : List (Option Nat)) (i : Nat), (∀ o ∈ es, o ≠ none) → absZ z es i = toI (absE es i)
  | [], i, _ => rfl
  | o :: t, i, h => by
    have ih := absE_absZ z t (i + 1) (fun o ho => h o (List.mem_cons_of_mem _ ho))
    cases o with
    | none => exact absurd rfl (h none (List.mem_cons_self ..))
    | some m => rw [absZ, absE, ih]; simp [toI]
theorem absE_length (es : List (Option Nat)) (i : Nat) : (absE es i).length = es.length := by
  induction es generalizing i with
  | nil => rfl
  | cons o t ih => simp [absE, ih]
/-- In a forest each node has an extent. -/
theorem Q_all : ∀ (c : List Int) (st : List Nat), Q st (ex c) → ∀ o ∈ ex c, o ≠ none
  | [], st, _, o, ho => by simp [ex] at ho
  | x :: c, st, h, o, ho => by
    have h2 := (Q_step st x c).1 h
    have ih := Q_all c _ h2.2
    have hx : ¬ x < 0 := by omega
    rw [ex] at ho
    rcases List.mem_cons.1 ho with rfl | ho
    · rw [if_neg hx]
      obtain ⟨m, e, _⟩ := h2.2
      rw [e]
      simp
    · exact ih o ho
theorem absE_le (c : List Int) : ∀ (es : List (Option Nat)) (i : Nat), WF es → ∀ e ∈ absE es i, e ≤ i + es.length
  | [], i, _, e, he => by simp [absE] at he
  | o :: t, i, hw, e, he => by
    rw [absE] at he
    rcases List.mem_cons.1 he with rfl | he
    · cases o with
      | none => simp
      | some m => have := hw.1 m rfl; simp only [Option.getD_some, List.length_cons]; omega
    · have := absE_le c t (i + 1) hw.2 e he
      simp only [List.length_cons]
      omega
theorem flev_ev (f : List S60) (hn : f.length ≤ 2097152) (ls : List Nat) (h : mach [] (K f) = some ls) : Ev (fun k => forest_levels.f k f (absZ (-1) (ex (K f)) 0)) (toI ls) := by
  have hl : (ex (K f)).length = f.length := by rw [ex_length, K_length]
  have hQ : Q [] (ex (K f)) := (mach_iff _ _).1 (by rw [h]; rfl)
  have hA := absE_absZ (-1) (ex (K f)) 0 (Q_all _ _ hQ)
  have hal : (absE (ex (K f)) 0).length = f.length := by rw [absE_length, hl]
  have hls := mach_lev2 (K f) [] 0 ls h
  obtain ⟨k, hk⟩ := flev_l0 (absE (ex (K f)) 0) f (by omega) (fun e he => by have := absE_le (K f) _ 0 (ex_wf _) e he; omega) _ 0 (Nat.zero_add _) (List.replicate f.length 0) [] (by simp [hal]) (by simp)
  refine Ev.of (fun k => forest_levels.mono f _ k) (k := k) ?_
  unfold forest_levels.f
  rw [if_pos (by omega), if_pos (by omega), Int.toNat_natCast, hA, hls]
  rw [hal] at hk
  simpa [toI, stk] using hk
theorem rt_mach (f : List S60) : (rt f.length (ex (K f)) 0).isSome = (mach [] (K f)).isSome := by
  have h1 := mach_iff (K f) []
  have h2 := rt_iff f.length (ex (K f)) 0 (ex_wf _) (by rw [ex_length, K_length]; exact Nat.le_refl _)
  rw [Bool.eq_iff_iff, h1, h2]
  exact Iff.rfl
end Go.Proofs.YtloflodbcdlmpaaDoor.Fo
