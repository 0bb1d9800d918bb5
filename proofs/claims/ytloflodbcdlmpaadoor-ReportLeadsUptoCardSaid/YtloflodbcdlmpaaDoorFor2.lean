/- Lists of nodes that are forests by their counts: extents, levels, spans: in plain terms, with no program in sight. || forest.ends and the document's Ends, as they are printed, in the plain terms of ForA. Conditions: a list of at most 2^21 nodes. || The document's Levels, as it is printed, in the plain terms of ForA. Conditions: a list of at most 2^21 nodes, whose counts of kids are Go ints. || forest.Kids and the document's Kids, as they are printed, tell one list. Conditions: a list of at most 2^21 nodes, whose counts of kids are Go ints. || forest.levels, as it is printed, tells the levels by counts. Conditions: a list of at most 2^21 nodes that is a forest by its counts. || forest.nested: what it tells, by the rooms that are open. Conditions: at most 2^21 nodes, as many ends as nodes. || Own names: the program's forest.own and the document's Own tell the same of every text. Conditions: texts of at most 2^30 bytes. || forest.Check and the document's Check tell the same of every list of nodes, over an input of any length. Conditions: a list of at most 2^20 nodes. -/
import Derived.Test.YtloflodbcdlmpaaDoorQallx2
import Derived.Test.YtloflodbcdlmpaaDoorQx42
import Derived.Test.YtloflodbcdlmpaaDoorLend2
import Derived.Deep.QuietTactic
import Derived.BigQuiet
import Derived.Deep.RegionLaw
namespace Go.Proofs.YtloflodbcdlmpaaDoor.Fo

/-- The extent of the first node. -/
def hd : List (Option Nat) → Option Nat
  | [] => none
  | o :: _ => o
/-- Over how many nodes k extents go. -/
def jump : Nat → List (Option Nat) → Option Nat
  | 0, _ => some 0
  | k + 1, es => match hd es with
    | none => none
    | some m => (jump k (es.drop m)).map (m + ·)
/-- The extents of nodes with these counts of kids. -/
def ex : List Int → List (Option Nat)
  | [] => []
  | x :: c => (if x < 0 then none else (jump x.toNat (ex c)).map (· + 1)) :: ex c
theorem ex_length (c : List Int) : (ex c).length = c.length := by
  induction c with
  | nil => rfl
  | cons x c ih => simp [ex, ih]
theorem ex_drop (c : List Int) (i : Nat) : ex (c.drop i) = (ex c).drop i := by
  induction c generalizing i with
  | nil => simp [ex]
  | cons x c ih =>
    cases i with
    | zero => rfl
    | succ i => simp only [List.drop_succ_cons, ex]; exact ih i
def WF : List (Option Nat) → Prop
  | [] => True
  | o :: t => (∀ m, o = some m → 1 ≤ m ∧ m ≤ t.length + 1) ∧ WF t
theorem WF.drop : ∀ {es : List (Option Nat)} (i : Nat), WF es → WF (es.drop i)
  | [], i, _ => by simp [WF]
  | _ :: _, 0, h => h
  | _ :: t, i + 1, h => WF.drop (es := t) i h.2
theorem WF.hd {es : List (Option Nat)} (h : WF es) {m : Nat} (e : Fo.hd es = some m) : 1 ≤ m ∧ m ≤ es.length := by
  cases es with
  | nil => simp [Fo.hd] at e
  | cons o t => exact h.1 m e
theorem jump_bounds : ∀ (k : Nat) {es : List (Option Nat)} (_ : WF es) {m : Nat} (_ : jump k es = some m), k ≤ m ∧ m ≤ es.length
  | 0, es, _, m, e => by simp [jump] at e; omega
  | k + 1, es, h, m, e => by
    unfold jump at e
    cases h1 : hd es with
    | none => rw [h1] at e; simp at e
    | some a =>
      rw [h1] at e
      simp only [Option.map_eq_some_iff] at e
      obtain ⟨b, e1, e2⟩ := e
      have := jump_bounds k (h.drop a) e1
      have ha := h.hd h1
      simp only [List.length_drop] at this
      omega
theorem ex_wf (c : List Int) : WF (ex c) := by
  induction c with
  | nil => trivial
  | cons x c ih =>
    refine ⟨fun m e => ?_, ih⟩
    split at e
    · cases e
    · simp only [Option.map_eq_some_iff] at e
      obtain ⟨a, e1, e2⟩ := e
      have := jump_bounds _ ih e1
      omega
/-- One extent more, at the end. -/
theorem jump_snoc : ∀ (k : Nat) (es : List (Option Nat)), jump (k + 1) es = (jump k es).bind fun m => (hd (es.drop m)).map (m + ·)
  | 0, es => by
    simp only [jump, List.drop_zero, Option.bind_some]
    cases hd es <;> simp
  | k + 1, es => by
    rw [jump]
    conv => rhs; rw [jump]
    cases h : hd es with
    | none => rfl
    | some m =>
      simp only []
      rw [jump_snoc k]
      cases h2 : jump k (es.drop m) with
      | none => rfl
      | some b =>
        simp only [Option.bind_some, Option.map_some, List.drop_drop]
        cases hd (es.drop (m + b)) <;> simp [Nat.add_assoc]
theorem jump_none_of_lt {k j : Nat} {es : List (Option Nat)} (h : jump k es = none) (hj : k ≤ j) : jump j es = none := by
  induction j with
  | zero => obtain rfl : k = 0 := by omega
            exact h
  | succ j ih =>
    by_cases e : k = j + 1
    · rw [← e]; exact h
    · rw [jump_snoc, ih (by omega)]; rfl
/-- The roots stand one behind the other up to the end. -/
inductive Rts : List (Option Nat) → Prop
  | nil : Rts []
  | cons {m : Nat} {t : List (Option Nat)} : Rts ((some m :: t).drop m) → Rts (some m :: t)
theorem Rts.inv {o : Option Nat} {t : List (Option Nat)} (h : Rts (o :: t)) : ∃ m, o = some m ∧ Rts ((o :: t).drop m) := by
  cases h with
  | cons h => exact ⟨_, rfl, h⟩
theorem rts_cons {m : Nat} {t : List (Option Nat)} : Rts (some m :: t) ↔ Rts ((some m :: t).drop m) :=
  ⟨fun h => by obtain ⟨_, e, h⟩ := h.inv; cases e; exact h, .cons⟩
/-- So many kids are missing of those that are open, the innermost first: the rest has them all, and is roots else. -/
def Q : List Nat → List (Option Nat) → Prop
  | [], es => Rts es
  | l :: st, es => ∃ m, jump l es = some m ∧ Q st (es.drop m)
def pop : List Nat → List Nat
  | 0 :: st => pop st
  | st => st
def dec : List Nat → List Nat
  | (l + 1) :: st => l :: st
  | st => st
/-- The levels, by the counts of those that are open. -/
def mach : List Nat → List Int → Option (List Nat)
  | st, [] => if st.all (· == 0) then some [] else none
  | st, x :: c => if x < 0 then none else (mach (x.toNat :: dec (pop st)) c).map ((pop st).length :: ·)
theorem pop_cases (st : List Nat) : pop st = [] ∨ ∃ l s, pop st = (l + 1) :: s := by
  induction st with
  | nil => exact .inl rfl
  | cons a st ih =>
    cases a with
    | zero => exact ih
    | succ a => exact .inr ⟨a, st, rfl⟩
theorem Q_pop (st : List Nat) (es : List (Option Nat)) : Q (pop st) es ↔ Q st es := by
  induction st with
  | nil => exact Iff.rfl
  | cons a st ih =>
    cases a with
    | zero => rw [pop, ih]; simp [Q, jump]
    | succ a => exact Iff.rfl
theorem Q_nil (st : List Nat) : Q st [] ↔ st.all (· == 0) = true := by
  induction st with
  | nil => simp [Q, Rts.nil]
  | cons a st ih =>
    cases a with
    | zero => simp [Q, jump, ih]
    | succ a => simp [Q, jump, hd]
theorem hd_ex (x : Int) (c : List Int) : hd (ex (x :: c)) = if x < 0 then none else (jump x.toNat (ex c)).map (· + 1) := rfl
theorem Q_open (x : Int) (c : List Int) : Q [] (ex (x :: c)) ↔ 0 ≤ x ∧ Q [x.toNat] (ex c) := by
  simp only [Q, ex]
  by_cases hx : x < 0
  · rw [if_pos hx]
    constructor
    · intro h; obtain ⟨m, e, _⟩ := h.inv; cases e
    · rintro ⟨h, _⟩; omega
  · rw [if_neg hx]
    cases h : jump x.toNat (ex c) with
    | none =>
      constructor
      · intro h; obtain ⟨m, e, _⟩ := h.inv; cases e
      · rintro ⟨_, m, e, _⟩; cases e
    | some m =>
      simp only [Option.map_some, rts_cons, List.drop_succ_cons]
      constructor
      · intro h; exact ⟨by omega, m, rfl, h⟩
      · rintro ⟨_, m', e, h⟩; cases e; exact h
theorem Q_kid (l : Nat) (st : List Nat) (x : Int) (c : List Int) : Q ((l + 1) :: st) (ex (x :: c)) ↔ 0 ≤ x ∧ Q (x.toNat :: l :: st) (ex c) := by
  simp only [Q, jump, hd_ex]
  by_cases hx : x < 0
  · rw [if_pos hx]
    constructor
    · rintro ⟨m, e, _⟩; cases e
    · rintro ⟨h, _⟩; omega
  · rw [if_neg hx]
    cases h : jump x.toNat (ex c) with
    | none =>
      constructor
      · rintro ⟨m, e, _⟩; cases e
      · rintro ⟨_, m, e, _⟩; cases e
    | some m =>
      simp only [Option.map_some, ex, List.drop_succ_cons]
      constructor
      · rintro ⟨a, e, hq⟩
        rw [Option.map_eq_some_iff] at e
        obtain ⟨b, e1, rfl⟩ := e
        refine ⟨by omega, m, rfl, b, e1, ?_⟩
        rw [List.drop_drop]
        rw [show m + 1 + b = (m + b) + 1 from by omega, List.drop_succ_cons] at hq
        exact hq
      · rintro ⟨_, m', e, b, e1, hq⟩
        cases e
        refine ⟨m + 1 + b, by rw [e1]; rfl, ?_⟩
        rw [show m + 1 + b = (m + b) + 1 from by omega, List.drop_succ_cons]
        rw [List.drop_drop] at hq
        exact hq
theorem Q_step (st : List Nat) (x : Int) (c : List Int) : Q st (ex (x :: c)) ↔ 0 ≤ x ∧ Q (x.toNat :: dec (pop st)) (ex c) := by
  rw [← Q_pop]
  rcases pop_cases st with e | ⟨l, s, e⟩
  · rw [e]; exact Q_open x c
  · rw [e]; exact Q_kid l s x c
/-- THE COUNTS COME OUT JUST WHERE THE EXTENTS DO. -/
theorem mach_iff : ∀ (c : List Int) (st : List Nat), (mach st c).isSome = true ↔ Q st (ex c)
  | [], st => by
    rw [ex, Q_nil, mach]
    by_cases h : st.all (· == 0) = true
    · rw [if_pos h, h]; simp
    · rw [if_neg h]; simp only [Option.isSome_none, Bool.false_eq_true, false_iff]; exact h
  | x :: c, st => by
    rw [Q_step, ← mach_iff c, mach]
    split
    · simp; omega
    · simp; omega
/-- The places at which the open ones' extents end. -/
def stk : List Nat → List (Option Nat) → Nat → List Nat
  | [], _, _ => []
  | l :: st, es, i => (i + (jump l es).getD 0) :: stk st (es.drop ((jump l es).getD 0)) (i + (jump l es).getD 0)
def absE : List (Option Nat) → Nat → List Nat
  | [], _ => []
  | o :: t, i => (i + o.getD 0) :: absE t (i + 1)
/-- The levels, by the ends of the extents that are open. -/
def lev2 : List Nat → Nat → List Nat → List Nat
  | _, _, [] => []
  | st, i, e :: es => (st.dropWhile (· ≤ i)).length :: lev2 (e :: st.dropWhile (· ≤ i)) (i + 1) es
theorem stk_pop (st : List Nat) (es : List (Option Nat)) (i : Nat) (hw : WF es) (h : Q st es) : (stk st es i).dropWhile (· ≤ i) = stk (pop st) es i := by
  induction st with
  | nil => rfl
  | cons a st ih =>
    obtain ⟨m, e, hq⟩ := h
    cases a with
    | zero =>
      obtain rfl : 0 = m := by simpa [jump] using e
      simp only [stk, jump, Option.getD_some, Nat.add_zero, List.drop_zero, pop] at hq ⊢
      rw [List.dropWhile_cons_of_pos (by simp)]
      exact ih hq
    | succ a =>
      have := jump_bounds _ hw e
      simp only [stk, e, Option.getD_some, pop]
      rw [List.dropWhile_cons_of_neg (by simp; omega)]
theorem stk_length (st : List Nat) (es : List (Option Nat)) (i : Nat) : (stk st es i).length = st.length := by
  induction st generalizing es i with
  | nil => rfl
  | cons a st ih => simp [stk, ih]
theorem stk_step (st : List Nat) (x : Int) (c : List Int) (i : Nat) (h : Q st (ex (x :: c))) :
    stk (x.toNat :: dec (pop st)) (ex c) (i + 1) = (i + (hd (ex (x :: c))).getD 0) :: stk (pop st) (ex (x :: c)) i := by
  rw [← Q_pop] at h
  rcases pop_cases st with e | ⟨l, s, e⟩
  · rw [e] at h ⊢
    obtain ⟨h0, m, e1, _⟩ := (Q_open x c).1 h
    simp only [dec, stk, e1, hd_ex, Option.getD_some, if_neg (show ¬ x < 0 by omega), Option.map_some]
    rw [show i + 1 + m = i + (m + 1) by omega]
  · rw [e] at h ⊢
    obtain ⟨h0, m, e1, b, e2, _⟩ := (Q_kid l s x c).1 h
    have e3 : jump (l + 1) (ex (x :: c)) = some (m + 1 + b) := by
      rw [jump, hd_ex, if_neg (show ¬ x < 0 by omega), e1]
      simp [ex, e2]
    simp only [dec, stk, e1, e2, e3, hd_ex, Option.getD_some, if_neg (show ¬ x < 0 by omega), Option.map_some, List.drop_drop]
    rw [show i + 1 + m = i + (m + 1) by omega, show i + (m + 1) + b = i + (m + 1 + b) by omega, show m + 1 + b = (m + b) + 1 by omega, ex, List.drop_succ_cons]
/-- THE LEVELS BY COUNTS ARE THE LEVELS BY ENDS. -/
theorem mach_lev2 : ∀ (c : List Int) (st : List Nat) (i : Nat) (ls : List Nat), mach st c = some ls → ls = lev2 (stk st (ex c) i) i (absE (ex c) i)
  | [], st, i, ls, h => by
    rw [mach] at h
    split at h
    · cases h; rfl
    · cases h
  | x :: c, st, i, ls, h => by
    have hQ : Q st (ex (x :: c)) := (mach_iff _ _).1 (by rw [h]; rfl)
    have hs := stk_step st x c i hQ
    rw [mach] at h
    split at h
    · cases h
    · rw [Option.map_eq_some_iff] at h
      obtain ⟨ls', h1, rfl⟩ := h
      have ih := mach_lev2 c _ (i + 1) ls' h1
      rw [ih, hs]
      show _ = lev2 _ _ (_ :: _)
      rw [lev2, stk_pop st _ i (ex_wf _) hQ, stk_length]
      rfl
end Go.Proofs.YtloflodbcdlmpaaDoor.Fo
namespace Go.Proofs.YtloflodbcdlmpaaDoor.LawLen
open Go.Proofs.YtloflodbcdlmpaaDoor.Fo
theorem mach_length : ∀ (c : List Int) (st ls : List Nat), mach st c = some ls → ls.length = c.length
  | [], st, ls, h => by
    unfold mach at h
    split at h
    · cases h; rfl
    · cases h
  | x :: c, st, ls, h => by
    unfold mach at h
    split at h
    · cases h
    · obtain ⟨m, hm, rfl⟩ := Option.map_eq_some_iff.1 h
      simp [mach_length c _ m hm]
end Go.Proofs.YtloflodbcdlmpaaDoor.LawLen
namespace Go.Proofs.YtloflodbcdlmpaaDoor.Fo
open Go.RowKit Go.Proofs.YtloflodbcdlmpaaDoor.Qall Go.Proofs.YtloflodbcdlmpaaDoorW.PrintWords Go.Proofs.YtloflodbcdlmpaaDoorW.PrintLast Go.Proofs.YtloflodbcdlmpaaDoorW.PrintMore
set_option linter.unusedSimpArgs false
set_option linter.unusedVariables false
theorem wrap_of {i : Int} (h0 : -9223372036854775808 ≤ i) (h1 : i ≤ 9223372036854775807) : wrap64 i = i := by
  unfold wrap64
  omega
/-- The counts of kids. -/
def K (f : List S60) : List Int := f.map (·.f3)
theorem K_length (f : List S60) : (K f).length = f.length := List.length_map ..
/-- The places behind the extents; z: there is none. -/
def absZ (z : Int) : List (Option Nat) → Nat → List Int
  | [], _ => []
  | o :: t, i => (match o with | none => z | some m => ((i + m : Nat) : Int)) :: absZ z t (i + 1)
theorem absZ_length (z : Int) (es : List (Option Nat)) (i : Nat) : (absZ z es i).length = es.length := by
  induction es generalizing i with
  | nil => rfl
  | cons o t ih => simp [absZ, ih]
def val (z : Int) (i : Nat) : Option Nat → Int
  | none => z
  | some m => ((i + m : Nat) : Int)
theorem absZ_get (z : Int) (es : List (Option Nat)) (i j : Nat) (h : j < es.length) : (absZ z es i).getD j 0 = val z (i + j) (hd (es.drop j)) := by
  induction es generalizing i j with
  | nil => simp at h
  | cons o t ih =>
    cases j with
    | zero => cases o <;> simp [absZ, val, hd]
    | succ j =>
      have := ih (i + 1) j (by simpa using h)
      simp only [absZ, List.getD_cons_succ, List.drop_succ_cons]
      rw [this, show i + 1 + j = i + (j + 1) by omega]
theorem rd_f3 (f : List S60) (j : Nat) (h : j < f.length) : (rd_T60 f (j : Int)).f3 = (K f)[j]'(by rw [K_length]; exact h) := by
  unfold rd_T60 K
  rw [Int.toNat_natCast, List.getD_eq_getElem?_getD, List.getElem?_eq_getElem h]
  simp
theorem ex_at (c : List Int) (j : Nat) (h : j < c.length) : (ex c).drop j = (if c[j] < 0 then none else (jump c[j].toNat ((ex c).drop (j + 1))).map (· + 1)) :: (ex c).drop (j + 1) := by
  rw [← ex_drop, ← ex_drop]
  have : c.drop j = c[j] :: c.drop (j + 1) := List.drop_eq_getElem_cons h
  rw [this, ex]
/-- The list as it is filled from behind. -/
def filled (z : Int) (f : List S60) (i : Nat) : List Int := List.replicate i 0 ++ absZ z ((ex (K f)).drop i) i
theorem filled_length (z : Int) (f : List S60) (i : Nat) (h : i ≤ f.length) : (filled z f i).length = f.length := by
  unfold filled
  rw [List.length_append, List.length_replicate, absZ_length, List.length_drop, ex_length, K_length]
  omega
theorem filled_get (z : Int) (f : List S60) (i j : Nat) (h : i ≤ j) (hj : j < f.length) : rd (filled z f i) (j : Int) = val z j (hd ((ex (K f)).drop j)) := by
  unfold rd filled
  have e : ∀ L : List Int, (List.replicate i 0 ++ L).getD j 0 = L.getD (j - i) 0 := fun L => by
    rw [List.getD_eq_getElem?_getD, List.getElem?_append_right (by simpa using h), List.length_replicate, ← List.getD_eq_getElem?_getD]
  rw [Int.toNat_natCast, e, absZ_get _ _ _ _ (by rw [List.length_drop, ex_length, K_length]; omega), List.drop_drop, show i + (j - i) = j by omega]
theorem filled_set (z : Int) (f : List S60) (i : Nat) (hi : i < f.length) (v : Int) (hv : v = val z i (hd ((ex (K f)).drop i))) : (filled z f (i + 1)).set ((i : Int)).toNat v = filled z f i := by
  have hK : i < (K f).length := by rw [K_length]; exact hi
  unfold filled
  rw [Int.toNat_natCast, List.replicate_succ', List.append_assoc, List.set_append_right _ _ (by simp), List.length_replicate, Nat.sub_self, List.singleton_append, List.set_cons_zero]
  rw [ex_at _ _ hK] at hv ⊢
  rw [hv]
  rfl
theorem filled_all (z : Int) (f : List S60) : filled z f f.length = List.replicate f.length 0 := by
  unfold filled
  rw [List.drop_eq_nil_of_le (by rw [ex_length, K_length]; exact Nat.le_refl _)]
  simp [absZ]
theorem filled_zero (z : Int) (f : List S60) : filled z f 0 = absZ z (ex (K f)) 0 := by simp [filled]
/-- Where the kids of node j stand, after q of them. -/
def cur (f : List S60) (j q : Nat) : Int := val (-1) (j + 1) (jump q ((ex (K f)).drop (j + 1)))
theorem hd_at (f : List S60) (j : Nat) (hj : j < f.length) (x : Int) (hx : (K f)[j]'(by rw [K_length]; exact hj) = x) : hd ((ex (K f)).drop j) = if x < 0 then none else (jump x.toNat ((ex (K f)).drop (j + 1))).map (· + 1) := by
  rw [ex_at (K f) j (by rw [K_length]; exact hj), hd, hx]
theorem ends_fin (f : List S60) (j : Nat) (hj : j < f.length) (hn : f.length ≤ 2097152) (r : List Int) (hr : ∃ k, forest_ends.l0 k f (filled (-1) f j) ((j : Int) - 1) = some r) (q v : Int) (hv : v = val (-1) j (hd ((ex (K f)).drop j))) :
    ∃ k, forest_ends.j4 k f (filled (-1) f (j + 1)) (j : Int) v q false = some r := by
  obtain ⟨k, hk⟩ := hr
  refine ⟨k + 1, ?_⟩
  rw [forest_ends.j4, if_neg (by simp), if_pos (by omega), if_pos (by rw [filled_length _ _ _ (by omega)]; omega), filled_set _ _ _ hj _ hv, wrap_of (by omega) (by omega)]
  exact hk
theorem ends_l1 (f : List S60) (hn : f.length ≤ 2097152) (j : Nat) (hj : j < f.length) (r : List Int) (hr : ∃ k, forest_ends.l0 k f (filled (-1) f j) ((j : Int) - 1) = some r) (x : Nat) (hx : (K f)[j]'(by rw [K_length]; exact hj) = (x : Int)) (hxn : x ≤ f.length) :
    ∀ d q, q + d = x → ∃ k, forest_ends.l1 k f (filled (-1) f (j + 1)) (j : Int) (cur f j q) (q : Int) = some r
  | d, q, hq => by
    have hel : ((ex (K f)).drop (j + 1)).length = f.length - (j + 1) := by rw [List.length_drop, ex_length, K_length]
    have hh := hd_at f j hj (x : Int) hx
    rw [if_neg (by omega), Int.toNat_natCast] at hh
    have hstart : ∀ k, forest_ends.l1 (k + 1) f (filled (-1) f (j + 1)) (j : Int) (cur f j q) (q : Int) = if (q : Int) < (x : Int) then (forest_ends.j4 k f (filled (-1) f (j + 1)) (j : Int) (cur f j q) (q : Int) (decide (cur f j q ≥ 0))) else (forest_ends.j4 k f (filled (-1) f (j + 1)) (j : Int) (cur f j q) (q : Int) false) := fun k => by
      rw [forest_ends.l1, if_pos (by omega), if_pos (by omega), rd_f3 f j hj, hx]
    cases hjq : jump q ((ex (K f)).drop (j + 1)) with
    | none =>
      have hc : cur f j q = -1 := by unfold cur; rw [hjq]; rfl
      obtain ⟨k, hk⟩ := ends_fin f j hj hn r hr (q : Int) (-1) (by rw [hh, jump_none_of_lt hjq (show q ≤ x by omega)]; rfl)
      refine ⟨k + 1, ?_⟩
      rw [hstart, hc]
      split <;> exact hk
    | some m =>
      have hm := jump_bounds q (ex_wf (K f) |>.drop (j + 1)) hjq
      have hc : cur f j q = ((j + 1 + m : Nat) : Int) := by unfold cur; rw [hjq]; rfl
      cases d with
      | zero =>
        obtain rfl : q = x := by omega
        obtain ⟨k, hk⟩ := ends_fin f j hj hn r hr (q : Int) ((j + 1 + m : Nat) : Int) (by rw [hh, hjq]; simp [val]; omega)
        refine ⟨k + 1, ?_⟩
        rw [hstart, if_neg (by omega), hc]
        exact hk
      | succ d =>
        obtain ⟨k, hk⟩ := ends_l1 f hn j hj r hr x hx hxn d (q + 1) (by omega)
        refine ⟨k + 2, ?_⟩
        rw [hstart, if_pos (by omega), hc, forest_ends.j4, if_pos (by simp; omega), wrap_of (by omega) (by omega)]
        have hsn := jump_snoc q ((ex (K f)).drop (j + 1))
        rw [hjq, Option.bind_some, List.drop_drop] at hsn
        by_cases hge : f.length ≤ j + 1 + m
        · rw [if_pos (by omega)]
          have e : hd ((ex (K f)).drop (j + 1 + m)) = none := by rw [List.drop_eq_nil_of_le (by rw [ex_length, K_length]; exact hge)]; rfl
          rw [e] at hsn
          have : cur f j (q + 1) = -1 := by unfold cur; rw [hsn]; rfl
          rw [this] at hk
          exact hk
        · rw [if_neg (by omega), if_pos (by omega), if_pos (by rw [filled_length _ _ _ (by omega)]; omega), filled_get _ _ _ _ (by omega) (by omega)]
          have : cur f j (q + 1) = val (-1) (j + 1 + m) (hd ((ex (K f)).drop (j + 1 + m))) := by
            unfold cur
            rw [hsn]
            cases hd ((ex (K f)).drop (j + 1 + m)) <;> simp [val]
            omega
          rw [← this]
          exact hk
theorem ends_l0 (f : List S60) (hn : f.length ≤ 2097152) : ∀ i, i ≤ f.length → ∃ k, forest_ends.l0 k f (filled (-1) f i) ((i : Int) - 1) = some (filled (-1) f 0)
  | 0, _ => ⟨1, by rw [forest_ends.l0, if_neg (by omega)]⟩
  | j + 1, hi => by
    have ih := ends_l0 f hn j (by omega)
    have hj : j < f.length := by omega
    obtain ⟨x, hx⟩ : ∃ x, (K f)[j]'(by rw [K_length]; exact hj) = x := ⟨_, rfl⟩
    have hel : ((ex (K f)).drop (j + 1)).length = f.length - (j + 1) := by rw [List.length_drop, ex_length, K_length]
    have hh := hd_at f j hj x hx
    have e1 : ((j + 1 : Nat) : Int) - 1 = (j : Int) := by omega
    by_cases h0 : x < 0
    · rw [if_pos h0] at hh
      obtain ⟨k, hk⟩ := ends_fin f j hj hn _ ih 0 (-1) (by rw [hh]; rfl)
      refine ⟨k + 4, ?_⟩
      rw [e1, forest_ends.l0, if_pos (by omega), if_pos (by omega), if_pos (by omega), rd_f3 f j hj, hx, if_pos h0, forest_ends.j1, if_pos rfl, forest_ends.j2, forest_ends.l1, if_pos (by omega), if_pos (by omega), rd_f3 f j hj, hx, if_neg (by omega)]
      exact hk
    · rw [if_neg h0] at hh
      by_cases h1 : x > (f.length : Int) - 1 - j
      · obtain ⟨k, hk⟩ := ends_fin f j hj hn _ ih 0 (-1) (by
          cases hj2 : jump x.toNat ((ex (K f)).drop (j + 1)) with
          | none => rw [hh, hj2]; rfl
          | some m =>
            have := jump_bounds _ (ex_wf (K f) |>.drop (j + 1)) hj2
            omega)
        refine ⟨k + 4, ?_⟩
        rw [e1, forest_ends.l0, if_pos (by omega), if_pos (by omega), if_pos (by omega), rd_f3 f j hj, hx, if_neg h0, wrap_of (i := (f.length : Int) - 1) (by omega) (by omega), wrap_of (i := (f.length : Int) - 1 - j) (by omega) (by omega), forest_ends.j1, if_pos (by simpa using h1), forest_ends.j2, forest_ends.l1, if_pos (by omega), if_pos (by omega), rd_f3 f j hj, hx]
        split <;> exact hk
      · obtain ⟨k, hk⟩ := ends_l1 f hn j hj _ ih x.toNat (by rw [hx]; omega) (by omega) x.toNat 0 (by omega)
        have hc : cur f j 0 = (j : Int) + 1 := by simp [cur, jump, val]
        rw [hc] at hk
        refine ⟨k + 3, ?_⟩
        rw [e1, forest_ends.l0, if_pos (by omega), if_pos (by omega), if_pos (by omega), rd_f3 f j hj, hx, if_neg h0, wrap_of (i := (f.length : Int) - 1) (by omega) (by omega), wrap_of (i := (f.length : Int) - 1 - j) (by omega) (by omega), wrap_of (i := (j : Int) + 1) (by omega) (by omega), forest_ends.j1, if_neg (by simpa using h1), forest_ends.j2]
        exact hk
theorem ends_ev (f : List S60) (hn : f.length ≤ 2097152) : Ev (fun k => forest_ends.f k f) (absZ (-1) (ex (K f)) 0) := by
  obtain ⟨k, hk⟩ := ends_l0 f hn f.length (Nat.le_refl _)
  refine Ev.of (fun k => forest_ends.mono f k) (k := k) ?_
  rw [filled_zero] at hk
  unfold forest_ends.f
  rw [if_pos (by omega), if_pos (by omega), Int.toNat_natCast, wrap_of (by omega) (by omega), ← filled_all (-1) f]
  exact hk
end Go.Proofs.YtloflodbcdlmpaaDoor.Fo
namespace Go.Proofs.YtloflodbcdlmpaaDoor.Fo
open Go.RowKit Go.Proofs.YtloflodbcdlmpaaDoor.Qall Go.Proofs.YtloflodbcdlmpaaDoorW.PrintWords Go.Proofs.YtloflodbcdlmpaaDoorW.PrintLast Go.Proofs.YtloflodbcdlmpaaDoorW.PrintMore
set_option linter.unusedSimpArgs false
set_option linter.unusedVariables false
theorem set_take (lv : List Int) (i : Nat) (v : Int) (h : i < lv.length) : (lv.set i v).take (i + 1) = lv.take i ++ [v] := by
  rw [List.take_succ_eq_append_getElem (by simpa using h)]
  rw [List.take_set_of_le (Nat.le_refl _)]
  simp
end Go.Proofs.YtloflodbcdlmpaaDoor.Fo
namespace Go.Proofs.YtloflodbcdlmpaaDoor.Fo
open Go.RowKit Go.Proofs.YtloflodbcdlmpaaDoor.Qall Go.Proofs.YtloflodbcdlmpaaDoorW.PrintWords Go.Proofs.YtloflodbcdlmpaaDoorW.PrintLast Go.Proofs.YtloflodbcdlmpaaDoorW.PrintMore
set_option linter.unusedSimpArgs false
set_option linter.unusedVariables false
/-- The roots' places, up to the end; none: one has no extent. -/
def rt : Nat → List (Option Nat) → Nat → Option (List Int)
  | _, [], _ => some []
  | 0, _ :: _, _ => none
  | _ + 1, none :: _, _ => none
  | f + 1, some m :: t, i => (rt f ((some m :: t).drop m) (i + m)).map ((i : Int) :: ·)
theorem rt_iff : ∀ (f : Nat) (es : List (Option Nat)) (i : Nat), WF es → es.length ≤ f → ((rt f es i).isSome = true ↔ Rts es)
  | f, [], i, _, _ => by simp [rt, Rts.nil]
  | 0, _ :: _, i, _, h => by simp at h
  | f + 1, none :: t, i, hw, h => by
    simp only [rt, Option.isSome_none, Bool.false_eq_true, false_iff]
    intro hr
    obtain ⟨m, e, _⟩ := hr.inv
    cases e
  | f + 1, some m :: t, i, hw, h => by
    have hm := hw.1 m rfl
    rw [rt, Option.isSome_map, rts_cons, rt_iff f _ _ (hw.drop m) (by simp only [List.length_drop, List.length_cons] at h ⊢; omega)]
theorem drop_hd (E : List (Option Nat)) (i : Nat) (h : i < E.length) : E.drop i = hd (E.drop i) :: E.drop (i + 1) := by
  rw [List.drop_eq_getElem_cons h]; rfl
theorem abs_rd (z : Int) (E : List (Option Nat)) (i : Nat) (h : i < E.length) : rd (absZ z E 0) (i : Int) = val z i (hd (E.drop i)) := by
  unfold rd
  rw [Int.toNat_natCast, absZ_get z E 0 i h, Nat.zero_add]
theorem roots_l0 (E : List (Option Nat)) (hw : WF E) (hn : E.length ≤ 2097152) : ∀ (fu i : Nat) (acc : List Int), E.length ≤ i + fu → i ≤ E.length → acc.length ≤ i →
    ∃ k, forest_roots.l0 k (absZ (-1) E 0) acc (i : Int) = some (match rt fu (E.drop i) i with | none => ([], false) | some l => (acc ++ l, true))
  | fu, i, acc, hf, hi, ha => by
    have hal := absZ_length (-1) E 0
    by_cases hlt : i < E.length
    · cases fu with
      | zero => omega
      | succ fu =>
        have hd0 := drop_hd E i hlt
        have hr := abs_rd (-1) E i hlt
        cases hh : hd (E.drop i) with
        | none =>
          rw [hh] at hd0 hr
          refine ⟨1, ?_⟩
          rw [forest_roots.l0, if_pos (by omega), if_pos (by omega), hr, if_pos (by simp [val]), hd0, rt]
        | some m =>
          have hm := (hw.drop i).hd hh
          rw [List.length_drop] at hm
          rw [hh] at hd0 hr
          obtain ⟨k, hk⟩ := roots_l0 E hw hn fu (i + m) (acc ++ [(i : Int)]) (by omega) (by omega) (by simp; omega)
          refine ⟨k + 1, ?_⟩
          rw [forest_roots.l0, if_pos (by omega), if_pos (by omega), hr, if_neg (by simp [val]; omega), if_pos (by omega)]
          show forest_roots.l0 k (absZ (-1) E 0) (acc ++ [(i : Int)]) ((i + m : Nat) : Int) = _
          rw [hk]
          have e : (E.drop i).drop m = E.drop (i + m) := List.drop_drop ..
          rw [hd0] at e
          rw [hd0, rt, e]
          cases rt fu (E.drop (i + m)) (i + m) with
          | none => rfl
          | some l => simp
    · refine ⟨1, ?_⟩
      rw [forest_roots.l0, if_neg (by omega), List.drop_eq_nil_of_le (by omega)]
      cases fu <;> simp [rt]
  termination_by fu => fu
theorem roots_ev (f : List S60) (hn : f.length ≤ 2097152) : Ev (fun k => forest_roots.f k (absZ (-1) (ex (K f)) 0)) (match rt f.length (ex (K f)) 0 with | none => ([], false) | some l => (l, true)) := by
  have hl : (ex (K f)).length = f.length := by rw [ex_length, K_length]
  obtain ⟨k, hk⟩ := roots_l0 (ex (K f)) (ex_wf _) (by omega) f.length 0 [] (by omega) (by omega) (by simp)
  exact Ev.of (fun k => forest_roots.mono _ k) (k := k) hk
/-- The kids' places. -/
def kd : Nat → List (Option Nat) → Nat → List Int
  | 0, _, _ => []
  | k + 1, es, i => (i : Int) :: kd k (es.drop ((hd es).getD 0)) (i + (hd es).getD 0)
end Go.Proofs.YtloflodbcdlmpaaDoor.Fo
namespace Go.Proofs.YtloflodbcdlmpaaDoor.Fo
open Go.RowKit Go.Proofs.YtloflodbcdlmpaaDoor.Qall Go.Proofs.YtloflodbcdlmpaaDoorW.PrintWords Go.Proofs.YtloflodbcdlmpaaDoorW.PrintLast Go.Proofs.YtloflodbcdlmpaaDoorW.PrintMore
set_option linter.unusedSimpArgs false
set_option linter.unusedVariables false
def toI (l : List Nat) : List Int := l.map (fun n : Nat => (n : Int))
theorem toI_length (l : List Nat) : (toI l).length = l.length := List.length_map ..
theorem flev_l0 (es : List Nat) (f : List S60) (hn : es.length ≤ 2097152) (hb : ∀ e ∈ es, e ≤ 2097152) : ∀ d i, i + d = es.length → ∀ (lv : List Int) (st : List Nat), lv.length = es.length → st.length ≤ i →
    ∃ k, forest_levels.l0 k (toI es) lv (toI st.reverse) (es.length : Int) (i : Int) = some (lv.take i ++ toI (lev2 st i (es.drop i)))
  | 0, i, hd, lv, st, hlv, hst => by
    refine ⟨1, ?_⟩
    rw [forest_levels.l0, if_neg (by omega), List.drop_eq_nil_of_le (by omega), lev2, List.take_of_length_le (by omega)]
    simp [toI]
  | d + 1, i, hd, lv, st, hlv, hst => by
    have hi : i < es.length := by omega
    have hte : (toI es).length = es.length := toI_length es
    have hrd : rd (toI es) (i : Int) = ((es[i] : Nat) : Int) := by
      unfold rd toI
      rw [Int.toNat_natCast, List.getD_eq_getElem?_getD, List.getElem?_map, List.getElem?_eq_getElem hi]
      rfl
    have hdr : es.drop i = es[i] :: es.drop (i + 1) := List.drop_eq_getElem_cons hi
    have fin_ : ∀ st2 : List Nat, st2.length ≤ i → st2 = st.dropWhile (· ≤ i) → ∃ k, forest_levels.l0 k (toI es) (lv.set (i : Int).toNat ((toI st2.reverse).length : Int)) (toI st2.reverse ++ [rd (toI es) (i : Int)]) (es.length : Int) (wrap64 ((i : Int) + 1)) = some (lv.take i ++ toI (lev2 st i (es.drop i))) := fun st2 h2 h3 => by
      obtain ⟨k, hk⟩ := flev_l0 es f hn hb d (i + 1) (by omega) (lv.set i (st2.length : Int)) (es[i] :: st2) (by simp [hlv]) (by simp; omega)
      refine ⟨k, ?_⟩
      rw [toI_length, List.length_reverse, Int.toNat_natCast, hrd, wrap_of (by omega) (by omega)]
      have e1 : toI st2.reverse ++ [((es[i] : Nat) : Int)] = toI (es[i] :: st2).reverse := by simp [toI]
      rw [e1, show (i : Int) + 1 = ((i + 1 : Nat) : Int) by omega, hk, set_take _ _ _ (by omega), hdr, lev2, ← h3]
      simp [toI]
    suffices hl1 : ∀ (st2 : List Nat), st2.length ≤ i → st2.dropWhile (· ≤ i) = st.dropWhile (· ≤ i) → ∃ k, forest_levels.l1 k (toI es) lv (toI st2.reverse) (i : Int) (es.length : Int) (i : Int) = some (lv.take i ++ toI (lev2 st i (es.drop i))) by
      obtain ⟨k, hk⟩ := hl1 st hst rfl
      refine ⟨k + 1, ?_⟩
      rw [forest_levels.l0, if_pos (by omega)]
      exact hk
    intro st2
    induction st2 with
    | nil =>
      intro h2 h3
      obtain ⟨k, hk⟩ := fin_ [] (by simp) h3
      refine ⟨k + 1, ?_⟩
      rw [forest_levels.l1, if_neg (by simp [toI]), if_pos (by omega), if_pos (by omega), if_pos (by omega), if_pos (by simp [toI])]
      exact hk
    | cons e st2 ih =>
      intro h2 h3
      have hL : toI (e :: st2).reverse = toI st2.reverse ++ [(e : Int)] := by simp [toI]
      have hl2 : (toI st2.reverse).length = st2.length := by rw [toI_length, List.length_reverse]
      have hlen : (toI (e :: st2).reverse).length = st2.length + 1 := by rw [toI_length, List.length_reverse]; rfl
      simp only [List.length_cons] at h2
      have hw : wrap64 (((toI (e :: st2).reverse).length : Int) - 1) = (st2.length : Int) := by rw [hlen, wrap_of (by omega) (by omega)]; omega
      have hlast : rd (toI (e :: st2).reverse) (st2.length : Int) = (e : Int) := by
        rw [hL]
        unfold rd
        rw [Int.toNat_natCast, List.getD_eq_getElem?_getD, List.getElem?_append_right (by omega), hl2]
        simp
      by_cases he : e ≤ i
      · obtain ⟨k, hk⟩ := ih (by omega) (by rw [← h3, List.dropWhile_cons_of_pos (by simpa using he)])
        refine ⟨k + 1, ?_⟩
        rw [forest_levels.l1, if_pos (by omega), hw, if_pos (by omega), if_pos (by omega), hlast, if_pos (by omega), if_pos (by omega), Int.toNat_natCast]
        have e2 : (toI (e :: st2).reverse).take st2.length = toI st2.reverse := by rw [hL, List.take_left' hl2]
        rw [e2]
        exact hk
      · obtain ⟨k, hk⟩ := fin_ (e :: st2) (by simp; omega) (by rw [← h3, List.dropWhile_cons_of_neg (by simpa using he)])
        refine ⟨k + 1, ?_⟩
        rw [forest_levels.l1, if_pos (by omega), hw, if_pos (by omega), if_pos (by omega), hlast, if_neg (by omega), if_pos (by omega), if_pos (by omega), if_pos (by omega), if_pos (by omega)]
        exact hk
theorem absE_absZ (z : Int) : ∀ (es : List (Option Nat)) (i : Nat), (∀ o ∈ es, o ≠ none) → absZ z es i = toI (absE es i)
  | [], i, _ => rfl
  | o :: t, i, h => by
    have ih := absE_absZ z t (i + 1) (fun o ho => h o (List.mem_cons_of_mem _ ho))
    cases o with
    | none => exact absurd rfl (h none (List.mem_cons_self ..))
    | some m => rw [absZ, absE, ih]; simp [toI]
theorem absE_length (es : List (Option Nat)) (i : Nat) : (absE es i).length = es.length := by
  induction es generalizing i with
  | nil => rfl
  | cons o t ih => simp [absE, ih]
/-- In a forest each node has an extent. -/
theorem Q_all : ∀ (c : List Int) (st : List Nat), Q st (ex c) → ∀ o ∈ ex c, o ≠ none
  | [], st, _, o, ho => by simp [ex] at ho
  | x :: c, st, h, o, ho => by
    have h2 := (Q_step st x c).1 h
    have ih := Q_all c _ h2.2
    have hx : ¬ x < 0 := by omega
    rw [ex] at ho
    rcases List.mem_cons.1 ho with rfl | ho
    · rw [if_neg hx]
      obtain ⟨m, e, _⟩ := h2.2
      rw [e]
      simp
    · exact ih o ho
theorem absE_le (c : List Int) : ∀ (es : List (Option Nat)) (i : Nat), WF es → ∀ e ∈ absE es i, e ≤ i + es.length
  | [], i, _, e, he => by simp [absE] at he
  | o :: t, i, hw, e, he => by
    rw [absE] at he
    rcases List.mem_cons.1 he with rfl | he
    · cases o with
      | none => simp
      | some m => have := hw.1 m rfl; simp only [Option.getD_some, List.length_cons]; omega
    · have := absE_le c t (i + 1) hw.2 e he
      simp only [List.length_cons]
      omega
theorem flev_ev (f : List S60) (hn : f.length ≤ 2097152) (ls : List Nat) (h : mach [] (K f) = some ls) : Ev (fun k => forest_levels.f k f (absZ (-1) (ex (K f)) 0)) (toI ls) := by
  have hl : (ex (K f)).length = f.length := by rw [ex_length, K_length]
  have hQ : Q [] (ex (K f)) := (mach_iff _ _).1 (by rw [h]; rfl)
  have hA := absE_absZ (-1) (ex (K f)) 0 (Q_all _ _ hQ)
  have hal : (absE (ex (K f)) 0).length = f.length := by rw [absE_length, hl]
  have hls := mach_lev2 (K f) [] 0 ls h
  obtain ⟨k, hk⟩ := flev_l0 (absE (ex (K f)) 0) f (by omega) (fun e he => by have := absE_le (K f) _ 0 (ex_wf _) e he; omega) _ 0 (Nat.zero_add _) (List.replicate f.length 0) [] (by simp [hal]) (by simp)
  refine Ev.of (fun k => forest_levels.mono f _ k) (k := k) ?_
  unfold forest_levels.f
  rw [if_pos (by omega), if_pos (by omega), Int.toNat_natCast, hA, hls]
  rw [hal] at hk
  simpa [toI, stk] using hk
theorem rt_mach (f : List S60) : (rt f.length (ex (K f)) 0).isSome = (mach [] (K f)).isSome := by
  have h1 := mach_iff (K f) []
  have h2 := rt_iff f.length (ex (K f)) 0 (ex_wf _) (by rw [ex_length, K_length]; exact Nat.le_refl _)
  rw [Bool.eq_iff_iff, h1, h2]
  exact Iff.rfl
end Go.Proofs.YtloflodbcdlmpaaDoor.Fo
namespace Go.Proofs.YtloflodbcdlmpaaDoor.Nest
open Go.RowKit Go.Proofs.YtloflodbcdlmpaaDoor.Qall Go.Proofs.YtloflodbcdlmpaaDoorW.PrintWords Go.Proofs.YtloflodbcdlmpaaDoorW.PrintLast Go.Proofs.YtloflodbcdlmpaaDoorW.PrintMore
set_option linter.unusedSimpArgs false
set_option linter.unusedVariables false
/-- A room: where it ends, up to where, from where. -/
abbrev Rm := Int × Int × Int
def kR : Kd Rm := Kd.pair (Kd.int .i64) (Kd.pair (Kd.int .i64) (Kd.int .i64))
def cellsR (x : Rm) : List Value := [.int .i64 x.1, .int .i64 x.2.1, .int .i64 x.2.2]
theorem kR_mkM (W : World) (base : Nat) (ok : Nat → Prop) (x : Rm) : kR.M W base ok x (cellsR x) := ⟨[.int .i64 x.1], [.int .i64 x.2.1, .int .i64 x.2.2], rfl, rfl, ⟨[.int .i64 x.2.1], [.int .i64 x.2.2], rfl, rfl, rfl⟩⟩
theorem kR_openM {W : World} {base : Nat} {ok : Nat → Prop} {x : Rm} {cs : List Value} (h : kR.M W base ok x cs) : cs = cellsR x := by
  obtain ⟨_, _, rfl, rfl, ⟨_, _, rfl, rfl, rfl⟩⟩ := h
  rfl
abbrev RR (W : World) (base : Nat) (v : Value) (xs : List Rm) : Prop := Kd.R kR 130 W base (fun _ => True) v xs
theorem R_one (W : World) (base g : Nat) (x : Rm) (hg : W.heap[g]? = some (.cells (cellsR x).toArray 130 (0, 0))) (hb : base ≤ g) : RR W base (.slice (some ⟨g, 0, none⟩) 1 1) [x] := by
  refine ⟨fun k hk => trivial, cellsR x, ⟨rfl, .inr ⟨g, 1, _, rfl, hb, hg, Nat.le_refl _, by unfold maxLen; decide, rfl, rfl⟩⟩, ⟨rfl, fun j p hp => ?_⟩⟩
  obtain ⟨hlt, rfl⟩ := List.getElem?_eq_some_iff.1 hp
  obtain rfl : j = 0 := by simpa using hlt
  exact kR_mkM W base _ x
/-- The rest of the nodes, from i on, under the rooms that are open (the innermost first). -/
def nst (own : ByteArray → Bool) (f : List S60) (l : List Int) : Nat → Nat → List Rm → Bool
  | 0, _, _ => true
  | d + 1, i, st => match st.dropWhile (fun r => decide (r.1 ≤ (i : Int))) with
    | [] => false
    | up :: r => if own (rd_T60 f (i : Int)).f0 = false then false else if (rd_T60 f (i : Int)).f1 < up.2.2 then false else if (rd_T60 f (i : Int)).f2 < (rd_T60 f (i : Int)).f1 then false else if (rd_T60 f (i : Int)).f2 > up.2.1 then false
      else nst own f l d (i + 1) ((rd l (i : Int), (rd_T60 f (i : Int)).f2, (rd_T60 f (i : Int)).f1) :: (up.1, up.2.1, (rd_T60 f (i : Int)).f2) :: r)
def slen : Value → Nat
  | .slice _ n _ => n
  | _ => 0
/-- At the bottom lies the room that holds all. -/
def Bot (n : Nat) (st : List Rm) : Prop := ∃ p b, st = p ++ [b] ∧ b.1 = (n : Int)
theorem Bot.ne {n : Nat} {st : List Rm} (h : Bot n st) : ∃ up r, st = up :: r := by
  obtain ⟨p, b, rfl, _⟩ := h
  cases p with
  | nil => exact ⟨_, _, rfl⟩
  | cons a p => exact ⟨_, _, rfl⟩
theorem Bot.pop {n : Nat} {up : Rm} {r : List Rm} (h : Bot n (up :: r)) {i : Nat} (hi : i < n) (hu : up.1 ≤ (i : Int)) : Bot n r := by
  obtain ⟨p, b, e, hb⟩ := h
  cases p with
  | nil => simp at e; obtain ⟨rfl, rfl⟩ := e; omega
  | cons a p => simp at e; obtain ⟨rfl, rfl⟩ := e; exact ⟨p, b, rfl, hb⟩
theorem Bot.push {n : Nat} {up : Rm} {r : List Rm} (h : Bot n (up :: r)) (x : Rm) (t : Int) : Bot n (x :: (up.1, up.2.1, t) :: r) := by
  obtain ⟨p, b, e, hb⟩ := h
  cases p with
  | nil => simp at e; obtain ⟨rfl, rfl⟩ := e; exact ⟨[x], _, rfl, hb⟩
  | cons a p => simp at e; obtain ⟨rfl, rfl⟩ := e; exact ⟨x :: (up.1, up.2.1, t) :: p, b, rfl, hb⟩
/-- The room on top, its cells. -/
theorem top_cells {W : World} {base g cap n : Nat} {r : List Rm} {up : Rm} (h : RR W base (.slice (some ⟨g, 0, none⟩) n cap) (r.reverse ++ [up])) (hn : n = r.length + 1) :
    W.cell? ⟨g, r.length * 3, none⟩ = some (.int .i64 up.1) ∧ W.cell? ⟨g, r.length * 3 + 1, none⟩ = some (.int .i64 up.2.1) ∧ W.cell? ⟨g, r.length * 3 + 2, none⟩ = some (.int .i64 up.2.2) ∧ ∀ j, W.frozen? ⟨g, r.length * 3 + j, none⟩ = false := by
  obtain ⟨c, _, hM, hcc, hf⟩ := Kd.R_elem h (0, 0, 0) (r.length : Int) (by omega) (by omega)
  have hc := kR_openM hM
  rw [Int.toNat_natCast, show kR.sz = 3 from rfl] at hcc hf
  have e : (r.reverse ++ [up]).getD (r.length : Int).toNat (0, 0, 0) = up := by
    rw [Int.toNat_natCast, List.getD_eq_getElem?_getD, List.getElem?_append_right (by simp)]
    simp
  rw [e] at hc
  refine ⟨?_, ?_, ?_, hf⟩
  · simpa using hcc 0 _ (by rw [hc]; rfl)
  · exact hcc 1 _ (by rw [hc]; rfl)
  · exact hcc 2 _ (by rw [hc]; rfl)
/-- The room on top is written: from where its next kid may begin. -/
theorem top_put {W : World} {base g cap n : Nat} {r : List Rm} {up : Rm} (h : RR W base (.slice (some ⟨g, 0, none⟩) n cap) (r.reverse ++ [up])) (hn : n = r.length + 1) (t : Int) :
    RR (W.setCell ⟨g, r.length * 3 + 2, none⟩ (.int .i64 t)) base (.slice (some ⟨g, 0, none⟩) n cap) (r.reverse ++ [(up.1, up.2.1, t)]) ∧ W.grownBy (W.setCell ⟨g, r.length * 3 + 2, none⟩ (.int .i64 t)) (some g) := by
  obtain ⟨c, hcl, hM, hcc, hf⟩ := Kd.R_elem h (0, 0, 0) (r.length : Int) (by omega) (by omega)
  have hc := kR_openM hM
  have e : (r.reverse ++ [up]).getD (r.length : Int).toNat (0, 0, 0) = up := by
    rw [Int.toNat_natCast, List.getD_eq_getElem?_getD, List.getElem?_append_right (by simp)]
    simp
  rw [e] at hc
  have := Kd.R_seg (okp := fun _ => False) h (r.length : Int) (by omega) (by omega) (c := c) (seg := [.int .i64 t]) (j := 2) hcl hcc (Nat.le_refl 3) (x' := (up.1, up.2.1, t)) (by
    rw [hc]
    exact kR_mkM W base _ (up.1, up.2.1, t)) (fun _ hk => hk.elim)
  rw [show kR.sz = 3 from rfl, Int.toNat_natCast] at this
  have e2 : (r.reverse ++ [up]).set r.length (up.1, up.2.1, t) = r.reverse ++ [(up.1, up.2.1, t)] := by
    rw [List.set_append_right _ _ (by simp)]
    simp
  rw [e2] at this
  exact this
theorem rd_mem (f : List S60) (i : Nat) (h : i < f.length) : rd_T60 f (i : Int) ∈ f := by
  unfold rd_T60
  rw [Int.toNat_natCast, List.getD_eq_getElem?_getD, List.getElem?_eq_getElem h]
  exact List.getElem_mem h
section
variable (own : ByteArray → Bool) (f : List S60) (l : List Int) (size : Int)
set_option maxRecDepth 100000 in
set_option maxHeartbeats 4000000 in
theorem nested_calls (ko : Nat) (hown : ∀ s, (∃ x ∈ f, x.f0 = s) → forest_own.f ko s = some (own s)) (hn : f.length ≤ 2097152) (Af : Option Addr) (cf : Nat) (Al : Option Addr) (cl : Nat) (hll : l.length = f.length) (w : World) (hCf : Kd.C k60 w Af f.length f) (hcf : f.length ≤ cf) (hCl : Kd.C (Kd.int .i64) w Al f.length l) (hcl : f.length ≤ cl) :
    Calls Tryd.prog 50 #[.slice Af f.length cf, .slice Al f.length cl, .int .i64 size] w fun e w' => e = .returned (.bool (nst own f l f.length 0 [((f.length : Int), size, 0)])) ∧ Below w.heap.size w w' := by
  have HOW := Aside0.mk hown
  obtain ⟨ans, hans⟩ : ∃ a, nst own f l f.length 0 [((f.length : Int), size, 0)] = a := ⟨_, rfl⟩
  rw [hans]
  have HANS := Aside0.mk hans
  clear hown hans
  go_enter Tryd.func50, Tryd.ntmps50
  go_wp2
  go_loopw [7, 18] (fun v i wr => ∃ (i' : Nat) (st : List Rm), i' ≤ f.length ∧ i = .int .i64 i' ∧ RR wr w.heap.size v st.reverse ∧ Bot f.length st ∧ Aside0 (st.length ≤ i' + 1) ∧ Aside0 (nst own f l (f.length - i') i' st = ans) ∧ Below w.heap.size w wr) (fun _ i _ => f.length - (intOf i).toNat)
  case atStart => exact ⟨0, [((f.length : Int), size, 0)], Nat.zero_le _, rfl, R_one _ _ _ _ (Array.getElem?_push_size) (Nat.le_refl _), ⟨[], _, rfl, rfl⟩, ⟨Nat.le_refl _⟩, HANS, (Below.refl _ _).alloc (Nat.le_refl _) _⟩
  case round =>
    obtain ⟨i, st, hi, rfl, hR, hBot, hlen, HN, hB⟩ := hrel
    by_cases hlt : i < f.length
    · obtain ⟨ad, rfl, x0, x1, x2, x3⟩ := at_T60 (Kd.C_below hCf hB) (i : Int) (by omega) (by omega)
      rw [Int.toNat_natCast] at x0 x1 x2 x3
      obtain ⟨d, hd⟩ : ∃ d, f.length - i = d + 1 := ⟨f.length - i - 1, by omega⟩
      have hN := HN.out
      rw [hd, nst] at hN
      have HNN := Aside0.mk hN
      clear hN HN
      obtain ⟨up0, r0, rfl⟩ := hBot.ne
      obtain ⟨g, cap, hv, hgb, hgl, hgc⟩ := Kd.R_form hR (by simp)
      subst hv
      rw [List.length_reverse, List.length_cons] at hR ⊢
      have hBk := hB.size
      have hlen0 := hlen.out
      have bx := heap_alloc_new wr (.cells #[.string (rd_T60 f (i : Int)).f0, .int .i64 (rd_T60 f (i : Int)).f1, .int .i64 (rd_T60 f (i : Int)).f2, .int .i64 (rd_T60 f (i : Int)).f3] 60)
      go_wp2
      go_loop [7] (fun v => ∃ (up : Rm) (r : List Rm), v = .slice (some ⟨g, 0, none⟩) (r.length + 1) cap ∧ RR wr w.heap.size (.slice (some ⟨g, 0, none⟩) (r.length + 1) cap) (r.reverse ++ [up]) ∧ Aside0 ((up :: r).dropWhile (fun r => decide (r.1 ≤ (i : Int))) = (up0 :: r0).dropWhile (fun r => decide (r.1 ≤ (i : Int)))) ∧ Bot f.length (up :: r) ∧ r.length ≤ r0.length) (fun v => slen v)
      case atStart => exact ⟨up0, r0, rfl, by simpa using hR, ⟨rfl⟩, hBot, Nat.le_refl _⟩
      case round =>
        obtain ⟨up, r, rfl, hR2, HD, hBot2, hrl⟩ := hrel
        have hrl2 : r.length ≤ 2097152 := by simp at hlen0; omega
        have hcc := (Kd.R_reads' hR2).2.1
        obtain ⟨t0, t1, t2, tf⟩ := top_cells hR2 rfl
        by_cases hpop : up.1 ≤ (i : Int)
        · obtain ⟨i0, hi0, _, _, _⟩ := info_parts (show (Tryd.prog.info? 130).map (fun i => (i.zero, i.size, i.bytes)) = some (some (.agg #[.int .i64 0, .int .i64 0, .int .i64 0]), 3, 24) by kernel_rfl)
          have hcut := cut_to (P := Tryd.prog) 131 130 .i64 Tryd.underlying131 hi0 (some ⟨g, 0, none⟩) (r.length + 1) cap (r.length : Int) (by omega) (by omega) hcc
          rw [Int.toNat_natCast] at hcut
          have hBot3 := hBot2.pop hlt hpop
          obtain ⟨up', r', rfl⟩ := hBot3.ne
          have hR3 : RR wr w.heap.size (.slice (some ⟨g, 0, none⟩) (r'.length + 1) cap) (r'.reverse ++ [up']) := by
            have h := Kd.R_take (m := r'.length + 1) hR2 (by simp)
            have e : ((up' :: r').reverse ++ [up]).take (r'.length + 1) = r'.reverse ++ [up'] := by
              rw [List.take_left' (by simp)]; simp
            rw [e] at h
            exact h
          have HD3 : Aside0 ((up' :: r').dropWhile (fun r => decide (r.1 ≤ (i : Int))) = (up0 :: r0).dropWhile (fun r => decide (r.1 ≤ (i : Int)))) := ⟨by rw [← HD.out]; conv => rhs; rw [List.dropWhile_cons_of_pos (by simpa using hpop)]⟩
          rw [List.length_cons] at hcut hrl2 t0 t1 t2 tf hrl
          rw [show ((r'.length + 1 : Nat) : Int) = (r'.length : Int) + 1 from rfl] at hcut
          rw [List.length_cons]
          go_wp2
          go_round
          case rel => exact ⟨up', r', rfl, hR3, HD3, hBot3, by omega⟩
          case measure => simp [slen]
        · have hpop2 : (i : Int) < up.1 := by omega
          have hN := HNN.out
          rw [← HD.out, List.dropWhile_cons_of_neg (by simpa using hpop)] at hN
          dsimp only at hN
          have HNN := Aside0.mk hN
          clear hN HD
          have hq := HOW.out (rd_T60 f (i : Int)).f0 ⟨rd_T60 f (i : Int), rd_mem f i hlt, rfl⟩
          have hR4 := Kd.R_alloc hR2 (.cells #[.string (rd_T60 f (i : Int)).f0, .int .i64 (rd_T60 f (i : Int)).f1, .int .i64 (rd_T60 f (i : Int)).f2, .int .i64 (rd_T60 f (i : Int)).f3] 60)
          have tf2 := tf 2
          obtain ⟨⟨nm, fr, tv, kd⟩, hx⟩ : ∃ x, rd_T60 f (i : Int) = x := ⟨_, rfl⟩
          rw [hx] at HNN x0 x1 x2 x3 hq hR4 ⊢
          clear hx hR hR2 bx tf
          dsimp only at HNN x0 x1 x2 x3 hq hR4 ⊢
          have hBa : Below w.heap.size w (wr.alloc (.cells #[.string nm, .int .i64 fr, .int .i64 tv, .int .i64 kd] 60)) := hB.alloc hB.size _
          cases ho : own nm with
          | false =>
            obtain rfl : false = ans := by have := HNN.out; rw [ho, if_pos rfl] at this; exact this
            rw [ho] at hq
            have hq2 := Aside0.mk hq
            clear ho hq HNN hR4
            go_wp2
            go_quiet ((go_at_call 82; exact Calls.quiet_of ((forest_own.calls ko nm false _ hq2.out).mono fun _ _ h => ⟨h.1, h.2.out⟩)))
            go_wp2
            go_ret
            exact ⟨rfl, pw_below_drewN hBa _⟩
          | true =>
            rw [ho] at hq
            have hq2 := Aside0.mk hq
            have HN2 := HNN.out
            rw [ho, if_neg (by simp)] at HN2
            clear ho hq HNN
            by_cases c1 : fr < up.2.2
            · rw [if_pos c1] at HN2
              subst HN2
              clear hR4
              go_wp2
              go_quiet ((go_at_call 82; exact Calls.quiet_of ((forest_own.calls ko nm true _ hq2.out).mono fun _ _ h => ⟨h.1, h.2.out⟩)))
              go_wp2
              go_ret
              exact ⟨rfl, pw_below_drewN hBa _⟩
            · rw [if_neg c1] at HN2
              have d1 : decide (fr < up.2.2) = false := decide_eq_false c1
              clear c1
              by_cases c2 : tv < fr
              · rw [if_pos c2] at HN2
                subst HN2
                clear hR4
                go_wp2
                go_quiet ((go_at_call 82; exact Calls.quiet_of ((forest_own.calls ko nm true _ hq2.out).mono fun _ _ h => ⟨h.1, h.2.out⟩)))
                go_wp2
                go_ret
                exact ⟨rfl, pw_below_drewN hBa _⟩
              · rw [if_neg c2] at HN2
                have d2 : decide (tv < fr) = false := decide_eq_false c2
                clear c2
                by_cases c3 : tv > up.2.1
                · rw [if_pos c3] at HN2
                  subst HN2
                  clear hR4
                  have c3' : up.2.1 < tv := c3
                  clear c3
                  go_wp2
                  go_quiet ((go_at_call 82; exact Calls.quiet_of ((forest_own.calls ko nm true _ hq2.out).mono fun _ _ h => ⟨h.1, h.2.out⟩)))
                  go_wp2
                  go_ret
                  exact ⟨rfl, pw_below_drewN hBa _⟩
                · rw [if_neg c3] at HN2
                  have HN3 := Aside0.mk HN2
                  have d3 : decide (up.2.1 < tv) = false := decide_eq_false c3
                  clear c3 HN2
                  obtain ⟨al, hal, xl⟩ := Kd.at_int hCl (i : Int) (by omega) (by omega)
                  rw [Int.toNat_natCast] at xl
                  have HF : Aside0 (∀ n, (fun W : World => RR W w.heap.size (.slice (some ⟨g, 0, none⟩) (r.length + 1) cap) (r.reverse ++ [(up.1, up.2.1, tv)]) ∧ W.cell? ⟨wr.heap.size, 1, none⟩ = some (.int .i64 fr) ∧ W.cell? ⟨wr.heap.size, 2, none⟩ = some (.int .i64 tv) ∧ W.cell? (al.add i) = some (.int .i64 (rd l (i : Int))) ∧ Below w.heap.size w W) (((wr.alloc (.cells #[.string nm, .int .i64 fr, .int .i64 tv, .int .i64 kd] 60)).drewN n).setCell ⟨g, r.length * 3 + 2, none⟩ (.int .i64 tv))) := ⟨fun n => by
                    have hB4 : Below w.heap.size w (((wr.alloc (.cells #[.string nm, .int .i64 fr, .int .i64 tv, .int .i64 kd] 60)).drewN n).setCell ⟨g, r.length * 3 + 2, none⟩ (.int .i64 tv)) := (pw_below_drewN hBa n).setCell (p := ⟨g, r.length * 3 + 2, none⟩) hgb _
                    have hne : ∀ k, (⟨g, r.length * 3 + 2, none⟩ : Addr) ≠ ⟨wr.heap.size, k, none⟩ := fun k e => by injection e with e1; omega
                    refine ⟨(top_put (Kd.R_drewN hR4 n) rfl tv).1, ?_, ?_, ?_, hB4⟩
                    · rw [World.cell?_setCell_other _ _ _ _ (hne 1)]; go_simp
                    · rw [World.cell?_setCell_other _ _ _ _ (hne 2)]; go_simp
                    · exact (hB4.cell (World.block_lt_of_cell? w _ xl)).trans xl⟩
                  clear hR4 xl
                  go_wp2
                  go_quiet ((go_at_call 82; exact Calls.quiet_of ((forest_own.calls ko nm true _ hq2.out).mono fun _ _ h => ⟨h.1, h.2.out⟩)))
                  go_wp2
                  have HF1 := HF.out nq
                  try dsimp only at HF1
                  generalize ((wr.alloc (.cells #[.string nm, .int .i64 fr, .int .i64 tv, .int .i64 kd] 60)).drewN nq).setCell ⟨g, r.length * 3 + 2, none⟩ (.int .i64 tv) = wC at HF1 ⊢
                  obtain ⟨hRC, b1, b2, bl, hBC⟩ := HF1
                  clear HF
                  subst hal
                  have hin : (Tryd.prog.info? 130).map (fun i => (i.zero, i.size, i.bytes)) = some (some (.agg #[.int .i64 0, .int .i64 0, .int .i64 0]), 3, 24) := by kernel_rfl
                  have hsz : w.heap.size ≤ wC.heap.size := hBC.size
                  go_region_law (first | (refine Kd.R_append_step kR (w0 := w) w.heap.size (by simp [Region.wanted]) (.tmp 76) (.tmp 86) 131 130 (.agg #[.int .i64 0, .int .i64 0, .int .i64 0]) 24 rfl Tryd.underlying131 hin rfl (by decide) (by omega) (.slice (some ⟨g, 0, none⟩) (r.length + 1) cap) (r.reverse ++ [(up.1, up.2.1, tv)]) (rd l (i : Int), tv, fr) [.int .i64 (rd l (i : Int)), .int .i64 tv, .int .i64 fr] (fun _ => True) (fun _ => False) rfl rfl (kR_mkM _ _ _ (rd l (i : Int), tv, fr)) (fun _ hk => hk.elim) (fun _ _ => trivial) (Kd.R_drew hRC) (below_drew hBC) (by simpa using hsz) (by simp; omega) ?_; intro v1 w1 hr1 hb1 _ _))
                  all_goals
                    go_wp2
                    exact ⟨⟨i + 1, (rd l (i : Int), tv, fr) :: (up.1, up.2.1, tv) :: r, by omega, by simp, by simpa using hr1, hBot2.push _ _, ⟨by have h := hlen.out; rw [List.length_cons] at h; rw [List.length_cons, List.length_cons]; omega⟩, ⟨by rw [show f.length - (i + 1) = d by omega]; exact HN3.out⟩, hb1⟩, by simp [intOf]; omega⟩
    · obtain rfl : f.length = i := by omega
      go_wp2
      go_ret
      exact ⟨by have := HN.out; rw [Nat.sub_self, nst] at this; rw [← this]; rfl, hB⟩
end
end Go.Proofs.YtloflodbcdlmpaaDoor.Nest
namespace Go.Proofs.YtloflodbcdlmpaaDoor.Own
open Go.RowKit Go.Proofs.YtloflodbcdlmpaaDoor.Qall Go.Proofs.YtloflodbcdlmpaaDoorW.PrintWords Go.Proofs.YtloflodbcdlmpaaDoorW.PrintLast Go.Proofs.YtloflodbcdlmpaaDoorW.PrintMore
set_option linter.unusedSimpArgs false
set_option linter.unusedVariables false
def isL (c : Int) : Bool := (decide (97 ≤ c) && decide (c ≤ 122)) || (decide (65 ≤ c) && decide (c ≤ 90)) || c == 95
def isD (c : Int) : Bool := decide (48 ≤ c) && decide (c ≤ 57)
theorem wrap_of {i : Int} (h0 : -9223372036854775808 ≤ i) (h1 : i ≤ 9223372036854775807) : wrap64 i = i := by
  unfold wrap64
  omega
theorem lex_letter (c : Int) : lexis_letter.f c = some (isL c) := by
  unfold lexis_letter.f isL
  by_cases h1 : 97 ≤ c <;> by_cases h2 : c ≤ 122 <;> by_cases h3 : 65 ≤ c <;> by_cases h4 : c ≤ 90 <;> simp [h1, h2, h3, h4] <;> omega
theorem lex_digit (c : Int) : lexis_digit.f c = some (isD c) := by
  unfold lexis_digit.f isD
  by_cases h1 : 48 ≤ c <;> simp [h1]
/-- How many letters and digits stand from place i on, of d bytes. -/
def run (s : ByteArray) : Nat → Nat → Nat
  | 0, _ => 0
  | d + 1, i => if isL (bt s (i : Int)) || isD (bt s (i : Int)) then run s d (i + 1) + 1 else 0
theorem run_le (s : ByteArray) : ∀ d i, run s d i ≤ d
  | 0, _ => Nat.le_refl _
  | d + 1, i => by
    unfold run
    split
    · have := run_le s d (i + 1); omega
    · omega
def own0 (s : ByteArray) : Nat := if 0 < s.size ∧ isL (bt s 0) = true then 1 + run s (s.size - 1) 1 else 0
def nameOk (s : ByteArray) : Bool := decide (s.size ≠ 0 ∧ s.size ≤ 64 ∧ own0 s = s.size)
theorem lex_run (s : ByteArray) (hs : s.size ≤ 1073741824) : ∀ d k n, 1 ≤ n → n + d = s.size → d < k → lexis_own.l0 k s 0 (n : Int) = some ((n + run s d n : Nat) : Int)
  | 0, k, n, h1, hn, hk => by
    obtain ⟨k, rfl⟩ : ∃ m, k = m + 1 := ⟨k - 1, by omega⟩
    rw [lexis_own.l0, Int.zero_add, wrap_of (by omega) (by omega), if_neg (by omega), run, Nat.add_zero]
  | d + 1, k, n, h1, hn, hk => by
    obtain ⟨k, rfl⟩ : ∃ m, k = m + 1 := ⟨k - 1, by omega⟩
    have ih := lex_run s hs d k (n + 1) (by omega) (by omega) (by omega)
    have h0 : (n : Int) > 0 := by omega
    rw [lexis_own.l0, Int.zero_add, wrap_of (i := (n : Int)) (by omega) (by omega), wrap_of (i := (n : Int) + 1) (by omega) (by omega), if_pos (by omega), if_pos (by omega), lex_letter, Option.bind_some, lex_digit, show (n : Int) + 1 = ((n + 1 : Nat) : Int) from rfl, ih, run]
    cases hL : isL (bt s (n : Int)) <;> cases hD : isD (bt s (n : Int)) <;> simp [hL, hD, show 0 < n by omega] <;> omega
theorem lex_own (s : ByteArray) (hs : s.size ≤ 1073741824) (k : Nat) (hk : s.size < k) : lexis_own.f k s 0 = some ((own0 s : Nat) : Int) := by
  obtain ⟨k, rfl⟩ : ∃ m, k = m + 1 := ⟨k - 1, by omega⟩
  unfold lexis_own.f own0
  rw [lexis_own.l0, show wrap64 (0 + 0) = 0 from wrap_of (by omega) (by omega)]
  by_cases h0 : 0 < s.size
  · have hr := lex_run s hs (s.size - 1) k 1 (Nat.le_refl _) (by omega) (by omega)
    rw [if_pos (by omega), if_pos (by omega), lex_letter, Option.bind_some, show wrap64 (0 + 1) = ((1 : Nat) : Int) from wrap_of (by omega) (by omega), hr]
    cases hL : isL (bt s 0) <;> simp [hL, h0]
  · rw [if_neg (by omega), if_neg (by omega)]
    rfl
theorem size_list (s : ByteArray) : s.toList = [] ↔ s.size = 0 := by
  rw [ByteArray.toList_eq, ← List.length_eq_zero_iff, Array.length_toList]
  rfl
/-- Of an own name every byte is a letter or a digit. -/
theorem run_all (s : ByteArray) : ∀ d i, run s d i = d → ∀ j, i ≤ j → j < i + d → isL (bt s (j : Int)) = true ∨ isD (bt s (j : Int)) = true
  | 0, i, _, j, h1, h2 => by omega
  | d + 1, i, h, j, h1, h2 => by
    unfold run at h
    split at h
    · rename_i hc
      by_cases e : j = i
      · subst e
        simpa using hc
      · exact run_all s d (i + 1) (by omega) j (by omega) (by omega)
    · omega
theorem own0_le (s : ByteArray) : own0 s ≤ s.size := by
  unfold own0
  split
  · have := run_le s (s.size - 1) 1; omega
  · omega
theorem own0_all (s : ByteArray) (h : own0 s = s.size) (h0 : s.size ≠ 0) (j : Nat) (hj : j < s.size) : isL (bt s (j : Int)) = true ∨ isD (bt s (j : Int)) = true := by
  unfold own0 at h
  split at h
  · rename_i hc
    by_cases e : j = 0
    · subst e; exact .inl hc.2
    · exact run_all s (s.size - 1) 1 (by omega) j (by omega) (by omega)
  · omega
theorem not_sep {c : Int} (h : isL c = true ∨ isD c = true) : c ≠ 58 ∧ c ≠ 126 := by
  constructor <;> rintro rfl <;> revert h <;> decide
theorem bt_extract (s : ByteArray) (n j : Nat) (h : n + j < s.size) : bt (s.extract n s.size) (j : Int) = bt s ((n + j : Nat) : Int) := by
  unfold bt
  have h1 : (j : Int).toNat < (s.extract n s.size).size := by rw [ByteArray.size_extract]; omega
  have h2 : ((n + j : Nat) : Int).toNat < s.size := by omega
  rw [dif_pos h1, dif_pos h2]
  have : (s.extract n s.size)[(j : Int).toNat] = s[((n + j : Nat) : Int).toNat] := by
    rw [ByteArray.getElem_extract]
    rfl
  rw [this]
/-- A text that doesn't begin with a colon has no colons ahead. -/
theorem prefix_no (x : ByteArray) (h : x.size = 0 ∨ bt x 0 ≠ 58) : strings_HasPrefix.f x ⟨#[58, 58]⟩ = some false := by
  unfold strings_HasPrefix.f stringslite_HasPrefix.f
  have h2 : (⟨#[58, 58]⟩ : ByteArray).size = 2 := rfl
  rw [h2]
  by_cases hx : (x.size : Int) ≥ ((2 : Nat) : Int)
  · rw [if_pos hx, if_pos (by omega), if_pos (by omega), Option.bind_some]
    congr 1
    rw [Bool.eq_false_iff]
    intro he
    have he2 : (x.extract 0 (((2 : Nat) : Int)).toNat).toList = (⟨#[58, 58]⟩ : ByteArray).toList := by simpa using he
    rw [ByteArray.toList_eq, ByteArray.toList_eq] at he2
    have he3 : x.extract 0 2 = ⟨#[58, 58]⟩ := Go.WideShapes.bytes_inj he2
    rcases h with h | h
    · omega
    · apply h
      unfold bt
      rw [dif_pos (by omega)]
      have h4 : (x.extract 0 2)[0]'(by rw [ByteArray.size_extract]; omega) = (⟨#[58, 58]⟩ : ByteArray)[0]'(by rw [h2]; omega) := by
        congr 1
      rw [ByteArray.getElem_extract] at h4
      have h5 : x[(0 : Int).toNat]'(by omega) = 58 := h4
      rw [h5]
      rfl
  · rw [if_neg hx]; rfl
theorem numbered_no (x : ByteArray) (h : x.size = 0 ∨ bt x 0 ≠ 126) (k : Nat) (hk : 1 ≤ k) : lexis_numbered.f k x = some 0 := by
  obtain ⟨k, rfl⟩ : ∃ m, k = m + 1 := ⟨k - 1, by omega⟩
  unfold lexis_numbered.f
  by_cases h0 : x.size = 0
  · rw [if_pos ((size_list x).2 h0), lexis_numbered.j0, if_pos rfl]
  · rw [if_neg (fun e => h0 ((size_list x).1 e)), if_pos (by omega), lexis_numbered.j0, if_pos (by simpa using h.resolve_left h0)]
/-- Name of a text without : and ~ . -/
theorem name_eq (s : ByteArray) (hs : s.size ≤ 1073741824) (hc : ∀ j, j < s.size → bt s (j : Int) ≠ 58 ∧ bt s (j : Int) ≠ 126) (k : Nat) (hk : s.size < k) : lexis_Name.f k s = some (nameOk s) := by
  unfold lexis_Name.f nameOk
  by_cases h0 : s.size = 0
  · rw [if_pos ((size_list s).2 h0)]; simp [h0]
  · rw [if_neg (fun e => h0 ((size_list s).1 e))]
    by_cases h1 : s.size ≤ 64
    · rw [if_pos (by omega)]
      have hle := own0_le s
      unfold lexis_named.f
      rw [lex_own s hs k hk, Option.bind_some]
      by_cases hz : own0 s = 0
      · rw [if_pos (by omega), Option.bind_some]
        congr 1
        rw [Bool.eq_iff_iff]
        simp [h0, h1, hz]
        omega
      · rw [if_neg (by omega), Int.zero_add, wrap_of (i := ((own0 s : Nat) : Int)) (by omega) (by omega), if_pos (by omega), if_pos (by omega), Int.toNat_natCast]
        have hx : ∀ c, (c = 58 ∨ c = 126) → (s.extract (own0 s) s.size).size = 0 ∨ bt (s.extract (own0 s) s.size) 0 ≠ c := fun c hcc => by
          by_cases he : own0 s < s.size
          · right
            have := bt_extract s (own0 s) 0 (by omega)
            rw [show (0 : Int) = ((0 : Nat) : Int) from rfl, this]
            have h2 := hc (own0 s + 0) (by omega)
            rcases hcc with rfl | rfl
            · exact h2.1
            · exact h2.2
          · left
            rw [ByteArray.size_extract]; omega
        rw [prefix_no _ (hx 58 (.inl rfl)), Option.bind_some, if_neg (by simp), numbered_no _ (hx 126 (.inr rfl)) k (by omega), Option.bind_some, Int.add_zero, wrap_of (i := ((own0 s : Nat) : Int)) (by omega) (by omega), Option.bind_some]
        congr 1
        rw [Bool.eq_iff_iff]
        simp [h0, h1]
        omega
    · rw [if_neg (by omega)]; simp [h1]
theorem own_l0 (s : ByteArray) (hs : s.size ≤ 1073741824) : ∀ d k i, i + d = s.size → s.size + d + 1 < k → (∀ j, j < i → bt s (j : Int) ≠ 58 ∧ bt s (j : Int) ≠ 126) → forest_own.l0 k s (i : Int) = some (nameOk s)
  | 0, k, i, hi, hk, hc => by
    obtain ⟨k, rfl⟩ : ∃ m, k = m + 1 := ⟨k - 1, by omega⟩
    rw [forest_own.l0, if_neg (by omega), name_eq s hs (fun j hj => hc j (by omega)) k (by omega)]
    rfl
  | d + 1, k, i, hi, hk, hc => by
    obtain ⟨k, rfl⟩ : ∃ m, k = m + 1 := ⟨k - 1, by omega⟩
    have hno : (bt s (i : Int) = 58 ∨ bt s (i : Int) = 126) → nameOk s = false := fun h => by
      unfold nameOk
      rw [decide_eq_false_iff_not]
      rintro ⟨h0, _, h2⟩
      have := not_sep (own0_all s h2 h0 i (by omega))
      rcases h with h | h
      · exact this.1 h
      · exact this.2 h
    rw [forest_own.l0, if_pos (by omega), if_pos (by omega)]
    by_cases h1 : bt s (i : Int) = 58
    · rw [if_pos h1, hno (.inl h1)]
    · rw [if_neg h1]
      by_cases h2 : bt s (i : Int) = 126
      · rw [if_pos h2, hno (.inr h2)]
      · rw [if_neg h2, wrap_of (i := (i : Int) + 1) (by omega) (by omega)]
        refine own_l0 s hs d k (i + 1) (by omega) (by omega) (fun j hj => ?_)
        by_cases e : j = i
        · subst e; exact ⟨h1, h2⟩
        · exact hc j (by omega)
theorem own_eq (s : ByteArray) (hs : s.size ≤ 1073741824) (k : Nat) (hk : 2 * s.size + 1 < k) : forest_own.f k s = some (nameOk s) :=
  own_l0 s hs s.size k 0 (by omega) (by omega) (fun j hj => absurd hj (Nat.not_lt_zero j))
end Go.Proofs.YtloflodbcdlmpaaDoor.Own
namespace Go.Proofs.YtloflodbcdlmpaaDoor.Chk
open Go.RowKit Go.Proofs.YtloflodbcdlmpaaDoor.Qall Go.Proofs.YtloflodbcdlmpaaDoor.Fo Go.Proofs.YtloflodbcdlmpaaDoor.Nest Go.Proofs.YtloflodbcdlmpaaDoorW.PrintWords Go.Proofs.YtloflodbcdlmpaaDoorW.PrintLast Go.Proofs.YtloflodbcdlmpaaDoorW.PrintMore
set_option linter.unusedSimpArgs false
set_option linter.unusedVariables false
theorem wrap_of {i : Int} (h0 : -9223372036854775808 ≤ i) (h1 : i ≤ 9223372036854775807) : wrap64 i = i := by
  unfold wrap64
  omega
def rightB (f : List S60) (size : Int) : Bool := (mach [] (K f)).isSome && nst Own.nameOk f (absZ (-1) (ex (K f)) 0) f.length 0 [((f.length : Int), size, 0)]
/-- What Check tells. -/
def chkAns (f : List S60) (size : Int) : Int := if size < 0 ∨ size > 65536 then 5 else if f.length > 1048576 then 1 else if rightB f size = true then 0 else 6
set_option maxRecDepth 100000 in
set_option maxHeartbeats 4000000 in
theorem check_calls (f : List S60) (hn : f.length ≤ 2097152) (size : Int) (M : Nat) (hM : ∀ x ∈ f, x.f0.size ≤ M) (hM2 : M ≤ 1073741824) (Af : Option Addr) (cf : Nat) (w : World) (hCf : Kd.C k60 w Af f.length f) (hcf : f.length ≤ cf) :
    Calls Tryd.prog 22 #[.slice Af f.length cf, .int .i64 size] w fun e w' => e = .returned (.int .i64 (chkAns f size)) ∧ Below w.heap.size w w' := by
  obtain ⟨K1, h1⟩ : ∃ K1, ∀ k, K1 ≤ k → forest_ends.f k f = some (absZ (-1) (ex (K f)) 0) := ends_ev f hn
  obtain ⟨K2, h2⟩ : ∃ K2, ∀ k, K2 ≤ k → forest_roots.f k (absZ (-1) (ex (K f)) 0) = some (match rt f.length (ex (K f)) 0 with | none => ([], false) | some l => (l, true)) := roots_ev f hn
  have hen := Aside0.mk (h1 K1 (Nat.le_refl _))
  have hro := h2 K2 (Nat.le_refl _)
  have hal : (absZ (-1) (ex (K f)) 0).length = f.length := by rw [absZ_length, ex_length, K_length]
  have hrm := rt_mach f
  clear h1 h2
  have HAL := Aside0.mk hal
  have hown : ∀ s, (∃ x ∈ f, x.f0 = s) → forest_own.f (2 * M + 2) s = some (Own.nameOk s) := fun s hs => by
    obtain ⟨x, hx, rfl⟩ := hs
    exact Own.own_eq x.f0 (by have := hM x hx; omega) (2 * M + 2) (by have := hM x hx; omega)
  by_cases c1 : size < 0
  · have e : chkAns f size = 5 := by unfold chkAns; rw [if_pos (.inl c1)]
    rw [e]
    clear e hro hal hrm hown
    go_enter Tryd.func22, Tryd.ntmps22
    go_wp2
    go_ret
    exact ⟨rfl, Below.refl _ _⟩
  · by_cases c2 : 65536 < size
    · have e : chkAns f size = 5 := by unfold chkAns; rw [if_pos (.inr c2)]
      rw [e]
      clear e hro hal hrm hown
      go_enter Tryd.func22, Tryd.ntmps22
      go_wp2
      go_ret
      exact ⟨rfl, Below.refl _ _⟩
    · by_cases c3 : 1048576 < f.length
      · have e : chkAns f size = 1 := by unfold chkAns; rw [if_neg (by omega), if_pos c3]
        rw [e]
        clear e hro hal hrm hown
        go_enter Tryd.func22, Tryd.ntmps22
        go_wp2
        go_ret
        exact ⟨rfl, Below.refl _ _⟩
      · have ea : chkAns f size = if rightB f size = true then 0 else 6 := by unfold chkAns; rw [if_neg (by omega), if_neg (by omega)]
        cases hr : rt f.length (ex (K f)) 0 with
        | none =>
          rw [hr] at hro hrm
          have e : chkAns f size = 6 := by
            rw [ea]
            unfold rightB
            rw [← hrm]
            rfl
          rw [e]
          dsimp only at hro
          have HRO := Aside0.mk hro
          clear e ea hro hal hrm hown hr
          go_enter Tryd.func22, Tryd.ntmps22
          go_wp2_with (first | (go_at_call 48; go_loud (refine (forest_ends.calls K1 Af cf f _ w hCf hcf hen.out).mono ?_; rintro e w1 ⟨v0, rfl, hR, hb⟩; obtain ⟨Ae, ce, hve⟩ := Kd.R_slice hR; rw [HAL.out] at hve; subst hve; have hE := (Kd.R_reads' hR).2; rw [HAL.out] at hE)) | (go_at_call 49; go_loud (have hq := forest_roots.calls K2 Ae ce (absZ (-1) (ex (K f)) 0) [] false w1; rw [HAL.out] at hq; refine (hq hE.2 hE.1 HRO.out).mono ?_; rintro e w2 ⟨v1, rfl, hR1, hb1⟩; obtain ⟨A1, ce1, rfl⟩ := Kd.R_slice hR1)) | fail)
          go_ret
          exact ⟨rfl, hb.trans (hb1.mono hb.size)⟩
        | some rs =>
          rw [hr] at hro hrm
          have hms : (mach [] (K f)).isSome = true := by rw [← hrm]; rfl
          have e : chkAns f size = if nst Own.nameOk f (absZ (-1) (ex (K f)) 0) f.length 0 [((f.length : Int), size, 0)] = true then 0 else 6 := by
            rw [ea]
            unfold rightB
            rw [hms, Bool.true_and]
          rw [e]
          dsimp only at hro
          have HRO := Aside0.mk hro
          have HN := fun (Al : Option Addr) (cl : Nat) (W : World) (hC1 : Kd.C k60 W Af f.length f) (hC2 : Kd.C (Kd.int .i64) W Al f.length (absZ (-1) (ex (K f)) 0)) (h3 : f.length ≤ cl) => nested_calls Own.nameOk f (absZ (-1) (ex (K f)) 0) size (2 * M + 2) hown hn Af cf Al cl hal W hC1 hcf hC2 h3
          obtain ⟨b, hb⟩ : ∃ b, nst Own.nameOk f (absZ (-1) (ex (K f)) 0) f.length 0 [((f.length : Int), size, 0)] = b := ⟨_, rfl⟩
          rw [hb] at HN ⊢
          have HNN := Aside0.mk HN
          clear e ea hro hal hrm hown hr HN hb hms
          cases b with
          | false =>
            rw [if_neg (by simp)]
            go_enter Tryd.func22, Tryd.ntmps22
            go_wp2_with (first | (go_at_call 48; go_loud (refine (forest_ends.calls K1 Af cf f _ w hCf hcf hen.out).mono ?_; rintro e w1 ⟨v0, rfl, hR, hb⟩; obtain ⟨Ae, ce, hve⟩ := Kd.R_slice hR; rw [HAL.out] at hve; subst hve; have hE := (Kd.R_reads' hR).2; rw [HAL.out] at hE)) | (go_at_call 49; go_loud (have hq := forest_roots.calls K2 Ae ce (absZ (-1) (ex (K f)) 0) rs true w1; rw [HAL.out] at hq; refine (hq hE.2 hE.1 HRO.out).mono ?_; rintro e w2 ⟨v1, rfl, hR1, hb1⟩; obtain ⟨A1, ce1, rfl⟩ := Kd.R_slice hR1; have b2 := hb.trans (hb1.mono hb.size))) | (go_at_call 50; refine (HNN.out Ae ce w2 (Kd.C_below hCf b2) (Kd.C_below hE.2 hb1) hE.1).mono ?_; rintro e w3 ⟨rfl, hb3⟩) | fail)
            go_ret
            exact ⟨rfl, b2.trans (hb3.mono b2.size)⟩
          | true =>
            rw [if_pos rfl]
            go_enter Tryd.func22, Tryd.ntmps22
            go_wp2_with (first | (go_at_call 48; go_loud (refine (forest_ends.calls K1 Af cf f _ w hCf hcf hen.out).mono ?_; rintro e w1 ⟨v0, rfl, hR, hb⟩; obtain ⟨Ae, ce, hve⟩ := Kd.R_slice hR; rw [HAL.out] at hve; subst hve; have hE := (Kd.R_reads' hR).2; rw [HAL.out] at hE)) | (go_at_call 49; go_loud (have hq := forest_roots.calls K2 Ae ce (absZ (-1) (ex (K f)) 0) rs true w1; rw [HAL.out] at hq; refine (hq hE.2 hE.1 HRO.out).mono ?_; rintro e w2 ⟨v1, rfl, hR1, hb1⟩; obtain ⟨A1, ce1, rfl⟩ := Kd.R_slice hR1; have b2 := hb.trans (hb1.mono hb.size))) | (go_at_call 50; refine (HNN.out Ae ce w2 (Kd.C_below hCf b2) (Kd.C_below hE.2 hb1) hE.1).mono ?_; rintro e w3 ⟨rfl, hb3⟩) | fail)
            go_ret
            exact ⟨rfl, b2.trans (hb3.mono b2.size)⟩
end Go.Proofs.YtloflodbcdlmpaaDoor.Chk
