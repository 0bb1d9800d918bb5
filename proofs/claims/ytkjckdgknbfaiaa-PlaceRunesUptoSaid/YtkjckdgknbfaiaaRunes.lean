/- The walk of PlaceRunes: it answers true, and what lay ahead of the call lies as it lay. Conditions: a text of at most 2^30 bytes. -/
import Derived.Test.YtkjckdgknbfaiaaIter
namespace Go.Proofs.Ytkjckdgknbfaiaa.Runes
set_option linter.unusedSimpArgs false
set_option linter.unusedVariables false
open Go.RowKit Go.Shelf Go.Proofs.Ytkjckdgknbfaiaa.Qall Go.Proofs.Ytkjckdgknbfaiaa.Iter Go.Proofs.YtkjckdgknbfaiaaW.PrintWords
attribute [local go_sem] Oper.semAt_some
section
open Go.Proofs.YtkjckdgknbfaiaaW.PrintLast Go.Proofs.YtkjckdgknbfaiaaW.PrintMore
def charsFrom (s : ByteArray) : Nat → Nat → List S31
  | 0, _ => []
  | f + 1, pos => if pos < s.size then ⟨(pos : Int), ((Utf8.decode s pos).2 : Int), ((Utf8.decode s pos).1 : Int)⟩ :: charsFrom s f (pos + (Utf8.decode s pos).2) else []
theorem charsFrom_end (s : ByteArray) (f pos : Nat) (h : ¬ pos < s.size) : charsFrom s f pos = [] := by cases f <;> simp [charsFrom, h]
theorem charsFrom_step (s : ByteArray) (f pos : Nat) (h : pos < s.size) : charsFrom s (f + 1) pos = ⟨(pos : Int), ((Utf8.decode s pos).2 : Int), ((Utf8.decode s pos).1 : Int)⟩ :: charsFrom s f (pos + (Utf8.decode s pos).2) := by rw [charsFrom, if_pos h]
theorem charsFrom_le (s : ByteArray) : ∀ f pos, (charsFrom s f pos).length ≤ f
  | 0, _ => by simp [charsFrom]
  | f + 1, pos => by
    have := charsFrom_le s f (pos + (Utf8.decode s pos).2)
    rw [charsFrom]
    split
    · simp; omega
    · simp
def chars (s : ByteArray) : List S31 := charsFrom s s.size 0
theorem chars_le (s : ByteArray) : (chars s).length ≤ s.size := charsFrom_le s _ _
theorem chars_l0 (s : ByteArray) (hn : s.size ≤ 1073741824) : ∀ (d k : Nat) (acc : List S31) (pos : Nat), s.size ≤ pos + d → pos ≤ s.size → d + 4 < k → acc.length ≤ pos →
    dowelref02_Chars.l0 k s acc (pos : Int) = some (acc ++ charsFrom s d pos) := by
  intro d
  induction d with
  | zero =>
    intro k acc pos h1 h2 hk ha
    obtain ⟨k, rfl⟩ : ∃ m, k = m + 1 := ⟨k - 1, by omega⟩
    rw [dowelref02_Chars.l0, if_neg (by omega)]
    simp [charsFrom]
  | succ d ih =>
    intro k acc pos h1 h2 hk ha
    obtain ⟨k, rfl⟩ : ∃ m, k = m + 1 + 4 := ⟨k - 5, by omega⟩
    rw [dowelref02_Chars.l0]
    by_cases c : pos < s.size
    · have hw := width_pos s pos c
      have hw2 := width_le s pos c
      rw [if_pos (by omega), one_eq s hn k pos c, Option.bind_some, if_pos (by omega)]
      dsimp only
      rw [wrap_of (by omega) (by omega), show ((pos : Int) + ((Utf8.decode s pos).2 : Int)) = ((pos + (Utf8.decode s pos).2 : Nat) : Int) from by omega]
      rw [show k + 3 + 1 = k + 4 from rfl, ih (k + 4) _ _ (by omega) (by omega) (by omega) (by simp; omega), charsFrom_step s d pos c]
      simp
    · rw [if_neg (by omega), charsFrom_end s _ pos c]
      simp
theorem chars_eq (s : ByteArray) (hn : s.size ≤ 1073741824) (k : Nat) (hk : s.size + 4 < k) : dowelref02_Chars.f k s = some (chars s) := by
  unfold dowelref02_Chars.f
  have := chars_l0 s hn s.size k [] 0 (by omega) (by omega) hk (by simp)
  rw [show ((0 : Nat) : Int) = 0 from rfl] at this
  rw [this]
  rfl
theorem rd_char (l : List S31) (i : Nat) (h : i < l.length) : rd_T31 l (i : Int) = l[i] := by
  unfold rd_T31
  rw [List.getD_eq_getElem?_getD, Int.toNat_natCast, List.getElem?_eq_getElem h]
  rfl
end
theorem bx {n B : Nat} {w W : World} {t : TypeId} {v : Value} (hB : Below n w W) (h : Boxed w B t v) (hlt : B < n) : Boxed W B t v := (hB.block _ hlt).trans h
theorem runesFrom_le (s : ByteArray) (hs : s.size ≤ 4611686018427387904) : ∀ f p, (runesFrom s hs f p).length ≤ f
  | 0, _ => Nat.le_refl _
  | f + 1, p => by
    unfold runesFrom
    split
    · simp only [List.length_cons]
      have := runesFrom_le s hs f (p + (Utf8.decode s p).2)
      omega
    · simp
theorem runes_le (s : ByteArray) (hs : s.size ≤ 4611686018427387904) : (runes s hs).length ≤ s.size := runesFrom_le s hs _ _
/-- What a round asks of the character x behind those of p. -/
def okR (s : ByteArray) (p : List Rn) (x : Rn) : Prop := p.length < (chars s).length ∧ (x.pos : Int) = (rd_T31 (chars s) (p.length : Int)).f0 ∧ (x.c : Int) = (rd_T31 (chars s) (p.length : Int)).f2
def GoodR (s : ByteArray) (pre : List Rn) : Prop := ∀ p x, p ++ [x] <+: pre → okR s p x
theorem goodR_nil (s : ByteArray) : GoodR s [] := fun p x h => by simp at h
theorem goodR_snoc (s : ByteArray) (pre : List Rn) (x : Rn) (h : GoodR s pre) (hx : okR s pre x) : GoodR s (pre ++ [x]) := fun p y hp => by
  obtain ⟨t, ht⟩ := hp
  rcases List.eq_nil_or_concat t with rfl | ⟨t', z, rfl⟩
  · rw [List.append_nil] at ht
    obtain ⟨rfl, e⟩ := List.append_inj' ht rfl
    obtain rfl : y = x := by simpa using e
    exact hx
  · rw [List.concat_eq_append, ← List.append_assoc] at ht
    obtain ⟨e, _⟩ := List.append_inj' ht rfl
    exact h p y ⟨t', e⟩
theorem goodR_last (s : ByteArray) (pre : List Rn) (x : Rn) (h : GoodR s (pre ++ [x])) : okR s pre x := h pre x (List.prefix_refl _)
def toC (s : ByteArray) (x : Rn) : S31 := ⟨(x.pos : Int), ((Utf8.decode s x.pos).2 : Int), (x.c : Int)⟩
theorem chars_runesFrom (s : ByteArray) (hs2 : s.size ≤ 4611686018427387904) : ∀ f pos, charsFrom s f pos = (runesFrom s hs2 f pos).map (toC s)
  | 0, _ => rfl
  | f + 1, pos => by
    by_cases h : pos < s.size
    · rw [charsFrom_step s f pos h, runesFrom, dif_pos h, List.map_cons, ← chars_runesFrom s hs2 f]
      rfl
    · rw [charsFrom_end s _ _ h, runesFrom_end s hs2 _ _ h]
      rfl
theorem chars_runes (s : ByteArray) (hs2 : s.size ≤ 4611686018427387904) : chars s = (runes s hs2).map (toC s) := chars_runesFrom s hs2 _ _
theorem runes_goodR (s : ByteArray) (hs2 : s.size ≤ 4611686018427387904) (pre : List Rn) (h : pre <+: runes s hs2) : GoodR s pre := fun p x hp => by
  obtain ⟨t, ht⟩ := hp.trans h
  have e : chars s = (p ++ [x] ++ t).map (toC s) := by rw [ht]; exact chars_runes s hs2
  have hl : p.length < (chars s).length := by rw [e]; simp
  refine ⟨hl, ?_⟩
  rw [rd_char _ _ hl]
  have e2 : (chars s)[p.length] = toC s x := by simp only [e]; simp
  rw [e2]
  exact ⟨rfl, rfl⟩
theorem runes_len (s : ByteArray) (hs2 : s.size ≤ 4611686018427387904) : (runes s hs2).length = (chars s).length := by rw [chars_runes s hs2, List.length_map]
/-- Between two rounds: what the cells hold. -/
def IR (s : ByteArray) (w1 : World) (Ad : Option Addr) (cap Bn Bt : Nat) (tv : Int) (Ds : List Nat) (pre : List Rn) (W : World) : Prop :=
  GoodR s pre ∧ Boxed W Bn 3 (.int .i64 (pre.length : Int)) ∧ Boxed W Bt 3 (.int .i64 tv) ∧ Boxed W w1.heap.size 25 (.slice Ad (chars s).length cap) ∧ Boxed W (w1.heap.size + 1) 9 (.string s) ∧ Boxed W (w1.heap.size + 1 + 1) 28 (.func (.func 28) #[] #[.pointer (some ⟨w1.heap.size + 1, 0, none⟩)]) ∧ Below w1.heap.size w1 W ∧ (∀ D ∈ Ds, W.heap[D]? = some (.deferred (some [])))
theorem IR_own (s : ByteArray) (w1 : World) (Ad : Option Addr) (cap Bn Bt : Nat) (tv : Int) (Ds : List Nat) (B : Nat) (hB : w1.heap.size ≤ B) (hD : ∀ D ∈ Ds, D < B) : OwnFrom B (IR s w1 Ad cap Bn Bt tv Ds) := fun pre X Y row hs hg hr =>
  ⟨hs.1, (Own.from (boxed_own _ _ (fun pre : List Rn => .int .i64 (pre.length : Int))) _) pre X Y row hs.2.1 hg hr, (Own.from (boxed_own _ _ (fun _ => _)) _) pre X Y row hs.2.2.1 hg hr, (Own.from (boxed_own _ _ (fun _ => _)) _) pre X Y row hs.2.2.2.1 hg hr,
    (Own.from (boxed_own _ _ (fun _ => _)) _) pre X Y row hs.2.2.2.2.1 hg hr, (Own.from (boxed_own _ _ (fun _ => _)) _) pre X Y row hs.2.2.2.2.2.1 hg hr, (ownFrom_below (β := List Rn) (Nat.le_refl _) hB) pre X Y row hs.2.2.2.2.2.2.1 hg hr,
    fun D hD' => (hg.block D (Array.getElem?_eq_some_iff.1 (hs.2.2.2.2.2.2.2 D hD')).1 (fun e => by have h1 := (hr D e.symm).1; have h2 := hD D hD'; omega)).trans (hs.2.2.2.2.2.2.2 D hD')⟩
theorem own_walks {β : Type} {B : Nat} (w₀ : World) (hB : w₀.heap.size ≤ B) : OwnFrom B (fun (_ : β) W => KeepsWalks w₀ W) :=
  fun _ X Y row hs hg hr => ⟨Nat.le_trans hs.size hg.size, fun k o h0 ho => by
    have hX := hs.same k o h0 ho
    refine (hg.block k (Array.getElem?_eq_some_iff.1 hX).1 (fun e => ?_)).trans hX
    have h1 := (hr k e.symm).1
    have h2 := (Array.getElem?_eq_some_iff.1 h0).1
    omega⟩
def mk (D : Nat) : Deferred := { target := .collected D, args := #[] }
/-- Marks with nothing collected are taken, one behind the other. -/
theorem leaves_all {F : Fence} {n : Nat} {P : Program} {fn : Func} {tm : Array Value} {R : Ending → World → Prop} (J : World → Prop) : ∀ (Ds : List Nat) (W : World), (∀ D ∈ Ds, W.heap[D]? = some (.deferred (some []))) → Ds.Nodup → J W →
    (∀ X D, D ∈ Ds → X.heap[D]? = some (.deferred (some [])) → J X → J (X.putObj D (.deferred none))) → (∀ X, J X → ∃ v, (results fn tm).run P X = .ok v X ∧ R (.returned v) X) → LeavesInM F n P fn tm R (Ds.map mk) .returning W
  | [], W, _, _, hJ, _, hE => hE W hJ
  | D :: Ds, W, hD, hN, hJ, hp, hE => by
    have hk := hD D (List.mem_cons_self ..)
    have hN' := List.nodup_cons.1 hN
    refine ⟨by simp, .inl ⟨D, _, rfl, run_takeDeferred hk, ?_⟩⟩
    refine leaves_all J Ds _ (fun E hE' => ?_) hN'.2 (hp W D (List.mem_cons_self ..) hk hJ) (fun X E hE' => hp X E (List.mem_cons_of_mem _ hE')) hE
    rw [World.putObj_heap_other (fun e => hN'.1 (by rw [← e]; exact hE'))]
    exact hD E (List.mem_cons_of_mem _ hE')
/-- How many rounds are left. -/
def left (a : Act) (W : World) : Nat := match a.tmps.getD 9 undef with
  | .pointer (some ad) => match W.cell? ad with
    | some (.int _ i) => (2 - i).toNat
    | _ => 0
  | _ => 0
/-- Ahead of each round of the outer loop. -/
def Inv (s : ByteArray) (st ir : Int) (w w1 : World) (Ad : Option Addr) (cap : Nat) (a : Act) (W : World) : Prop := ∃ (tv Bt : Nat) (Ds : List Nat) (u : Nat → Value), (tv ≤ 2 ∧ w1.heap.size + 3 ≤ Bt ∧ Boxed W Bt 3 (.int .i64 (tv : Int)) ∧ Boxed W w1.heap.size 25 (.slice Ad (chars s).length cap) ∧ Boxed W (w1.heap.size + 1) 9 (.string s) ∧ Boxed W (w1.heap.size + 1 + 1) 28 (.func (.func 28) #[] #[.pointer (some ⟨w1.heap.size + 1, 0, none⟩)]) ∧ Below w1.heap.size w1 W ∧ (∀ D ∈ Ds, W.heap[D]? = some (.deferred (some [])) ∧ w1.heap.size ≤ D) ∧ Ds.Nodup) ∧
      a = { tmps := #[.string s, .int .i64 st, .int .i64 ir, undef, .pointer (some ⟨w.heap.size, 0, none⟩), .pointer (some ⟨w.heap.size + 1, 0, none⟩), .pointer (some ⟨w.heap.size + 1 + 1, 0, none⟩), .pointer (some ⟨w1.heap.size, 0, none⟩), .pointer (some ⟨w1.heap.size + 1 + 1, 0, none⟩), .pointer (some ⟨Bt, 0, none⟩), u 10, u 11, u 12, u 13, u 14, u 15, .string s, .slice Ad (chars s).length cap, .string s, .func (.func 28) #[] #[.pointer (some ⟨w1.heap.size + 1, 0, none⟩)], .func (.func 28) #[] #[.pointer (some ⟨w1.heap.size + 1, 0, none⟩)], .bool false, u 22, u 23, u 24, u 25, u 26, u 27, u 28, u 29, u 30, u 31, u 32, u 33, u 34, u 35, u 36, u 37, u 38, u 39, u 40, u 41, u 42, u 43, u 44, u 45, u 46, u 47, u 48, u 49, u 50, u 51, u 52, u 53, u 54, u 55, u 56, u 57, u 58, u 59, u 60, u 61, u 62, u 63, u 64, u 65, u 66, u 67, u 68, u 69, u 70, u 71, u 72, u 73, u 74, u 75, u 76, u 77, u 78, u 79, u 80, u 81, u 82, u 83, u 84, u 85, u 86, u 87, u 88, u 89, u 90, u 91, u 92, u 93, u 94, u 95, u 96, u 97, u 98, u 99, u 100, u 101, u 102, u 103, u 104, u 105, u 106, u 107, u 108, u 109, u 110, u 111, u 112, u 113, u 114, u 115], defers := Ds.map mk }
theorem Inv.intro {s : ByteArray} {st ir : Int} {w w1 : World} {Ad : Option Addr} {cap : Nat} {a : Act} {W : World} (tv Bt : Nat) (Ds : List Nat) (h : tv ≤ 2 ∧ w1.heap.size + 3 ≤ Bt ∧ Boxed W Bt 3 (.int .i64 (tv : Int)) ∧ Boxed W w1.heap.size 25 (.slice Ad (chars s).length cap) ∧ Boxed W (w1.heap.size + 1) 9 (.string s) ∧ Boxed W (w1.heap.size + 1 + 1) 28 (.func (.func 28) #[] #[.pointer (some ⟨w1.heap.size + 1, 0, none⟩)]) ∧ Below w1.heap.size w1 W ∧ (∀ D ∈ Ds, W.heap[D]? = some (.deferred (some [])) ∧ w1.heap.size ≤ D) ∧ Ds.Nodup)
    (e : a = { tmps := #[.string s, .int .i64 st, .int .i64 ir, undef, .pointer (some ⟨w.heap.size, 0, none⟩), .pointer (some ⟨w.heap.size + 1, 0, none⟩), .pointer (some ⟨w.heap.size + 1 + 1, 0, none⟩), .pointer (some ⟨w1.heap.size, 0, none⟩), .pointer (some ⟨w1.heap.size + 1 + 1, 0, none⟩), .pointer (some ⟨Bt, 0, none⟩), (a.tmps.getD 10 undef), (a.tmps.getD 11 undef), (a.tmps.getD 12 undef), (a.tmps.getD 13 undef), (a.tmps.getD 14 undef), (a.tmps.getD 15 undef), .string s, .slice Ad (chars s).length cap, .string s, .func (.func 28) #[] #[.pointer (some ⟨w1.heap.size + 1, 0, none⟩)], .func (.func 28) #[] #[.pointer (some ⟨w1.heap.size + 1, 0, none⟩)], .bool false, (a.tmps.getD 22 undef), (a.tmps.getD 23 undef), (a.tmps.getD 24 undef), (a.tmps.getD 25 undef), (a.tmps.getD 26 undef), (a.tmps.getD 27 undef), (a.tmps.getD 28 undef), (a.tmps.getD 29 undef), (a.tmps.getD 30 undef), (a.tmps.getD 31 undef), (a.tmps.getD 32 undef), (a.tmps.getD 33 undef), (a.tmps.getD 34 undef), (a.tmps.getD 35 undef), (a.tmps.getD 36 undef), (a.tmps.getD 37 undef), (a.tmps.getD 38 undef), (a.tmps.getD 39 undef), (a.tmps.getD 40 undef), (a.tmps.getD 41 undef), (a.tmps.getD 42 undef), (a.tmps.getD 43 undef), (a.tmps.getD 44 undef), (a.tmps.getD 45 undef), (a.tmps.getD 46 undef), (a.tmps.getD 47 undef), (a.tmps.getD 48 undef), (a.tmps.getD 49 undef), (a.tmps.getD 50 undef), (a.tmps.getD 51 undef), (a.tmps.getD 52 undef), (a.tmps.getD 53 undef), (a.tmps.getD 54 undef), (a.tmps.getD 55 undef), (a.tmps.getD 56 undef), (a.tmps.getD 57 undef), (a.tmps.getD 58 undef), (a.tmps.getD 59 undef), (a.tmps.getD 60 undef), (a.tmps.getD 61 undef), (a.tmps.getD 62 undef), (a.tmps.getD 63 undef), (a.tmps.getD 64 undef), (a.tmps.getD 65 undef), (a.tmps.getD 66 undef), (a.tmps.getD 67 undef), (a.tmps.getD 68 undef), (a.tmps.getD 69 undef), (a.tmps.getD 70 undef), (a.tmps.getD 71 undef), (a.tmps.getD 72 undef), (a.tmps.getD 73 undef), (a.tmps.getD 74 undef), (a.tmps.getD 75 undef), (a.tmps.getD 76 undef), (a.tmps.getD 77 undef), (a.tmps.getD 78 undef), (a.tmps.getD 79 undef), (a.tmps.getD 80 undef), (a.tmps.getD 81 undef), (a.tmps.getD 82 undef), (a.tmps.getD 83 undef), (a.tmps.getD 84 undef), (a.tmps.getD 85 undef), (a.tmps.getD 86 undef), (a.tmps.getD 87 undef), (a.tmps.getD 88 undef), (a.tmps.getD 89 undef), (a.tmps.getD 90 undef), (a.tmps.getD 91 undef), (a.tmps.getD 92 undef), (a.tmps.getD 93 undef), (a.tmps.getD 94 undef), (a.tmps.getD 95 undef), (a.tmps.getD 96 undef), (a.tmps.getD 97 undef), (a.tmps.getD 98 undef), (a.tmps.getD 99 undef), (a.tmps.getD 100 undef), (a.tmps.getD 101 undef), (a.tmps.getD 102 undef), (a.tmps.getD 103 undef), (a.tmps.getD 104 undef), (a.tmps.getD 105 undef), (a.tmps.getD 106 undef), (a.tmps.getD 107 undef), (a.tmps.getD 108 undef), (a.tmps.getD 109 undef), (a.tmps.getD 110 undef), (a.tmps.getD 111 undef), (a.tmps.getD 112 undef), (a.tmps.getD 113 undef), (a.tmps.getD 114 undef), (a.tmps.getD 115 undef)], defers := Ds.map mk }) : Inv s st ir w w1 Ad cap a W := ⟨tv, Bt, Ds, fun n => a.tmps.getD n undef, h, e⟩
theorem left_eq (a : Act) (W : World) (b : Nat) (i : Int) (h : a.tmps.getD 9 undef = .pointer (some ⟨b, 0, none⟩)) (hc : W.cell? ⟨b, 0, none⟩ = some (.int .i64 i)) : left a W = (2 - i).toNat := by
  unfold left
  rw [h]
  simp only [hc]
set_option maxRecDepth 100000 in
set_option maxHeartbeats 4000000 in
theorem Runes_walk (s : ByteArray) (hs : s.size ≤ 1073741824) (st ir : Int) (w : World) :
    Calls Try.prog 4 #[.string s, .int .i64 st, .int .i64 ir] w fun e w' => e = .returned (.bool true) ∧ Below w.heap.size w w' := by
  refine (callsIn_wide (n := 12)).1 ?_
  refine callsIn_of_wp_marks Try.func4 rfl trivial ?_ rfl
  simp only [Try.ntmps4, List.size_toArray, List.length_cons, List.length_nil, Nat.reduceAdd, Nat.reduceSub, Array.replicate_succ, Array.replicate_zero, List.push_toArray, List.append_toArray, List.nil_append, List.cons_append]
  have eqf : ∀ (b : Nat) (W : World), (binOp .eql 28 (.func (.func 28) #[] #[.pointer (some ⟨b, 0, none⟩)]) .nilFunc).run Try.prog W = .ok (.bool false) W := fun _ _ => by kernel_rfl
  have stf : ∀ (X : World) (o1 o2 : Obj) (b : Nat), (store ⟨X.heap.size + 1 + 1, 0, none⟩ (.func (.func 28) #[] #[.pointer (some ⟨b, 0, none⟩)])).run Try.prog (((X.alloc o1).alloc o2).alloc (.cells #[.nilFunc] 28)) = .ok () (((X.alloc o1).alloc o2).alloc (.cells #[.func (.func 28) #[] #[.pointer (some ⟨b, 0, none⟩)]] 28)) := fun X o1 o2 b => by
    have hb := Boxed.new ((X.alloc o1).alloc o2) 28 .nilFunc
    have e : ((X.alloc o1).alloc o2).heap.size = X.heap.size + 1 + 1 := by simp
    rw [e] at hb
    rw [run_store _ _ _ _ _ rfl, hb.cell]
    simp only [hb.frozen]
    rw [World.setCell_alloc_at _ _ _ _ _ e.symm]
    rfl
  gi_wp2_with (first | (refine ⟨trivial, ?_⟩; gi_at_call 14; refine (callsIn_wide.2 (dowelref02_Chars.calls (s.size + 5) s (chars s) _ (chars_eq s hs _ (by omega)))).mono ?_; rintro e w1 ⟨v0, rfl, hR1, hb1⟩; obtain ⟨Ad, cap, rfl, hlc, hC1⟩ := Kd.R_reads hR1) | (refine ⟨trivial, ?_⟩; gi_at_call 15; refine (Runes_in Fence.wide _ trivial rfl s _).mono ?_; rintro e w2 ⟨rfl, rfl⟩))
  have bW := ((((Boxed.new w1 25 (.slice Ad (chars s).length cap)).alloc (.cells #[.string s] 9)).alloc (.cells #[.func (.func 28) #[] #[.pointer (some ⟨w1.heap.size + 1, 0, none⟩)]] 28)).alloc (.cells #[.int .i64 0] 3))
  have bX := (((Boxed.new (w1.alloc (.cells #[.slice Ad (chars s).length cap] 25)) 9 (.string s)).alloc (.cells #[.func (.func 28) #[] #[.pointer (some ⟨w1.heap.size + 1, 0, none⟩)]] 28)).alloc (.cells #[.int .i64 0] 3))
  have bA := ((Boxed.new ((w1.alloc (.cells #[.slice Ad (chars s).length cap] 25)).alloc (.cells #[.string s] 9)) 28 (.func (.func 28) #[] #[.pointer (some ⟨w1.heap.size + 1, 0, none⟩)])).alloc (.cells #[.int .i64 0] 3))
  have bT := Boxed.new (((w1.alloc (.cells #[.slice Ad (chars s).length cap] 25)).alloc (.cells #[.string s] 9)).alloc (.cells #[.func (.func 28) #[] #[.pointer (some ⟨w1.heap.size + 1, 0, none⟩)]] 28)) 3 (.int .i64 0)
  have hbO : Below w1.heap.size w1 ((((w1.alloc (.cells #[.slice Ad (chars s).length cap] 25)).alloc (.cells #[.string s] 9)).alloc (.cells #[.func (.func 28) #[] #[.pointer (some ⟨w1.heap.size + 1, 0, none⟩)]] 28)).alloc (.cells #[.int .i64 0] 3)) := ((((Below.refl _ w1).alloc (Nat.le_refl _) _).alloc (by simp) _).alloc (by simp; omega) _).alloc (by simp; omega) _
  have bI1 : Boxed w1 w.heap.size 3 (.int .i64 st) := bx hb1 (((Boxed.new w 3 (.int .i64 st)).alloc _).alloc _) (by simp; omega)
  have bI2 : Boxed w1 (w.heap.size + 1) 3 (.int .i64 ir) := bx hb1 (by have := (Boxed.new (w.alloc (.cells #[.int .i64 st] 3)) 3 (.int .i64 ir)).alloc (.cells #[.bool false] 4); rw [World.size_alloc] at this; exact this) (by simp)
  have bR : Boxed w1 (w.heap.size + 1 + 1) 4 (.bool false) := bx hb1 (by have := Boxed.new ((w.alloc (.cells #[.int .i64 st] 3)).alloc (.cells #[.int .i64 ir] 3)) 4 (.bool false); rw [World.size_alloc, World.size_alloc] at this; exact this) (by simp)
  have hsz1 : w.heap.size + 3 ≤ w1.heap.size := by have := hb1.size; simp at this; omega
  have hBw : Below w.heap.size w w1 := ((((Below.refl _ w).alloc (Nat.le_refl _) _).alloc (by simp) _).alloc (by simp; omega) _).trans (hb1.mono (by simp; omega))
  rw [World.size_alloc] at bX
  rw [World.size_alloc, World.size_alloc] at bA
  rw [World.size_alloc, World.size_alloc, World.size_alloc] at bT
  clear hb1 hR1
  refine wpIn_loop (Inv s st ir w w1 Ad cap) left ?start ?round
  case start =>
    refine ⟨0, w1.heap.size + 1 + 1 + 1, [], fun _ => undef, ⟨by omega, by omega, bT, bW, bX, bA, hbO, (fun D h => by simp at h), List.nodup_nil⟩, rfl⟩
  case round =>
    rintro a W ⟨tv, Bt, Ds, u, ⟨htv, hBt, cT, cW, cX, cA, hB, hDs, hNd⟩, rfl⟩
    have dT := cT.cell
    have hszW := hB.size
    have dW := cW.cell
    have dA := cA.cell
    have dA2 : ∀ o, (W.alloc o).cell? ⟨w1.heap.size + 1 + 1, 0, none⟩ = some (.func (.func 28) #[] #[.pointer (some ⟨w1.heap.size + 1, 0, none⟩)]) := fun o => (cA.alloc o).cell
    have dI1 := (bx hB bI1 (by omega)).cell
    have dI2 := (bx hB bI2 (by omega)).cell
    have cR := bx hB bR (by omega)
    have dR := cR.cell
    have eR := cR.frozen
    have hC := Kd.C_below hC1 hB
    obtain rfl | rfl | rfl : tv = 2 ∨ tv = 1 ∨ tv = 0 := by omega
    · gi_wp2
      refine leaves_all (fun X => Boxed X (w.heap.size + 1 + 1) 4 (.bool true) ∧ Below w.heap.size w X) Ds _ (fun D hD => ?_) hNd ⟨cR.set _, (hBw.trans (hB.mono (by omega))).setCell (p := ⟨w.heap.size + 1 + 1, 0, none⟩) (by show w.heap.size ≤ w.heap.size + 1 + 1; omega) _⟩ (fun X D hD hk hJ => ⟨hJ.1.kept (grownBy_putObj' X D _) (fun e => by cases e; have h1 := hJ.1; rw [show X.heap[_]? = _ from h1] at hk; cases hk), hJ.2.trans (belowK_b (w := w) (Nat.le_refl _) X D _ _ (by have := (hDs D hD).2; omega) hk rfl rfl)⟩) (fun X hJ => ⟨.bool true, ?_, rfl, hJ.2⟩)
      · exact (KeepsOthers.setCell W ⟨w.heap.size + 1 + 1, 0, none⟩ (.bool true)).same D _ (hDs D hD).1 rfl
      · have := hJ.1.cell
        simp [results, Try.f4, go_sem, this]
    · gi_wp2
      have gW := cW.alloc (.cells #[.int .i64 0] 3)
      have gX := cX.alloc (.cells #[.int .i64 0] 3)
      have gA := cA.alloc (.cells #[.int .i64 0] 3)
      have gT := cT.alloc (.cells #[.int .i64 0] 3)
      have gN := Boxed.new W 3 (.int .i64 0)
      have gB := hB.alloc (by omega) (.cells #[.int .i64 0] 3)
      have gD : ∀ D ∈ Ds, (W.alloc (.cells #[.int .i64 0] 3)).heap[D]? = some (.deferred (some [])) := fun D hD => (Below.heap_alloc W _ D (Array.getElem?_eq_some_iff.1 (hDs D hD).1).1).trans (hDs D hD).1
      have hDlt : ∀ D ∈ Ds, D < W.heap.size := fun D hD => (Array.getElem?_eq_some_iff.1 (hDs D hD).1).1
      have cTlt := cT.lt
      have cAlt := cA.lt
      obtain ⟨W0, hW0⟩ : ∃ W0, W.alloc (.cells #[.int .i64 0] 3) = W0 := ⟨_, rfl⟩
      have hsz0 : W0.heap.size = W.heap.size + 1 := by rw [← hW0]; simp
      rw [hW0] at gW gX gA gT gN gB gD ⊢
      refine wpIn_rangeFunc_ownH rfl (by omega) (gf := 28) (lb := #[.pointer (some ⟨w1.heap.size + 1, 0, none⟩)]) rfl trivial (enters_of Try.func28 (by kernel_rfl) rfl)
        (runes_stops Fence.wide _ trivial rfl (by omega) (w1.heap.size + 1) s (by omega) W0 (by omega) gX.cell) walksK_t walksK_b (Below.refl _ _) (fun _ => rfl)
        (IR s w1 Ad cap W.heap.size Bt 1 Ds) (fun c pre W' => c = .ret ∧ ¬ GoodR s pre)
        (IR_own _ _ _ _ _ _ _ _ _ (by omega) (fun D hD => by have := hDlt D hD; omega))
        (fun c => ownFrom_pure _ _)
        ⟨goodR_nil s, gN, gT, gW, gX, gA, gB, gD⟩
        (fun x a' _ => a' = { tmps := #[.string s, .int .i64 st, .int .i64 ir, undef, .pointer (some ⟨w.heap.size, 0, none⟩), .pointer (some ⟨w.heap.size + 1, 0, none⟩), .pointer (some ⟨w.heap.size + 1 + 1, 0, none⟩), .pointer (some ⟨w1.heap.size, 0, none⟩), .pointer (some ⟨w1.heap.size + 1 + 1, 0, none⟩), .pointer (some ⟨Bt, 0, none⟩), .pointer (some ⟨W.heap.size, 0, none⟩), .int .i64 (x.pos : Int), .int .i32 (x.c : Int), u 13, u 14, u 15, .string s, .slice Ad (chars s).length cap, .string s, .func (.func 28) #[] #[.pointer (some ⟨w1.heap.size + 1, 0, none⟩)], .func (.func 28) #[] #[.pointer (some ⟨w1.heap.size + 1, 0, none⟩)], .bool false, .int .i64 1, .bool true, u 24, u 25, .func (.func 28) #[] #[.pointer (some ⟨w1.heap.size + 1, 0, none⟩)], .int .i64 (x.pos : Int), .int .i32 (x.c : Int), u 29, u 30, u 31, u 32, u 33, u 34, u 35, u 36, u 37, u 38, u 39, u 40, u 41, u 42, u 43, u 44, u 45, u 46, u 47, u 48, u 49, u 50, u 51, u 52, u 53, u 54, u 55, u 56, u 57, u 58, u 59, u 60, u 61, u 62, u 63, u 64, u 65, u 66, u 67, u 68, u 69, u 70, u 71, u 72, u 73, u 74, u 75, u 76, u 77, u 78, u 79, u 80, u 81, u 82, u 83, u 84, u 85, u 86, u 87, u 88, u 89, u 90, u 91, u 92, u 93, u 94, u 95, u 96, u 97, u 98, u 99, u 100, u 101, u 102, u 103, u 104, u 105, u 106, u 107, u 108, u 109, u 110, u 111, u 112, u 113, u 114, u 115], defers := [] }) (fun x a' => ownFrom_pure _ _) ?assign ?body ?done ?stop
      case assign =>
        intro l pre x W' K hI hK
        gi_wp2
        exact hK _ _ (KeepsFrom.refl _ _) (KeepsWalks.refl _) hI rfl
      case body =>
        rintro l pre ⟨p, c, hp, hc2⟩ a' W' hl ⟨r, hr⟩ ⟨hG, kN, kT, kW, kX, kA, kB, kD⟩ rfl hlt
        have dN := kN.cell
        have eN := kN.frozen
        have dT2 := kT.cell
        have dA3 : ∀ o, (W'.alloc o).cell? ⟨w1.heap.size + 1 + 1, 0, none⟩ = some (.func (.func 28) #[] #[.pointer (some ⟨w1.heap.size + 1, 0, none⟩)]) := fun o => (kA.alloc o).cell
        have dW2 := kW.cell
        have kI1 := bx kB bI1 (by omega)
        have kI2 := bx kB bI2 (by omega)
        have kR := bx kB bR (by omega)
        have dI12 := kI1.cell
        have dI22 := kI2.cell
        have dR2 := kR.cell
        have eR2 := kR.frozen
        have hNT : W.heap.size ≠ Bt := by omega
        have qN : ∀ v, (W'.setCell ⟨W.heap.size, 0, none⟩ v).cell? ⟨W.heap.size, 0, none⟩ = some v := fun v => (kN.set v).cell
        have qT : ∀ v, (W'.setCell ⟨W.heap.size, 0, none⟩ v).cell? ⟨Bt, 0, none⟩ = some (.int .i64 1) := fun v => (kT.other (by omega) v).cell
        have qI : ∀ v, (W'.setCell ⟨W.heap.size, 0, none⟩ v).cell? ⟨w.heap.size, 0, none⟩ = some (.int .i64 st) := fun v => (kI1.other (by omega) v).cell
        have hC2 := Kd.C_below hC1 kB
        have hlen : pre.length < 4611686018427387904 := by have := runes_le s (by omega); omega
        have hclen : (chars s).length < 4611686018427387904 := by have := chars_le s; omega
        obtain ⟨m, hm⟩ : ∃ m, pre.length = m := ⟨_, rfl⟩
        obtain ⟨N, hN⟩ : ∃ N, (chars s).length = N := ⟨_, rfl⟩
        rw [hm] at hlen
        rw [hN] at hclen
        have hIR : ∀ v, v = Value.int .i64 (((pre ++ [(⟨p, c, hp, hc2⟩ : Rn)]).length : Nat) : Int) → okR s pre (⟨p, c, hp, hc2⟩ : Rn) → IR s w1 Ad cap W.heap.size Bt 1 Ds (pre ++ [(⟨p, c, hp, hc2⟩ : Rn)]) (W'.setCell ⟨W.heap.size, 0, none⟩ v) := fun v hv ho =>
          ⟨goodR_snoc s pre _ hG ho, by rw [← hv]; exact kN.set v, kT.other (by omega) v, kW.other (by omega) v, kX.other (by omega) v, kA.other (by omega) v, kB.setCell (p := ⟨W.heap.size, 0, none⟩) (by show w1.heap.size ≤ W.heap.size; omega) v, fun D hD => (KeepsOthers.setCell W' _ v).same D _ (kD D hD) rfl⟩
        have hv1 : ∀ v, v = Value.int .i64 ((m : Int) + 1) ∨ v = Value.int .i64 (wrap64 ((m : Int) + 1)) → v = Value.int .i64 (((pre ++ [(⟨p, c, hp, hc2⟩ : Rn)]).length : Nat) : Int) := fun v h => by
          have e1 : (((pre ++ [(⟨p, c, hp, hc2⟩ : Rn)]).length : Nat) : Int) = (m : Int) + 1 := by simp [hm]
          rw [e1]
          rcases h with h | h
          · exact h
          · rw [h, wrap_of (by omega) (by omega)]
        replace hIR := Lib.hid hIR
        replace hv1 := Lib.hid hv1
        by_cases hn : m < N
        · obtain ⟨ad, rfl, x0, x1, x2⟩ := at_T31 hC2 (m : Int) (by omega) (by omega)
          have hn2 : ¬ N ≤ m := by omega
          obtain ⟨e0, he0⟩ : ∃ e0, (rd_T31 (chars s) (m : Int)).f0 = e0 := ⟨_, rfl⟩
          obtain ⟨e2, he2⟩ : ∃ e2, (rd_T31 (chars s) (m : Int)).f2 = e2 := ⟨_, rfl⟩
          simp only [Int.toNat_natCast] at x0 x2
          rw [he0] at x0
          rw [he2] at x2
          clear x1
          by_cases hch : (p : Int) = e0 ∧ (c : Int) = e2
          · have hok : okR s pre (⟨p, c, hp, hc2⟩ : Rn) := ⟨by rw [hm, hN]; exact hn, (by show (p : Int) = _; rw [hm, he0]; exact hch.1), (by show (c : Int) = _; rw [hm, he2]; exact hch.2)⟩
            obtain ⟨rfl, rfl⟩ := hch
            by_cases hir : ir = (m : Int)
            · subst hir
              gi_wp2
              obtain ⟨W2, hW2⟩ : ∃ W2, W'.alloc (.cells #[.int .i64 0] 3) = W2 := ⟨_, rfl⟩
              have hsz2 : W2.heap.size = W'.heap.size + 1 := by rw [← hW2]; simp
              have hszW' := kB.size
              have kNlt := kN.lt
              have hm2 : Boxed W2 W'.heap.size 3 (.int .i64 0) := by rw [← hW2]; exact Boxed.new W' _ _
              have hI2 : IR s w1 (some ad) cap W.heap.size Bt 1 Ds pre W2 := by
                rw [← hW2]
                exact ⟨hG, kN.alloc _, kT.alloc _, kW.alloc _, kX.alloc _, kA.alloc _, kB.alloc (by omega) _, fun D hD => (Below.heap_alloc W' _ D (Array.getElem?_eq_some_iff.1 (kD D hD)).1).trans (kD D hD)⟩
              have hKF : KeepsFrom W0.heap.size W' W2 := by rw [← hW2]; exact (KeepsOthers.alloc _ _).from _
              have hKW : KeepsWalks W' W2 := by rw [← hW2]; exact KeepsWalks.alloc _ _
              have hr2 : W2.heap[l]? = some (.loop r) := by rw [← hW2]; exact (Below.heap_alloc W' _ l (Array.getElem?_eq_some_iff.1 hr).1).trans hr
              rw [hW2]
              have hW'0 : W0.heap.size ≤ W'.heap.size := by omega
              refine wpIn_rangeFunc_ownN (l₀ := l) (r₀ := r) rfl hr2 (by omega) (gf := 28) (lb := #[.pointer (some ⟨w1.heap.size + 1, 0, none⟩)]) rfl trivial (enters_of Try.func28 (by kernel_rfl) rfl)
                ((runes_stops Fence.wide _ trivial rfl (by omega) (w1.heap.size + 1) s (by omega) W2 (by omega) hI2.2.2.2.2.1.cell).inRound l) walksK_t walksK_b (Below.refl _ _) (fun _ => rfl)
                (fun q X => (GoodR s q ∧ Boxed X W'.heap.size 3 (.int .i64 (q.length : Int))) ∧ IR s w1 (some ad) cap W.heap.size Bt 1 Ds pre X ∧ KeepsFrom W0.heap.size W' X ∧ KeepsWalks W' X) (fun c q _ => c = .ret ∧ ¬ GoodR s q)
                (fun q X Y row hs hg hr => ⟨⟨hs.1.1, (Own.from (boxed_own _ _ (fun q : List Rn => .int .i64 (q.length : Int))) _) q X Y row hs.1.2 hg hr⟩, IR_own _ _ _ _ _ _ _ _ _ (by omega) (fun D hD => by have := hDlt D hD; omega) pre X Y row hs.2.1 hg hr, (ownFrom_keepsFrom (β := List Rn) (by omega)) q X Y row hs.2.2.1 hg hr, (own_walks (β := List Rn) _ (by omega)) q X Y row hs.2.2.2 hg hr⟩)
                (fun c => ownFrom_pure _ _)
                ⟨⟨goodR_nil s, hm2⟩, hI2, hKF, hKW⟩
                (fun y a' _ => a' = { tmps := #[.string s, .int .i64 st, .int .i64 (m : Int), undef, .pointer (some ⟨w.heap.size, 0, none⟩), .pointer (some ⟨w.heap.size + 1, 0, none⟩), .pointer (some ⟨w.heap.size + 1 + 1, 0, none⟩), .pointer (some ⟨w1.heap.size, 0, none⟩), .pointer (some ⟨w1.heap.size + 1 + 1, 0, none⟩), .pointer (some ⟨Bt, 0, none⟩), .pointer (some ⟨W.heap.size, 0, none⟩), .int .i64 (p : Int), .int .i32 (c : Int), .pointer (some ⟨W'.heap.size, 0, none⟩), .int .i64 (y.pos : Int), .int .i32 (y.c : Int), .string s, .slice (some ad) N cap, .string s, .func (.func 28) #[] #[.pointer (some ⟨w1.heap.size + 1, 0, none⟩)], .func (.func 28) #[] #[.pointer (some ⟨w1.heap.size + 1, 0, none⟩)], .bool false, .int .i64 1, .bool true, u 24, u 25, .func (.func 28) #[] #[.pointer (some ⟨w1.heap.size + 1, 0, none⟩)], .int .i64 (p : Int), .int .i32 (c : Int), .int .i64 (m : Int), .slice (some ad) N cap, .int .i64 (N : Int), .bool false, .bool false, .int .i64 (p : Int), .slice (some ad) N cap, .int .i64 (m : Int), .pointer (some (ad.add (m * 3))), .pointer (some (ad.add (m * 3))), .int .i64 (p : Int), .bool false, .bool false, .bool false, .int .i32 (c : Int), .int .i64 (c : Int), .slice (some ad) N cap, .int .i64 (m : Int), .pointer (some (ad.add (m * 3))), .pointer (some ⟨(ad.add (m * 3)).block, (ad.add (m * 3)).off + 2, none⟩), .int .i64 (c : Int), .bool false, .bool false, .int .i64 (m : Int), .int .i64 (m : Int), .bool true, .bool true, .int .i64 1, .bool true, .bool true, .func (.func 28) #[] #[.pointer (some ⟨w1.heap.size + 1, 0, none⟩)], .int .i64 (y.pos : Int), .int .i32 (y.c : Int), u 62, u 63, u 64, u 65, u 66, u 67, u 68, u 69, u 70, u 71, u 72, u 73, u 74, u 75, u 76, u 77, u 78, u 79, u 80, u 81, u 82, u 83, u 84, u 85, u 86, u 87, u 88, u 89, u 90, u 91, u 92, u 93, u 94, u 95, u 96, u 97, u 98, u 99, u 100, u 101, u 102, u 103, u 104, u 105, u 106, u 107, u 108, u 109, u 110, u 111, u 112, u 113, u 114, u 115], defers := [] }) (fun x a' => ownFrom_pure _ _) ?assign2 ?body2 ?done2 ?stop2
              case assign2 =>
                intro l2 q y X K hI hK
                gi_wp2
                exact hK _ _ (KeepsFrom.refl _ _) (KeepsWalks.refl _) hI rfl
              case body2 =>
                rintro l2 q ⟨p2, c2, hp2, hc22⟩ a2 X hl2 ⟨r2, hr2⟩ ⟨⟨hG2, jM⟩, ⟨_, jN, jT, jW, jX, jA, jB, jD⟩, jF, jK⟩ rfl hlt2
                have dM := jM.cell
                have eM := jM.frozen
                have dWX := jW.cell
                have jR := bx jB bR (by omega)
                have dRX := jR.cell
                have eRX := jR.frozen
                have hC3 := Kd.C_below hC1 jB
                have hlen2 : q.length < 4611686018427387904 := by have := runes_le s (by omega); omega
                obtain ⟨k, hk⟩ : ∃ k, q.length = k := ⟨_, rfl⟩
                rw [hk] at hlen2
                have qM : ∀ v, (X.setCell ⟨W'.heap.size, 0, none⟩ v).cell? ⟨W'.heap.size, 0, none⟩ = some v := fun v => (jM.set v).cell
                have hI3 : ∀ v, v = Value.int .i64 (((q ++ [(⟨p2, c2, hp2, hc22⟩ : Rn)]).length : Nat) : Int) → okR s q (⟨p2, c2, hp2, hc22⟩ : Rn) → (GoodR s (q ++ [(⟨p2, c2, hp2, hc22⟩ : Rn)]) ∧ Boxed (X.setCell ⟨W'.heap.size, 0, none⟩ v) W'.heap.size 3 (.int .i64 (((q ++ [(⟨p2, c2, hp2, hc22⟩ : Rn)]).length : Nat) : Int))) ∧ IR s w1 (some ad) cap W.heap.size Bt 1 Ds pre (X.setCell ⟨W'.heap.size, 0, none⟩ v) ∧ KeepsFrom W0.heap.size W' (X.setCell ⟨W'.heap.size, 0, none⟩ v) ∧ KeepsWalks W' (X.setCell ⟨W'.heap.size, 0, none⟩ v) := fun v hv ho =>
                  ⟨⟨goodR_snoc s q _ hG2 ho, by rw [← hv]; exact jM.set v⟩, ⟨hG, jN.other (by omega) v, jT.other (by omega) v, jW.other (by omega) v, jX.other (by omega) v, jA.other (by omega) v, jB.setCell (p := ⟨W'.heap.size, 0, none⟩) (by show w1.heap.size ≤ W'.heap.size; omega) v, fun D hD => (KeepsOthers.setCell X _ v).same D _ (jD D hD) rfl⟩, jF.trans ((KeepsOthers.setCell X _ v).from _), jK.trans (KeepsWalks.setCell X _ v)⟩
                have hv3 : ∀ v, v = Value.int .i64 ((k : Int) + 1) ∨ v = Value.int .i64 (wrap64 ((k : Int) + 1)) → v = Value.int .i64 (((q ++ [(⟨p2, c2, hp2, hc22⟩ : Rn)]).length : Nat) : Int) := fun v h => by
                  have e1 : (((q ++ [(⟨p2, c2, hp2, hc22⟩ : Rn)]).length : Nat) : Int) = (k : Int) + 1 := by simp [hk]
                  rw [e1]
                  rcases h with h | h
                  · exact h
                  · rw [h, wrap_of (by omega) (by omega)]
                replace hI3 := Lib.hid hI3
                replace hv3 := Lib.hid hv3
                by_cases hk2 : k < N
                · obtain ⟨ad2, hadd, z0, z1, z2⟩ := at_T31 hC3 (k : Int) (by omega) (by omega)
                  obtain rfl : ad = ad2 := Option.some.inj hadd
                  have hk3 : ¬ N ≤ k := by omega
                  obtain ⟨f0, hf0⟩ : ∃ f0, (rd_T31 (chars s) (k : Int)).f0 = f0 := ⟨_, rfl⟩
                  obtain ⟨f2, hf2⟩ : ∃ f2, (rd_T31 (chars s) (k : Int)).f2 = f2 := ⟨_, rfl⟩
                  simp only [Int.toNat_natCast] at z0 z2
                  rw [hf0] at z0
                  rw [hf2] at z2
                  clear z1
                  by_cases hch2 : (p2 : Int) = f0 ∧ (c2 : Int) = f2
                  · have hok2 : okR s q (⟨p2, c2, hp2, hc22⟩ : Rn) := ⟨by rw [hk, hN]; exact hk2, (by show (p2 : Int) = _; rw [hk, hf0]; exact hch2.1), (by show (c2 : Int) = _; rw [hk, hf2]; exact hch2.2)⟩
                    obtain ⟨rfl, rfl⟩ := hch2
                    gi_wp2
                    all_goals first | (exact ⟨(KeepsOthers.setCell _ _ _).from _, (KeepsOthers.setCell _ _ _).walks, hI3.out _ (hv3.out _ (by first | exact .inl rfl | exact .inr rfl)) hok2⟩) | (have hh := fun v h1 => hI3.out v (hv3.out v h1) hok2; rw [hsz0] at hh; exact ⟨(KeepsOthers.setCell _ _ _).from _, (KeepsOthers.setCell _ _ _).walks, hh _ (by first | exact .inl rfl | exact .inr rfl)⟩)
                  · gi_wp2
                    all_goals (refine ⟨(KeepsOthers.setCell _ _ _).from _, ⟨rfl, fun hG3 => ?_⟩⟩; obtain ⟨o1, o2, o3⟩ := goodR_last s q _ hG3; replace o2 : (p2 : Int) = _ := o2; replace o3 : (c2 : Int) = _ := o3; rw [hk, hf0] at o2; rw [hk, hf2] at o3; exact hch2 ⟨o2, o3⟩)
                · have hk3 : N ≤ k := by omega
                  gi_wp2
                  all_goals (exact ⟨(KeepsOthers.setCell _ _ _).from _, ⟨rfl, fun hG3 => hk2 (by have := (goodR_last s q _ hG3).1; rw [hk, hN] at this; exact this)⟩⟩)
              case done2 =>
                rintro xs X rfl ⟨⟨hG2, jM⟩, ⟨_, jN, jT, jW, jX, jA, jB, jD⟩, jF, jK⟩
                rw [runes_len, hN] at jM
                have dM := jM.cell
                have dWX := jW.cell
                rw [hm] at jN
                have dNX := jN.cell
                have eNX := jN.frozen
                have qN3 : ∀ v, (X.setCell ⟨W.heap.size, 0, none⟩ v).cell? ⟨W.heap.size, 0, none⟩ = some v := fun v => (jN.set v).cell
                have qT3 : ∀ v, (X.setCell ⟨W.heap.size, 0, none⟩ v).cell? ⟨Bt, 0, none⟩ = some (.int .i64 1) := fun v => (jT.other (by omega) v).cell
                have hI4 : ∀ v, v = Value.int .i64 (((pre ++ [(⟨p, c, hp, hc2⟩ : Rn)]).length : Nat) : Int) → IR s w1 (some ad) cap W.heap.size Bt 1 Ds (pre ++ [(⟨p, c, hp, hc2⟩ : Rn)]) (X.setCell ⟨W.heap.size, 0, none⟩ v) := fun v hv =>
                  ⟨goodR_snoc s pre _ hG hok, by rw [← hv]; exact jN.set v, jT.other (by omega) v, jW.other (by omega) v, jX.other (by omega) v, jA.other (by omega) v, jB.setCell (p := ⟨W.heap.size, 0, none⟩) (by show w1.heap.size ≤ W.heap.size; omega) v, fun D hD => (KeepsOthers.setCell X _ v).same D _ (jD D hD) rfl⟩
                replace hI4 := Lib.hid hI4
                gi_wp2
                all_goals (exact ⟨jF.trans ((KeepsOthers.setCell _ _ _).from _), jK.trans (KeepsOthers.setCell _ _ _).walks, hI4.out _ (hv1.out _ (by first | exact .inl rfl | exact .inr rfl))⟩)
              case stop2 =>
                rintro c q X hq hx
                exact absurd (runes_goodR s _ q hq) hx.2
            · gi_wp2
              all_goals (exact ⟨(KeepsOthers.setCell _ _ _).from _, (KeepsOthers.setCell _ _ _).walks, hIR.out _ (hv1.out _ (by first | exact .inl rfl | exact .inr rfl | exact .inl (congrArg (Value.int .i64) (by omega)))) hok⟩)
          · gi_wp2
            all_goals (try simp only [bne_iff_ne, ne_eq, bne_eq_false_iff_eq, beq_iff_eq, beq_eq_false_iff_ne] at *)
            all_goals (refine ⟨(KeepsOthers.setCell _ _ _).from _, ⟨rfl, fun hG2 => ?_⟩⟩; obtain ⟨o1, o2, o3⟩ := goodR_last s pre _ hG2; replace o2 : (p : Int) = _ := o2; replace o3 : (c : Int) = _ := o3; rw [hm, he0] at o2; rw [hm, he2] at o3; exact hch ⟨o2, o3⟩)
        · gi_wp2
          all_goals (exact ⟨(KeepsOthers.setCell _ _ _).from _, ⟨rfl, fun hG2 => hn (by have := (goodR_last s pre _ hG2).1; rw [hm, hN] at this; exact this)⟩⟩)
      case done =>
        rintro D xs W' hD rfl ⟨hG, kN, kT, kW, kX, kA, kB, kD⟩ hK
        rw [runes_len] at kN
        have dN := kN.cell
        have dT2 := kT.cell
        have dW2 := kW.cell
        have kI1 := bx kB bI1 (by omega)
        have dI12 := kI1.cell
        have hszW' := kB.size
        have kNlt := kN.lt
        have mD : ∀ o, ∀ E ∈ D :: Ds, (W'.alloc o).heap[E]? = some (.deferred (some [])) ∧ w1.heap.size ≤ E := fun o E hE => by
          rcases List.mem_cons.1 hE with rfl | hE
          · exact ⟨(Below.heap_alloc W' _ E (Array.getElem?_eq_some_iff.1 hK).1).trans hK, by omega⟩
          · exact ⟨(Below.heap_alloc W' _ E (Array.getElem?_eq_some_iff.1 (kD E hE)).1).trans (kD E hE), (hDs E hE).2⟩
        replace mD := Lib.hid mD
        gi_wp2
        all_goals first | (exfalso; exact absurd (show some undef = some (Value.bool _) by assumption) (by simp [undef])) | (refine ⟨?_, ?_⟩; (refine Inv.intro 2 W'.heap.size (D :: Ds) ?_ ?_; (exact ⟨by omega, by omega, Boxed.new W' 3 (.int .i64 2), kW.alloc _, kX.alloc _, kA.alloc _, kB.alloc (by omega) _, mD.out _, List.nodup_cons.2 ⟨fun h => by have := hDlt D h; omega, hNd⟩⟩); rfl); (rw [left_eq _ _ _ _ rfl (Boxed.new W' 3 _).cell, left_eq _ _ _ _ rfl dT]; decide))
      case stop =>
        rintro D c pre W' hD hp hx hK
        exact absurd (runes_goodR s _ pre hp) hx.2
    · gi_wp2
      have gW := cW.alloc (.cells #[.int .i64 0] 3)
      have gX := cX.alloc (.cells #[.int .i64 0] 3)
      have gA := cA.alloc (.cells #[.int .i64 0] 3)
      have gT := cT.alloc (.cells #[.int .i64 0] 3)
      have gN := Boxed.new W 3 (.int .i64 0)
      have gB := hB.alloc (by omega) (.cells #[.int .i64 0] 3)
      have gD : ∀ D ∈ Ds, (W.alloc (.cells #[.int .i64 0] 3)).heap[D]? = some (.deferred (some [])) := fun D hD => (Below.heap_alloc W _ D (Array.getElem?_eq_some_iff.1 (hDs D hD).1).1).trans (hDs D hD).1
      have hDlt : ∀ D ∈ Ds, D < W.heap.size := fun D hD => (Array.getElem?_eq_some_iff.1 (hDs D hD).1).1
      have cTlt := cT.lt
      have cAlt := cA.lt
      obtain ⟨W0, hW0⟩ : ∃ W0, W.alloc (.cells #[.int .i64 0] 3) = W0 := ⟨_, rfl⟩
      have hsz0 : W0.heap.size = W.heap.size + 1 := by rw [← hW0]; simp
      rw [hW0] at gW gX gA gT gN gB gD ⊢
      refine wpIn_rangeFunc_ownG rfl (by omega) (gf := 28) (lb := #[.pointer (some ⟨w1.heap.size + 1, 0, none⟩)]) rfl trivial (enters_of Try.func28 (by kernel_rfl) rfl)
        (runes_stops Fence.wide _ trivial rfl (by omega) (w1.heap.size + 1) s (by omega) W0 (by omega) gX.cell) walksK_t walksK_b (Below.refl _ _) (fun _ => rfl)
        (IR s w1 Ad cap W.heap.size Bt 0 Ds) (fun c pre W' => (c = .ret ∧ ¬ GoodR s pre) ∨ (c = .exit 2 ∧ (pre.length : Int) - 1 = st ∧ IR s w1 Ad cap W.heap.size Bt 0 Ds pre W'))
        (IR_own _ _ _ _ _ _ _ _ _ (by omega) (fun D hD => by have := hDlt D hD; omega))
        (fun c pre X Y row hs hg hr => hs.elim .inl (fun h => .inr ⟨h.1, h.2.1, IR_own _ _ _ _ _ _ _ _ _ (by omega) (fun D hD => by have := hDlt D hD; omega) pre X Y row h.2.2 hg hr⟩))
        ⟨goodR_nil s, gN, gT, gW, gX, gA, gB, gD⟩
        (fun x => { tmps := #[.string s, .int .i64 st, .int .i64 ir, undef, .pointer (some ⟨w.heap.size, 0, none⟩), .pointer (some ⟨w.heap.size + 1, 0, none⟩), .pointer (some ⟨w.heap.size + 1 + 1, 0, none⟩), .pointer (some ⟨w1.heap.size, 0, none⟩), .pointer (some ⟨w1.heap.size + 1 + 1, 0, none⟩), .pointer (some ⟨Bt, 0, none⟩), .pointer (some ⟨W.heap.size, 0, none⟩), .int .i64 (x.pos : Int), .int .i32 (x.c : Int), u 13, u 14, u 15, .string s, .slice Ad (chars s).length cap, .string s, .func (.func 28) #[] #[.pointer (some ⟨w1.heap.size + 1, 0, none⟩)], .func (.func 28) #[] #[.pointer (some ⟨w1.heap.size + 1, 0, none⟩)], .bool false, .int .i64 0, .bool true, u 24, u 25, .func (.func 28) #[] #[.pointer (some ⟨w1.heap.size + 1, 0, none⟩)], .int .i64 (x.pos : Int), .int .i32 (x.c : Int), u 29, u 30, u 31, u 32, u 33, u 34, u 35, u 36, u 37, u 38, u 39, u 40, u 41, u 42, u 43, u 44, u 45, u 46, u 47, u 48, u 49, u 50, u 51, u 52, u 53, u 54, u 55, u 56, u 57, u 58, u 59, u 60, u 61, u 62, u 63, u 64, u 65, u 66, u 67, u 68, u 69, u 70, u 71, u 72, u 73, u 74, u 75, u 76, u 77, u 78, u 79, u 80, u 81, u 82, u 83, u 84, u 85, u 86, u 87, u 88, u 89, u 90, u 91, u 92, u 93, u 94, u 95, u 96, u 97, u 98, u 99, u 100, u 101, u 102, u 103, u 104, u 105, u 106, u 107, u 108, u 109, u 110, u 111, u 112, u 113, u 114, u 115], defers := [] }) ?assign ?body ?done ?stop
      case assign =>
        intro l x W' K hK
        gi_wp2
        exact hK
      case body =>
        rintro l pre ⟨p, c, hp, hc2⟩ W' ⟨hG, kN, kT, kW, kX, kA, kB, kD⟩ hlt
        have dN := kN.cell
        have eN := kN.frozen
        have dT2 := kT.cell
        have dW2 := kW.cell
        have kI1 := bx kB bI1 (by omega)
        have kI2 := bx kB bI2 (by omega)
        have kR := bx kB bR (by omega)
        have dI12 := kI1.cell
        have dI22 := kI2.cell
        have dR2 := kR.cell
        have eR2 := kR.frozen
        have hNT : W.heap.size ≠ Bt := by omega
        have qN : ∀ v, (W'.setCell ⟨W.heap.size, 0, none⟩ v).cell? ⟨W.heap.size, 0, none⟩ = some v := fun v => (kN.set v).cell
        have qT : ∀ v, (W'.setCell ⟨W.heap.size, 0, none⟩ v).cell? ⟨Bt, 0, none⟩ = some (.int .i64 0) := fun v => (kT.other (by omega) v).cell
        have qI : ∀ v, (W'.setCell ⟨W.heap.size, 0, none⟩ v).cell? ⟨w.heap.size, 0, none⟩ = some (.int .i64 st) := fun v => (kI1.other (by omega) v).cell
        have hC2 := Kd.C_below hC1 kB
        have hlen : pre.length < 4611686018427387904 := by have := runes_le s (by omega); omega
        have hclen : (chars s).length < 4611686018427387904 := by have := chars_le s; omega
        obtain ⟨m, hm⟩ : ∃ m, pre.length = m := ⟨_, rfl⟩
        obtain ⟨N, hN⟩ : ∃ N, (chars s).length = N := ⟨_, rfl⟩
        rw [hm] at hlen
        rw [hN] at hclen
        have hIR : ∀ v, v = Value.int .i64 (((pre ++ [(⟨p, c, hp, hc2⟩ : Rn)]).length : Nat) : Int) → okR s pre (⟨p, c, hp, hc2⟩ : Rn) → IR s w1 Ad cap W.heap.size Bt 0 Ds (pre ++ [(⟨p, c, hp, hc2⟩ : Rn)]) (W'.setCell ⟨W.heap.size, 0, none⟩ v) := fun v hv ho =>
          ⟨goodR_snoc s pre _ hG ho, by rw [← hv]; exact kN.set v, kT.other (by omega) v, kW.other (by omega) v, kX.other (by omega) v, kA.other (by omega) v, kB.setCell (p := ⟨W.heap.size, 0, none⟩) (by show w1.heap.size ≤ W.heap.size; omega) v, fun D hD => (KeepsOthers.setCell W' _ v).same D _ (kD D hD) rfl⟩
        have hv1 : ∀ v, v = Value.int .i64 ((m : Int) + 1) ∨ v = Value.int .i64 (wrap64 ((m : Int) + 1)) → v = Value.int .i64 (((pre ++ [(⟨p, c, hp, hc2⟩ : Rn)]).length : Nat) : Int) := fun v h => by
          have e1 : (((pre ++ [(⟨p, c, hp, hc2⟩ : Rn)]).length : Nat) : Int) = (m : Int) + 1 := by simp [hm]
          rw [e1]
          rcases h with h | h
          · exact h
          · rw [h, wrap_of (by omega) (by omega)]
        replace hIR := Lib.hid hIR
        replace hv1 := Lib.hid hv1
        by_cases hn : m < N
        · obtain ⟨ad, rfl, x0, x1, x2⟩ := at_T31 hC2 (m : Int) (by omega) (by omega)
          have hn2 : ¬ N ≤ m := by omega
          obtain ⟨e0, he0⟩ : ∃ e0, (rd_T31 (chars s) (m : Int)).f0 = e0 := ⟨_, rfl⟩
          obtain ⟨e2, he2⟩ : ∃ e2, (rd_T31 (chars s) (m : Int)).f2 = e2 := ⟨_, rfl⟩
          simp only [Int.toNat_natCast] at x0 x2
          rw [he0] at x0
          rw [he2] at x2
          clear x1
          gi_wp2
          all_goals (try simp only [bne_iff_ne, ne_eq, bne_eq_false_iff_eq, beq_iff_eq, beq_eq_false_iff_ne] at *)
          all_goals first | (refine ⟨(KeepsOthers.setCell _ _ _).from _, .inl ⟨rfl, fun hG2 => ?_⟩⟩; obtain ⟨o1, o2, o3⟩ := goodR_last s pre _ hG2; replace o2 : (p : Int) = _ := o2; replace o3 : (c : Int) = _ := o3; rw [hm, he0] at o2; rw [hm, he2] at o3; omega) | (exact ⟨(KeepsOthers.setCell _ _ _).from _, (KeepsOthers.setCell _ _ _).walks, hIR.out _ (hv1.out _ (by first | exact .inl rfl | exact .inr rfl | exact .inl (congrArg (Value.int .i64) (by omega)))) ⟨by rw [hm, hN]; exact hn, (by show (p : Int) = _; rw [hm, he0]; omega), (by show (c : Int) = _; rw [hm, he2]; omega)⟩⟩) | (exact ⟨(KeepsOthers.setCell _ _ _).from _, .inr ⟨rfl, (by rw [List.length_append, hm]; simp only [List.length_singleton]; omega), hIR.out _ (hv1.out _ (by first | exact .inl rfl | exact .inr rfl | exact .inl (congrArg (Value.int .i64) (by omega)))) ⟨by rw [hm, hN]; exact hn, (by show (p : Int) = _; rw [hm, he0]; omega), (by show (c : Int) = _; rw [hm, he2]; omega)⟩⟩⟩)
        · gi_wp2
          all_goals (exact ⟨(KeepsOthers.setCell _ _ _).from _, .inl ⟨rfl, fun hG2 => hn (by have := (goodR_last s pre _ hG2).1; rw [hm, hN] at this; exact this)⟩⟩)
      case done =>
        rintro D xs W' hD rfl ⟨hG, kN, kT, kW, kX, kA, kB, kD⟩ hK
        rw [runes_len] at kN
        have dN := kN.cell
        have dT2 := kT.cell
        have dW2 := kW.cell
        have kI1 := bx kB bI1 (by omega)
        have dI12 := kI1.cell
        have hszW' := kB.size
        have kNlt := kN.lt
        have mD : ∀ o, ∀ E ∈ D :: Ds, (W'.alloc o).heap[E]? = some (.deferred (some [])) ∧ w1.heap.size ≤ E := fun o E hE => by
          rcases List.mem_cons.1 hE with rfl | hE
          · exact ⟨(Below.heap_alloc W' _ E (Array.getElem?_eq_some_iff.1 hK).1).trans hK, by omega⟩
          · exact ⟨(Below.heap_alloc W' _ E (Array.getElem?_eq_some_iff.1 (kD E hE)).1).trans (kD E hE), (hDs E hE).2⟩
        replace mD := Lib.hid mD
        gi_wp2
        all_goals first | (exfalso; exact absurd (show some undef = some (Value.bool _) by assumption) (by simp [undef])) | (refine ⟨?_, ?_⟩; (refine Inv.intro 1 W'.heap.size (D :: Ds) ?_ ?_; (exact ⟨by omega, by omega, Boxed.new W' 3 (.int .i64 1), kW.alloc _, kX.alloc _, kA.alloc _, kB.alloc (by omega) _, mD.out _, List.nodup_cons.2 ⟨fun h => by have := hDlt D h; omega, hNd⟩⟩); rfl); (rw [left_eq _ _ _ _ rfl (Boxed.new W' 3 _).cell, left_eq _ _ _ _ rfl dT]; decide))
      case stop =>
        rintro D c pre W' hD hp hx hK
        rcases hx with ⟨_, hbad⟩ | ⟨rfl, hst, hG, kN, kT, kW, kX, kA, kB, kD⟩
        · exact absurd (runes_goodR s _ pre hp) hbad
        · have hwst : wrap64 st = st := by
            have h1 := hp.length_le
            have h2 := runes_le s (by omega)
            rw [← hst]
            exact wrap_of (by omega) (by omega)
          have dN := kN.cell
          have dT2 := kT.cell
          have dW2 := kW.cell
          have kI1 := bx kB bI1 (by omega)
          have dI12 := kI1.cell
          have hszW' := kB.size
          have kNlt := kN.lt
          have mD : ∀ o, ∀ E ∈ D :: Ds, (W'.alloc o).heap[E]? = some (.deferred (some [])) ∧ w1.heap.size ≤ E := fun o E hE => by
            rcases List.mem_cons.1 hE with rfl | hE
            · exact ⟨(Below.heap_alloc W' _ E (Array.getElem?_eq_some_iff.1 hK).1).trans hK, by omega⟩
            · exact ⟨(Below.heap_alloc W' _ E (Array.getElem?_eq_some_iff.1 (kD E hE)).1).trans (kD E hE), (hDs E hE).2⟩
          replace mD := Lib.hid mD
          gi_wp2
          all_goals first | (exfalso; exact absurd (show some undef = some (Value.bool _) by assumption) (by simp [undef])) | (refine ⟨?_, ?_⟩; (refine Inv.intro 1 W'.heap.size (D :: Ds) ?_ ?_; (exact ⟨by omega, by omega, Boxed.new W' 3 (.int .i64 1), kW.alloc _, kX.alloc _, kA.alloc _, kB.alloc (by omega) _, mD.out _, List.nodup_cons.2 ⟨fun h => by have := hDlt D h; omega, hNd⟩⟩); rfl); (rw [left_eq _ _ _ _ rfl (Boxed.new W' 3 _).cell, left_eq _ _ _ _ rfl dT]; decide))
end Go.Proofs.Ytkjckdgknbfaiaa.Runes
