/- What dowellaw12.walked asks of each place and level that comes, and that forest.Walk's meet it: the plain law. -/
import Derived.Test.YtkebableanenkaaWalkIt
namespace Go.Proofs.Ytkebableanenkaa.Walked
open Go.RowKit Go.Shelf Go.Proofs.Ytkebableanenkaa.Qall Go.Proofs.Ytkebableanenkaa.Fo Go.Proofs.YtkebableanenkaaW.PrintWords Go.Proofs.YtkebableanenkaaW.PrintLast Go.Proofs.YtkebableanenkaaW.PrintMore
set_option linter.unusedSimpArgs false
set_option linter.unusedVariables false
/-- What a round asks of x behind those of p. -/
def okR (zs : List Int) (p : List (Nat × Int)) (x : Nat × Int) : Prop := p.length < zs.length ∧ (x.1 : Int) = (p.length : Int) ∧ x.2 = rd zs (p.length : Int)
def GoodR (zs : List Int) (pre : List (Nat × Int)) : Prop := ∀ p x, p ++ [x] <+: pre → okR zs p x
theorem goodR_nil (zs : List Int) : GoodR zs [] := fun p x h => by simp at h
theorem goodR_snoc (zs : List Int) (pre : List (Nat × Int)) (x : Nat × Int) (h : GoodR zs pre) (hx : okR zs pre x) : GoodR zs (pre ++ [x]) := fun p y hp => by
  obtain ⟨t, ht⟩ := hp
  rcases List.eq_nil_or_concat t with rfl | ⟨t', z, rfl⟩
  · rw [List.append_nil] at ht
    obtain ⟨rfl, e⟩ := List.append_inj' ht rfl
    obtain rfl : y = x := by simpa using e
    exact hx
  · rw [List.concat_eq_append, ← List.append_assoc] at ht
    obtain ⟨e, _⟩ := List.append_inj' ht rfl
    exact h p y ⟨t', e⟩
theorem goodR_last (zs : List Int) (pre : List (Nat × Int)) (x : Nat × Int) (h : GoodR zs (pre ++ [x])) : okR zs pre x := h pre x (List.prefix_refl _)
theorem came_good (zs : List Int) : ∀ k, k ≤ zs.length → GoodR zs (came zs k)
  | 0, _ => goodR_nil zs
  | k + 1, h => by
    rw [came_succ]
    refine goodR_snoc zs _ _ (came_good zs k (by omega)) ⟨by rw [came_length]; omega, by rw [came_length], ?_⟩
    rw [came_length]
    unfold rd
    rw [Int.toNat_natCast, List.getD_eq_getElem?_getD]
theorem bx {n B : Nat} {w W : World} {t : TypeId} {v : Value} (hB : Below n w W) (h : Boxed w B t v) (hlt : B < n) : Boxed W B t v := (hB.block _ hlt).trans h
/-- Between two rounds: what the cells hold. fb: the box that the iterator has captured. -/
def IR (zs : List Int) (w1 : World) (fb Bn Bt : Nat) (tv : Int) (Ds : List Nat) (pre : List (Nat × Int)) (W : World) : Prop :=
  GoodR zs pre ∧ Boxed W Bn 3 (.int .i64 (pre.length : Int)) ∧ Boxed W Bt 3 (.int .i64 tv) ∧ Boxed W w1.heap.size 31 (.func (.func 31) #[] #[.pointer (some ⟨fb, 0, none⟩)]) ∧ Below w1.heap.size w1 W ∧ (∀ D ∈ Ds, W.heap[D]? = some (.deferred (some [])))
theorem IR_own (zs : List Int) (w1 : World) (fb Bn Bt : Nat) (tv : Int) (Ds : List Nat) (B : Nat) (hB : w1.heap.size ≤ B) (hD : ∀ D ∈ Ds, D < B) : OwnFrom B (IR zs w1 fb Bn Bt tv Ds) := fun pre X Y row hs hg hr =>
  ⟨hs.1, (Own.from (boxed_own _ _ (fun pre : List (Nat × Int) => .int .i64 (pre.length : Int))) _) pre X Y row hs.2.1 hg hr, (Own.from (boxed_own _ _ (fun _ => _)) _) pre X Y row hs.2.2.1 hg hr, (Own.from (boxed_own _ _ (fun _ => _)) _) pre X Y row hs.2.2.2.1 hg hr,
    (ownFrom_below (β := List (Nat × Int)) (Nat.le_refl _) hB) pre X Y row hs.2.2.2.2.1 hg hr,
    fun D hD' => (hg.block D (Array.getElem?_eq_some_iff.1 (hs.2.2.2.2.2 D hD')).1 (fun e => by have h1 := (hr D e.symm).1; have h2 := hD D hD'; omega)).trans (hs.2.2.2.2.2 D hD')⟩
end Go.Proofs.Ytkebableanenkaa.Walked
