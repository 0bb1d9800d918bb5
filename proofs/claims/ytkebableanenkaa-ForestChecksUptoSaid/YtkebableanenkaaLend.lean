/- copy of whole elements (DRAFT, under way). -/
import Derived.Test.YtkebableanenkaaQallx2
import Derived.Laws.CopyRow
namespace Go.Proofs.Ytkebableanenkaa.Lend
open Go.RowKit Go.Proofs.Ytkebableanenkaa.Qall Go.Proofs.YtkebableanenkaaW.PrintWords Go.Proofs.YtkebableanenkaaW.PrintLast Go.Proofs.YtkebableanenkaaW.PrintMore
set_option linter.unusedSimpArgs false
set_option linter.unusedVariables false
variable {P : Program}
theorem run_copy_rowN (sz : Nat) (w : World) (dT sT ty elem : TypeId) (g o dLen dCap : Nat) (a : Addr) (sLen sCap : Nat) (cur : Array Value) (t : TypeId) (cs : List Value)
    (hu : P.underlying dT = some (.slice elem)) (hs : (P.info? elem).map (·.size) = some sz)
    (hg : w.heap[g]? = some (.cells cur t (0, 0))) (hn : cs.length = Nat.min sLen dLen * sz)
    (hsrc : ∀ j v, cs[j]? = some v → w.cell? (a.add j) = some v) (hfit : o + cs.length ≤ cur.size) (h1 : ∀ v ∈ cs, v.oneCell' = true) :
    (Builtin.copy_ #[dT, sT] ty #[.slice (some ⟨g, o, none⟩) dLen dCap, .slice (some a) sLen sCap]).run P w =
      .ok (goInt (Nat.min sLen dLen)) (w.setRow g (cur.toList.take o ++ cs ++ cur.toList.drop (o + cs.length)).toArray) := by
  have hl := run_loadCells_list (P := P) w a cs hsrc
  have hst := run_storeCells_at P g o t cs 0 cur w hg (by simpa using hfit) h1
  cases hq : P.info? elem with
  | none => simp [hq] at hs
  | some i =>
    have hi : i.size = sz := by simpa [hq] using hs
    simp [Builtin.copy_, run_underlying hu, Builtin.lenOf, Builtin.firstCells, sizeOf, typeInfo, hq, hi, ← hn, hl, hst]
theorem run_copy_zero (sz : Nat) (w : World) (dT sT ty elem : TypeId) (d : Addr) (dLen dCap : Nat) (A : Option Addr) (sCap : Nat)
    (hu : P.underlying dT = some (.slice elem)) (hs : (P.info? elem).map (·.size) = some sz) :
    (Builtin.copy_ #[dT, sT] ty #[.slice (some d) dLen dCap, .slice A 0 sCap]).run P w = .ok (goInt 0) w := by
  cases hq : P.info? elem with
  | none => simp [hq] at hs
  | some i =>
    cases A with
    | none => simp [Builtin.copy_, run_underlying hu, Builtin.lenOf, Builtin.firstCells, sizeOf, typeInfo, hq, storeCells]
    | some a =>
      have hl := run_loadCells_list (P := P) w a [] (by simp)
      simp only [List.length_nil] at hl
      simp [Builtin.copy_, run_underlying hu, Builtin.lenOf, Builtin.firstCells, sizeOf, typeInfo, hq, storeCells, hl]
/-- The cells of nodes. -/
def cells1 (x : S34) : List Value := [.string x.f0, .int .i64 x.f1, .int .i64 x.f2, .int .i64 x.f3]
def cellsOf (l : List S34) : List Value := l.flatMap cells1
theorem cellsOf_length (l : List S34) : (cellsOf l).length = l.length * 4 := by
  induction l with
  | nil => rfl
  | cons x l ih => simp [cellsOf, cells1] at *; omega
theorem cellsOf_append (l m : List S34) : cellsOf (l ++ m) = cellsOf l ++ cellsOf m := by simp [cellsOf]
theorem cellsOf_one (l : List S34) : ∀ v ∈ cellsOf l, v.oneCell' = true := by
  intro v hv
  simp only [cellsOf, List.mem_flatMap, cells1] at hv
  obtain ⟨x, _, hx⟩ := hv
  simp at hx
  rcases hx with rfl | rfl | rfl | rfl <;> rfl
theorem cellsOf_get (l : List S34) : ∀ i (h : i < l.length), ((cellsOf l).drop (i * 4)).take 4 = cells1 l[i] := by
  induction l with
  | nil => intro i h; simp at h
  | cons x l ih =>
    intro i h
    cases i with
    | zero => simp [cellsOf, cells1]
    | succ i =>
      have e : (cellsOf (x :: l)).drop ((i + 1) * 4) = (cellsOf l).drop (i * 4) := by
        rw [show cellsOf (x :: l) = cells1 x ++ cellsOf l from rfl, Nat.succ_mul, Nat.add_comm, ← List.drop_drop]
        rfl
      rw [e, ih i (by simpa using h)]
      rfl
/-- A row of one's own, from its block. -/
theorem R_of (W : World) (base : Nat) (ok : Nat → Prop) (g cap : Nat) (cur : Array Value) (xs : List S34) (hg : W.heap[g]? = some (.cells cur 34 (0, 0))) (hb : base ≤ g) (hok : ok g) (hn : xs.length ≤ cap) (hm : cap ≤ maxLen) (hs : cur.size = cap * 4)
    (ht : cur.toList.take (xs.length * 4) = cellsOf xs) : Kd.R k34 34 W base ok (.slice (some ⟨g, 0, none⟩) xs.length cap) xs := by
  refine ⟨fun k hk => by simp [Value.ownBlock] at hk; subst hk; exact hok, cellsOf xs, ⟨cellsOf_length xs, .inr ⟨g, cap, cur, rfl, hb, hg, hn, hm, hs, ht⟩⟩, ⟨cellsOf_length xs, fun j p hp => ?_⟩⟩
  obtain ⟨hlt, rfl⟩ := List.getElem?_eq_some_iff.1 hp
  show k34.M W base _ xs[j] (((cellsOf xs).drop (j * 4)).take 4)
  rw [cellsOf_get xs j hlt]
  exact k34_mkM W base _ xs[j]
/-- What is read of a list, cell by cell. -/
theorem C_cells {W : World} {A : Option Addr} {l : List S34} (h : Kd.C k34 W A l.length l) (hp : 0 < l.length) : ∃ ad, A = some ad ∧ ∀ j v, (cellsOf l)[j]? = some v → W.cell? (ad.add j) = some v := by
  obtain ⟨ad, _, rfl, _⟩ := Kd.C_get h z34 0 (by omega) (by omega)
  refine ⟨ad, rfl, fun j v hv => ?_⟩
  have hj : j < (cellsOf l).length := (List.getElem?_eq_some_iff.1 hv).1
  rw [cellsOf_length] at hj
  have hi : j / 4 < l.length := by omega
  obtain ⟨ad2, c, e, _, hK, hc⟩ := Kd.C_get h z34 ((j / 4 : Nat) : Int) (by omega) (by omega)
  obtain rfl : ad = ad2 := Option.some.inj e
  rw [Int.toNat_natCast] at hK hc
  have e2 : l.getD (j / 4) z34 = l[j / 4] := by rw [List.getD_eq_getElem?_getD, List.getElem?_eq_getElem hi]; rfl
  rw [e2] at hK
  have hk := k34_open hK
  have e3 := cellsOf_get l (j / 4) hi
  have e4 : c[j % 4]? = some v := by
    rw [hk]
    show (cells1 l[j / 4])[j % 4]? = some v
    rw [← e3, List.getElem?_take, if_pos (by omega), List.getElem?_drop, show j / 4 * 4 + j % 4 = j by omega]
    exact hv
  have := hc (j % 4) v e4
  rw [show k34.sz = 4 from rfl, show j / 4 * 4 + j % 4 = j by omega] at this
  exact this
end Go.Proofs.Ytkebableanenkaa.Lend
