/- Lists that share no memory, written full, grown one by one, and looked at: the states that dowelbook's Free.. go through, for any kind of element. In terms of memory alone. -/
import Derived.Test.YtkebableanenkaaDoorFree
namespace Go.Proofs.YtkebableanenkaaDoor.Free
open Go.RowKit Go.Proofs.YtkebableanenkaaDoorW.PrintWords Go.Proofs.YtkebableanenkaaDoorW.PrintLast Go.Proofs.YtkebableanenkaaDoorW.PrintMore
set_option linter.unusedSimpArgs false
set_option linter.unusedVariables false
section
variable {α : Type} {d : Kd α} {e te : Nat} {mk mo : Nat → α}
theorem cell_of {W : World} {b : Nat} {arr : Array Value} {t : TypeId} (h : W.heap[b]? = some (.cells arr t (0, 0))) (i : Nat) (v : Value) (hv : arr[i]? = some v) : W.cell? ⟨b, i, none⟩ = some v := by
  simp [World.cell?, h, hv]
/-- All are being written full: those ahead of i are. -/
def PhG (d : Kd α) (e te : Nat) (mk : Nat → α) (m b : Nat) (arr : Array Value) (vs : Nat → Value) (xs : Nat → List α) (base : Nat) (w wr : World) (ys : Nat → List α) (i : Nat) : Prop :=
  (∀ j, j < m → d.R e wr base (fun _ => True) (vs j) (ys j)) ∧ (∀ j, j < m → (ys j).length = (xs j).length) ∧ (∀ j, j < i → ys j = List.replicate (xs j).length (mk j)) ∧ Below base w wr ∧ wr.heap[b]? = some (.cells arr te (0, 0))
theorem PhG.put (hE : d.E = []) (hne : e ≠ te) {m b : Nat} {arr : Array Value} {vs : Nat → Value} {xs ys : Nat → List α} {base : Nat} {w wr w1 : World} {i j g n c : Nat} {y : List α} (hP : PhG d e te mk m b arr vs xs base w wr ys i) (hbase : base ≤ w.heap.size) (ha : Apart m vs vs) (hj : j < m) (hij : i ≤ j)
    (hv : vs j = .slice (some ⟨g, 0, none⟩) n c) (hp : d.R e w1 base (fun _ => True) (.slice (some ⟨g, 0, none⟩) n c) y ∧ wr.grownBy w1 (some g)) (hl : y.length = (xs j).length) : PhG d e te mk m b arr vs xs base w w1 (upd ys j y) i := by
  obtain ⟨h1, h2, h3, h4, h5⟩ := hP
  have hg : wr.grownBy w1 (vs j).ownBlock := by rw [hv]; exact hp.2
  refine ⟨rows_put hE h1 ha hj hg (by rw [hv]; exact hp.1), fun k hk => ?_, fun k hk => ?_, h4.grown hg (by have := h4.size; omega) (Kd.R_base (h1 j hj)), blk_grown h5 hg (Kd.R_ne (h1 j hj) h5 (by first | exact hne | (rw [hE]; simpa using hne) | (simpa [Kd.raw] using hne.symm)))⟩
  · by_cases ee : k = j
    · subst ee; rw [upd_same]; exact hl
    · rw [upd_other _ _ _ _ ee]; exact h2 k hk
  · rw [upd_other _ _ _ _ (by omega)]; exact h3 k hk
theorem PhG.next (hE : d.E = []) (hne : e ≠ te) {m b : Nat} {arr : Array Value} {vs : Nat → Value} {xs ys : Nat → List α} {base : Nat} {w wr : World} {j : Nat} (hP : PhG d e te mk m b arr vs xs base w wr ys j) (hj : j < m) (hq : ∀ p, p < (xs j).length → (ys j)[p]? = some (mk j)) : PhG d e te mk m b arr vs xs base w wr ys (j + 1) := by
  obtain ⟨h1, h2, h3, h4, h5⟩ := hP
  refine ⟨h1, h2, fun k hk => ?_, h4, h5⟩
  by_cases ee : k = j
  · subst ee
    apply List.ext_getElem?
    intro p
    by_cases hp : p < (xs k).length
    · rw [hq p hp, List.getElem?_replicate, if_pos hp]
    · rw [List.getElem?_eq_none (by rw [h2 k hj]; omega), List.getElem?_eq_none (by simp; omega)]
  · exact h3 k (by omega)
def repG (mk : Nat → α) (xs : Nat → List α) (j : Nat) : List α := List.replicate (xs j).length (mk j)
/-- All are grown, one by one: those ahead of i are; i's has q more. -/
def GrG (d : Kd α) (e te : Nat) (mk mo : Nat → α) (m b : Nat) (arr : Array Value) (vs : Nat → Value) (xs : Nat → List α) (base : Nat) (w wr : World) (cur : Nat → Value) (ys : Nat → List α) (i q : Nat) : Prop :=
  (∀ j, j < m → d.R e wr base (fun _ => True) (cur j) (ys j)) ∧ (∀ j, j < m → Rd d wr (vs j) (repG mk xs j)) ∧ Apart m cur cur ∧ Apart m cur vs ∧ (∀ j, j < i → ys j = repG mk xs j ++ List.replicate 20 (mo j)) ∧
  (i < m → ys i = repG mk xs i ++ List.replicate q (mo i) ∧ (q = 0 → cur i = vs i)) ∧ (∀ j, i < j → j < m → ys j = repG mk xs j ∧ cur j = vs j) ∧ Below base w wr ∧ wr.heap[b]? = some (.cells arr te (0, 0)) ∧ (∀ j, j < m → ∀ k, (vs j).ownBlock = some k → k < w.heap.size) ∧ w.heap.size ≤ wr.heap.size ∧ b < w.heap.size
/-- What is grown already, as a list of its own. -/
def GW (te : Nat) (w wr : World) (gv : Value) (cur : Nat → Value) (i : Nat) : Prop := Kd.R (Kd.raw 1) te wr w.heap.size (fun _ => True) gv ((List.range i).map fun j => [cur j])
theorem GrG.start (hE : d.E = []) (hne : e ≠ te) {m b : Nat} {arr : Array Value} {vs : Nat → Value} {xs ys : Nat → List α} {base : Nat} {w wr : World} (hP : PhG d e te mk m b arr vs xs base w wr ys m) (ha : Apart m vs vs) (hlt : ∀ j, j < m → ∀ k, (vs j).ownBlock = some k → k < w.heap.size) (hb : b < w.heap.size) : GrG d e te mk mo m b arr vs xs base w wr vs ys 0 0 := by
  obtain ⟨h1, h2, h3, h4, h5⟩ := hP
  exact ⟨h1, fun j hj => by have := Rd.of_R hE (h1 j hj); rw [h3 j hj] at this; exact this, ha, ha, fun j hj => absurd hj (Nat.not_lt_zero j), fun h => ⟨by rw [h3 0 h]; simp [repG], fun _ => rfl⟩, fun j _ hj => ⟨h3 j hj, rfl⟩, h4, h5, hlt, h4.size, hb⟩
theorem GrG.step (hE : d.E = []) (hne : e ≠ te) {m b : Nat} {arr : Array Value} {vs cur : Nat → Value} {xs ys : Nat → List α} {base : Nat} {w wr w1 : World} {i q : Nat} {v1 gv : Value} (hP : GrG d e te mk mo m b arr vs xs base w wr cur ys i q) (hG : GW te w wr gv cur i) (hi : i < m)
    (hr : d.R e w1 base (fun _ => True) v1 (ys i ++ [mo i])) (hb : Below base w w1) (hc : ((∃ b, v1.ownBlock = some b ∧ wr.heap.size ≤ b) ∧ wr.grownBy w1 none) ∨ (v1.ownBlock = (cur i).ownBlock ∧ wr.grownBy w1 (cur i).ownBlock)) :
    GrG d e te mk mo m b arr vs xs base w w1 (upd cur i v1) (upd ys i (ys i ++ [mo i])) i (q + 1) ∧ GW te w w1 gv (upd cur i v1) i := by
  obtain ⟨h1, h2, h3, h4, h5, h6, h7, h8, h9, h10, h11, h12⟩ := hP
  have hg : wr.grownBy w1 (cur i).ownBlock := by
    rcases hc with ⟨_, h⟩ | ⟨_, h⟩
    · exact grown_row h _
    · exact h
  obtain ⟨g1, g2, g3, g4⟩ := grow_step hE h1 h2 h3 h4 hi (by rw [(h6 hi).1, List.append_assoc]; exact List.prefix_append _ _) hr (fun j hj k hk => Nat.lt_of_lt_of_le (h10 j hj k hk) h11) hc
  refine ⟨⟨g1, g2, g3, g4, fun j hj => by rw [upd_other _ _ _ _ (by omega)]; exact h5 j hj, fun _ => ⟨?_, fun h => by omega⟩, fun j hj hjm => by rw [upd_other _ _ _ _ (by omega), upd_other _ _ _ _ (by omega)]; exact h7 j hj hjm, hb, blk_grown h9 hg (Kd.R_ne (h1 i hi) h9 (by first | exact hne | (rw [hE]; simpa using hne) | (simpa [Kd.raw] using hne.symm))), h10, by have := hg.size; omega, h12⟩, ?_⟩
  · rw [upd_same, (h6 hi).1, List.append_assoc, List.replicate_succ']
  · have h := Kd.R_over hG (h1 i hi) (by first | exact hne | (rw [hE]; simpa using hne) | (simpa [Kd.raw] using hne.symm)) hg
    have ee : ((List.range i).map fun j => [upd cur i v1 j]) = ((List.range i).map fun j => [cur j]) := List.map_congr_left fun j hj => by
      have := List.mem_range.1 hj
      rw [upd_other _ _ _ _ (by omega)]
    unfold GW
    rw [ee]
    exact h
theorem GrG.push (hE : d.E = []) (hne : e ≠ te) {m b : Nat} {arr : Array Value} {vs cur : Nat → Value} {xs ys : Nat → List α} {base : Nat} {w wr w1 : World} {i : Nat} {gv g1 : Value} (hP : GrG d e te mk mo m b arr vs xs base w wr cur ys i 20) (hG : GW te w wr gv cur i) (hi : i < m) (hbase : base ≤ w.heap.size)
    (hr : Kd.R (Kd.raw 1) te w1 w.heap.size (fun _ => True) g1 (((List.range i).map fun j => [cur j]) ++ [[cur i]])) (hb : Below w.heap.size wr w1) (hg : wr.grownBy w1 gv.ownBlock) :
    GrG d e te mk mo m b arr vs xs base w w1 cur ys (i + 1) 0 ∧ GW te w w1 g1 cur (i + 1) := by
  obtain ⟨h1, h2, h3, h4, h5, h6, h7, h8, h9, h10, h11, h12⟩ := hP
  refine ⟨⟨fun j hj => Kd.R_over (h1 j hj) hG (by first | exact hne | (rw [hE]; simpa using hne) | (simpa [Kd.raw] using hne.symm)) hg, fun j hj => (h2 j hj).grown hg (fun k hk he => by have a1 := Kd.R_base hG k hk; have a2 := h10 j hj k he; omega), h3, h4, fun j hj => ?_, fun h => ?_, fun j hj hjm => h7 j (by omega) hjm, h8.trans (hb.mono hbase), (hb.block b h12).trans h9, h10, by have := hb.size; omega, h12⟩, ?_⟩
  · by_cases ee : j = i
    · subst ee; exact (h6 hi).1
    · exact h5 j (by omega)
  · have := h7 (i + 1) (by omega) h
    exact ⟨by rw [this.1]; simp, fun _ => this.2⟩
  · unfold GW
    rw [List.range_succ, List.map_append]
    exact hr
theorem PhG.below (hE : d.E = []) (hne : e ≠ te) {m b : Nat} {arr : Array Value} {vs : Nat → Value} {xs ys : Nat → List α} {base : Nat} {w wr w1 : World} {i : Nat} (hP : PhG d e te mk m b arr vs xs base w wr ys i) (hbase : base ≤ w.heap.size) (hb : Below wr.heap.size wr w1) : PhG d e te mk m b arr vs xs base w w1 ys i := by
  obtain ⟨h1, h2, h3, h4, h5⟩ := hP
  exact ⟨fun j hj => Kd.R_below (h1 j hj) hb, h2, h3, h4.trans (hb.mono (by have := h4.size; omega)), (hb.block b (blk_lt h5)).trans h5⟩
theorem GrG.below (hE : d.E = []) (hne : e ≠ te) {m b : Nat} {arr : Array Value} {vs cur : Nat → Value} {xs ys : Nat → List α} {base : Nat} {w wr w1 : World} {i q : Nat} (hP : GrG d e te mk mo m b arr vs xs base w wr cur ys i q) (hbase : base ≤ w.heap.size) (hb : Below wr.heap.size wr w1) : GrG d e te mk mo m b arr vs xs base w w1 cur ys i q := by
  obtain ⟨h1, h2, h3, h4, h5, h6, h7, h8, h9, h10, h11, h12⟩ := hP
  exact ⟨fun j hj => Kd.R_below (h1 j hj) hb, fun j hj => (h2 j hj).grown (grown_of_below hb none) (fun k hk => by cases hk), h3, h4, h5, h6, h7, h8.trans (hb.mono (by omega)), (hb.block b (blk_lt h9)).trans h9, h10, by have := hb.size; omega, h12⟩
theorem GW.below {w wr w1 : World} {gv : Value} {cur : Nat → Value} {i : Nat} (h : GW te w wr gv cur i) (hb : Below wr.heap.size wr w1) : GW te w w1 gv cur i := Kd.R_below h hb
theorem GW.at {w wr : World} {Ag : Option Addr} {cg : Nat} {cur : Nat → Value} {m : Nat} (h : GW te w wr (.slice Ag m cg) cur m) (j : Nat) (hj : j < m) : ∃ ad, Ag = some ad ∧ wr.cell? (ad.add j) = some (cur j) := by
  have hC := (Kd.R_reads' h).2.2
  obtain ⟨ad, c, rfl, _, hK, hc⟩ := Kd.C_get hC [] (j : Int) (by omega) (by simp; omega)
  refine ⟨ad, rfl, ?_⟩
  have ee : ((List.range m).map fun j => [cur j]).getD j [] = [cur j] := by simp [List.getD_eq_getElem?_getD, List.getElem?_map, List.getElem?_range hj]
  rw [Int.toNat_natCast] at hK hc
  have hK2 : c = ((List.range m).map fun j => [cur j]).getD j [] ∧ _ := hK
  rw [ee] at hK2
  have := hc 0 (cur j) (by rw [hK2.1]; rfl)
  simpa [show (Kd.raw 1).sz = 1 from rfl] using this
end
end Go.Proofs.YtkebableanenkaaDoor.Free
