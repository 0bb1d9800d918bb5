/- dowelbook.FreeInts of lists that share no memory answers true. Conditions: at most eight lists, each of at most 2^21 numbers. -/
import Derived.Test.YtkebableanenkaaFree
namespace Go.Proofs.Ytkebableanenkaa.Free
open Go.RowKit Go.Proofs.Ytkebableanenkaa.Qall Go.Proofs.YtkebableanenkaaW.PrintWords Go.Proofs.YtkebableanenkaaW.PrintLast Go.Proofs.YtkebableanenkaaW.PrintMore
set_option linter.unusedSimpArgs false
set_option linter.unusedVariables false
def mkI (j : Nat) : Int := -1 - (j : Int)
def moI (j : Nat) : Int := -100000 - (j : Int)
abbrev RI (W : World) (base : Nat) (v : Value) (xs : List Int) : Prop := Kd.R (Kd.int .i64) 3 W base (fun _ => True) v xs
/-- All are being written full: those ahead of i are. -/
def PhI (m b : Nat) (arr : Array Value) (vs : Nat → Value) (xs : Nat → List Int) (base : Nat) (w wr : World) (ys : Nat → List Int) (i : Nat) : Prop :=
  (∀ j, j < m → RI wr base (vs j) (ys j)) ∧ (∀ j, j < m → (ys j).length = (xs j).length) ∧ (∀ j, j < i → ys j = List.replicate (xs j).length (mkI j)) ∧ Below base w wr ∧ wr.heap[b]? = some (.cells arr 24 (0, 0))
theorem cell_of {W : World} {b : Nat} {arr : Array Value} {t : TypeId} (h : W.heap[b]? = some (.cells arr t (0, 0))) (i : Nat) (v : Value) (hv : arr[i]? = some v) : W.cell? ⟨b, i, none⟩ = some v := by
  simp [World.cell?, h, hv]
theorem PhI.put {m b : Nat} {arr : Array Value} {vs : Nat → Value} {xs ys : Nat → List Int} {base : Nat} {w wr w1 : World} {i j g n c : Nat} {y : List Int} (hP : PhI m b arr vs xs base w wr ys i) (hbase : base ≤ w.heap.size) (ha : Apart m vs vs) (hj : j < m) (hij : i ≤ j)
    (hv : vs j = .slice (some ⟨g, 0, none⟩) n c) (hp : RI w1 base (.slice (some ⟨g, 0, none⟩) n c) y ∧ wr.grownBy w1 (some g)) (hl : y.length = (xs j).length) : PhI m b arr vs xs base w w1 (upd ys j y) i := by
  obtain ⟨h1, h2, h3, h4, h5⟩ := hP
  have hg : wr.grownBy w1 (vs j).ownBlock := by rw [hv]; exact hp.2
  refine ⟨rows_put rfl h1 ha hj hg (by rw [hv]; exact hp.1), fun k hk => ?_, fun k hk => ?_, h4.grown hg (by have := h4.size; omega) (Kd.R_base (h1 j hj)), blk_grown h5 hg (Kd.R_ne (h1 j hj) h5 (by decide))⟩
  · by_cases e : k = j
    · subst e; rw [upd_same]; exact hl
    · rw [upd_other _ _ _ _ e]; exact h2 k hk
  · rw [upd_other _ _ _ _ (by omega)]; exact h3 k hk
theorem PhI.next {m b : Nat} {arr : Array Value} {vs : Nat → Value} {xs ys : Nat → List Int} {base : Nat} {w wr : World} {j : Nat} (hP : PhI m b arr vs xs base w wr ys j) (hj : j < m) (hq : ∀ p, p < (xs j).length → (ys j)[p]? = some (mkI j)) : PhI m b arr vs xs base w wr ys (j + 1) := by
  obtain ⟨h1, h2, h3, h4, h5⟩ := hP
  refine ⟨h1, h2, fun k hk => ?_, h4, h5⟩
  by_cases e : k = j
  · subst e
    apply List.ext_getElem?
    intro p
    by_cases hp : p < (xs k).length
    · rw [hq p hp, List.getElem?_replicate, if_pos hp]
    · rw [List.getElem?_eq_none (by rw [h2 k hj]; omega), List.getElem?_eq_none (by simp; omega)]
  · exact h3 k (by omega)
def rep (xs : Nat → List Int) (j : Nat) : List Int := List.replicate (xs j).length (mkI j)
/-- All are grown, one by one: those ahead of i are; i's has q more. -/
def GrI (m b : Nat) (arr : Array Value) (vs : Nat → Value) (xs : Nat → List Int) (base : Nat) (w wr : World) (cur : Nat → Value) (ys : Nat → List Int) (i q : Nat) : Prop :=
  (∀ j, j < m → RI wr base (cur j) (ys j)) ∧ (∀ j, j < m → Rd (Kd.int .i64) wr (vs j) (rep xs j)) ∧ Apart m cur cur ∧ Apart m cur vs ∧ (∀ j, j < i → ys j = rep xs j ++ List.replicate 20 (moI j)) ∧
  (i < m → ys i = rep xs i ++ List.replicate q (moI i) ∧ (q = 0 → cur i = vs i)) ∧ (∀ j, i < j → j < m → ys j = rep xs j ∧ cur j = vs j) ∧ Below base w wr ∧ wr.heap[b]? = some (.cells arr 24 (0, 0)) ∧ (∀ j, j < m → ∀ k, (vs j).ownBlock = some k → k < w.heap.size) ∧ w.heap.size ≤ wr.heap.size ∧ b < w.heap.size
/-- What is grown already, as a list of its own. -/
def GV (w wr : World) (gv : Value) (cur : Nat → Value) (i : Nat) : Prop := Kd.R (Kd.raw 1) 24 wr w.heap.size (fun _ => True) gv ((List.range i).map fun j => [cur j])
theorem GrI.start {m b : Nat} {arr : Array Value} {vs : Nat → Value} {xs ys : Nat → List Int} {base : Nat} {w wr : World} (hP : PhI m b arr vs xs base w wr ys m) (ha : Apart m vs vs) (hlt : ∀ j, j < m → ∀ k, (vs j).ownBlock = some k → k < w.heap.size) (hb : b < w.heap.size) : GrI m b arr vs xs base w wr vs ys 0 0 := by
  obtain ⟨h1, h2, h3, h4, h5⟩ := hP
  exact ⟨h1, fun j hj => by have := Rd.of_R rfl (h1 j hj); rw [h3 j hj] at this; exact this, ha, ha, fun j hj => absurd hj (Nat.not_lt_zero j), fun h => ⟨by rw [h3 0 h]; simp [rep], fun _ => rfl⟩, fun j _ hj => ⟨h3 j hj, rfl⟩, h4, h5, hlt, h4.size, hb⟩
theorem GrI.step {m b : Nat} {arr : Array Value} {vs cur : Nat → Value} {xs ys : Nat → List Int} {base : Nat} {w wr w1 : World} {i q : Nat} {v1 gv : Value} (hP : GrI m b arr vs xs base w wr cur ys i q) (hG : GV w wr gv cur i) (hi : i < m)
    (hr : RI w1 base v1 (ys i ++ [moI i])) (hb : Below base w w1) (hc : ((∃ b, v1.ownBlock = some b ∧ wr.heap.size ≤ b) ∧ wr.grownBy w1 none) ∨ (v1.ownBlock = (cur i).ownBlock ∧ wr.grownBy w1 (cur i).ownBlock)) :
    GrI m b arr vs xs base w w1 (upd cur i v1) (upd ys i (ys i ++ [moI i])) i (q + 1) ∧ GV w w1 gv (upd cur i v1) i := by
  obtain ⟨h1, h2, h3, h4, h5, h6, h7, h8, h9, h10, h11, h12⟩ := hP
  have hg : wr.grownBy w1 (cur i).ownBlock := by
    rcases hc with ⟨_, h⟩ | ⟨_, h⟩
    · exact grown_row h _
    · exact h
  obtain ⟨g1, g2, g3, g4⟩ := grow_step rfl h1 h2 h3 h4 hi (by rw [(h6 hi).1, List.append_assoc]; exact List.prefix_append _ _) hr (fun j hj k hk => Nat.lt_of_lt_of_le (h10 j hj k hk) h11) hc
  refine ⟨⟨g1, g2, g3, g4, fun j hj => by rw [upd_other _ _ _ _ (by omega)]; exact h5 j hj, fun _ => ⟨?_, fun h => by omega⟩, fun j hj hjm => by rw [upd_other _ _ _ _ (by omega), upd_other _ _ _ _ (by omega)]; exact h7 j hj hjm, hb, blk_grown h9 hg (Kd.R_ne (h1 i hi) h9 (by decide)), h10, by have := hg.size; omega, h12⟩, ?_⟩
  · rw [upd_same, (h6 hi).1, List.append_assoc, List.replicate_succ']
  · have h := Kd.R_over hG (h1 i hi) (by decide) hg
    have e : ((List.range i).map fun j => [upd cur i v1 j]) = ((List.range i).map fun j => [cur j]) := List.map_congr_left fun j hj => by
      have := List.mem_range.1 hj
      rw [upd_other _ _ _ _ (by omega)]
    unfold GV
    rw [e]
    exact h
theorem GrI.push {m b : Nat} {arr : Array Value} {vs cur : Nat → Value} {xs ys : Nat → List Int} {base : Nat} {w wr w1 : World} {i : Nat} {gv g1 : Value} (hP : GrI m b arr vs xs base w wr cur ys i 20) (hG : GV w wr gv cur i) (hi : i < m) (hbase : base ≤ w.heap.size)
    (hr : Kd.R (Kd.raw 1) 24 w1 w.heap.size (fun _ => True) g1 (((List.range i).map fun j => [cur j]) ++ [[cur i]])) (hb : Below w.heap.size wr w1) (hg : wr.grownBy w1 gv.ownBlock) :
    GrI m b arr vs xs base w w1 cur ys (i + 1) 0 ∧ GV w w1 g1 cur (i + 1) := by
  obtain ⟨h1, h2, h3, h4, h5, h6, h7, h8, h9, h10, h11, h12⟩ := hP
  refine ⟨⟨fun j hj => Kd.R_over (h1 j hj) hG (by decide) hg, fun j hj => (h2 j hj).grown hg (fun k hk he => by have a1 := Kd.R_base hG k hk; have a2 := h10 j hj k he; omega), h3, h4, fun j hj => ?_, fun h => ?_, fun j hj hjm => h7 j (by omega) hjm, h8.trans (hb.mono hbase), (hb.block b h12).trans h9, h10, by have := hb.size; omega, h12⟩, ?_⟩
  · by_cases e : j = i
    · subst e; exact (h6 hi).1
    · exact h5 j (by omega)
  · have := h7 (i + 1) (by omega) h
    exact ⟨by rw [this.1]; simp, fun _ => this.2⟩
  · unfold GV
    rw [List.range_succ, List.map_append]
    exact hr
theorem rep_rd (xs : Nat → List Int) (j q : Nat) (h : q < (xs j).length) : rd (rep xs j) (q : Int) = mkI j := by
  unfold rd rep
  rw [Int.toNat_natCast, List.getD_eq_getElem?_getD, List.getElem?_replicate, if_pos h]
  rfl
theorem full_rd (xs : Nat → List Int) (j q : Nat) : (q < (xs j).length → rd (rep xs j ++ List.replicate 20 (moI j)) (q : Int) = mkI j) ∧ (¬ q < (xs j).length → q < (xs j).length + 20 → rd (rep xs j ++ List.replicate 20 (moI j)) (q : Int) = moI j) := by
  have hl : (rep xs j).length = (xs j).length := List.length_replicate
  refine ⟨fun h => ?_, fun h h2 => ?_⟩
  · rw [← rep_rd xs j q h]
    unfold rd
    rw [Int.toNat_natCast, List.getD_eq_getElem?_getD, List.getD_eq_getElem?_getD, List.getElem?_append_left (by omega)]
  · unfold rd
    rw [Int.toNat_natCast, List.getD_eq_getElem?_getD, List.getElem?_append_right (by omega), List.getElem?_replicate, if_pos (by omega)]
    rfl
theorem GV.at {w wr : World} {Ag : Option Addr} {cg : Nat} {cur : Nat → Value} {m : Nat} (h : GV w wr (.slice Ag m cg) cur m) (j : Nat) (hj : j < m) : ∃ ad, Ag = some ad ∧ wr.cell? (ad.add j) = some (cur j) := by
  have hC := (Kd.R_reads' h).2.2
  obtain ⟨ad, c, rfl, _, hK, hc⟩ := Kd.C_get hC [] (j : Int) (by omega) (by simp; omega)
  refine ⟨ad, rfl, ?_⟩
  have e : ((List.range m).map fun j => [cur j]).getD j [] = [cur j] := by simp [List.getD_eq_getElem?_getD, List.getElem?_map, List.getElem?_range hj]
  rw [Int.toNat_natCast] at hK hc
  have hK2 : c = ((List.range m).map fun j => [cur j]).getD j [] ∧ _ := hK
  rw [e] at hK2
  have := hc 0 (cur j) (by rw [hK2.1]; rfl)
  simpa [show (Kd.raw 1).sz = 1 from rfl] using this
set_option maxRecDepth 100000 in
set_option maxHeartbeats 4000000 in
theorem freeInts (m : Nat) (hm : m ≤ 8) (b : Nat) (arr : Array Value) (vs : Nat → Value) (xs : Nat → List Int) (base : Nat) (w : World) (hbk : w.heap[b]? = some (.cells arr 24 (0, 0))) (hvs : ∀ i, i < m → arr[i]? = some (vs i))
    (hR : ∀ j, j < m → RI w base (vs j) (xs j)) (ha : Apart m vs vs) (hx : ∀ j, j < m → (xs j).length ≤ 2097152) (hbase : base ≤ w.heap.size) :
    Calls Try.prog 16 #[.slice (some ⟨b, 0, none⟩) m m] w fun e w' => e = .returned (.bool true) ∧ Below base w w' := by
  go_enter Try.func16, Try.ntmps16
  have HA := Aside0.mk ha
  have HV := Aside0.mk hvs
  have HX := Aside0.mk hx
  have HLT := Aside0.mk (fun j hj => Kd.R_lt (hR j hj) : ∀ j, j < m → ∀ k, (vs j).ownBlock = some k → k < w.heap.size)
  have hbl := (Array.getElem?_eq_some_iff.1 hbk).1
  have h0 : PhI m b arr vs xs base w w xs 0 := ⟨hR, fun _ _ => rfl, fun j hj => absurd hj (Nat.not_lt_zero j), Below.refl _ _, hbk⟩
  clear hR ha hvs hx hbk
  go_wp2
  go_loopw [3] (fun i wr => ∃ (j : Nat) (ys : Nat → List Int), j ≤ m ∧ i = .int .i64 j ∧ PhI m b arr vs xs base w wr ys j) (fun i _ => m - (intOf i).toNat)
  case atStart => exact ⟨0, xs, Nat.zero_le _, rfl, h0⟩
  case round =>
    obtain ⟨j, ys, hj, rfl, hP⟩ := hrel
    by_cases hlt : j < m
    · obtain ⟨A, c, hv⟩ := Kd.R_slice (hP.1 j hlt)
      have hv2 := hv
      rw [hP.2.1 j hlt] at hv
      have HVJ := Aside0.mk hv
      have hxj := HX.out j hlt
      clear hv hv2
      obtain ⟨n, hn⟩ : ∃ n, (xs j).length = n := ⟨_, rfl⟩
      rw [hn] at HVJ hxj
      have HN := Aside0.mk hn
      clear hn
      go_wp2
      go_loopw [4] (fun k wr => ∃ (q : Nat) (ys : Nat → List Int), q ≤ n ∧ k = .int .i64 q ∧ PhI m b arr vs xs base w wr ys j ∧ Aside0 (∀ p, p < q → (ys j)[p]? = some (mkI j))) (fun k _ => n - (intOf k).toNat)
      case atStart => exact ⟨0, ys, Nat.zero_le _, rfl, hP, ⟨fun p hp => absurd hp (Nat.not_lt_zero p)⟩⟩
      case round =>
        obtain ⟨q, zs, hq, rfl, hP2, HQ⟩ := hrel
        have hcell := cell_of hP2.2.2.2.2 j _ (HV.out j hlt)
        rw [HVJ.out] at hcell
        by_cases hqn : q < n
        · have hRj := hP2.1 j hlt
          obtain ⟨g, cap, hg, hgb, hgl, _⟩ := Kd.R_form hRj (by rw [hP2.2.1 j hlt, HN.out]; omega)
          rw [HVJ.out] at hg
          obtain ⟨rfl, hn2, rfl⟩ : A = some ⟨g, 0, none⟩ ∧ n = (zs j).length ∧ c = cap := by simpa using hg
          clear hg
          rw [HVJ.out] at hRj
          obtain ⟨hx0, hf0⟩ := Kd.R_celln 0 hRj (q : Int) (by omega) (by omega)
          have hput := Aside0.mk (Kd.R_putg hRj (q : Int) (mkI j))
          rw [Int.toNat_natCast] at hx0 hf0 hput
          clear hn2 hRj
          have hmk : IntKind.i64.wrap (-1 - (j : Int)) = mkI j := by unfold mkI; exact IntWalk.i64_in _ (by omega)
          have hset := hP2.put hbase HA.out hlt (Nat.le_refl _) HVJ.out hput.out (by rw [List.length_set]; exact hP2.2.1 j hlt)
          have hln := hP2.2.1 j hlt
          go_wp2
          refine ⟨⟨q + 1, _, by omega, by simp, hset, ⟨fun p hp => ?_⟩⟩, by simp [intOf]; omega⟩
          rw [upd_same]
          by_cases e : p = q
          · subst e
            rw [List.getElem?_set_self (by rw [hln, HN.out]; omega)]
          · rw [List.getElem?_set_ne (by omega)]
            exact HQ.out p (by omega)
        · obtain rfl : q = n := by omega
          have hnx := hP2.next hlt (by rw [HN.out]; exact HQ.out)
          go_wp2
          refine ⟨⟨j + 1, zs, by omega, by simp, hnx⟩, by simp [intOf]; omega⟩
    · obtain rfl : m = j := by omega
      have hG0 := GrI.start hP HA.out HLT.out hbl
      have hV0 : GV w wr (.slice none 0 0) vs 0 := Kd.R_nil _ _ _ _ _
      go_wp2
      go_loopw [5, 6] (fun gv i wr => ∃ (j : Nat) (cur : Nat → Value) (ys : Nat → List Int), j ≤ m ∧ i = .int .i64 j ∧ GrI m b arr vs xs base w wr cur ys j 0 ∧ GV w wr gv cur j) (fun _ i _ => m - (intOf i).toNat)
      case atStart => exact ⟨0, vs, ys, Nat.zero_le _, rfl, hG0, hV0⟩
      case round =>
        clear hG0 hV0 hP hlt hj
        obtain ⟨j, cur, ys, hj, rfl, hP, hV⟩ := hrel
        by_cases hlt : j < m
        · have hcell := cell_of hP.2.2.2.2.2.2.2.2.1 j _ (HV.out j hlt)
          have hcj := Aside0.mk ((hP.2.2.2.2.2.1 hlt).2 rfl)
          go_wp2
          go_loopw [7, 8] (fun x k wr => ∃ (q : Nat) (cur : Nat → Value) (ys : Nat → List Int), q ≤ 20 ∧ k = .int .i64 q ∧ x = cur j ∧ GrI m b arr vs xs base w wr cur ys j q ∧ GV w wr u5 cur j) (fun _ k _ => 20 - (intOf k).toNat)
          case atStart => exact ⟨0, cur, ys, by omega, rfl, hcj.out.symm, hP, hV⟩
          case round =>
            clear hcell hP hV
            obtain ⟨q, cu, zs, hq, rfl, rfl, hP, hV⟩ := hrel
            by_cases hq20 : q < 20
            · have hmk : IntKind.i64.wrap (-100000 - (j : Int)) = moI j := by unfold moI; exact IntWalk.i64_in _ (by omega)
              have hRj := hP.1 j hlt
              have hzl : (zs j).length ≤ 3000000 := by
                rw [(hP.2.2.2.2.2.1 hlt).1]
                have := HX.out j hlt
                simp only [List.length_append, rep, List.length_replicate]
                omega
              have hsz : base ≤ wr.heap.size := by have := hP.2.2.2.2.2.2.2.1.size; omega
              go_wp2_with (first
                | ((with_reducible refine gate_builtin (b := .append) (xs := #[.tmp 50, .tmp 53]) rfl ?_); at_builtin; go_loud (refine wpList_append_sh (Kd.int .i64) (w0 := w) base rfl (.tmp 50) (.tmp 53) 24 3 (.int .i64 0) 8 rfl Try.underlying24 info3 rfl (by decide) (by omega) (cu j) (zs j) (moI j) [.int .i64 (moI j)] rfl rfl rfl hRj hP.2.2.2.2.2.2.2.1 hsz (by omega) ?_); intro v1 w1 hr1 hb1 hc1; obtain ⟨hP3, hV3⟩ := hP.step hV hlt hr1 hb1 hc1)
                | fail)
              exact ⟨⟨q + 1, _, _, by omega, by simp, (upd_same _ _ _).symm, hP3, hV3⟩, by simp [intOf]; omega⟩
            · obtain rfl : q = 20 := by omega
              have hmx : (((List.range j).map fun i => [cu i]).length + 1) * 24 ≤ 140737488355328 := by rw [List.length_map, List.length_range]; omega
              obtain ⟨Ax, cx, hvx⟩ := Kd.R_slice (hP.1 j hlt)
              rw [hvx]
              have HVX := Aside0.mk hvx
              clear hvx
              go_wp2_with (first
                | ((with_reducible refine gate_builtin (b := .append) (xs := #[.tmp 55, .tmp 57]) rfl ?_); at_builtin; go_loud (refine Kd.R_append (Kd.raw 1) (w0 := wr) w.heap.size rfl (.tmp 55) (.tmp 57) 39 24 (.slice none 0 0) 24 rfl Try.underlying39 (by kernel_rfl) rfl (by decide) (by omega) u5 _ [.slice Ax (zs j).length cx] [.slice Ax (zs j).length cx] (fun _ => True) (fun _ => False) rfl rfl ⟨rfl, rfl, ?c1⟩ (fun _ hk => hk.elim) (fun _ _ => trivial) hV (Below.refl _ _) ?c2 hmx ?_; (case c1 => intro u hu; rw [List.mem_singleton.1 hu]; rfl); (case c2 => exact hP.2.2.2.2.2.2.2.2.2.2.1)); intro v1 w1 hr1 hb1 hg1 _; rw [← HVX.out] at hr1; obtain ⟨hP3, hV3⟩ := hP.push hV hlt hbase hr1 hb1 hg1)
                | fail)
              exact ⟨⟨j + 1, _, _, by omega, by simp, hP3, hV3⟩, by simp [intOf]; omega⟩
        · obtain rfl : m = j := by omega
          obtain ⟨Ag, cg, hgv⟩ := Kd.R_slice hV
          rw [List.length_map, List.length_range] at hgv
          subst hgv
          have HP := Aside0.mk hP
          have HV2 := Aside0.mk hV
          clear hP hV hlt hj
          go_wp2
          go_loop [9] (fun i => ∃ j : Nat, j ≤ m ∧ i = .int .i64 j) (fun i => m - (intOf i).toNat)
          case atStart => exact ⟨0, Nat.zero_le _, rfl⟩
          case round =>
            obtain ⟨j, hj, rfl⟩ := hrel
            by_cases hlt : j < m
            · obtain ⟨ad, rfl, hcg⟩ := HV2.out.at j hlt
              obtain ⟨Ac, cc, hcu⟩ := Kd.R_slice (HP.out.1 j hlt)
              have hCc := (Kd.R_reads' (hcu ▸ HP.out.1 j hlt)).2.2
              rw [hcu] at hcg
              obtain ⟨Av, cv, hva, hCv⟩ := (HP.out.2.1 j hlt).C
              have hcb := cell_of HP.out.2.2.2.2.2.2.2.2.1 j _ (HV.out j hlt)
              rw [hva] at hcb
              have e1 := HP.out.2.2.2.2.1 j hlt
              have hxj := HX.out j hlt
              have hrl : (rep xs j).length = (xs j).length := List.length_replicate
              have hfl : (rep xs j ++ List.replicate 20 (moI j)).length = (xs j).length + 20 := by rw [List.length_append, hrl, List.length_replicate]
              rw [e1] at hCc hcg
              rw [hfl] at hCc hcg
              rw [hrl] at hCv hcb
              obtain ⟨n, hn⟩ : ∃ n, (xs j).length = n := ⟨_, rfl⟩
              have hfr := full_rd xs j
              have hrr := rep_rd xs j
              rw [hn] at hCc hcg hCv hcb hxj hfr hrr
              have HFR := Aside0.mk hfr
              have HRR := Aside0.mk hrr
              have hmk : IntKind.i64.wrap (-1 - (j : Int)) = mkI j := by unfold mkI; exact IntWalk.i64_in _ (by omega)
              have hmo : IntKind.i64.wrap (-100000 - (j : Int)) = moI j := by unfold moI; exact IntWalk.i64_in _ (by omega)
              clear hcu hva e1 hrl hfl hn hfr hrr
              go_wp2
              go_loop [10] (fun k => ∃ q : Nat, q ≤ n + 20 ∧ k = .int .i64 q) (fun k => n + 20 - (intOf k).toNat)
              case atStart => exact ⟨0, Nat.zero_le _, rfl⟩
              case round =>
                obtain ⟨q, hq, rfl⟩ := hrel
                by_cases hq2 : q < n + 20
                · obtain ⟨ac, rfl, hx⟩ := Kd.at_int hCc (q : Int) (by omega) (by omega)
                  rw [Int.toNat_natCast] at hx
                  by_cases hqn : q < n
                  · rw [(HFR.out q).1 hqn] at hx
                    go_wp2
                    go_round
                    case rel => exact ⟨q + 1, by omega, by simp⟩
                    case measure => simp [intOf]; omega
                  · rw [(HFR.out q).2 hqn hq2] at hx
                    go_wp2
                    go_round
                    case rel => exact ⟨q + 1, by omega, by simp⟩
                    case measure => simp [intOf]; omega
                · obtain rfl : q = n + 20 := by omega
                  go_wp2
                  go_loop [12] (fun k => ∃ q : Nat, q ≤ n ∧ k = .int .i64 q) (fun k => n - (intOf k).toNat)
                  case atStart => exact ⟨0, Nat.zero_le _, rfl⟩
                  case round =>
                    obtain ⟨q, hq, rfl⟩ := hrel
                    by_cases hq2 : q < n
                    · obtain ⟨ac, rfl, hx⟩ := Kd.at_int hCv (q : Int) (by omega) (by omega)
                      rw [Int.toNat_natCast, HRR.out q hq2] at hx
                      go_wp2
                      go_round
                      case rel => exact ⟨q + 1, by omega, by simp⟩
                      case measure => simp [intOf]; omega
                    · obtain rfl : q = n := by omega
                      go_wp2
                      go_round
                      case rel => exact ⟨j + 1, by omega, by simp⟩
                      case measure => simp [intOf]; omega
            · obtain rfl : m = j := by omega
              go_wp2
              go_ret
              exact ⟨rfl, HP.out.2.2.2.2.2.2.2.1⟩
end Go.Proofs.Ytkebableanenkaa.Free
