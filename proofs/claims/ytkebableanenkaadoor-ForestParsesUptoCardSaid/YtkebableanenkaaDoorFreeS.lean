/- dowelbook.FreeSpans of lists that share no memory answers true. Conditions: at most eight lists, each of at most 2^21 nodes. -/
import Derived.Test.YtkebableanenkaaDoorFreeG
import Derived.Test.YtkebableanenkaaDoorLendX
import Derived.Test.YtkebableanenkaaDoorQallx1
import Derived.Deep.RegionHeld3
import Derived.Deep.RegionLaw
import Derived.Deep.QuietTactic
import Derived.BigQuiet
namespace Go.Proofs.YtkebableanenkaaDoor.Free
open Go.RowKit Go.Proofs.YtkebableanenkaaDoor.Qall Go.Proofs.YtkebableanenkaaDoorW.PrintWords Go.Proofs.YtkebableanenkaaDoorW.PrintLast Go.Proofs.YtkebableanenkaaDoorW.PrintMore
set_option linter.unusedSimpArgs false
set_option linter.unusedVariables false
attribute [local go_sem high] eqA37
def mkS (j : Nat) : S37 := ⟨⟨#[]⟩, 0, 0, -1 - (j : Int)⟩
def moS (j : Nat) : S37 := ⟨⟨#[]⟩, 0, 0, -100000 - (j : Int)⟩
abbrev PhS := @PhG S37 k37 37 22 mkS
abbrev GrS := @GrG S37 k37 37 22 mkS moS
abbrev GS := @GW 22
theorem mark_f (j : Nat) (h : j ≤ 8) : dowelbook_spansMark.f (j : Int) = some (⟨#[]⟩, 0, 0, -1 - (j : Int)) := by
  unfold dowelbook_spansMark.f
  rw [show wrap64 (-1 - (j : Int)) = -1 - (j : Int) by unfold wrap64; omega]
theorem more_f (j : Nat) (h : j ≤ 8) : dowelbook_spansMore.f (j : Int) = some (⟨#[]⟩, 0, 0, -100000 - (j : Int)) := by
  unfold dowelbook_spansMore.f
  rw [show wrap64 (-100000 - (j : Int)) = -100000 - (j : Int) by unfold wrap64; omega]
/-- A whole node is written into a row of one's own. -/
theorem put_S {W : World} {base g n cap : Nat} {xs : List S37} (h : Kd.R k37 37 W base (fun _ => True) (.slice (some ⟨g, 0, none⟩) n cap) xs) (q : Nat) (hq : q < n) (y : S37) :
    Kd.R k37 37 (W.setCells g (q * 4) (Lend.cells1 y)) base (fun _ => True) (.slice (some ⟨g, 0, none⟩) n cap) (xs.set q y) ∧ W.grownBy (W.setCells g (q * 4) (Lend.cells1 y)) (some g) := by
  obtain ⟨c, hcl, _, hcc, _⟩ := Kd.R_elem h z37 (q : Int) (by omega) (by omega)
  have := Kd.R_seg (okp := fun _ => False) h (q : Int) (by omega) (by omega) (c := c) (seg := Lend.cells1 y) (j := 0) hcl hcc (Nat.le_refl 4) (x' := y) (by
    rw [List.take_zero, List.nil_append, List.drop_eq_nil_of_le (by rw [hcl]; exact Nat.le_refl 4), List.append_nil]
    exact k37_mkM W base _ y) (fun _ hk => hk.elim)
  rw [show k37.sz = 4 from rfl] at this
  simpa using this
theorem cells_S {W : World} {base g n cap : Nat} {xs : List S37} (h : Kd.R k37 37 W base (fun _ => True) (.slice (some ⟨g, 0, none⟩) n cap) xs) (q : Nat) (hq : q < n) :
    W.cell? ⟨g, q * 4, none⟩ = some (.string (rd_T37 xs q).f0) ∧ W.cell? ⟨g, q * 4 + 1, none⟩ = some (.int .i64 (rd_T37 xs q).f1) ∧ W.cell? ⟨g, q * 4 + 2, none⟩ = some (.int .i64 (rd_T37 xs q).f2) ∧ W.cell? ⟨g, q * 4 + 3, none⟩ = some (.int .i64 (rd_T37 xs q).f3) ∧
    ∀ j, W.frozen? ⟨g, q * 4 + j, none⟩ = false := by
  obtain ⟨c, _, hM, hcc, hf⟩ := Kd.R_elem h z37 (q : Int) (by omega) (by omega)
  have hc := k37_openM hM
  rw [Int.toNat_natCast, show k37.sz = 4 from rfl] at hcc hf
  rw [Int.toNat_natCast] at hc
  unfold rd_T37
  rw [Int.toNat_natCast]
  refine ⟨?_, ?_, ?_, ?_, hf⟩
  · simpa using hcc 0 _ (by rw [hc]; rfl)
  · exact hcc 1 _ (by rw [hc]; rfl)
  · exact hcc 2 _ (by rw [hc]; rfl)
  · exact hcc 3 _ (by rw [hc]; rfl)
/-- A node's cells. -/
def CellsS (W : World) (g q : Nat) (x : S37) : Prop :=
  W.cell? ⟨g, q * 4, none⟩ = some (.string x.f0) ∧ W.cell? ⟨g, q * 4 + 1, none⟩ = some (.int .i64 x.f1) ∧ W.cell? ⟨g, q * 4 + 2, none⟩ = some (.int .i64 x.f2) ∧ W.cell? ⟨g, q * 4 + 3, none⟩ = some (.int .i64 x.f3)
theorem CellsS.mark {W : World} {g q j : Nat} (h : CellsS W g q (mkS j)) : W.cell? ⟨g, q * 4, none⟩ = some (.string ⟨#[]⟩) ∧ W.cell? ⟨g, q * 4 + 1, none⟩ = some (.int .i64 0) ∧ W.cell? ⟨g, q * 4 + 2, none⟩ = some (.int .i64 0) ∧ W.cell? ⟨g, q * 4 + 3, none⟩ = some (.int .i64 (-1 - (j : Int))) := h
theorem CellsS.more {W : World} {g q j : Nat} (h : CellsS W g q (moS j)) : W.cell? ⟨g, q * 4, none⟩ = some (.string ⟨#[]⟩) ∧ W.cell? ⟨g, q * 4 + 1, none⟩ = some (.int .i64 0) ∧ W.cell? ⟨g, q * 4 + 2, none⟩ = some (.int .i64 0) ∧ W.cell? ⟨g, q * 4 + 3, none⟩ = some (.int .i64 (-100000 - (j : Int))) := h
theorem CellsS.of_C {W : World} {g n : Nat} {xs : List S37} (h : Kd.C k37 W (some ⟨g, 0, none⟩) n xs) (q : Nat) (hq : q < n) : CellsS W g q (xs.getD q z37) := by
  obtain ⟨ad, c, e, _, hK, hcc⟩ := Kd.C_get h z37 (q : Int) (by omega) (by omega)
  obtain rfl : ad = ⟨g, 0, none⟩ := (Option.some.inj e).symm
  rw [Int.toNat_natCast] at hK hcc
  have hc := k37_open hK
  rw [show k37.sz = 4 from rfl] at hcc
  have ha : ∀ k, (⟨g, 0, none⟩ : Addr).add k = ⟨g, k, none⟩ := fun k => by simp [Addr.add]; omega
  simp only [ha] at hcc
  refine ⟨?_, ?_, ?_, ?_⟩
  · simpa using hcc 0 _ (by rw [hc]; rfl)
  · exact hcc 1 _ (by rw [hc]; rfl)
  · exact hcc 2 _ (by rw [hc]; rfl)
  · exact hcc 3 _ (by rw [hc]; rfl)
theorem lookV {W : World} {v : Value} {xs : List S37} (h : Rd k37 W v xs) : ∃ A c, v = .slice A xs.length c ∧ ∀ q, q < xs.length → ∃ g, A = some ⟨g, 0, none⟩ ∧ ∀ W', Below W.heap.size W W' → CellsS W' g q (xs.getD q z37) := by
  rcases h with ⟨rfl, rfl⟩ | ⟨g, c, rfl, hF⟩
  · exact ⟨none, 0, rfl, fun q hq => absurd hq (Nat.not_lt_zero q)⟩
  · exact ⟨_, c, rfl, fun q hq => ⟨g, rfl, fun W' hW' => .of_C (Kd.C_below (Kd.F_now hF) hW') q hq⟩⟩
theorem lookG {m : Nat} {w W : World} {Ag : Option Addr} {cg : Nat} {cur : Nat → Value} (h : GS w W (.slice Ag m cg) cur m) (j : Nat) (hj : j < m) : ∃ gg, Ag = some ⟨gg, 0, none⟩ ∧ ∀ W', Below W.heap.size W W' → W'.cell? ⟨gg, j, none⟩ = some (cur j) := by
  obtain ⟨gg, cap, e, _⟩ := Kd.R_form h (by simp; omega)
  obtain ⟨rfl, _⟩ : Ag = some ⟨gg, 0, none⟩ ∧ _ := by injection e with e1 e2 e3; exact ⟨e1, e2⟩
  refine ⟨gg, rfl, fun W' hW' => ?_⟩
  obtain ⟨ad, e2, hc⟩ := GW.at h j hj
  obtain rfl : ad = ⟨gg, 0, none⟩ := (Option.some.inj e2).symm
  rw [show (⟨gg, 0, none⟩ : Addr).add j = ⟨gg, j, none⟩ by simp [Addr.add]; omega] at hc
  exact (hW'.cell (p := ⟨gg, j, none⟩) (World.block_lt_of_cell? W _ hc)).trans hc
theorem repS_get (xs : Nat → List S37) (j q : Nat) (h : q < (xs j).length) : (repG mkS xs j).getD q z37 = mkS j := by
  unfold repG
  rw [List.getD_eq_getElem?_getD, List.getElem?_replicate, if_pos h]
  rfl
theorem fullS_get (xs : Nat → List S37) (j q : Nat) : (q < (xs j).length → (repG mkS xs j ++ List.replicate 20 (moS j)).getD q z37 = mkS j) ∧ (¬ q < (xs j).length → q < (xs j).length + 20 → (repG mkS xs j ++ List.replicate 20 (moS j)).getD q z37 = moS j) := by
  have hl : (repG mkS xs j).length = (xs j).length := List.length_replicate
  refine ⟨fun h => ?_, fun h h2 => ?_⟩
  · rw [← repS_get xs j q h, List.getD_eq_getElem?_getD, List.getD_eq_getElem?_getD, List.getElem?_append_left (by omega)]
  · rw [List.getD_eq_getElem?_getD, List.getElem?_append_right (by omega), List.getElem?_replicate, if_pos (by omega)]
    rfl
set_option maxRecDepth 100000 in
set_option maxHeartbeats 4000000 in
theorem freeSpans (m : Nat) (hm : m ≤ 8) (b : Nat) (arr : Array Value) (vs : Nat → Value) (xs : Nat → List S37) (base : Nat) (w : World) (hbk : w.heap[b]? = some (.cells arr 22 (0, 0))) (hvs : ∀ i, i < m → arr[i]? = some (vs i))
    (hR : ∀ j, j < m → Kd.R k37 37 w base (fun _ => True) (vs j) (xs j)) (ha : Apart m vs vs) (hx : ∀ j, j < m → (xs j).length ≤ 2097152) (hbase : base ≤ w.heap.size) :
    Calls Tryd.prog 14 #[.slice (some ⟨b, 0, none⟩) m m] w fun e w' => e = .returned (.bool true) ∧ Below base w w' := by
  go_enter Tryd.func14, Tryd.ntmps14
  have HA := Aside0.mk ha
  have HV := Aside0.mk hvs
  have HX := Aside0.mk hx
  have HLT := Aside0.mk (fun j hj => Kd.R_lt (hR j hj) : ∀ j, j < m → ∀ k, (vs j).ownBlock = some k → k < w.heap.size)
  have hbl := (Array.getElem?_eq_some_iff.1 hbk).1
  have h0 : PhS m b arr vs xs base w w xs 0 := ⟨hR, fun _ _ => rfl, fun j hj => absurd hj (Nat.not_lt_zero j), Below.refl _ _, hbk⟩
  clear hR ha hvs hx hbk
  go_wp2
  go_loopw [3] (fun i wr => ∃ (j : Nat) (ys : Nat → List S37), j ≤ m ∧ i = .int .i64 j ∧ PhS m b arr vs xs base w wr ys j) (fun i _ => m - (intOf i).toNat)
  case atStart => exact ⟨0, xs, Nat.zero_le _, rfl, h0⟩
  case round =>
    obtain ⟨j, ys, hj, rfl, hP⟩ := hrel
    by_cases hlt : j < m
    · obtain ⟨A, c, hv⟩ := Kd.R_slice (hP.1 j hlt)
      have hv2 := hv
      rw [hP.2.1 j hlt] at hv
      have HVJ := Aside0.mk hv
      have hxj := HX.out j hlt
      clear hv hv2
      obtain ⟨n, hn⟩ : ∃ n, (xs j).length = n := ⟨_, rfl⟩
      rw [hn] at HVJ hxj
      have HN := Aside0.mk hn
      clear hn
      go_wp2
      go_loopw [4] (fun k wr => ∃ (q : Nat) (ys : Nat → List S37), q ≤ n ∧ k = .int .i64 q ∧ PhS m b arr vs xs base w wr ys j ∧ Aside0 (∀ p, p < q → (ys j)[p]? = some (mkS j))) (fun k _ => n - (intOf k).toNat)
      case atStart => exact ⟨0, ys, Nat.zero_le _, rfl, hP, ⟨fun p hp => absurd hp (Nat.not_lt_zero p)⟩⟩
      case round =>
        obtain ⟨q, zs, hq, rfl, hP2, HQ⟩ := hrel
        have hcell := cell_of hP2.2.2.2.2 j _ (HV.out j hlt)
        rw [HVJ.out] at hcell
        by_cases hqn : q < n
        · have hRj := hP2.1 j hlt
          obtain ⟨g, cap, hg, hgb, hgl, _⟩ := Kd.R_form hRj (by rw [hP2.2.1 j hlt, HN.out]; omega)
          rw [HVJ.out] at hg
          obtain ⟨rfl, hn2, rfl⟩ : A = some ⟨g, 0, none⟩ ∧ n = (zs j).length ∧ c = cap := by simpa using hg
          clear hg
          rw [HVJ.out] at hRj
          have hput := Aside0.mk (fun W' (hW' : Below wr.heap.size wr W') => put_S (Kd.R_below hRj hW') q (by omega) (mkS j))
          have HCL := Aside0.mk (fun W' (hW' : Below wr.heap.size wr W') => cells_S (Kd.R_below hRj hW') q (by omega))
          clear hn2 hRj
          have hmf := Aside0.mk (mark_f j (by omega))
          have HCB := Aside0.mk (fun W' (hW' : Below wr.heap.size wr W') => (hW'.cell (p := ⟨b, j, none⟩) (Array.getElem?_eq_some_iff.1 hP2.2.2.2.2).1).trans hcell)
          go_wp2_with fail
          go_region_law (first | (go_simp; go_at_call 31; refine (dowelbook_spansMark.calls (j : Int) _ _ _ _ _ hmf.out).mono ?_; rintro e w6 ⟨rfl, hb6⟩; have hb7 := (below_drew (Below.refl wr.heap.size wr)).trans hb6; have hc6 := HCB.out _ hb7; obtain ⟨d0, d1, d2, d3, f0⟩ := HCL.out _ hb7; have f00 := f0 0; have f01 := f0 1; have f02 := f0 2; have f03 := f0 3; rw [Nat.add_zero] at f00; clear f0))
          all_goals
            have hset : PhS m b arr vs xs base w ((((w6.setCell ⟨g, q * 4, none⟩ (.string ⟨#[]⟩)).setCell ⟨g, q * 4 + 1, none⟩ (.int .i64 0)).setCell ⟨g, q * 4 + 2, none⟩ (.int .i64 0)).setCell ⟨g, q * 4 + 3, none⟩ (.int .i64 (-1 - (j : Int)))) (upd zs j ((zs j).set q (mkS j))) j :=
              hP2.put rfl (by decide) hbase HA.out hlt (Nat.le_refl _) HVJ.out ⟨(hput.out w6 hb7).1, World.grownBy.trans (grown_of_below hb7 _) (hput.out w6 hb7).2⟩ (by rw [List.length_set]; exact hP2.2.1 j hlt)
            have hln := hP2.2.1 j hlt
            clear d0 d1 d2 d3 f00 f01 f02 f03 hc6
            go_wp2
            refine ⟨⟨q + 1, _, by omega, by simp, hset, ⟨fun p hp => ?_⟩⟩, by simp [intOf]; omega⟩
            rw [upd_same]
            by_cases e : p = q
            · subst e
              rw [List.getElem?_set_self (by rw [hln, HN.out]; omega)]
            · rw [List.getElem?_set_ne (by omega)]
              exact HQ.out p (by omega)
        · obtain rfl : q = n := by omega
          have hnx := hP2.next rfl (by decide) hlt (by rw [HN.out]; exact HQ.out)
          go_wp2
          refine ⟨⟨j + 1, zs, by omega, by simp, hnx⟩, by simp [intOf]; omega⟩
    · obtain rfl : m = j := by omega
      have hG0 := GrG.start (mo := moS) rfl (by decide) hP HA.out HLT.out hbl
      have hV0 : GS w wr (.slice none 0 0) vs 0 := Kd.R_nil _ _ _ _ _
      go_wp2
      go_loopw [5, 6] (fun gv i wr => ∃ (j : Nat) (cur : Nat → Value) (ys : Nat → List S37), j ≤ m ∧ i = .int .i64 j ∧ GrS m b arr vs xs base w wr cur ys j 0 ∧ GS w wr gv cur j) (fun _ i _ => m - (intOf i).toNat)
      case atStart => exact ⟨0, vs, ys, Nat.zero_le _, rfl, hG0, hV0⟩
      case round =>
        clear hG0 hV0 hP hlt hj
        obtain ⟨j, cur, ys, hj, rfl, hP, hV⟩ := hrel
        by_cases hlt : j < m
        · have hcell := cell_of hP.2.2.2.2.2.2.2.2.1 j _ (HV.out j hlt)
          have hcj := Aside0.mk ((hP.2.2.2.2.2.1 hlt).2 rfl)
          go_wp2
          go_loopw [7, 8] (fun x k wr => ∃ (q : Nat) (cur : Nat → Value) (ys : Nat → List S37), q ≤ 20 ∧ k = .int .i64 q ∧ x = cur j ∧ GrS m b arr vs xs base w wr cur ys j q ∧ GS w wr u5 cur j) (fun _ k _ => 20 - (intOf k).toNat)
          case atStart => exact ⟨0, cur, ys, by omega, rfl, hcj.out.symm, hP, hV⟩
          case round =>
            clear hcell hP hV
            obtain ⟨q, cu, zs, hq, rfl, rfl, hP, hV⟩ := hrel
            by_cases hq20 : q < 20
            · have hmf := Aside0.mk (more_f j (by omega))
              have hzl : (zs j).length ≤ 3000000 := by
                rw [(hP.2.2.2.2.2.1 hlt).1]
                have := HX.out j hlt
                simp only [List.length_append, repG, List.length_replicate]
                omega
              go_wp2_with (first
                | (go_at_call 32; go_loud (refine (dowelbook_spansMore.calls (j : Int) _ _ _ _ _ hmf.out).mono ?_; rintro e w6 ⟨rfl, hb6⟩; have hP6 := hP.below rfl (by decide) hbase hb6; have hV6 := hV.below hb6; have hRj := hP6.1 j hlt; have hsz : base ≤ w6.heap.size := (by have := hP6.2.2.2.2.2.2.2.1.size; omega)))
                | ((with_reducible refine gate_builtin (b := .append) (xs := #[.tmp 49, .tmp 52]) rfl ?_); at_builtin; go_loud (refine wpList_append_sh k37 (w0 := w) base rfl (.tmp 49) (.tmp 52) 22 37 (.agg #[.string ⟨#[]⟩, .int .i64 0, .int .i64 0, .int .i64 0]) 40 rfl Tryd.underlying22 info37 rfl (by decide) (by omega) (cu j) (zs j) (moS j) [.string ⟨#[]⟩, .int .i64 0, .int .i64 0, .int .i64 (-100000 - (j : Int))] rfl rfl (k37_mkM _ _ _ (moS j)) hRj hP6.2.2.2.2.2.2.2.1 hsz (by omega) ?_); intro v1 w1 hr1 hb1 hc1; obtain ⟨hP3, hV3⟩ := hP6.step rfl (by decide) hV6 hlt hr1 hb1 hc1)
                | fail)
              exact ⟨⟨q + 1, _, _, by omega, by simp, (upd_same _ _ _).symm, hP3, hV3⟩, by simp [intOf]; omega⟩
            · obtain rfl : q = 20 := by omega
              have hmx : (((List.range j).map fun i => [cu i]).length + 1) * 24 ≤ 140737488355328 := by rw [List.length_map, List.length_range]; omega
              obtain ⟨Ax, cx, hvx⟩ := Kd.R_slice (hP.1 j hlt)
              rw [hvx]
              have HVX := Aside0.mk hvx
              clear hvx
              go_wp2_with (first
                | ((with_reducible refine gate_builtin (b := .append) (xs := #[.tmp 54, .tmp 56]) rfl ?_); at_builtin; go_loud (refine Kd.R_append (Kd.raw 1) (w0 := wr) w.heap.size rfl (.tmp 54) (.tmp 56) 35 22 (.slice none 0 0) 24 rfl Tryd.underlying35 (by kernel_rfl) rfl (by decide) (by omega) u5 _ [.slice Ax (zs j).length cx] [.slice Ax (zs j).length cx] (fun _ => True) (fun _ => False) rfl rfl ⟨rfl, rfl, ?c1⟩ (fun _ hk => hk.elim) (fun _ _ => trivial) hV (Below.refl _ _) ?c2 hmx ?_; (case c1 => intro u hu; rw [List.mem_singleton.1 hu]; rfl); (case c2 => exact hP.2.2.2.2.2.2.2.2.2.2.1)); intro v1 w1 hr1 hb1 hg1 _; rw [← HVX.out] at hr1; obtain ⟨hP3, hV3⟩ := hP.push rfl (by decide) hV hlt hbase hr1 hb1 hg1)
                | fail)
              exact ⟨⟨j + 1, _, _, by omega, by simp, hP3, hV3⟩, by simp [intOf]; omega⟩
        · obtain rfl : m = j := by omega
          obtain ⟨Ag, cg, hgv⟩ := Kd.R_slice hV
          rw [List.length_map, List.length_range] at hgv
          subst hgv
          have HP := Aside0.mk hP
          have HV2 := Aside0.mk hV
          clear hP hV hlt hj
          have hbw : base ≤ wr.heap.size := by have := HP.out.2.2.2.2.2.2.2.2.2.2.1; omega
          rename World => W3
          go_wp2
          go_loopw [9] (fun i wr => ∃ j : Nat, j ≤ m ∧ i = .int .i64 j ∧ Below W3.heap.size W3 wr) (fun i _ => m - (intOf i).toNat)
          case atStart => exact ⟨0, Nat.zero_le _, rfl, Below.refl _ _⟩
          case round =>
            obtain ⟨j, hj, rfl, hB⟩ := hrel
            by_cases hlt : j < m
            · go_wp2
              go_loopw [10] (fun k wr => ∃ q : Nat, q ≤ (xs j).length + 20 ∧ k = .int .i64 q ∧ Below W3.heap.size W3 wr) (fun k _ => (xs j).length + 20 - (intOf k).toNat)
              case atStart => exact ⟨0, Nat.zero_le _, rfl, hB⟩
              case round =>
                clear hB
                obtain ⟨q, hq, rfl, hB⟩ := hrel
                obtain ⟨gg, rfl, hcg⟩ := lookG HV2.out j hlt
                have e1 := HP.out.2.2.2.2.1 j hlt
                have hfl : (repG mkS xs j ++ List.replicate 20 (moS j)).length = (xs j).length + 20 := by rw [List.length_append, repG, List.length_replicate, List.length_replicate]
                have hRc := HP.out.1 j hlt
                rw [e1] at hRc
                obtain ⟨gc, cc, hcu, _⟩ := Kd.R_form hRc (by rw [hfl]; omega)
                rw [hcu, hfl] at hcg
                rw [hcu] at hRc
                have hCc := (Kd.R_reads' hRc).2.2
                obtain ⟨Av, cv, hva, hCv⟩ := lookV (HP.out.2.1 j hlt)
                rw [show (repG mkS xs j).length = (xs j).length from List.length_replicate] at hva hCv
                have hxj := HX.out j hlt
                have hfr := fullS_get xs j q
                have hrr := repS_get xs j q
                obtain ⟨n, hn⟩ : ∃ n, (xs j).length = n := ⟨_, rfl⟩
                rw [hfl] at hCc
                rw [hn] at hcg hCc hva hCv hxj hfr hrr hq
                rw [hn]
                have hcb : ∀ W', Below W3.heap.size W3 W' → W'.cell? ⟨b, j, none⟩ = some (.slice Av n cv) := fun W' hW' => by
                  have h1 := cell_of HP.out.2.2.2.2.2.2.2.2.1 j _ (HV.out j hlt)
                  rw [hva] at h1
                  exact (hW'.cell (p := ⟨b, j, none⟩) (World.block_lt_of_cell? W3 _ h1)).trans h1
                have HCB := Aside0.mk hcb
                have HCG := Aside0.mk hcg
                have hmf := Aside0.mk (mark_f j (by omega))
                have hmo := Aside0.mk (more_f j (by omega))
                clear e1 hfl hcu hva hn hcb hcg
                have dg := HCG.out wr hB
                by_cases hq2 : q < n + 20
                · have HCC := Aside0.mk (fun W' (hW' : Below W3.heap.size W3 W') => CellsS.of_C (Kd.C_below hCc hW') q hq2)
                  clear hCc hRc
                  by_cases hqn : q < n
                  · rw [hfr.1 hqn] at HCC
                    obtain ⟨gv, rfl, hcv⟩ := hCv q hqn
                    rw [hrr hqn] at hcv
                    have HCVV := Aside0.mk hcv
                    clear hcv hCv hfr hrr
                    go_wp2_with (first
                      | (go_at_call 31; go_loud (refine (dowelbook_spansMark.calls (j : Int) _ _ _ _ _ hmf.out).mono ?_; rintro e w6 ⟨rfl, hb6⟩; have hB6 := hB.trans (hb6.mono hB.size); have hB7 := hB6.alloc hB6.size (.cells #[.string ⟨#[]⟩, .int .i64 0, .int .i64 0, .int .i64 (-1 - (j : Int))] 37); have c1 := HCG.out _ hB7; have c2 := HCB.out _ hB7; obtain ⟨c3, c4, c5, c6⟩ := (HCC.out _ hB7).mark; obtain ⟨c7, c8, c9, c10⟩ := (HCVV.out _ hB7).mark))
                      | fail)
                    go_quiet (fail)
                    go_wp2
                    refine ⟨⟨q + 1, by omega, by simp, pw_below_drewN hB7 _⟩, by simp [intOf]; omega⟩
                  · rw [hfr.2 hqn hq2] at HCC
                    clear hfr hrr hCv
                    go_wp2_with (first
                      | (go_at_call 31; go_loud (refine (dowelbook_spansMark.calls (j : Int) _ _ _ _ _ hmf.out).mono ?_; rintro e w6 ⟨rfl, hb6⟩; have hB6 := hB.trans (hb6.mono hB.size); have hB7 := hB6.alloc hB6.size (.cells #[.string ⟨#[]⟩, .int .i64 0, .int .i64 0, .int .i64 (-1 - (j : Int))] 37); have c2 := HCB.out _ hB7; have hb6s := hB6.size))
                      | (go_at_call 32; go_loud (refine (dowelbook_spansMore.calls (j : Int) _ _ _ _ _ hmo.out).mono ?_; rintro e w7 ⟨rfl, hb7⟩; have hB8 := hB7.trans (hb7.mono hB7.size); have hbx := (hb7.block w6.heap.size (by simp)).trans (heap_alloc_new w6 (.cells #[.string ⟨#[]⟩, .int .i64 0, .int .i64 0, .int .i64 (-1 - (j : Int))] 37)); have x0 := cell_of hbx 0 _ rfl; have x1 := cell_of hbx 1 _ rfl; have x2 := cell_of hbx 2 _ rfl; have x3 := cell_of hbx 3 _ rfl; have y0 : ∀ k, w7.frozen? ⟨w6.heap.size, k, none⟩ = false := (fun k => by simp [World.frozen?, hbx]); have hB9 := (((hB8.setCell (p := ⟨w6.heap.size, 0, none⟩) hb6s (.string ⟨#[]⟩)).setCell (p := ⟨w6.heap.size, 1, none⟩) hb6s (.int .i64 0)).setCell (p := ⟨w6.heap.size, 2, none⟩) hb6s (.int .i64 0)).setCell (p := ⟨w6.heap.size, 3, none⟩) hb6s (.int .i64 (-100000 - (j : Int))); have c1 := HCG.out _ hB9; have c2 := HCB.out _ hB9; obtain ⟨c3, c4, c5, c6⟩ := (HCC.out _ hB9).more; clear hbx))
                      | fail)
                    go_quiet (fail)
                    go_wp2
                    refine ⟨⟨q + 1, by omega, by simp, pw_below_drewN hB9 _⟩, by simp [intOf]; omega⟩
                · obtain rfl : q = n + 20 := by omega
                  go_wp2
                  refine ⟨⟨j + 1, by omega, by simp, hB⟩, by simp [intOf]; omega⟩
            · obtain rfl : m = j := by omega
              go_wp2
              go_ret
              exact ⟨rfl, HP.out.2.2.2.2.2.2.2.1.trans (hB.mono hbw)⟩
end Go.Proofs.YtkebableanenkaaDoor.Free
