/- The walk of grower.put: a node behind the others, on a level. Conditions: at most 2^20 nodes, as many levels as nodes at most, each a node's number. || What forest.Parse reads, in plain words: line by line, each put behind the others. || The walk of forest.Parse: what it reads. Conditions: internal/bytealg's variable MaxLen holds some number. || What the document reads is what forest.Parse reads: the plain law. -/
import Derived.Test.YtkebableanenkaaDoorFreeS
import Derived.Deep.RegionHeld3
import Derived.Test.YtkebableanenkaaDoorLineX
import Derived.Test.YtkebableanenkaaDoorQallx16
namespace Go.Proofs.YtkebableanenkaaDoor.Ps
open Go.RowKit Go.Proofs.YtkebableanenkaaDoor.Qall Go.Proofs.YtkebableanenkaaDoor.Free Go.Proofs.YtkebableanenkaaDoorW.PrintWords Go.Proofs.YtkebableanenkaaDoorW.PrintLast Go.Proofs.YtkebableanenkaaDoorW.PrintMore
set_option linter.unusedSimpArgs false
set_option linter.unusedVariables false
abbrev SC := S37
/-- What the level above lets begin, and end. -/
def lo0 (f : List SC) (way : List Int) (d : Nat) : Int := if 0 < d then (rd_T37 f (rd way ((d : Int) - 1))).f1 else 0
def hiOf (f : List SC) (way : List Int) (d : Nat) : Int := if 0 < d then (rd_T37 f (rd way ((d : Int) - 1))).f2 else 65536
def loOf (f : List SC) (way : List Int) (d : Nat) : Int := if d < way.length then (rd_T37 f (rd way (d : Int))).f2 else lo0 f way d
def kid1 (f : List SC) (i : Int) : List SC := f.set i.toNat ⟨(rd_T37 f i).f0, (rd_T37 f i).f1, (rd_T37 f i).f2, wrap64 ((rd_T37 f i).f3 + 1)⟩
def kidOf (f : List SC) (way : List Int) (d : Nat) : List SC := if 0 < d then kid1 f (rd way ((d : Int) - 1)) else f
/-- A node put behind the others, on level d. -/
def putAns (f : List SC) (way : List Int) (d : Nat) (c : SC) : Option (List SC × List Int) :=
  if way.length < d ∨ 1048576 ≤ f.length ∨ c.f2 < c.f1 then none
  else if c.f1 < loOf f way d ∨ hiOf f way d < c.f2 then none
  else some (kidOf f way d ++ [c], way.take d ++ [(f.length : Int)])
/-- A grower: two lists of one's own behind a pointer. -/
def Gr (W : World) (base g : Nat) (f : List SC) (way : List Int) : Prop :=
  ∃ v1 v2, W.heap[g]? = some (.cells #[v1, v2] 64 (0, 0)) ∧ base ≤ g ∧ Kd.R k37 37 W base (fun _ => True) v1 f ∧ Kd.R (Kd.int .i64) 3 W base (fun _ => True) v2 way
structure PW (w W : World) (base g gb : Nat) (v1 v2 : Value) (f : List SC) (way : List Int) (c : SC) : Prop where
  hg : W.heap[g]? = some (.cells #[v1, v2] 64 (0, 0))
  hgb : W.heap[gb]? = some (.cells #[.string c.f0, .int .i64 c.f1, .int .i64 c.f2, .int .i64 c.f3] 37 (0, 0))
  hf : Kd.R k37 37 W base (fun k => k ≠ gb) v1 f
  hw : Kd.R (Kd.int .i64) 3 W base (fun _ => True) v2 way
  hb : Below base w W
  hbg : base ≤ g
  hbb : base ≤ w.heap.size
  hwg : w.heap.size ≤ gb
section
variable {w W W' : World} {base g gb : Nat} {v1 v2 : Value} {f : List SC} {way : List Int} {c : SC}
theorem lt_of_some {W : World} {g : Nat} {o : Obj} (h : W.heap[g]? = some o) : g < W.heap.size := (Array.getElem?_eq_some_iff.1 h).1
theorem PW.below (h : PW w W base g gb v1 v2 f way c) (hb : Below W.heap.size W W') : PW w W' base g gb v1 v2 f way c :=
  ⟨(hb.block g (lt_of_some h.hg)).trans h.hg, (hb.block gb (lt_of_some h.hgb)).trans h.hgb, Kd.R_below h.hf hb, Kd.R_below h.hw hb, h.hb.trans (hb.mono (by have := lt_of_some h.hg; have := h.hbg; omega)), h.hbg, h.hbb, h.hwg⟩
theorem PW.drew (h : PW w W base g gb v1 v2 f way c) : PW w W.drew base g gb v1 v2 f way c := h.below (Below.refl _ W).drew
theorem PW.c0 (h : PW w W base g gb v1 v2 f way c) : W.cell? ⟨g, 0, none⟩ = some v1 := (blk_cell h.hg 0).trans rfl
theorem PW.c1 (h : PW w W base g gb v1 v2 f way c) : W.cell? ⟨g, 1, none⟩ = some v2 := (blk_cell h.hg 1).trans rfl
theorem PW.b0 (h : PW w W base g gb v1 v2 f way c) : W.cell? ⟨gb, 0, none⟩ = some (.string c.f0) := (blk_cell h.hgb 0).trans rfl
theorem PW.b1 (h : PW w W base g gb v1 v2 f way c) : W.cell? ⟨gb, 1, none⟩ = some (.int .i64 c.f1) := (blk_cell h.hgb 1).trans rfl
theorem PW.b2 (h : PW w W base g gb v1 v2 f way c) : W.cell? ⟨gb, 2, none⟩ = some (.int .i64 c.f2) := (blk_cell h.hgb 2).trans rfl
theorem PW.b3 (h : PW w W base g gb v1 v2 f way c) : W.cell? ⟨gb, 3, none⟩ = some (.int .i64 c.f3) := (blk_cell h.hgb 3).trans rfl
theorem PW.wayc {b2 n2 k2 : Nat} (h : PW w W base g gb v1 (.slice (some ⟨b2, 0, none⟩) n2 k2) f way c) (j : Nat) (hj : j < way.length) : W.cell? ⟨b2, j, none⟩ = some (.int .i64 (rd way (j : Int))) := by
  obtain ⟨hn, _, hC⟩ := Kd.R_reads' h.hw
  obtain ⟨ad, e, hc⟩ := Kd.at_int hC (j : Int) (by omega) (by omega)
  cases e
  rw [Int.toNat_natCast, add_plain] at hc
  exact hc
theorem PW.node {b1 n1 k1 : Nat} (h : PW w W base g gb (.slice (some ⟨b1, 0, none⟩) n1 k1) v2 f way c) (q : Nat) (hq : q < f.length) :
    W.cell? ⟨b1, q * 4, none⟩ = some (.string (rd_T37 f q).f0) ∧ W.cell? ⟨b1, q * 4 + 1, none⟩ = some (.int .i64 (rd_T37 f q).f1) ∧ W.cell? ⟨b1, q * 4 + 2, none⟩ = some (.int .i64 (rd_T37 f q).f2) ∧ W.cell? ⟨b1, q * 4 + 3, none⟩ = some (.int .i64 (rd_T37 f q).f3) ∧
    ∀ j, W.frozen? ⟨b1, q * 4 + j, none⟩ = false := by
  obtain ⟨hn, _, hC⟩ := Kd.R_reads' h.hf
  exact cells_S (Kd.R_mono h.hf (fun _ _ => trivial)) q (by omega)
/-- A node has a kid more. -/
theorem PW.kid {b1 n1 k1 : Nat} (h : PW w W base g gb (.slice (some ⟨b1, 0, none⟩) n1 k1) v2 f way c) (q : Nat) (hq : q < f.length) :
    PW w (W.setCell ⟨b1, q * 4 + 3, none⟩ (.int .i64 (wrap64 ((rd_T37 f q).f3 + 1)))) base g gb (.slice (some ⟨b1, 0, none⟩) n1 k1) v2 (kid1 f q) way c := by
  obtain ⟨hn, _, _⟩ := Kd.R_reads' h.hf
  obtain ⟨cs, hcl, hM, hcc, _⟩ := Kd.R_elem h.hf z37 (q : Int) (by omega) (by omega)
  obtain rfl := k37_openM hM
  have hs := Kd.R_seg (okp := fun _ => False) h.hf (q : Int) (by omega) (by omega) (seg := [.int .i64 (wrap64 ((rd_T37 f q).f3 + 1))]) (j := 3) hcl hcc (show 4 ≤ 4 from by decide) (x' := (⟨(rd_T37 f q).f0, (rd_T37 f q).f1, (rd_T37 f q).f2, wrap64 ((rd_T37 f q).f3 + 1)⟩ : SC)) (k37_mkM _ _ _ _) (fun _ hk => hk.elim)
  obtain ⟨hR, hG⟩ := hs
  change Kd.R k37 37 (W.setCell ⟨b1, q * 4 + 3, none⟩ (.int .i64 (wrap64 ((rd_T37 f q).f3 + 1)))) base (fun k => k ≠ gb) _ (kid1 f q) at hR
  change W.grownBy (W.setCell ⟨b1, q * 4 + 3, none⟩ (.int .i64 (wrap64 ((rd_T37 f q).f3 + 1)))) (some b1) at hG
  have hne : g ≠ b1 := fun e => Kd.R_ne h.hf h.hg (by decide) (by rw [e]; rfl)
  obtain ⟨hok, _⟩ := h.hf
  obtain ⟨inner, hown⟩ := Kd.R_own h.hf
  have hne2 : gb ≠ b1 := fun e => hok b1 rfl e.symm
  refine ⟨blk_grown h.hg hG (fun e => hne (Option.some.inj e)), blk_grown h.hgb hG (fun e => hne2 (Option.some.inj e)), hR, Kd.R_over' (v := .slice (some ⟨b1, 0, none⟩) n1 k1) h.hw (Kd.R_typed h.hf) (by decide) hG, ?_, h.hbg, h.hbb, h.hwg⟩
  exact h.hb.setCell (p := ⟨b1, q * 4 + 3, none⟩) (own_base hown b1 rfl) _
/-- The levels are written anew. -/
theorem PW.push2 (h : PW w W base g gb v1 v2 f way c) {v3 : Value} {w1 : World} {way' : List Int} (hR : Kd.R (Kd.int .i64) 3 w1 base (fun _ => True) v3 way') (hb : Below base w w1) (hg : W.grownBy w1 v2.ownBlock) :
    PW w (w1.setCell ⟨g, 1, none⟩ v3) base g gb v1 v3 f way' c := by
  have h1 := blk_grown h.hg hg (Kd.R_ne h.hw h.hg (by decide))
  have h2 := blk_grown h.hgb hg (Kd.R_ne h.hw h.hgb (by decide))
  have h3 := Kd.R_over' (v := v2) h.hf (Kd.R_typed h.hw) (by decide) hg
  have hne : gb ≠ g := fun e => by have h4 := h.hgb; rw [e, h.hg] at h4; simp at h4
  exact ⟨blk_put h1 1 v3 rfl, (Below.heap_setCell w1 ⟨g, 1, none⟩ v3 gb hne).trans h2, Kd.R_set h3 h1 (by decide) 1 v3, Kd.R_set hR h1 (by decide) 1 v3, hb.setCell (p := ⟨g, 1, none⟩) h.hbg v3, h.hbg, h.hbb, h.hwg⟩
/-- The nodes are written anew: that is the end. -/
theorem PW.push1 (h : PW w W base g gb v1 v2 f way c) {v3 : Value} {w1 : World} {f' : List SC} (hR : Kd.R k37 37 w1 base (fun k => k ≠ gb) v3 f') (hb : Below base w w1) (hg : W.grownBy w1 v1.ownBlock) :
    Gr (w1.setCell ⟨g, 0, none⟩ v3) base g f' way ∧ Below base w (w1.setCell ⟨g, 0, none⟩ v3) := by
  have h1 := blk_grown h.hg hg (Kd.R_ne h.hf h.hg (by decide))
  have h3 := Kd.R_over' (v := v1) h.hw (Kd.R_typed h.hf) (by decide) hg
  exact ⟨⟨v3, v2, blk_put h1 0 v3 rfl, h.hbg, Kd.R_set (Kd.R_mono hR (fun _ _ => trivial)) h1 (by decide) 0 v3, Kd.R_set h3 h1 (by decide) 0 v3⟩, hb.setCell (p := ⟨g, 0, none⟩) h.hbg v3⟩
end
theorem kid1_length (f : List SC) (i : Int) : (kid1 f i).length = f.length := by simp [kid1]
theorem kidOf_length (f : List SC) (way : List Int) (d : Nat) : (kidOf f way d).length = f.length := by unfold kidOf; split <;> simp [kid1]
set_option maxRecDepth 100000 in
set_option maxHeartbeats 4000000 in
theorem put_calls (f : List SC) (way : List Int) (d : Nat) (c : SC) (base g : Nat) (w : World) (hG : Gr w base g f way) (hwl : way.length ≤ f.length) (hfl : f.length ≤ 1048576) (hway : ∀ x ∈ way, 0 ≤ x ∧ x < (f.length : Int)) (hd63 : d ≤ 4194304) :
    Calls Tryd.prog 29 #[.pointer (some ⟨g, 0, none⟩), .int .i64 (d : Int), .agg #[.string c.f0, .int .i64 c.f1, .int .i64 c.f2, .int .i64 c.f3]] w fun e w' => e = .returned (.bool (putAns f way d c).isSome) ∧ (∀ f' way', putAns f way d c = some (f', way') → Gr w' base g f' way') ∧ Below base w w' := by
  obtain ⟨v1, v2, hg, hbg, h1, h2⟩ := hG
  have hgl := lt_of_some hg
  have hbase : base ≤ w.heap.size := by omega
  obtain ⟨A1, k1, rfl⟩ := Kd.R_slice h1
  obtain ⟨A2, k2, rfl⟩ := Kd.R_slice h2
  have hu := Tryd.underlying37
  by_cases e1 : way.length < d
  · have hans : putAns f way d c = none := by unfold putAns; rw [if_pos (.inl e1)]
    rw [hans]
    have p1 : decide ((way.length : Int) < (d : Int)) = true := decide_eq_true (by omega)
    go_enter Tryd.func29, Tryd.ntmps29
    go_wp2_with ((with_reducible refine gate_dst (N := 5) rfl ?_); (try (refine gate_guard (by rfl) ?_; dsimp only)); refine box_event ?hg (N := 5) ?hd (cs := #[.string c.f0, .int .i64 c.f1, .int .i64 c.f2, .int .i64 c.f3]) (t := 37) ?hr ?_; (case hd => rfl); (case hg => rfl); (case hr => first | (go_simp; done) | (go_simp; rfl)); intro gb hgbe w3 hbox hb0; have HP := PW.mk ((hb0.block g (lt_of_some hg)).trans hg) hbox (Kd.R_below (Kd.R_mono (Kd.R_bound h1) (fun k hk => by have := hk.2.2.1; omega)) hb0) (Kd.R_below h2 hb0) (hb0.mono hbase) hbg hbase (Nat.le_of_eq hgbe.symm); have c0 := HP.c0; have c1 := HP.c1; have b0 := HP.b0; have b1 := HP.b1; have b2 := HP.b2; have b3 := HP.b3; clear hgbe hbox hb0)
    go_ret
    exact ⟨rfl, fun _ _ h => (by cases h), HP.hb⟩
  have p1 : decide ((way.length : Int) < (d : Int)) = false := decide_eq_false (by omega)
  by_cases e2 : 1048576 ≤ f.length
  · have hans : putAns f way d c = none := by unfold putAns; rw [if_pos (.inr (.inl e2))]
    rw [hans]
    have p2 : decide (1048576 ≤ (f.length : Int)) = true := decide_eq_true (by omega)
    go_enter Tryd.func29, Tryd.ntmps29
    go_wp2_with ((with_reducible refine gate_dst (N := 5) rfl ?_); (try (refine gate_guard (by rfl) ?_; dsimp only)); refine box_event ?hg (N := 5) ?hd (cs := #[.string c.f0, .int .i64 c.f1, .int .i64 c.f2, .int .i64 c.f3]) (t := 37) ?hr ?_; (case hd => rfl); (case hg => rfl); (case hr => first | (go_simp; done) | (go_simp; rfl)); intro gb hgbe w3 hbox hb0; have HP := PW.mk ((hb0.block g (lt_of_some hg)).trans hg) hbox (Kd.R_below (Kd.R_mono (Kd.R_bound h1) (fun k hk => by have := hk.2.2.1; omega)) hb0) (Kd.R_below h2 hb0) (hb0.mono hbase) hbg hbase (Nat.le_of_eq hgbe.symm); have c0 := HP.c0; have c1 := HP.c1; have b0 := HP.b0; have b1 := HP.b1; have b2 := HP.b2; have b3 := HP.b3; clear hgbe hbox hb0)
    go_ret
    exact ⟨rfl, fun _ _ h => (by cases h), HP.hb⟩
  have p2 : decide (1048576 ≤ (f.length : Int)) = false := decide_eq_false (by omega)
  by_cases e3 : c.f2 < c.f1
  · have hans : putAns f way d c = none := by unfold putAns; rw [if_pos (.inr (.inr e3))]
    rw [hans]
    have p3 : decide (c.f2 < c.f1) = true := decide_eq_true e3
    go_enter Tryd.func29, Tryd.ntmps29
    go_wp2_with ((with_reducible refine gate_dst (N := 5) rfl ?_); (try (refine gate_guard (by rfl) ?_; dsimp only)); refine box_event ?hg (N := 5) ?hd (cs := #[.string c.f0, .int .i64 c.f1, .int .i64 c.f2, .int .i64 c.f3]) (t := 37) ?hr ?_; (case hd => rfl); (case hg => rfl); (case hr => first | (go_simp; done) | (go_simp; rfl)); intro gb hgbe w3 hbox hb0; have HP := PW.mk ((hb0.block g (lt_of_some hg)).trans hg) hbox (Kd.R_below (Kd.R_mono (Kd.R_bound h1) (fun k hk => by have := hk.2.2.1; omega)) hb0) (Kd.R_below h2 hb0) (hb0.mono hbase) hbg hbase (Nat.le_of_eq hgbe.symm); have c0 := HP.c0; have c1 := HP.c1; have b0 := HP.b0; have b1 := HP.b1; have b2 := HP.b2; have b3 := HP.b3; clear hgbe hbox hb0)
    go_ret
    exact ⟨rfl, fun _ _ h => (by cases h), HP.hb⟩
  have p3 : decide (c.f2 < c.f1) = false := decide_eq_false e3
  have hans : putAns f way d c = if c.f1 < loOf f way d ∨ hiOf f way d < c.f2 then none else some (kidOf f way d ++ [c], way.take d ++ [(f.length : Int)]) := by unfold putAns; rw [if_neg (by omega)]
  rw [hans]
  clear hans
  obtain ⟨ans, hans⟩ : ∃ a, (if c.f1 < loOf f way d ∨ hiOf f way d < c.f2 then none else some (kidOf f way d ++ [c], way.take d ++ [(f.length : Int)])) = a := ⟨_, rfl⟩
  rw [hans]
  have HANS := Aside0.mk hans
  clear hans
  have HW := Aside0.mk hway
  clear hway
  go_enter Tryd.func29, Tryd.ntmps29
  go_upto_if 33 with ((with_reducible refine gate_dst (N := 5) rfl ?_); (try (refine gate_guard (by rfl) ?_; dsimp only)); refine box_event ?hg (N := 5) ?hd (cs := #[.string c.f0, .int .i64 c.f1, .int .i64 c.f2, .int .i64 c.f3]) (t := 37) ?hr ?_; (case hd => rfl); (case hg => rfl); (case hr => first | (go_simp; done) | (go_simp; rfl)); intro gb hgbe w3 hbox hb0; have HP := PW.mk ((hb0.block g (lt_of_some hg)).trans hg) hbox (Kd.R_below (Kd.R_mono (Kd.R_bound h1) (fun k hk => by have := hk.2.2.1; omega)) hb0) (Kd.R_below h2 hb0) (hb0.mono hbase) hbg hbase (Nat.le_of_eq hgbe.symm); have c0 := HP.c0; have c1 := HP.c1; have b0 := HP.b0; have b1 := HP.b1; have b2 := HP.b2; have b3 := HP.b3; clear hgbe hbox hb0)
  have HPA := Aside0.mk HP
  clear HP b0 b1 b2 b3 hg h1 h2 p1 p2 p3 e3
  go_cut [7, 8] (fun v7 v8 wc => v7 = .int .i64 (lo0 f way d) ∧ v8 = .int .i64 (hiOf f way d) ∧ Aside0 (PW w wc base g gb (.slice A1 f.length k1) (.slice A2 way.length k2) f way c))
  case first =>
    by_cases hd : 0 < d
    · obtain ⟨j, hjd⟩ : ∃ j, d = j + 1 := ⟨d - 1, by omega⟩
      have hj : j < way.length := by omega
      have hwm := HW.out (rd way (j : Int)) (by unfold rd; rw [Int.toNat_natCast, List.getD_eq_getElem?_getD, List.getElem?_eq_getElem hj]; exact List.getElem_mem _)
      obtain ⟨q, hq⟩ : ∃ q : Nat, rd way (j : Int) = (q : Int) := ⟨(rd way (j : Int)).toNat, by omega⟩
      have hqf : q < f.length := by omega
      have hdj : (d : Int) - 1 = (j : Int) := by omega
      have elo : lo0 f way d = (rd_T37 f (q : Int)).f1 := by unfold lo0; rw [if_pos hd, hdj, hq]
      have ehi : hiOf f way d = (rd_T37 f (q : Int)).f2 := by unfold hiOf; rw [if_pos hd, hdj, hq]
      obtain ⟨g1, k1', ev1, _, hg1l, _⟩ := Kd.R_form HPA.out.hf (by omega)
      obtain ⟨g2, k2', ev2, _, hg2l, _⟩ := Kd.R_form HPA.out.hw (by omega)
      injection ev1 with ev1 _ _
      injection ev2 with ev2 _ _
      subst ev1 ev2
      have y0 := HPA.out.wayc j hj
      rw [hq] at y0
      obtain ⟨z0, z1, z2, z3, _⟩ := HPA.out.node q hqf
      obtain ⟨x, hx⟩ : ∃ x, rd_T37 f (q : Int) = x := ⟨_, rfl⟩
      rw [hx] at z0 z1 z2 z3 elo ehi
      have i1 : (0 : Int) ≤ (j : Int) := by omega
      have i2 : (j : Int) < (way.length : Int) := by omega
      have i3 : (0 : Int) ≤ (q : Int) := by omega
      have i4 : (q : Int) < (f.length : Int) := by omega
      have i5 : (0 : Int) < (d : Int) := by omega
      have i6 : IntKind.i64.wrap ((d : Int) - 1) = (j : Int) := by rw [i64_w, hdj]; unfold wrap64; omega
      have i7 : decide (0 < (d : Int)) = true := decide_eq_true i5
      have i8 : (0 < d) = True := eq_true hd
      have c0 := HPA.out.c0
      have c1 := HPA.out.c1
      have ELO := Aside0.mk (And.intro elo ehi)
      clear hjd hdj e1 elo ehi hwm hq
      go_wp2
      go_region_held3 (fun w' => w'.cell? ⟨g, 0, none⟩ = some (.slice (some ⟨g1, 0, none⟩) f.length k1) ∧ w'.cell? ⟨g, 1, none⟩ = some (.slice (some ⟨g2, 0, none⟩) way.length k2) ∧ w'.cell? ⟨g2, j, none⟩ = some (.int .i64 (q : Int)) ∧ w'.cell? ⟨g1, q * 4, none⟩ = some (.string x.f0) ∧ w'.cell? ⟨g1, q * 4 + 1, none⟩ = some (.int .i64 x.f1) ∧ w'.cell? ⟨g1, q * 4 + 2, none⟩ = some (.int .i64 x.f2) ∧ w'.cell? ⟨g1, q * 4 + 3, none⟩ = some (.int .i64 x.f3)) (first | go_keep | (go_simp; done) | (simp; done)) (fail)
      go_wp2
      have n1 : ((w3.alloc (.cells #[.string x.f0, .int .i64 x.f1, .int .i64 x.f2, .int .i64 x.f3] 37)).drew).cell? ⟨w3.heap.size, 1, none⟩ = some (.int .i64 x.f1) := (blk_cell (blk_drewN (blk_new w3 _) 1) 1).trans rfl
      have n2 : ((w3.alloc (.cells #[.string x.f0, .int .i64 x.f1, .int .i64 x.f2, .int .i64 x.f3] 37)).drew).cell? ⟨w3.heap.size, 2, none⟩ = some (.int .i64 x.f2) := (blk_cell (blk_drewN (blk_new w3 _) 1) 2).trans rfl
      go_region_held3 (fun w' => w'.cell? ⟨w3.heap.size, 1, none⟩ = some (.int .i64 x.f1) ∧ w'.cell? ⟨w3.heap.size, 2, none⟩ = some (.int .i64 x.f2)) (first | go_keep | (go_simp; done) | (simp; done)) (fail)
      go_wp2
      go_meet
      case rel => exact ⟨by rw [ELO.out.1], by rw [ELO.out.2], ⟨HPA.out.below (by repeat (first | exact Below.refl _ _ | apply below_alloc | apply pw_below_drewN | apply below_drew1))⟩⟩
    · obtain rfl : d = 0 := by omega
      go_wp2
      go_meet
      case rel => exact ⟨rfl, rfl, HPA⟩
  case rest =>
    obtain ⟨rfl, rfl, HPA⟩ := hcut
    have c0 := HPA.out.c0
    have c1 := HPA.out.c1
    obtain ⟨l0, hl0⟩ : ∃ x, lo0 f way d = x := ⟨_, rfl⟩
    obtain ⟨hi, hhi⟩ : ∃ x, hiOf f way d = x := ⟨_, rfl⟩
    rw [hl0, hhi]
    have HL0 := Aside0.mk hl0
    clear hl0
    go_upto_if 58 with (fail)
    clear c0 c1
    go_cut [7] (fun v7 wc => v7 = .int .i64 (loOf f way d) ∧ Aside0 (PW w wc base g gb (.slice A1 f.length k1) (.slice A2 way.length k2) f way c))
    case first =>
      by_cases hd : d < way.length
      · have hwm := HW.out (rd way (d : Int)) (by unfold rd; rw [Int.toNat_natCast, List.getD_eq_getElem?_getD, List.getElem?_eq_getElem hd]; exact List.getElem_mem _)
        obtain ⟨q, hq⟩ : ∃ q : Nat, rd way (d : Int) = (q : Int) := ⟨(rd way (d : Int)).toNat, by omega⟩
        have hqf : q < f.length := by omega
        have elo : loOf f way d = (rd_T37 f (q : Int)).f2 := by unfold loOf; rw [if_pos hd, hq]
        obtain ⟨g1, k1', ev1, _, hg1l, _⟩ := Kd.R_form HPA.out.hf (by omega)
        obtain ⟨g2, k2', ev2, _, hg2l, _⟩ := Kd.R_form HPA.out.hw (by omega)
        injection ev1 with ev1 _ _
        injection ev2 with ev2 _ _
        subst ev1 ev2
        have y0 := HPA.out.wayc d hd
        rw [hq] at y0
        obtain ⟨z0, z1, z2, z3, _⟩ := HPA.out.node q hqf
        obtain ⟨x, hx⟩ : ∃ x, rd_T37 f (q : Int) = x := ⟨_, rfl⟩
        rw [hx] at z0 z1 z2 z3 elo
        have i1 : (0 : Int) ≤ (d : Int) := by omega
        have i2 : (d : Int) < (way.length : Int) := by omega
        have i3 : (0 : Int) ≤ (q : Int) := by omega
        have i4 : (q : Int) < (f.length : Int) := by omega
        have i7 : decide ((d : Int) < (way.length : Int)) = true := decide_eq_true i2
        have i8 : (d < way.length) = True := eq_true hd
        have c0 := HPA.out.c0
        have c1 := HPA.out.c1
        have ELO := Aside0.mk elo
        clear e1 hd elo hwm hq
        go_wp2
        go_region_held3 (fun w' => w'.cell? ⟨g, 0, none⟩ = some (.slice (some ⟨g1, 0, none⟩) f.length k1) ∧ w'.cell? ⟨g, 1, none⟩ = some (.slice (some ⟨g2, 0, none⟩) way.length k2) ∧ w'.cell? ⟨g2, d, none⟩ = some (.int .i64 (q : Int)) ∧ w'.cell? ⟨g1, q * 4 + 2, none⟩ = some (.int .i64 x.f2)) (first | go_keep | (go_simp; done) | (simp; done)) (fail)
        go_wp2
        go_meet
        case rel => exact ⟨by rw [ELO.out], ⟨HPA.out.below (by repeat (first | exact Below.refl _ _ | apply below_alloc | apply pw_below_drewN | apply below_drew1))⟩⟩
      · have i7 : decide ((d : Int) < (way.length : Int)) = false := decide_eq_false (by omega)
        have i8 : (d < way.length) = False := eq_false hd
        have c0 := HPA.out.c0
        have c1 := HPA.out.c1
        go_wp2
        go_meet
        case rel => exact ⟨by unfold loOf; rw [if_neg hd, HL0.out], HPA⟩
    case rest =>
      clear HPA
      obtain ⟨rfl, HPA⟩ := hcut
      have b0 := HPA.out.b0
      have b1 := HPA.out.b1
      have b2 := HPA.out.b2
      have b3 := HPA.out.b3
      obtain ⟨l1, hl1⟩ : ∃ x, loOf f way d = x := ⟨_, rfl⟩
      rw [hl1]
      have HL1 := Aside0.mk hl1
      have HHI := Aside0.mk hhi
      clear hl1 hhi
      by_cases e4 : c.f1 < l1
      · have p4 : decide (c.f1 < l1) = true := decide_eq_true e4
        obtain rfl : ans = none := by rw [← HANS.out, HL1.out, if_pos (.inl e4)]
        go_wp2
        go_ret
        first | exact ⟨rfl, fun _ _ h => (by cases h), HPA.out.hb⟩ | exact ⟨rfl, HPA.out.hb⟩
      have p4 : decide (c.f1 < l1) = false := decide_eq_false e4
      by_cases e5 : hi < c.f2
      · have p5 : decide (hi < c.f2) = true := decide_eq_true e5
        obtain rfl : ans = none := by rw [← HANS.out, HHI.out, if_pos (.inr e5)]
        go_wp2
        go_ret
        first | exact ⟨rfl, fun _ _ h => (by cases h), HPA.out.hb⟩ | exact ⟨rfl, HPA.out.hb⟩
      have p5 : decide (hi < c.f2) = false := decide_eq_false e5
      obtain rfl : ans = some (kidOf f way d ++ [c], way.take d ++ [(f.length : Int)]) := by rw [← HANS.out, HL1.out, HHI.out, if_neg (by omega)]
      have e4t := eq_false e4
      have e5t := eq_false e5
      go_upto_if 84 with (fail)
      clear b0 b1 b2 b3 p4 p5 e4 e5 e4t e5t HL0 HL1 HHI HANS
      go_cut [] (fun wc => Aside0 (PW w wc base g gb (.slice A1 f.length k1) (.slice A2 way.length k2) (kidOf f way d) way c))
      case first =>
        by_cases hd : 0 < d
        · obtain ⟨j, hjd⟩ : ∃ j, d = j + 1 := ⟨d - 1, by omega⟩
          have hj : j < way.length := by omega
          have hwm := HW.out (rd way (j : Int)) (by unfold rd; rw [Int.toNat_natCast, List.getD_eq_getElem?_getD, List.getElem?_eq_getElem hj]; exact List.getElem_mem _)
          obtain ⟨q, hq⟩ : ∃ q : Nat, rd way (j : Int) = (q : Int) := ⟨(rd way (j : Int)).toNat, by omega⟩
          have hqf : q < f.length := by omega
          have hdj : (d : Int) - 1 = (j : Int) := by omega
          have ekid : kidOf f way d = kid1 f (q : Int) := by unfold kidOf; rw [if_pos hd, hdj, hq]
          obtain ⟨g1, k1', ev1, _, hg1l, _⟩ := Kd.R_form HPA.out.hf (by omega)
          obtain ⟨g2, k2', ev2, _, hg2l, _⟩ := Kd.R_form HPA.out.hw (by omega)
          injection ev1 with ev1 _ _
          injection ev2 with ev2 _ _
          subst ev1 ev2
          have i1 : (0 : Int) ≤ (j : Int) := by omega
          have i2 : (j : Int) < (way.length : Int) := by omega
          have i3 : (0 : Int) ≤ (q : Int) := by omega
          have i4 : (q : Int) < (f.length : Int) := by omega
          have i5 : (0 : Int) < (d : Int) := by omega
          have i6 : IntKind.i64.wrap ((d : Int) - 1) = (j : Int) := by rw [i64_w, hdj]; unfold wrap64; omega
          have i7 : decide (0 < (d : Int)) = true := decide_eq_true i5
          have i8 : (0 < d) = True := eq_true hd
          have EK := Aside0.mk ekid
          have HQ := Aside0.mk hq
          have y0 := HPA.out.wayc j hj
          rw [hq] at y0
          obtain ⟨_, _, _, z3, _⟩ := HPA.out.node q hqf
          have c0 := HPA.out.c0
          have c1 := HPA.out.c1
          obtain ⟨x3, hx3⟩ : ∃ x3, (rd_T37 f (q : Int)).f3 = x3 := ⟨_, rfl⟩
          rw [hx3] at z3
          have HX3 := Aside0.mk hx3
          clear hjd hdj e1 hd hwm hq ekid hx3
          go_wp2
          refine start_ (n := 19) (S := fun w' => w'.cell? ⟨g, 0, none⟩ = some (.slice (some ⟨g1, 0, none⟩) f.length k1) ∧ w'.cell? ⟨g, 1, none⟩ = some (.slice (some ⟨g2, 0, none⟩) way.length k2) ∧ w'.cell? ⟨g2, j, none⟩ = some (.int .i64 (q : Int)) ∧ w'.cell? ⟨g1, q * 4 + 3, none⟩ = some (.int .i64 x3)) (ds := [18]) #[false, false, false, false, false, false, false, false, false, false, false, false, false, false, false, false, false, false, false] (by kernel_rfl) rfl rfl ⟨HPA.out.drew.c0, HPA.out.drew.c1, (by have := HPA.out.drew.wayc j hj; rw [HQ.out] at this; exact this), (by have := (HPA.out.drew.node q hqf).2.2.2.1; rw [HX3.out] at this; exact this)⟩ (fun hHeld => ?_)
          have HD := HPA.out.drew
          generalize wc.drew = wd at HD hHeld ⊢
          clear c0 c1 y0 z3
          refine pure_ (i := 0) (N := (some 85)) (v := ?_) (a' := ?_) #[true, false, false, false, false, false, false, false, false, false, false, false, false, false, false, false, false, false, false] rfl rfl (by kernel_rfl) (fun _ _ _ h => h) (Or.inl ⟨by rfl, ?_⟩) ?_ ?_
          rotate_left
          · intro w'
            skip
            go_simp
            all_goals (with_reducible rfl)
          rotate_left
          · simp only [Act.put, List.setIfInBounds_toArray, List.set_cons_zero, List.set_cons_succ, i64_w, i32_w]
            rfl
          refine pure_ (i := 1) (N := (some 86)) (v := ?_) (a' := ?_) #[true, true, false, false, false, false, false, false, false, false, false, false, false, false, false, false, false, false, false] rfl rfl (by kernel_rfl) (fun _ _ _ h => h) (Or.inl ⟨by rfl, ?_⟩) ?_ ?_
          rotate_left
          · intro w'
            skip
            go_simp
            all_goals (with_reducible rfl)
          rotate_left
          · simp only [Act.put, List.setIfInBounds_toArray, List.set_cons_zero, List.set_cons_succ, i64_w, i32_w]
            rfl
          refine pure_ (i := 2) (N := (some 87)) (v := ?_) (a' := ?_) #[true, true, true, false, false, false, false, false, false, false, false, false, false, false, false, false, false, false, false] rfl rfl (by kernel_rfl) (fun _ _ _ h => h) (Or.inl ⟨by rfl, ?_⟩) ?_ ?_
          rotate_left
          · intro w'
            skip
            go_simp
            all_goals (with_reducible rfl)
          rotate_left
          · simp only [Act.put, List.setIfInBounds_toArray, List.set_cons_zero, List.set_cons_succ, i64_w, i32_w]
            rfl
          refine take_ (i := 3) (N := (some 88)) (v := ?_) (a' := ?_) #[true, true, true, true, false, false, false, false, false, false, false, false, false, false, false, false, false, false, false] rfl rfl (by kernel_rfl) (fun _ _ _ h => h) (Or.inl ⟨by rfl, ?_⟩) hHeld ?_ ?_
          rotate_left
          · rintro w' hS_
            try dsimp only at hS_
            (try obtain ⟨s0_, s1_⟩ := hS_); go_split_ands; go_simp
            all_goals (with_reducible rfl)
          rotate_left
          · simp only [Act.put, List.setIfInBounds_toArray, List.set_cons_zero, List.set_cons_succ, i64_w, i32_w]
            rfl
          refine pure_ (i := 4) (N := (some 89)) (v := ?_) (a' := ?_) #[true, true, true, true, true, false, false, false, false, false, false, false, false, false, false, false, false, false, false] rfl rfl (by kernel_rfl) (fun _ _ _ h => h) (Or.inl ⟨by rfl, ?_⟩) ?_ ?_
          rotate_left
          · intro w'
            skip
            go_simp
            all_goals (with_reducible rfl)
          rotate_left
          · simp only [Act.put, List.setIfInBounds_toArray, List.set_cons_zero, List.set_cons_succ, i64_w, i32_w]
            rfl
          refine pure_ (i := 5) (N := (some 90)) (v := ?_) (a' := ?_) #[true, true, true, true, true, true, false, false, false, false, false, false, false, false, false, false, false, false, false] rfl rfl (by kernel_rfl) (fun _ _ _ h => h) (Or.inl ⟨by rfl, ?_⟩) ?_ ?_
          rotate_left
          · intro w'
            skip
            go_simp
            all_goals (with_reducible rfl)
          rotate_left
          · simp only [Act.put, List.setIfInBounds_toArray, List.set_cons_zero, List.set_cons_succ, i64_w, i32_w]
            rfl
          refine pure_ (i := 6) (N := (some 91)) (v := ?_) (a' := ?_) #[true, true, true, true, true, true, true, false, false, false, false, false, false, false, false, false, false, false, false] rfl rfl (by kernel_rfl) (fun _ _ _ h => h) (Or.inl ⟨by rfl, ?_⟩) ?_ ?_
          rotate_left
          · intro w'
            skip
            go_simp
            all_goals (with_reducible rfl)
          rotate_left
          · simp only [Act.put, List.setIfInBounds_toArray, List.set_cons_zero, List.set_cons_succ, i64_w, i32_w]
            rfl
          refine take_ (i := 7) (N := (some 92)) (v := ?_) (a' := ?_) #[true, true, true, true, true, true, true, true, false, false, false, false, false, false, false, false, false, false, false] rfl rfl (by kernel_rfl) (fun _ _ _ h => h) (Or.inl ⟨by rfl, ?_⟩) hHeld ?_ ?_
          rotate_left
          · rintro w' hS_
            try dsimp only at hS_
            (try obtain ⟨s0_, s1_⟩ := hS_); go_split_ands; go_simp
            all_goals (with_reducible rfl)
          rotate_left
          · simp only [Act.put, List.setIfInBounds_toArray, List.set_cons_zero, List.set_cons_succ, i64_w, i32_w]
            rfl
          refine pure_ (i := 8) (N := (some 93)) (v := ?_) (a' := ?_) #[true, true, true, true, true, true, true, true, true, false, false, false, false, false, false, false, false, false, false] rfl rfl (by kernel_rfl) (fun _ _ _ h => h) (Or.inl ⟨by rfl, ?_⟩) ?_ ?_
          rotate_left
          · intro w'
            skip
            go_simp
            all_goals (with_reducible rfl)
          rotate_left
          · simp only [Act.put, List.setIfInBounds_toArray, List.set_cons_zero, List.set_cons_succ, i64_w, i32_w]
            rfl
          refine pure_ (i := 9) (N := (some 94)) (v := ?_) (a' := ?_) #[true, true, true, true, true, true, true, true, true, true, false, false, false, false, false, false, false, false, false] rfl rfl (by kernel_rfl) (fun _ _ _ h => h) (Or.inl ⟨by rfl, ?_⟩) ?_ ?_
          rotate_left
          · intro w'
            skip
            go_simp
            all_goals (with_reducible rfl)
          rotate_left
          · simp only [Act.put, List.setIfInBounds_toArray, List.set_cons_zero, List.set_cons_succ, i64_w, i32_w]
            rfl
          refine pure_ (i := 10) (N := (some 95)) (v := ?_) (a' := ?_) #[true, true, true, true, true, true, true, true, true, true, true, false, false, false, false, false, false, false, false] rfl rfl (by kernel_rfl) (fun _ _ _ h => h) (Or.inl ⟨by rfl, ?_⟩) ?_ ?_
          rotate_left
          · intro w'
            skip
            go_simp
            all_goals (with_reducible rfl)
          rotate_left
          · simp only [Act.put, List.setIfInBounds_toArray, List.set_cons_zero, List.set_cons_succ, i64_w, i32_w]
            rfl
          refine take_ (i := 11) (N := (some 96)) (v := ?_) (a' := ?_) #[true, true, true, true, true, true, true, true, true, true, true, true, false, false, false, false, false, false, false] rfl rfl (by kernel_rfl) (fun _ _ _ h => h) (Or.inl ⟨by rfl, ?_⟩) hHeld ?_ ?_
          rotate_left
          · rintro w' hS_
            try dsimp only at hS_
            (try obtain ⟨s0_, s1_⟩ := hS_); go_split_ands; go_simp
            all_goals (with_reducible rfl)
          rotate_left
          · simp only [Act.put, List.setIfInBounds_toArray, List.set_cons_zero, List.set_cons_succ, i64_w, i32_w]
            rfl
          refine pure_ (i := 12) (N := (some 97)) (v := ?_) (a' := ?_) #[true, true, true, true, true, true, true, true, true, true, true, true, true, false, false, false, false, false, false] rfl rfl (by kernel_rfl) (fun _ _ _ h => h) (Or.inl ⟨by rfl, ?_⟩) ?_ ?_
          rotate_left
          · intro w'
            skip
            go_simp
            all_goals (with_reducible rfl)
          rotate_left
          · simp only [Act.put, List.setIfInBounds_toArray, List.set_cons_zero, List.set_cons_succ, i64_w, i32_w]
            rfl
          refine pure_ (i := 13) (N := (some 98)) (v := ?_) (a' := ?_) #[true, true, true, true, true, true, true, true, true, true, true, true, true, true, false, false, false, false, false] rfl rfl (by kernel_rfl) (fun _ _ _ h => h) (Or.inl ⟨by rfl, ?_⟩) ?_ ?_
          rotate_left
          · intro w'
            skip
            go_simp
            all_goals (with_reducible rfl)
          rotate_left
          · simp only [Act.put, List.setIfInBounds_toArray, List.set_cons_zero, List.set_cons_succ, i64_w, i32_w]
            rfl
          refine take_ (i := 14) (N := (some 99)) (v := ?_) (a' := ?_) #[true, true, true, true, true, true, true, true, true, true, true, true, true, true, true, false, false, false, false] rfl rfl (by kernel_rfl) (fun _ _ _ h => h) (Or.inl ⟨by rfl, ?_⟩) hHeld ?_ ?_
          rotate_left
          · rintro w' hS_
            try dsimp only at hS_
            (try obtain ⟨s0_, s1_⟩ := hS_); go_split_ands; go_simp
            all_goals (with_reducible rfl)
          rotate_left
          · simp only [Act.put, List.setIfInBounds_toArray, List.set_cons_zero, List.set_cons_succ, i64_w, i32_w]
            rfl
          refine pure_ (i := 15) (N := (some 100)) (v := ?_) (a' := ?_) #[true, true, true, true, true, true, true, true, true, true, true, true, true, true, true, true, false, false, false] rfl rfl (by kernel_rfl) (fun _ _ _ h => h) (Or.inl ⟨by rfl, ?_⟩) ?_ ?_
          rotate_left
          · intro w'
            skip
            go_simp
            all_goals (with_reducible rfl)
          rotate_left
          · simp only [Act.put, List.setIfInBounds_toArray, List.set_cons_zero, List.set_cons_succ, i64_w, i32_w]
            rfl
          refine pure_ (i := 16) (N := (some 101)) (v := ?_) (a' := ?_) #[true, true, true, true, true, true, true, true, true, true, true, true, true, true, true, true, true, false, false] rfl rfl (by kernel_rfl) (fun _ _ _ h => h) (Or.inl ⟨by rfl, ?_⟩) ?_ ?_
          rotate_left
          · intro w'
            skip
            go_simp
            all_goals (with_reducible rfl)
          rotate_left
          · simp only [Act.put, List.setIfInBounds_toArray, List.set_cons_zero, List.set_cons_succ, i64_w, i32_w]
            rfl
          refine pure_ (i := 17) (N := (some 102)) (v := ?_) (a' := ?_) #[true, true, true, true, true, true, true, true, true, true, true, true, true, true, true, true, true, true, false] rfl rfl (by kernel_rfl) (fun _ _ _ h => h) (Or.inl ⟨by rfl, ?_⟩) ?_ ?_
          rotate_left
          · intro w'
            skip
            go_simp
            all_goals (with_reducible rfl)
          rotate_left
          · simp only [Act.put, List.setIfInBounds_toArray, List.set_cons_zero, List.set_cons_succ, i64_w, i32_w]
            rfl
          refine last_ (i := 18) (N := none) #[true, true, true, true, true, true, true, true, true, true, true, true, true, true, true, true, true, true, true] rfl rfl (by kernel_rfl) (by decide) (fun K hK => ?_)
          have x1 : wd.cell? ⟨g1, q * 4 + 3, none⟩ = some (.int .i64 x3) := hHeld.2.2.2
          have f1 : wd.frozen? ⟨g1, q * 4 + 3, none⟩ = false := (HD.node q hqf).2.2.2.2 3
          refine skip_ (w1 := ?_) (by rfl) rfl ?_ ?_
          rotate_left
          · go_simp
            rfl
          refine hK.out _ _ ?_
          clear hK K
          refine done_ (by kernel_rfl) ?_
          have HK := HD.kid q hqf
          rw [HX3.out] at HK
          go_wp2
          go_meet
          case rel => exact ⟨by rw [EK.out]; exact HK⟩
        · obtain rfl : d = 0 := by omega
          go_wp2
          go_meet
          case rel => exact HPA
      case rest =>
        have HPC := hcut
        have hcd : (d : Int) ≤ (way.length : Int) := by omega
        obtain ⟨i0, hi0, _, hsz0, _⟩ := info_parts info3
        have hcut2 := cut_to (P := Tryd.prog) 49 3 .i64 Tryd.underlying49 hi0 A2 way.length k2 (d : Int) (by omega) hcd (Kd.R_reads' HPC.out.hw).2.1
        rw [Int.toNat_natCast] at hcut2
        have hl := kidOf_length f way d
        obtain ⟨f2, hf2⟩ : ∃ x, kidOf f way d = x := ⟨_, rfl⟩
        rw [hf2] at HPC hl
        have HF2 := Aside0.mk hf2
        clear hf2
        go_wp2
        refine start_ (n := 17) (S := fun w' => w'.cell? ⟨g, 0, none⟩ = some (.slice A1 f.length k1) ∧ w'.cell? ⟨g, 1, none⟩ = some (.slice A2 way.length k2)) (ds := [13, 16]) #[false, false, false, false, false, false, false, false, false, false, false, false, false, false, false, false, false] (by kernel_rfl) rfl rfl ⟨HPC.out.drew.c0, HPC.out.drew.c1⟩ (fun hHeld => ?_)
        have HD := HPC.out.drew
        generalize wc.drew = wd at HD hHeld ⊢
        refine pure_ (i := 0) (N := (some 103)) (v := ?_) (a' := ?_) #[true, false, false, false, false, false, false, false, false, false, false, false, false, false, false, false, false] rfl rfl (by kernel_rfl) (fun _ _ _ h => h) (Or.inl ⟨by rfl, ?_⟩) ?_ ?_
        rotate_left
        · intro w'
          skip
          go_simp
          all_goals (with_reducible rfl)
        rotate_left
        · simp only [Act.put, List.setIfInBounds_toArray, List.set_cons_zero, List.set_cons_succ, i64_w, i32_w]
          rfl
        refine pure_ (i := 1) (N := (some 104)) (v := ?_) (a' := ?_) #[true, true, false, false, false, false, false, false, false, false, false, false, false, false, false, false, false] rfl rfl (by kernel_rfl) (fun _ _ _ h => h) (Or.inl ⟨by rfl, ?_⟩) ?_ ?_
        rotate_left
        · intro w'
          skip
          go_simp
          all_goals (with_reducible rfl)
        rotate_left
        · simp only [Act.put, List.setIfInBounds_toArray, List.set_cons_zero, List.set_cons_succ, i64_w, i32_w]
          rfl
        refine pure_ (i := 2) (N := (some 105)) (v := ?_) (a' := ?_) #[true, true, true, false, false, false, false, false, false, false, false, false, false, false, false, false, false] rfl rfl (by kernel_rfl) (fun _ _ _ h => h) (Or.inl ⟨by rfl, ?_⟩) ?_ ?_
        rotate_left
        · intro w'
          skip
          go_simp
          all_goals (with_reducible rfl)
        rotate_left
        · simp only [Act.put, List.setIfInBounds_toArray, List.set_cons_zero, List.set_cons_succ, i64_w, i32_w]
          rfl
        refine pure_ (i := 3) (N := (some 106)) (v := ?_) (a' := ?_) #[true, true, true, true, false, false, false, false, false, false, false, false, false, false, false, false, false] rfl rfl (by kernel_rfl) (fun _ _ _ h => h) (Or.inl ⟨by rfl, ?_⟩) ?_ ?_
        rotate_left
        · intro w'
          skip
          go_simp
          all_goals (with_reducible rfl)
        rotate_left
        · simp only [Act.put, List.setIfInBounds_toArray, List.set_cons_zero, List.set_cons_succ, i64_w, i32_w]
          rfl
        refine take_ (i := 4) (N := (some 107)) (v := ?_) (a' := ?_) #[true, true, true, true, true, false, false, false, false, false, false, false, false, false, false, false, false] rfl rfl (by kernel_rfl) (fun _ _ _ h => h) (Or.inl ⟨by rfl, ?_⟩) hHeld ?_ ?_
        rotate_left
        · rintro w' hS_
          try dsimp only at hS_
          (try obtain ⟨s0_, s1_⟩ := hS_); go_split_ands; go_simp
          all_goals (with_reducible rfl)
        rotate_left
        · simp only [Act.put, List.setIfInBounds_toArray, List.set_cons_zero, List.set_cons_succ, i64_w, i32_w]
          rfl
        refine pure_ (i := 5) (N := (some 108)) (v := ?_) (a' := ?_) #[true, true, true, true, true, true, false, false, false, false, false, false, false, false, false, false, false] rfl rfl (by kernel_rfl) (fun _ _ _ h => h) (Or.inl ⟨by rfl, ?_⟩) ?_ ?_
        rotate_left
        · intro w'
          skip
          go_simp
          all_goals (with_reducible rfl)
        rotate_left
        · simp only [Act.put, List.setIfInBounds_toArray, List.set_cons_zero, List.set_cons_succ, i64_w, i32_w]
          rfl
        refine pure_ (i := 6) (N := (some 109)) (v := ?_) (a' := ?_) #[true, true, true, true, true, true, true, false, false, false, false, false, false, false, false, false, false] rfl rfl (by kernel_rfl) (fun _ _ _ h => h) (Or.inl ⟨by rfl, ?_⟩) ?_ ?_
        rotate_left
        · intro w'
          skip
          go_simp
          all_goals (with_reducible rfl)
        rotate_left
        · simp only [Act.put, List.setIfInBounds_toArray, List.set_cons_zero, List.set_cons_succ, i64_w, i32_w]
          rfl
        refine pure_ (i := 7) (N := (some 110)) (v := ?_) (a' := ?_) #[true, true, true, true, true, true, true, true, false, false, false, false, false, false, false, false, false] rfl rfl (by kernel_rfl) (fun _ _ _ h => h) (Or.inl ⟨by rfl, ?_⟩) ?_ ?_
        rotate_left
        · intro w'
          skip
          go_simp
          all_goals (with_reducible rfl)
        rotate_left
        · simp only [Act.put, List.setIfInBounds_toArray, List.set_cons_zero, List.set_cons_succ, i64_w, i32_w]
          rfl
        refine pure_ (i := 8) (N := (some 111)) (v := ?_) (a' := ?_) #[true, true, true, true, true, true, true, true, true, false, false, false, false, false, false, false, false] rfl rfl (by kernel_rfl) (fun _ _ _ h => h) (Or.inl ⟨by rfl, ?_⟩) ?_ ?_
        rotate_left
        · intro w'
          skip
          go_simp
          all_goals (with_reducible rfl)
        rotate_left
        · simp only [Act.put, List.setIfInBounds_toArray, List.set_cons_zero, List.set_cons_succ, i64_w, i32_w]
          rfl
        refine pure_ (i := 9) (N := (some 112)) (v := ?_) (a' := ?_) #[true, true, true, true, true, true, true, true, true, true, false, false, false, false, false, false, false] rfl rfl (by kernel_rfl) (fun _ _ _ h => h) (Or.inl ⟨by rfl, ?_⟩) ?_ ?_
        rotate_left
        · intro w'
          skip
          go_simp
          all_goals (with_reducible rfl)
        rotate_left
        · simp only [Act.put, List.setIfInBounds_toArray, List.set_cons_zero, List.set_cons_succ, i64_w, i32_w]
          rfl
        refine take_ (i := 10) (N := (some 113)) (v := ?_) (a' := ?_) #[true, true, true, true, true, true, true, true, true, true, true, false, false, false, false, false, false] rfl rfl (by kernel_rfl) (fun _ _ _ h => h) (Or.inl ⟨by rfl, ?_⟩) hHeld ?_ ?_
        rotate_left
        · rintro w' hS_
          try dsimp only at hS_
          (try obtain ⟨s0_, s1_⟩ := hS_); go_split_ands; go_simp
          all_goals (with_reducible rfl)
        rotate_left
        · simp only [Act.put, List.setIfInBounds_toArray, List.set_cons_zero, List.set_cons_succ, i64_w, i32_w]
          rfl
        refine pure_ (i := 11) (N := (some 114)) (v := ?_) (a' := ?_) #[true, true, true, true, true, true, true, true, true, true, true, true, false, false, false, false, false] rfl rfl (by kernel_rfl) (fun _ _ _ h => h) (Or.inl ⟨by rfl, ?_⟩) ?_ ?_
        rotate_left
        · intro w'
          skip
          go_simp
          all_goals (with_reducible rfl)
        rotate_left
        · simp only [Act.put, List.setIfInBounds_toArray, List.set_cons_zero, List.set_cons_succ, i64_w, i32_w]
          rfl
        refine one_ (i := 12) (N := (some 115)) #[true, true, true, true, true, true, true, true, true, true, true, true, true, false, false, false, false] rfl rfl (by kernel_rfl) (by decide) (fun K hK => ?_)
        refine value_ (w1 := ?_) (v := ?_) (by rfl) rfl ?_ ?_
        rotate_left 2
        · go_simp
          constructor
          · rfl
          · rfl
        have HA := HD.below ((Below.refl _ wd).alloc (Nat.le_refl _) (.cells #[.int .i64 (f.length : Int)] 3))
        refine hK.out _ _ ⟨HA.c0, HA.c1⟩ (fun hHeld => ?_)
        clear hK K
        refine norm_ (a' := ?_) ?_ ?_
        rotate_left
        · show Act.put _ (some 115) _ = _
          simp only [Act.put, List.setIfInBounds_toArray, List.set_cons_zero, List.set_cons_succ, i64_w, i32_w]
          rfl
        refine last_ (i := 13) (N := (some 116)) #[true, true, true, true, true, true, true, true, true, true, true, true, true, true, false, false, false] rfl rfl (by kernel_rfl) (by decide) (fun K hK => ?_)
        refine Kd.R_append_step (Kd.int .i64) (w0 := w) base (by rfl) (.tmp 109) (.tmp 115) 49 3 (.int .i64 0) 8 rfl Tryd.underlying49 info3 rfl (by decide) (by omega) (.slice A2 d k2) (way.take d) (f.length : Int) [.int .i64 (f.length : Int)] (fun _ => True) (fun _ => False) rfl rfl ?aP (fun _ hk => hk.elim) ?aF ?aO ?aB ?aS ?aL ?_
        (case aP => exact rfl)
        (case aF => exact fun _ _ => trivial)
        (case aO => exact Kd.R_take (m := d) HD.hw (by omega))
        (case aB => exact HD.hb)
        (case aS => exact Nat.le_trans HD.hbb HD.hb.size)
        (case aL => rw [List.length_take]; omega)
        intro v3 w4 ho hb hg hat
        obtain ⟨A3, n3, k3, rfl⟩ : ∃ A n k, v3 = .slice A n k := by obtain ⟨A, k, h⟩ := Kd.R_slice ho; exact ⟨A, _, k, h⟩
        have hg2 : wd.grownBy w4 (.slice A2 way.length k2 : Value).ownBlock := by cases A2 <;> exact hg
        refine hK.out _ _ ?_
        clear hK K
        refine norm_ (a' := ?_) ?_ ?_
        rotate_left
        · show Act.put _ (some 116) _ = _
          simp only [Act.put, List.setIfInBounds_toArray, List.set_cons_zero, List.set_cons_succ, i64_w, i32_w]
          rfl
        refine pure_ (i := 14) (N := (some 117)) (v := ?_) (a' := ?_) #[true, true, true, true, true, true, true, true, true, true, true, true, true, true, true, false, false] rfl rfl (by kernel_rfl) (fun _ _ _ h => h) (Or.inl ⟨by rfl, ?_⟩) ?_ ?_
        rotate_left
        · intro w'
          skip
          go_simp
          all_goals (with_reducible rfl)
        rotate_left
        · simp only [Act.put, List.setIfInBounds_toArray, List.set_cons_zero, List.set_cons_succ, i64_w, i32_w]
          rfl
        refine pure_ (i := 15) (N := (some 118)) (v := ?_) (a' := ?_) #[true, true, true, true, true, true, true, true, true, true, true, true, true, true, true, true, false] rfl rfl (by kernel_rfl) (fun _ _ _ h => h) (Or.inl ⟨by rfl, ?_⟩) ?_ ?_
        rotate_left
        · intro w'
          skip
          go_simp
          all_goals (with_reducible rfl)
        rotate_left
        · simp only [Act.put, List.setIfInBounds_toArray, List.set_cons_zero, List.set_cons_succ, i64_w, i32_w]
          rfl
        refine last_ (i := 16) (N := none) #[true, true, true, true, true, true, true, true, true, true, true, true, true, true, true, true, true] rfl rfl (by kernel_rfl) (by decide) (fun K hK => ?_)
        have h1 := blk_grown HD.hg hg2 (Kd.R_ne HD.hw HD.hg (by decide))
        have x1 : w4.cell? ⟨g, 1, none⟩ = some (.slice A2 way.length k2) := (blk_cell h1 1).trans rfl
        have f1 := blk_frozen h1 1
        refine skip_ (w1 := ?_) (by rfl) rfl ?_ ?_
        rotate_left
        · go_simp
          rfl
        refine hK.out _ _ ?_
        clear hK K
        refine done_ (by kernel_rfl) ?_
        have HE := HD.push2 ho hb hg2
        generalize w4.setCell ⟨g, 1, none⟩ (.slice A3 n3 k3) = w5 at HE ⊢
        clear ho hb hg hg2 hat HD hHeld x1 f1 h1
        go_wp2
        refine start_ (n := 11) (S := fun w' => w'.cell? ⟨g, 0, none⟩ = some (.slice A1 f.length k1) ∧ w'.cell? ⟨gb, 0, none⟩ = some (.string c.f0) ∧ w'.cell? ⟨gb, 1, none⟩ = some (.int .i64 c.f1) ∧ w'.cell? ⟨gb, 2, none⟩ = some (.int .i64 c.f2) ∧ w'.cell? ⟨gb, 3, none⟩ = some (.int .i64 c.f3)) (ds := [7, 10]) #[false, false, false, false, false, false, false, false, false, false, false] (by kernel_rfl) rfl rfl ⟨HE.drew.c0, HE.drew.b0, HE.drew.b1, HE.drew.b2, HE.drew.b3⟩ (fun hHeld => ?_)
        replace HE := HE.drew
        generalize w5.drew = wd at HE hHeld ⊢
        refine pure_ (i := 0) (N := (some 119)) (v := ?_) (a' := ?_) #[true, false, false, false, false, false, false, false, false, false, false] rfl rfl (by kernel_rfl) (fun _ _ _ h => h) (Or.inl ⟨by rfl, ?_⟩) ?_ ?_
        rotate_left
        · intro w'
          skip
          go_simp
          all_goals (with_reducible rfl)
        rotate_left
        · simp only [Act.put, List.setIfInBounds_toArray, List.set_cons_zero, List.set_cons_succ, i64_w, i32_w]
          rfl
        refine pure_ (i := 1) (N := (some 120)) (v := ?_) (a' := ?_) #[true, true, false, false, false, false, false, false, false, false, false] rfl rfl (by kernel_rfl) (fun _ _ _ h => h) (Or.inl ⟨by rfl, ?_⟩) ?_ ?_
        rotate_left
        · intro w'
          skip
          go_simp
          all_goals (with_reducible rfl)
        rotate_left
        · simp only [Act.put, List.setIfInBounds_toArray, List.set_cons_zero, List.set_cons_succ, i64_w, i32_w]
          rfl
        refine pure_ (i := 2) (N := (some 121)) (v := ?_) (a' := ?_) #[true, true, true, false, false, false, false, false, false, false, false] rfl rfl (by kernel_rfl) (fun _ _ _ h => h) (Or.inl ⟨by rfl, ?_⟩) ?_ ?_
        rotate_left
        · intro w'
          skip
          go_simp
          all_goals (with_reducible rfl)
        rotate_left
        · simp only [Act.put, List.setIfInBounds_toArray, List.set_cons_zero, List.set_cons_succ, i64_w, i32_w]
          rfl
        refine pure_ (i := 3) (N := (some 122)) (v := ?_) (a' := ?_) #[true, true, true, true, false, false, false, false, false, false, false] rfl rfl (by kernel_rfl) (fun _ _ _ h => h) (Or.inl ⟨by rfl, ?_⟩) ?_ ?_
        rotate_left
        · intro w'
          skip
          go_simp
          all_goals (with_reducible rfl)
        rotate_left
        · simp only [Act.put, List.setIfInBounds_toArray, List.set_cons_zero, List.set_cons_succ, i64_w, i32_w]
          rfl
        refine take_ (i := 4) (N := (some 123)) (v := ?_) (a' := ?_) #[true, true, true, true, true, false, false, false, false, false, false] rfl rfl (by kernel_rfl) (fun _ _ _ h => h) (Or.inl ⟨by rfl, ?_⟩) hHeld ?_ ?_
        rotate_left
        · rintro w' hS_
          try dsimp only at hS_
          (try obtain ⟨s0_, s1_⟩ := hS_); go_split_ands; go_simp
          all_goals (with_reducible rfl)
        rotate_left
        · simp only [Act.put, List.setIfInBounds_toArray, List.set_cons_zero, List.set_cons_succ, i64_w, i32_w]
          rfl
        refine take_ (i := 5) (N := (some 124)) (v := ?_) (a' := ?_) #[true, true, true, true, true, true, false, false, false, false, false] rfl rfl (by kernel_rfl) (fun _ _ _ h => h) (Or.inl ⟨by rfl, ?_⟩) hHeld ?_ ?_
        rotate_left
        · rintro w' hS_
          try dsimp only at hS_
          (try obtain ⟨s0_, s1_⟩ := hS_); go_split_ands; go_simp
          all_goals (with_reducible rfl)
        rotate_left
        · simp only [Act.put, List.setIfInBounds_toArray, List.set_cons_zero, List.set_cons_succ, i64_w, i32_w]
          rfl
        refine one_ (i := 6) (N := (some 125)) #[true, true, true, true, true, true, true, false, false, false, false] rfl rfl (by kernel_rfl) (by decide) (fun K hK => ?_)
        refine value_ (w1 := ?_) (v := ?_) (by rfl) rfl ?_ ?_
        rotate_left 2
        · go_simp
          constructor
          · rfl
          · rfl
        have HA := HE.below ((Below.refl _ wd).alloc (Nat.le_refl _) (.cells #[.string c.f0, .int .i64 c.f1, .int .i64 c.f2, .int .i64 c.f3] 37))
        refine hK.out _ _ ⟨HA.c0, HA.b0, HA.b1, HA.b2, HA.b3⟩ (fun hHeld => ?_)
        clear hK K
        refine norm_ (a' := ?_) ?_ ?_
        rotate_left
        · show Act.put _ (some 125) _ = _
          simp only [Act.put, List.setIfInBounds_toArray, List.set_cons_zero, List.set_cons_succ, i64_w, i32_w]
          rfl
        refine last_ (i := 7) (N := (some 126)) #[true, true, true, true, true, true, true, true, false, false, false] rfl rfl (by kernel_rfl) (by decide) (fun K hK => ?_)
        refine Kd.R_append_step k37 (w0 := w) base (by rfl) (.tmp 123) (.tmp 125) 22 37 (.agg #[(.string ⟨#[]⟩), (.int .i64 0), (.int .i64 0), (.int .i64 0)]) 40 rfl Tryd.underlying22 info37 rfl (by decide) (by omega) (.slice A1 f.length k1) f2 c [.string c.f0, .int .i64 c.f1, .int .i64 c.f2, .int .i64 c.f3] (fun k => k ≠ gb) (fun _ => False) rfl rfl ?aP (fun _ hk => hk.elim) ?aF ?aO ?aB ?aS ?aL ?_
        (case aP => exact k37_mkM _ _ _ c)
        (case aF => exact fun k hk => by have := lt_of_some HE.hgb; omega)
        (case aO => exact HE.hf)
        (case aB => exact HE.hb)
        (case aS => exact Nat.le_trans HE.hbb HE.hb.size)
        (case aL => omega)
        intro v4 w7 ho hb hg hat
        obtain ⟨A4, n4, k4, rfl⟩ : ∃ A n k, v4 = .slice A n k := by obtain ⟨A, k, h⟩ := Kd.R_slice ho; exact ⟨A, _, k, h⟩
        refine hK.out _ _ ?_
        clear hK K
        refine norm_ (a' := ?_) ?_ ?_
        rotate_left
        · show Act.put _ (some 126) _ = _
          simp only [Act.put, List.setIfInBounds_toArray, List.set_cons_zero, List.set_cons_succ, i64_w, i32_w]
          rfl
        refine pure_ (i := 8) (N := (some 127)) (v := ?_) (a' := ?_) #[true, true, true, true, true, true, true, true, true, false, false] rfl rfl (by kernel_rfl) (fun _ _ _ h => h) (Or.inl ⟨by rfl, ?_⟩) ?_ ?_
        rotate_left
        · intro w'
          skip
          go_simp
          all_goals (with_reducible rfl)
        rotate_left
        · simp only [Act.put, List.setIfInBounds_toArray, List.set_cons_zero, List.set_cons_succ, i64_w, i32_w]
          rfl
        refine pure_ (i := 9) (N := (some 128)) (v := ?_) (a' := ?_) #[true, true, true, true, true, true, true, true, true, true, false] rfl rfl (by kernel_rfl) (fun _ _ _ h => h) (Or.inl ⟨by rfl, ?_⟩) ?_ ?_
        rotate_left
        · intro w'
          skip
          go_simp
          all_goals (with_reducible rfl)
        rotate_left
        · simp only [Act.put, List.setIfInBounds_toArray, List.set_cons_zero, List.set_cons_succ, i64_w, i32_w]
          rfl
        refine last_ (i := 10) (N := none) #[true, true, true, true, true, true, true, true, true, true, true] rfl rfl (by kernel_rfl) (by decide) (fun K hK => ?_)
        have h1 := blk_grown HE.hg hg (Kd.R_ne HE.hf HE.hg (by decide))
        have x1 : w7.cell? ⟨g, 0, none⟩ = some (.slice A1 f.length k1) := (blk_cell h1 0).trans rfl
        have f1 := blk_frozen h1 0
        refine skip_ (w1 := ?_) (by rfl) rfl ?_ ?_
        rotate_left
        · go_simp
          rfl
        refine hK.out _ _ ?_
        clear hK K
        refine done_ (by kernel_rfl) ?_
        have HF := HE.push1 ho hb hg
        generalize w7.setCell ⟨g, 0, none⟩ (.slice A4 n4 k4) = w8 at HF ⊢
        go_wp2
        go_ret
        exact ⟨rfl, fun f' way' h => (by injection h with h; injection h with h1 h2; subst h1 h2; rw [HF2.out]; exact HF.1), HF.2⟩
end Go.Proofs.YtkebableanenkaaDoor.Ps
namespace Go.Proofs.YtkebableanenkaaDoor.Ps
open Go.RowKit Go.Proofs.YtkebableanenkaaDoor.Qall Go.Proofs.YtkebableanenkaaDoor.Ln Go.Proofs.YtkebableanenkaaDoorW.PrintWords Go.Proofs.YtkebableanenkaaDoorW.PrintLast Go.Proofs.YtkebableanenkaaDoorW.PrintMore
set_option linter.unusedSimpArgs false
set_option linter.unusedVariables false
def nodeOf (a : Int × ByteArray × Int × Int × Bool) : SC := ⟨a.2.1, a.2.2.1, a.2.2.2.1, 0⟩
/-- Where the line of a place ends: its LF's place, or the text's end. -/
def lfAt (t : ByteArray) (at_ : Nat) : Nat := at_ + ((t.data.toList.drop at_).takeWhile (· != 10)).length
def lineAt (t : ByteArray) (at_ : Nat) : Int × ByteArray × Int × Int × Bool := lineAns (t.extract at_ (lfAt t at_))
/-- One line read and put. -/
def stepAns (t : ByteArray) (at_ : Nat) (f : List SC) (way : List Int) : Option (List SC × List Int) :=
  if lfAt t at_ < t.size ∧ (lineAt t at_).2.2.2.2 = true then putAns f way (lineAt t at_).1.toNat (nodeOf (lineAt t at_)) else none
/-- From a place on: fuel, the place, the nodes, the levels' last ones. -/
def parseGo (t : ByteArray) : Nat → Nat → List SC → List Int → List SC × Int × Int
  | 0, _, f, _ => (f, 0, 0)
  | k + 1, at_, f, way =>
    if at_ < t.size then
      match stepAns t at_ f way with
      | none => ([], (at_ : Int), 120)
      | some r => parseGo t k (lfAt t at_ + 1) r.1 r.2
    else (f, 0, 0)
def parseAns (t : ByteArray) : List SC × Int × Int := if 4194304 < t.size then ([], 0, 1) else parseGo t (t.size + 1) 0 [] []
theorem parseGo_none {t : ByteArray} {k at_ : Nat} {f : List SC} {way : List Int} (h : at_ < t.size) (hs : stepAns t at_ f way = none) : parseGo t (k + 1) at_ f way = ([], (at_ : Int), 120) := by
  rw [parseGo, if_pos h, hs]
theorem parseGo_some {t : ByteArray} {k at_ : Nat} {f : List SC} {way : List Int} {r : List SC × List Int} (h : at_ < t.size) (hs : stepAns t at_ f way = some r) : parseGo t (k + 1) at_ f way = parseGo t k (lfAt t at_ + 1) r.1 r.2 := by
  rw [parseGo, if_pos h, hs]
theorem parseGo_end {t : ByteArray} {k at_ : Nat} {f : List SC} {way : List Int} (h : ¬ at_ < t.size) : parseGo t (k + 1) at_ f way = (f, 0, 0) := by
  rw [parseGo, if_neg h]
theorem putAns_some {f : List SC} {way : List Int} {d : Nat} {c : SC} {f' : List SC} {way' : List Int} (h : putAns f way d c = some (f', way')) :
    d ≤ way.length ∧ f.length < 1048576 ∧ c.f1 ≤ c.f2 ∧ loOf f way d ≤ c.f1 ∧ c.f2 ≤ hiOf f way d ∧ f' = kidOf f way d ++ [c] ∧ way' = way.take d ++ [(f.length : Int)] := by
  unfold putAns at h
  split at h
  · cases h
  · split at h
    · cases h
    · injection h with h
      injection h with h1 h2
      exact ⟨by omega, by omega, by omega, by omega, by omega, h1.symm, h2.symm⟩
/-- What holds of the nodes and the levels' last ones. -/
structure Inv (f : List SC) (way : List Int) : Prop where
  len : way.length ≤ f.length
  cap : f.length ≤ 1048576
  mem : ∀ x ∈ way, 0 ≤ x ∧ x < (f.length : Int)
theorem Inv.nil : Inv [] [] := ⟨Nat.le_refl _, Nat.zero_le _, fun x hx => by cases hx⟩
theorem Inv.put {f : List SC} {way : List Int} {d : Nat} {c : SC} {f' : List SC} {way' : List Int} (hi : Inv f way) (h : putAns f way d c = some (f', way')) : Inv f' way' := by
  obtain ⟨h1, h2, _, _, _, rfl, rfl⟩ := putAns_some h
  have hl := kidOf_length f way d
  have h3 := hi.len
  refine ⟨?_, ?_, fun x hx => ?_⟩
  · rw [List.length_append, List.length_append, List.length_take, hl]; simp; omega
  · rw [List.length_append, hl]; simp; omega
  · rw [List.length_append, hl, List.length_singleton]
    rcases List.mem_append.1 hx with hx | hx
    · have := hi.mem x (List.mem_of_mem_take hx); omega
    · rw [List.mem_singleton.1 hx]; omega
theorem idx_eq : ∀ (l : List UInt8), Lib.indexByte l 10 = if (l.takeWhile (· != 10)).length < l.length then (((l.takeWhile (· != 10)).length : Nat) : Int) else -1
  | [] => rfl
  | b :: l => by
    by_cases hb : b = 10
    · subst hb
      rw [List.takeWhile_cons_of_neg (by decide), if_pos (by simp)]
      rfl
    · rw [List.takeWhile_cons_of_pos (by simpa using hb)]
      unfold Lib.indexByte
      rw [if_neg (by simpa using hb), idx_eq l]
      simp only [List.length_cons]
      obtain ⟨n, hn⟩ : ∃ n, (l.takeWhile (· != 10)).length = n := ⟨_, rfl⟩
      rw [hn]
      by_cases hc : n < l.length
      · have h1 : ((n : Int) == -1) = false := beq_eq_false_iff_ne.2 (by omega)
        rw [if_pos hc, if_pos (show n + 1 < l.length + 1 by omega), h1, if_neg (by simp)]
        omega
      · rw [if_neg hc, if_neg (show ¬ n + 1 < l.length + 1 by omega)]
        rfl
theorem drop_len (t : ByteArray) (at_ : Nat) : (t.data.toList.drop at_).length = t.size - at_ := by rw [List.length_drop, Array.length_toList]; rfl
theorem lf_le (t : ByteArray) (at_ : Nat) (h : at_ ≤ t.size) : at_ ≤ lfAt t at_ ∧ lfAt t at_ ≤ t.size := by
  have h1 := takeWhile_len_le (· != 10) (t.data.toList.drop at_)
  rw [drop_len] at h1
  unfold lfAt
  omega
theorem idx_lf (t : ByteArray) (at_ : Nat) (h : at_ ≤ t.size) : Lib.indexByte (t.data.toList.drop at_) 10 = if lfAt t at_ < t.size then ((lfAt t at_ : Nat) : Int) - at_ else -1 := by
  rw [idx_eq, drop_len]
  unfold lfAt
  by_cases hc : ((t.data.toList.drop at_).takeWhile (· != 10)).length < t.size - at_
  · rw [if_pos hc, if_pos (by omega)]; omega
  · rw [if_neg hc, if_neg (by omega)]
theorem line_range (s : ByteArray) (hs : s.size ≤ 4194304) : ∃ d : Nat, (lineAns s).1 = (d : Int) ∧ d ≤ 4194304 := by
  unfold lineAns
  split
  · split
    · refine ⟨_, rfl, ?_⟩
      have := lead_le s.data.toList
      rw [Array.length_toList] at this
      have h2 : s.data.size = s.size := rfl
      omega
    · exact ⟨0, rfl, Nat.zero_le _⟩
  · exact ⟨0, rfl, Nat.zero_le _⟩
end Go.Proofs.YtkebableanenkaaDoor.Ps
namespace Go.Proofs.YtkebableanenkaaDoor.Ps
open Go.RowKit Go.Proofs.YtkebableanenkaaDoor.Qall Go.Proofs.YtkebableanenkaaDoor.Ln Go.Proofs.YtkebableanenkaaDoor.Free Go.Proofs.YtkebableanenkaaDoorW.PrintWords Go.Proofs.YtkebableanenkaaDoorW.PrintLast Go.Proofs.YtkebableanenkaaDoorW.PrintMore
set_option linter.unusedSimpArgs false
set_option linter.unusedVariables false
theorem Gr.below {W W' : World} {base g : Nat} {f : List SC} {way : List Int} (h : Gr W base g f way) (hb : Below W.heap.size W W') : Gr W' base g f way := by
  obtain ⟨v1, v2, hg, hbg, h1, h2⟩ := h
  exact ⟨v1, v2, (hb.block g (lt_of_some hg)).trans hg, hbg, Kd.R_below h1 hb, Kd.R_below h2 hb⟩
theorem Gr.set {W : World} {base g b i : Nat} {f : List SC} {way : List Int} {t : TypeId} {cs : Array Value} (h : Gr W base g f way) (hb : W.heap[b]? = some (.cells cs t (0, 0))) (ht : t ≠ 37 ∧ t ≠ 64 ∧ t ≠ 3) (v : Value) : Gr (W.setCell ⟨b, i, none⟩ v) base g f way := by
  obtain ⟨v1, v2, hg, hbg, h1, h2⟩ := h
  have hne : g ≠ b := fun e => by rw [e, hb] at hg; injection hg with hg; injection hg with _ hg _; exact ht.2.1 hg
  exact ⟨v1, v2, (Below.heap_setCell W ⟨b, i, none⟩ v g hne).trans hg, hbg, Kd.R_set h1 hb (fun q hq e => ht.1 (by rw [← e]; have : k37.E = [] := rfl; rw [this] at hq; exact List.mem_singleton.1 hq)) i v, Kd.R_set h2 hb (fun q hq e => ht.2.2 (by rw [← e]; exact List.mem_singleton.1 hq)) i v⟩
theorem keep4 {X : World} {g gf : Nat} {o : Obj} {y0 y1 y2 y3 : Value} (hne : gf ≠ g) (h : X.heap[gf]? = some o) : ((((X.setCell ⟨g, 0, none⟩ y0).setCell ⟨g, 1, none⟩ y1).setCell ⟨g, 2, none⟩ y2).setCell ⟨g, 3, none⟩ y3).heap[gf]? = some o :=
  (Below.heap_setCell _ ⟨g, 3, none⟩ y3 gf hne).trans ((Below.heap_setCell _ ⟨g, 2, none⟩ y2 gf hne).trans ((Below.heap_setCell _ ⟨g, 1, none⟩ y1 gf hne).trans ((Below.heap_setCell _ ⟨g, 0, none⟩ y0 gf hne).trans h)))
set_option maxRecDepth 100000 in
set_option maxHeartbeats 4000000 in
theorem parse_calls (t : ByteArray) (w : World) (hm : Mx w) :
    Calls Tryd.prog 10 #[.string t] w fun e w' => ∃ v, e = .returned (.tuple #[v, .agg #[.int .i64 (parseAns t).2.1, .int .i64 (parseAns t).2.2]]) ∧ Kd.R k37 37 w' w.heap.size (fun _ => True) v (parseAns t).1 ∧ Below w.heap.size w w' := by
  have hu := Tryd.underlying25
  by_cases hbig : 4194304 < t.size
  · have hans : parseAns t = ([], 0, 1) := if_pos hbig
    rw [hans]
    have p1 : decide (4194304 < (t.size : Int)) = true := decide_eq_true (by omega)
    have p2 : decide (4194304 < t.size) = true := decide_eq_true hbig
    clear hbig
    go_enter Tryd.func10, Tryd.ntmps10
    go_wp2_with (first | ((with_reducible refine gate_dst (N := 3) rfl ?_); (try (refine gate_guard (by rfl) ?_; dsimp only)); refine box_event ?hg (N := 3) ?hd (cs := #[.int .i64 0, .int .i64 0]) (t := 25) ?hr ?_; (case hd => rfl); (case hg => rfl); (case hr => first | (go_simp; done) | (go_simp; rfl)); intro gf hg0 w3 hbox hb0; have HB := Aside0.mk hb0; have BK := Aside0.mk hbox; have GE := Aside0.mk (Nat.le_of_eq hg0.symm : w.heap.size ≤ gf); have k0 := (blk_cell hbox 0).trans rfl; have k1 := (blk_cell hbox 1).trans rfl; have z0 := blk_frozen hbox 0; have z1 := blk_frozen hbox 1; obtain ⟨b, hbe⟩ : ∃ b, w3.heap.size = b := ⟨_, rfl⟩; have HBE := Aside0.mk hbe; have GB := Aside0.mk (show gf < b by have := lt_of_some hbox; omega); have WB := Aside0.mk (show w.heap.size ≤ b by have := hb0.size; omega); clear hbe; clear hg0 hbox hb0))
    refine bodyPost_ret (results_tc rfl _ _ gf 25 #[.int .i64 0, .int .i64 1] (0, 0) _ rfl (blk_put (blk_put BK.out 0 _ rfl) 1 _ rfl) hu rfl (by kernel_rfl)) rfl ?_
    exact ⟨_, rfl, Kd.R_nil _ _ _ _ _, (HB.out.setCell (p := ⟨gf, 0, none⟩) GE.out _).setCell (p := ⟨gf, 1, none⟩) GE.out _⟩
  · have hans : parseAns t = parseGo t (t.size + 1) 0 [] [] := if_neg hbig
    rw [hans]
    obtain ⟨ans, hA⟩ : ∃ a, parseGo t (t.size + 1) 0 [] [] = a := ⟨_, rfl⟩
    rw [hA]
    have HA0 := Aside0.mk hA
    have HMX := Aside0.mk hm
    have p1 : decide (4194304 < (t.size : Int)) = false := decide_eq_false (by omega)
    have p2 : decide (4194304 < t.size) = false := decide_eq_false hbig
    clear hA hans hm
    have htz : t.size ≤ 4194304 := by omega
    go_enter Tryd.func10, Tryd.ntmps10
    go_wp2_with (first | ((with_reducible refine gate_dst (N := 3) rfl ?_); (try (refine gate_guard (by rfl) ?_; dsimp only)); refine box_event ?hg (N := 3) ?hd (cs := #[.int .i64 0, .int .i64 0]) (t := 25) ?hr ?_; (case hd => rfl); (case hg => rfl); (case hr => first | (go_simp; done) | (go_simp; rfl)); intro gf hg0 w3 hbox hb0; have HB := Aside0.mk hb0; have BK := Aside0.mk hbox; have GE := Aside0.mk (Nat.le_of_eq hg0.symm : w.heap.size ≤ gf); have k0 := (blk_cell hbox 0).trans rfl; have k1 := (blk_cell hbox 1).trans rfl; have z0 := blk_frozen hbox 0; have z1 := blk_frozen hbox 1; obtain ⟨b, hbe⟩ : ∃ b, w3.heap.size = b := ⟨_, rfl⟩; have HBE := Aside0.mk hbe; have GB := Aside0.mk (show gf < b by have := lt_of_some hbox; omega); have WB := Aside0.mk (show w.heap.size ≤ b by have := hb0.size; omega); clear hbe; clear hg0 hbox hb0) | ((with_reducible refine gate_dst (N := 15) rfl ?_); (try (refine gate_guard (by rfl) ?_; dsimp only)); refine box_event ?hg (N := 15) ?hd (cs := #[.slice none 0 0, .slice none 0 0]) (t := 64) ?hr ?_; (case hd => rfl); (case hg => rfl); (case hr => first | (go_simp; done) | (go_simp; rfl)); intro g hg0 w4 hbox hb0; have HB4 := Aside0.mk (HB.out.trans (hb0.mono HB.out.size)); have BK4 := Aside0.mk ((hb0.block gf (lt_of_some BK.out)).trans BK.out); have GR4 : Aside0 (Gr w4 b g [] []) := ⟨⟨_, _, hbox, by have := HBE.out; omega, Kd.R_nil _ _ _ _ _, Kd.R_nil _ _ _ _ _⟩⟩; clear hg0 hbox hb0))
    clear k0 k1 z0 z1 HB BK p1 p2 hbig
    go_loopw [5] (fun v5 wr => ∃ (at_ k : Nat) (f : List SC) (way : List Int), v5 = .int .i64 at_ ∧ Aside0 (at_ ≤ t.size) ∧ Aside0 (parseGo t k at_ f way = ans) ∧ Aside0 (t.size < k + at_) ∧ Aside0 (Inv f way) ∧ Aside0 (Gr wr b g f way) ∧ Aside0 (wr.heap[gf]? = some (.cells #[.int .i64 0, .int .i64 0] 25 (0, 0))) ∧ Aside0 (Below w.heap.size w wr))
      (fun v5 _ => t.size + 1 - (intOf v5).toNat)
    case atStart => exact ⟨0, t.size + 1, [], [], rfl, ⟨Nat.zero_le _⟩, HA0, ⟨by omega⟩, ⟨Inv.nil⟩, GR4, BK4, HB4⟩
    case round =>
      clear HA0 GR4 BK4 HB4
      obtain ⟨at_, k, f, way, rfl, HLE, HA, HK, HI, GR, BK, HB⟩ := hrel
      obtain ⟨k, rfl⟩ : ∃ k', k = k' + 1 := ⟨k - 1, by have := HLE.out; have := HK.out; omega⟩
      by_cases hlt : at_ < t.size
      · have hgo := HA.out
        have hlf := lf_le t at_ HLE.out
        have hix := idx_lf t at_ HLE.out
        have hcall := fun W => Tryd.strings_IndexByte (t.extract at_ t.size) 10 W
        rw [show (t.extract at_ t.size).data.toList = t.data.toList.drop at_ by rw [Lib.extract_to_end]] at hcall
        change ∀ W, Calls Tryd.prog 27 #[.string (t.extract at_ t.size), .int .u8 10] W fun e w' => e = .returned (.int .i64 (Lib.indexByte (t.data.toList.drop at_) 10)) ∧ w' = W at hcall
        have k0 := (blk_cell BK.out 0).trans rfl
        have k1 := (blk_cell BK.out 1).trans rfl
        have z0 := blk_frozen BK.out 0
        have z1 := blk_frozen BK.out 1
        have i0 : (0 : Int) ≤ (at_ : Int) := by omega
        have i1 : (at_ : Int) ≤ (t.size : Int) := by omega
        by_cases hl : lfAt t at_ < t.size
        · rw [if_pos hl] at hix
          rw [hix] at hcall
          have hsz : (t.extract at_ (lfAt t at_)).size ≤ 4194304 := by rw [ByteArray.size_extract]; omega
          obtain ⟨d, hd, hdl⟩ := line_range (t.extract at_ (lfAt t at_)) hsz
          have hline := fun W (h : Mx W) => line_calls (t.extract at_ (lfAt t at_)) hsz W h
          have hstep : stepAns t at_ f way = if (lineAns (t.extract at_ (lfAt t at_))).2.2.2.2 = true then putAns f way (lineAns (t.extract at_ (lfAt t at_))).1.toNat (nodeOf (lineAns (t.extract at_ (lfAt t at_)))) else none := by
            unfold stepAns lineAt
            by_cases hok : (lineAns (t.extract at_ (lfAt t at_))).2.2.2.2 = true
            · rw [if_pos ⟨hl, hok⟩, if_pos hok]
            · rw [if_neg (fun h => hok h.2), if_neg hok]
          obtain ⟨⟨l1, nm, a, b2, ok⟩, hL⟩ : ∃ L, lineAns (t.extract at_ (lfAt t at_)) = L := ⟨_, rfl⟩
          rw [hL] at hline hd hstep
          dsimp only [nodeOf] at hline hd hstep
          subst hd
          rw [Int.toNat_natCast] at hstep
          obtain ⟨lf, hlfe⟩ : ∃ lf, lfAt t at_ = lf := ⟨_, rfl⟩
          rw [hlfe] at hcall hline hl hlf hsz
          have HLF := Aside0.mk hlfe
          have HC := Aside0.mk hcall
          have HLN := Aside0.mk (hline wr (HMX.out.step HB.out))
          have i2 : IntKind.i64.wrap ((at_ : Int) + ((lf : Int) - (at_ : Int))) = (lf : Int) := by rw [i64_w]; unfold wrap64; omega
          have i3 : (at_ : Int) ≤ (lf : Int) := by omega
          have i4 : (lf : Int) ≤ (t.size : Int) := by omega
          have i5 : decide (((lf : Int) - (at_ : Int)) < 0) = false := decide_eq_false (by omega)
          have i6 : decide ((lf : Int) < (at_ : Int)) = false := decide_eq_false (by omega)
          clear hcall hline hix hL hlfe
          cases ok with
          | false =>
            obtain rfl : ans = ([], (at_ : Int), 120) := by rw [← hgo]; exact parseGo_none hlt (hstep.trans (if_neg (by simp)))
            clear hgo hstep HA HK HI
            go_wp2_with (first | (go_at_call 27; refine (HC.out _).mono ?_; rintro e w' ⟨rfl, rfl⟩) | (go_at_call 28; refine HLN.out.mono ?_; rintro e w6 ⟨rfl, hb6⟩; have HB6 := Aside0.mk hb6; have BK6 := Aside0.mk ((hb6.block gf (lt_of_some BK.out)).trans BK.out); clear hb6 k0 k1 z0 z1) | ((with_reducible refine gate_dst (N := 8) rfl ?_); (try (refine gate_guard (by rfl) ?_; dsimp only)); refine box_event ?hg (N := 8) ?hd (cs := #[.string ⟨#[]⟩, .int .i64 0, .int .i64 0, .int .i64 0]) (t := 37) ?hr ?_; (case hd => rfl); (case hg => rfl); (case hr => first | (go_simp; done) | (go_simp; rfl)); intro gc hg0 w7 hbox hb0; have h7 := hb0; have g7 := hg0; have BC := hbox; have q0 := (blk_cell hbox 0).trans rfl; have q1 := (blk_cell hbox 1).trans rfl; have q2 := (blk_cell hbox 2).trans rfl; have q3 := (blk_cell hbox 3).trans rfl; have u0 := blk_frozen hbox 0; have u1 := blk_frozen hbox 1; have u2 := blk_frozen hbox 2; have u3 := blk_frozen hbox 3; have k0 := (blk_cell ((hb0.block gf (lt_of_some BK6.out)).trans BK6.out) 0).trans rfl; have k1 := (blk_cell ((hb0.block gf (lt_of_some BK6.out)).trans BK6.out) 1).trans rfl; have z0 := blk_frozen ((hb0.block gf (lt_of_some BK6.out)).trans BK6.out) 0; have z1 := blk_frozen ((hb0.block gf (lt_of_some BK6.out)).trans BK6.out) 1; have hne : gf ≠ gc := (fun e => by have := lt_of_some BK6.out; omega); have hne2 : gc ≠ gf := fun e => hne e.symm; have G7 := Aside0.mk g7; have H7 := Aside0.mk h7; clear g7 h7; clear hg0 hbox hb0))
            have BK7 := keep4 (y0 := .string nm) (y1 := .int .i64 a) (y2 := .int .i64 b2) (y3 := .int .i64 0) hne ((H7.out.block gf (lt_of_some BK6.out)).trans BK6.out)
            have HX7 := bel4 (y0 := .string nm) (y1 := .int .i64 a) (y2 := .int .i64 b2) (y3 := .int .i64 0) (HB6.out.trans (H7.out.mono HB6.out.size)) (Nat.le_trans HB6.out.size (Nat.le_of_eq G7.out.symm))
            generalize (((w7.setCell ⟨gc, 0, none⟩ (.string nm)).setCell ⟨gc, 1, none⟩ (.int .i64 a)).setCell ⟨gc, 2, none⟩ (.int .i64 b2)).setCell ⟨gc, 3, none⟩ (.int .i64 0) = X7 at BK7 HX7 ⊢
            refine bodyPost_ret (results_tc rfl _ _ gf 25 #[.int .i64 at_, .int .i64 120] (0, 0) _ rfl (blk_put (blk_put BK7 0 _ rfl) 1 _ rfl) hu rfl (by kernel_rfl)) rfl ?_
            exact ⟨_, rfl, Kd.R_nil _ _ _ _ _, ((HB.out.trans (HX7.mono HB.out.size)).setCell (p := ⟨gf, 0, none⟩) GE.out _).setCell (p := ⟨gf, 1, none⟩) GE.out _⟩
          | true =>
            rw [if_pos rfl] at hstep
            have hput := fun X h => put_calls f way d ⟨nm, a, b2, 0⟩ b g X h HI.out.len HI.out.cap HI.out.mem hdl
            obtain ⟨pa, hpa⟩ : ∃ x, putAns f way d ⟨nm, a, b2, 0⟩ = x := ⟨_, rfl⟩
            rw [hpa] at hput hstep
            cases pa with
            | none =>
              obtain rfl : ans = ([], (at_ : Int), 120) := by rw [← hgo]; exact parseGo_none hlt hstep
              dsimp only [Option.isSome] at hput
              have HPT := Aside0.mk hput
              clear hgo hstep HA HK HI hput hpa
              go_wp2_with (first | (go_at_call 27; refine (HC.out _).mono ?_; rintro e w' ⟨rfl, rfl⟩) | (go_at_call 28; refine HLN.out.mono ?_; rintro e w6 ⟨rfl, hb6⟩; have HB6 := Aside0.mk hb6; have BK6 := Aside0.mk ((hb6.block gf (lt_of_some BK.out)).trans BK.out); clear hb6 k0 k1 z0 z1) | ((with_reducible refine gate_dst (N := 8) rfl ?_); (try (refine gate_guard (by rfl) ?_; dsimp only)); refine box_event ?hg (N := 8) ?hd (cs := #[.string ⟨#[]⟩, .int .i64 0, .int .i64 0, .int .i64 0]) (t := 37) ?hr ?_; (case hd => rfl); (case hg => rfl); (case hr => first | (go_simp; done) | (go_simp; rfl)); intro gc hg0 w7 hbox hb0; have h7 := hb0; have g7 := hg0; have BC := hbox; have q0 := (blk_cell hbox 0).trans rfl; have q1 := (blk_cell hbox 1).trans rfl; have q2 := (blk_cell hbox 2).trans rfl; have q3 := (blk_cell hbox 3).trans rfl; have u0 := blk_frozen hbox 0; have u1 := blk_frozen hbox 1; have u2 := blk_frozen hbox 2; have u3 := blk_frozen hbox 3; have k0 := (blk_cell ((hb0.block gf (lt_of_some BK6.out)).trans BK6.out) 0).trans rfl; have k1 := (blk_cell ((hb0.block gf (lt_of_some BK6.out)).trans BK6.out) 1).trans rfl; have z0 := blk_frozen ((hb0.block gf (lt_of_some BK6.out)).trans BK6.out) 0; have z1 := blk_frozen ((hb0.block gf (lt_of_some BK6.out)).trans BK6.out) 1; have hne : gf ≠ gc := (fun e => by have := lt_of_some BK6.out; omega); have hne2 : gc ≠ gf := fun e => hne e.symm; have G7 := Aside0.mk g7; have H7 := Aside0.mk h7; clear g7 h7; clear hg0 hbox hb0) | (go_at_call 29; have hne4 := keep4 (y0 := .string nm) (y1 := .int .i64 a) (y2 := .int .i64 b2) (y3 := .int .i64 0) hne ((H7.out.block gf (lt_of_some BK6.out)).trans BK6.out); have HX7 := bel4 (y0 := .string nm) (y1 := .int .i64 a) (y2 := .int .i64 b2) (y3 := .int .i64 0) (HB6.out.trans (H7.out.mono HB6.out.size)) (Nat.le_trans HB6.out.size (Nat.le_of_eq G7.out.symm)); refine (HPT.out _ (GR.out.below HX7)).mono ?_; rintro e w8 ⟨rfl, hgr8, hb8⟩; have BK8 := Aside0.mk ((hb8.block gf GB.out).trans hne4); have HB8 := Aside0.mk ((HB.out.trans (HX7.mono HB.out.size)).trans (hb8.mono WB.out)); have k0 := (blk_cell BK8.out 0).trans rfl; have k1 := (blk_cell BK8.out 1).trans rfl; have z0 := blk_frozen BK8.out 0; have z1 := blk_frozen BK8.out 1; clear hb8 HX7 hne4))
              refine bodyPost_ret (results_tc rfl _ _ gf 25 #[.int .i64 at_, .int .i64 120] (0, 0) _ rfl (blk_put (blk_put BK8.out 0 _ rfl) 1 _ rfl) hu rfl (by kernel_rfl)) rfl ?_
              exact ⟨_, rfl, Kd.R_nil _ _ _ _ _, (HB8.out.setCell (p := ⟨gf, 0, none⟩) GE.out _).setCell (p := ⟨gf, 1, none⟩) GE.out _⟩
            | some r =>
              obtain ⟨f', way'⟩ := r
              have hnext : parseGo t k (lf + 1) f' way' = ans := by rw [← hgo, parseGo_some hlt hstep, HLF.out]
              dsimp only [Option.isSome] at hput
              have HPT := Aside0.mk hput
              have HNX := Aside0.mk hnext
              have HI2 := Aside0.mk (HI.out.put hpa)
              have i7 : IntKind.i64.wrap (((lf : Int) - (at_ : Int)) + 1) = (lf : Int) - (at_ : Int) + 1 := by rw [i64_w]; unfold wrap64; omega
              have i8 : IntKind.i64.wrap ((at_ : Int) + ((lf : Int) - (at_ : Int) + 1)) = ((lf + 1 : Nat) : Int) := by rw [i64_w]; unfold wrap64; omega
              clear hgo hstep HA HI hput hpa hnext
              go_wp2_with (first | (go_at_call 27; refine (HC.out _).mono ?_; rintro e w' ⟨rfl, rfl⟩) | (go_at_call 28; refine HLN.out.mono ?_; rintro e w6 ⟨rfl, hb6⟩; have HB6 := Aside0.mk hb6; have BK6 := Aside0.mk ((hb6.block gf (lt_of_some BK.out)).trans BK.out); clear hb6 k0 k1 z0 z1) | ((with_reducible refine gate_dst (N := 8) rfl ?_); (try (refine gate_guard (by rfl) ?_; dsimp only)); refine box_event ?hg (N := 8) ?hd (cs := #[.string ⟨#[]⟩, .int .i64 0, .int .i64 0, .int .i64 0]) (t := 37) ?hr ?_; (case hd => rfl); (case hg => rfl); (case hr => first | (go_simp; done) | (go_simp; rfl)); intro gc hg0 w7 hbox hb0; have h7 := hb0; have g7 := hg0; have BC := hbox; have q0 := (blk_cell hbox 0).trans rfl; have q1 := (blk_cell hbox 1).trans rfl; have q2 := (blk_cell hbox 2).trans rfl; have q3 := (blk_cell hbox 3).trans rfl; have u0 := blk_frozen hbox 0; have u1 := blk_frozen hbox 1; have u2 := blk_frozen hbox 2; have u3 := blk_frozen hbox 3; have k0 := (blk_cell ((hb0.block gf (lt_of_some BK6.out)).trans BK6.out) 0).trans rfl; have k1 := (blk_cell ((hb0.block gf (lt_of_some BK6.out)).trans BK6.out) 1).trans rfl; have z0 := blk_frozen ((hb0.block gf (lt_of_some BK6.out)).trans BK6.out) 0; have z1 := blk_frozen ((hb0.block gf (lt_of_some BK6.out)).trans BK6.out) 1; have hne : gf ≠ gc := (fun e => by have := lt_of_some BK6.out; omega); have hne2 : gc ≠ gf := fun e => hne e.symm; have G7 := Aside0.mk g7; have H7 := Aside0.mk h7; clear g7 h7; clear hg0 hbox hb0) | (go_at_call 29; have hne4 := keep4 (y0 := .string nm) (y1 := .int .i64 a) (y2 := .int .i64 b2) (y3 := .int .i64 0) hne ((H7.out.block gf (lt_of_some BK6.out)).trans BK6.out); have HX7 := bel4 (y0 := .string nm) (y1 := .int .i64 a) (y2 := .int .i64 b2) (y3 := .int .i64 0) (HB6.out.trans (H7.out.mono HB6.out.size)) (Nat.le_trans HB6.out.size (Nat.le_of_eq G7.out.symm)); refine (HPT.out _ (GR.out.below HX7)).mono ?_; rintro e w8 ⟨rfl, hgr8, hb8⟩; have BK8 := Aside0.mk ((hb8.block gf GB.out).trans hne4); have HB8 := Aside0.mk ((HB.out.trans (HX7.mono HB.out.size)).trans (hb8.mono WB.out)); have k0 := (blk_cell BK8.out 0).trans rfl; have k1 := (blk_cell BK8.out 1).trans rfl; have z0 := blk_frozen BK8.out 0; have z1 := blk_frozen BK8.out 1; clear hb8 HX7 hne4))
              go_roundw
              case rel => exact ⟨lf + 1, k, f', way', by first | rfl | (simp; done) | (simp [*]; done), ⟨by omega⟩, HNX, ⟨by have := HK.out; omega⟩, HI2, ⟨hgr8 f' way' rfl⟩, BK8, HB8⟩
              case measure => simp [intOf]; omega
        · rw [if_neg hl] at hix
          rw [hix] at hcall
          obtain rfl : ans = ([], (at_ : Int), 120) := by rw [← hgo]; exact parseGo_none hlt (if_neg (fun h => hl h.1))
          have HC := Aside0.mk hcall
          clear hcall hgo hix hl hlf HA HK HI
          go_wp2_with (go_at_call 27; refine (HC.out _).mono ?_; rintro e w' ⟨rfl, rfl⟩)
          refine bodyPost_ret (results_tc rfl _ _ gf 25 #[.int .i64 at_, .int .i64 120] (0, 0) _ rfl (blk_put (blk_put BK.out 0 _ rfl) 1 _ rfl) hu rfl (by kernel_rfl)) rfl ?_
          exact ⟨_, rfl, Kd.R_nil _ _ _ _ _, (HB.out.setCell (p := ⟨gf, 0, none⟩) GE.out _).setCell (p := ⟨gf, 1, none⟩) GE.out _⟩
      · have hgo : parseGo t (k + 1) at_ f way = (f, 0, 0) := parseGo_end hlt
        obtain rfl : ans = (f, 0, 0) := by rw [← HA.out, hgo]
        obtain ⟨v1, v2, hg, hbg, h1, h2⟩ := GR.out
        have g0 := (blk_cell hg 0).trans rfl
        have k0 := (blk_cell BK.out 0).trans rfl
        have k1 := (blk_cell BK.out 1).trans rfl
        have z0 := blk_frozen BK.out 0
        have z1 := blk_frozen BK.out 1
        obtain ⟨A1, c1, rfl⟩ := Kd.R_slice h1
        have H1 := Aside0.mk h1
        clear hgo HA HK HI GR h1 h2 hg
        go_wp2
        refine bodyPost_ret (results_tc rfl _ _ gf 25 #[.int .i64 0, .int .i64 0] (0, 0) _ rfl (blk_put (blk_put BK.out 0 _ rfl) 1 _ rfl) hu rfl (by kernel_rfl)) rfl ?_
        exact ⟨_, rfl, Kd.R_set (Kd.R_set (Kd.R_lower H1.out WB.out) BK.out (by decide) _ _) (blk_put BK.out 0 _ rfl) (by decide) _ _, (HB.out.setCell (p := ⟨gf, 0, none⟩) GE.out _).setCell (p := ⟨gf, 1, none⟩) GE.out _⟩
end Go.Proofs.YtkebableanenkaaDoor.Ps
namespace Go.Proofs.YtkebableanenkaaDoor.Ps
open Go.RowKit Go.Proofs.YtkebableanenkaaDoor.Qall Go.Proofs.YtkebableanenkaaDoor.Ln Go.Proofs.YtkebableanenkaaDoorW.PrintWords Go.Proofs.YtkebableanenkaaDoorW.PrintLast Go.Proofs.YtkebableanenkaaDoorW.PrintMore
set_option linter.unusedSimpArgs false
set_option linter.unusedVariables false
theorem rd_app (f g : List SC) (x : Int) (h0 : 0 ≤ x) (h1 : x < (f.length : Int)) : rd_T37 (f ++ g) x = rd_T37 f x := by
  unfold rd_T37
  rw [List.getD_eq_getElem?_getD, List.getD_eq_getElem?_getD, List.getElem?_append_left (by omega)]
theorem rd_last (f : List SC) (c : SC) : rd_T37 (f ++ [c]) (f.length : Int) = c := by
  unfold rd_T37
  rw [Int.toNat_natCast, List.getD_eq_getElem?_getD, List.getElem?_append_right (Nat.le_refl _), Nat.sub_self]
  rfl
theorem rd_kid (f : List SC) (i x : Int) : (rd_T37 (kid1 f i) x).f0 = (rd_T37 f x).f0 ∧ (rd_T37 (kid1 f i) x).f1 = (rd_T37 f x).f1 ∧ (rd_T37 (kid1 f i) x).f2 = (rd_T37 f x).f2 := by
  unfold kid1 rd_T37
  simp only [List.getD_eq_getElem?_getD, List.getElem?_set]
  by_cases h : i.toNat = x.toNat
  · rw [if_pos h]
    by_cases h2 : i.toNat < f.length
    · rw [if_pos h2, h]; exact ⟨rfl, rfl, rfl⟩
    · rw [if_neg h2, ← h, List.getElem?_eq_none (by omega)]; exact ⟨rfl, rfl, rfl⟩
  · rw [if_neg h]; exact ⟨rfl, rfl, rfl⟩
theorem rd_kidOf (f : List SC) (way : List Int) (d : Nat) (x : Int) : (rd_T37 (kidOf f way d) x).f1 = (rd_T37 f x).f1 ∧ (rd_T37 (kidOf f way d) x).f2 = (rd_T37 f x).f2 := by
  unfold kidOf
  split
  · exact (rd_kid f _ x).2
  · exact ⟨rfl, rfl⟩
theorem rd_put (f : List SC) (way : List Int) (d : Nat) (c : SC) (x : Int) (h0 : 0 ≤ x) (h1 : x < (f.length : Int)) : (rd_T37 (kidOf f way d ++ [c]) x).f1 = (rd_T37 f x).f1 ∧ (rd_T37 (kidOf f way d ++ [c]) x).f2 = (rd_T37 f x).f2 := by
  rw [rd_app _ _ _ h0 (by rw [kidOf_length]; exact h1)]
  exact rd_kidOf f way d x
theorem rd_new (f : List SC) (way : List Int) (d : Nat) (c : SC) : rd_T37 (kidOf f way d ++ [c]) (f.length : Int) = c := by
  have := rd_last (kidOf f way d) c
  rwa [kidOf_length] at this
/-- Where the levels' last ones end. -/
def tos (f : List SC) (way : List Int) : List Int := way.map fun x => (rd_T37 f x).f2
theorem rd_get (l : List Int) (j : Nat) (h : j < l.length) : rd l (j : Int) = l[j] := by
  unfold rd
  rw [Int.toNat_natCast, List.getD_eq_getElem?_getD, List.getElem?_eq_getElem h]
  rfl
theorem rd_mem (l : List Int) (j : Nat) (h : j < l.length) : rd l (j : Int) ∈ l := by rw [rd_get l j h]; exact List.getElem_mem _
theorem rd_take (l : List Int) (m : List Int) (d j : Nat) (h : j < d) (hd : d ≤ l.length) : rd (l.take d ++ m) (j : Int) = rd l (j : Int) := by
  rw [rd_get _ j (by rw [List.length_append, List.length_take]; omega), rd_get l j (by omega), List.getElem_append_left (by rw [List.length_take]; omega), List.getElem_take]
theorem rd_end (l : List Int) (y : Int) (d : Nat) (hd : d ≤ l.length) : rd (l.take d ++ [y]) (d : Int) = y := by
  have hl : (l.take d).length = d := by rw [List.length_take]; omega
  rw [rd_get _ d (by rw [List.length_append, hl]; simp), List.getElem_append_right (by omega)]
  simp [hl]
theorem tos_put {f : List SC} {way : List Int} (hi : Inv f way) (d : Nat) (c : SC) (hd : d ≤ way.length) :
    (tos f way ++ [0]).take d ++ [c.f2] = tos (kidOf f way d ++ [c]) (way.take d ++ [(f.length : Int)]) := by
  unfold tos
  rw [List.map_append, List.map_singleton, rd_new, List.take_append_of_le_length (by rw [List.length_map]; exact hd), ← List.map_take]
  congr 1
  refine List.map_congr_left fun x hx => ?_
  have := hi.mem x (List.mem_of_mem_take hx)
  exact (rd_put f way d c x this.1 this.2).2.symm
/-- What holds besides. -/
structure Inv3 (f : List SC) (way : List Int) (at_ : Nat) : Prop extends Inv f way where
  six : f.length * 6 ≤ at_
  ord : ∀ x ∈ way, (rd_T37 f x).f1 ≤ (rd_T37 f x).f2
  nest : ∀ j : Nat, j + 1 < way.length → (rd_T37 f (rd way (j : Int))).f1 ≤ (rd_T37 f (rd way ((j + 1 : Nat) : Int))).f1
theorem lo_ge {f : List SC} {way : List Int} {at_ : Nat} (h : Inv3 f way at_) (d : Nat) (hd : d ≤ way.length) (h0 : 0 < d) : (rd_T37 f (rd way ((d : Int) - 1))).f1 ≤ loOf f way d := by
  unfold loOf
  split
  · rename_i hlt
    obtain ⟨j, rfl⟩ : ∃ j, d = j + 1 := ⟨d - 1, by omega⟩
    have h1 := h.nest j hlt
    have h2 := h.ord _ (rd_mem way (j + 1) hlt)
    rw [show ((j + 1 : Nat) : Int) - 1 = (j : Int) by omega]
    omega
  · unfold lo0
    rw [if_pos h0]
    exact Int.le_refl _
theorem Inv3.put {f : List SC} {way : List Int} {at_ a2 d : Nat} {c : SC} {f' : List SC} {way' : List Int} (h : Inv3 f way at_) (hp : putAns f way d c = some (f', way')) (h6 : at_ + 6 ≤ a2) : Inv3 f' way' a2 := by
  have hi := h.toInv.put hp
  obtain ⟨h1, h2, h3, h4, h5, rfl, rfl⟩ := putAns_some hp
  have hl := kidOf_length f way d
  refine ⟨hi, ?_, fun x hx => ?_, fun j hj => ?_⟩
  · rw [List.length_append, hl, List.length_singleton]
    have := h.six
    omega
  · rcases List.mem_append.1 hx with hx | hx
    · have hm := h.mem x (List.mem_of_mem_take hx)
      obtain ⟨e1, e2⟩ := rd_put f way d c x hm.1 hm.2
      rw [e1, e2]
      exact h.ord x (List.mem_of_mem_take hx)
    · rw [List.mem_singleton.1 hx, rd_new]
      exact h3
  · rw [List.length_append, List.length_take, List.length_singleton] at hj
    have hjd : j < d := by omega
    have hm := h.mem _ (rd_mem way j (by omega))
    rw [rd_take way _ d j hjd h1, (rd_put f way d c _ hm.1 hm.2).1]
    by_cases hj1 : j + 1 < d
    · have hm1 := h.mem _ (rd_mem way (j + 1) (by omega))
      rw [rd_take way _ d (j + 1) hj1 h1, (rd_put f way d c _ hm1.1 hm1.2).1]
      exact h.nest j (by omega)
    · obtain rfl : d = j + 1 := by omega
      rw [rd_end way _ (j + 1) h1, rd_new]
      have := lo_ge h (j + 1) h1 (by omega)
      rw [show ((j + 1 : Nat) : Int) - 1 = (j : Int) by omega] at this
      omega
theorem Inv3.nil : Inv3 [] [] 0 := ⟨Inv.nil, Nat.le_refl _, fun x hx => (by cases hx), fun j hj => (by simp at hj)⟩
/-- A line has five bytes at least, and its numbers are numbers. -/
theorem line_five (s : ByteArray) (h : (lineAns s).2.2.2.2 = true) : 5 ≤ s.size ∧ 0 ≤ (lineAns s).2.2.1 ∧ (lineAns s).2.2.2.1 ≤ 65536 := by
  obtain ⟨a, b, c, hw, ha, hb, hc, hL⟩ := lineAns_ok s h
  have h3 := (three_iff (restOf s) a.data.toList b.data.toList c.data.toList).1 (by rw [hw]; rfl)
  have hb1 := ((numAns_good b).1.1 hb).1
  have hc1 := ((numAns_good c).1.1 hc).1
  have ha1 := (nameOk_all a ha).1
  have hsz := congrArg List.length h3.1
  have hrl : (restOf s).data.toList.length ≤ s.size := by
    unfold restOf
    rw [List.length_drop, Array.length_toList]
    exact Nat.sub_le _ _
  have hal : a.data.toList.length = a.size := data_length a
  have hbl : 0 < b.data.toList.length := List.length_pos_iff.2 hb1
  have hcl : 0 < c.data.toList.length := List.length_pos_iff.2 hc1
  rw [List.length_append, List.length_cons, List.length_append, List.length_cons] at hsz
  rw [hL]
  exact ⟨by omega, (numAns_range b _ (by rw [← hb])).1, (numAns_range c _ (by rw [← hc])).2⟩
theorem tw_get {p : UInt8 → Bool} : ∀ (l : List UInt8) (j : Nat) (h : j < l.length), j < (l.takeWhile p).length → p l[j] = true
  | [], j, h, _ => by simp at h
  | b :: l, j, h, hj => by
    by_cases hb : p b = true
    · rw [List.takeWhile_cons_of_pos hb] at hj
      cases j with
      | zero => exact hb
      | succ j => exact tw_get l j (by simpa using h) (by simpa using hj)
    · rw [List.takeWhile_cons_of_neg hb] at hj; simp at hj
theorem tw_end {p : UInt8 → Bool} : ∀ (l : List UInt8) (n : Nat) (h : n < l.length), (l.takeWhile p).length = n → p l[n] = false
  | [], n, h, _ => by simp at h
  | b :: l, n, h, hn => by
    by_cases hb : p b = true
    · rw [List.takeWhile_cons_of_pos hb] at hn
      cases n with
      | zero => simp at hn
      | succ n => exact tw_end l n (by simpa using h) (by simpa using hn)
    · rw [List.takeWhile_cons_of_neg hb] at hn
      obtain rfl : n = 0 := by simpa using hn.symm
      exact Bool.eq_false_iff.2 hb
theorem bt_drop (t : ByteArray) (i j : Nat) (h : i + j < t.size) : bt t ((i + j : Nat) : Int) = (((t.data.toList.drop i)[j]'(by rw [drop_len]; omega)).toNat : Int) := by
  rw [bt_get t (i + j) h, List.getElem_drop]
theorem lf_not (t : ByteArray) (i j : Nat) (hi : i ≤ t.size) (h : i + j < lfAt t i) : bt t ((i + j : Nat) : Int) ≠ 10 := by
  have h2 := (lf_le t i hi).2
  rw [bt_drop t i j (by omega)]
  have := tw_get (p := (· != 10)) (t.data.toList.drop i) j (by rw [drop_len]; omega) (by unfold lfAt at h; omega)
  intro e
  have e2 : (t.data.toList.drop i)[j]'(by rw [drop_len]; omega) = 10 := UInt8.toNat_inj.1 (by show _ = 10; omega)
  rw [e2] at this
  exact absurd this (by decide)
theorem lf_is (t : ByteArray) (i : Nat) (hi : i ≤ t.size) (h : lfAt t i < t.size) : bt t ((lfAt t i : Nat) : Int) = 10 := by
  obtain ⟨n, hn⟩ : ∃ n, ((t.data.toList.drop i).takeWhile (· != 10)).length = n := ⟨_, rfl⟩
  have e : lfAt t i = i + n := by unfold lfAt; rw [hn]
  rw [e] at h ⊢
  rw [bt_drop t i n h]
  have := tw_end (p := (· != 10)) (t.data.toList.drop i) n (by rw [drop_len]; omega) hn
  have e2 : (t.data.toList.drop i)[n]'(by rw [drop_len]; omega) = 10 := by simpa using this
  rw [e2]
  rfl
theorem l1_run (t : ByteArray) (hs : t.size ≤ 4194304) (f : List SC) (way last : List Int) (p : Int) : ∀ n i k, (∀ j, j < n → bt t ((i + j : Nat) : Int) ≠ 10) → (i + n < t.size → bt t ((i + n : Nat) : Int) = 10) → i + n ≤ t.size →
    dowelref12_Parse.l1 (k + n + 1) t f way last p (i : Int) = dowelref12_Parse.j2 (k) t f way last p ((i + n : Nat) : Int)
  | 0, i, k, _, h2, h3 => by
    rw [dowelref12_Parse.l1, Nat.add_zero]
    by_cases h : i < t.size
    · have h3 := h2 (by omega)
      rw [Nat.add_zero] at h3
      rw [if_pos (by omega), if_pos (by omega), if_pos h3]
    · rw [if_neg (by omega)]
  | n + 1, i, k, h1, h2, h3 => by
    have h10 := h1 0 (by omega)
    rw [Nat.add_zero] at h10
    have ih := l1_run t hs f way last p n (i + 1) k (fun j hj => by have := h1 (j + 1) (by omega); rwa [show i + 1 + j = i + (j + 1) by omega]) (by rw [show i + 1 + n = i + (n + 1) by omega]; exact h2) (by omega)
    rw [show i + 1 + n = i + (n + 1) by omega] at ih
    rw [show k + (n + 1) + 1 = (k + n + 1) + 1 by omega, dowelref12_Parse.l1, if_pos (by omega), if_pos (by omega), if_neg h10, wrap_of (i := (i : Int) + 1) (by omega) (by omega)]
    exact ih
theorem l0_run (t : ByteArray) (hs : t.size ≤ 4194304) (f : List SC) (way last : List Int) (at_ k : Nat) (h : at_ < t.size) :
    dowelref12_Parse.l0 (k + (lfAt t at_ - at_) + 2) t f way last (at_ : Int) = dowelref12_Parse.j2 k t f way last (at_ : Int) ((lfAt t at_ : Nat) : Int) := by
  have hl := lf_le t at_ (by omega)
  obtain ⟨n, hn⟩ : ∃ n, lfAt t at_ = at_ + n := ⟨lfAt t at_ - at_, by omega⟩
  have h1 := l1_run t hs f way last (at_ : Int) n at_ k (fun j hj => lf_not t at_ j (by omega) (by omega)) (fun hlt => by rw [← hn]; exact lf_is t at_ (by omega) (by omega)) (by omega)
  rw [hn, show at_ + n - at_ = n by omega, show k + n + 2 = (k + n + 1) + 1 by omega, dowelref12_Parse.l0, if_pos (by omega)]
  exact h1
theorem j3_fail (t : ByteArray) (f : List SC) (way last : List Int) (p q l : Int) (nm : ByteArray) (a b c : Int) (k : Nat) : dowelref12_Parse.j3 (k + 2) t f way last p q l false nm a b c = some ([], p, 120) := by
  rw [dowelref12_Parse.j3, if_neg (by simp), dowelref12_Parse.j4, if_pos rfl]
/-- A line that was read is put, or refused, just as the program does. -/
theorem j3_ok (t : ByteArray) (hs : t.size ≤ 4194304) (f : List SC) (way : List Int) (at_ lf d : Nat) (hlf : lf ≤ t.size) (nm : ByteArray) (a b : Int) (h : Inv3 f way at_) (hat : at_ ≤ 4194304) (ha : 0 ≤ a) (hb : b ≤ 65536) (hd : d ≤ 4194304) (k : Nat) :
    dowelref12_Parse.j3 (k + 3) t f way (tos f way) (at_ : Int) (lf : Int) (d : Int) true nm a b 0 = match putAns f way d ⟨nm, a, b, 0⟩ with
      | none => some ([], (at_ : Int), 120)
      | some r => dowelref12_Parse.l0 k t r.1 r.2 (tos r.1 r.2) ((lf + 1 : Nat) : Int) := by
  have hlen := h.len
  have h6 := h.six
  have htl : (tos f way).length = way.length := List.length_map _
  rw [dowelref12_Parse.j3, if_pos rfl]
  by_cases e1 : way.length < d
  · have : putAns f way d ⟨nm, a, b, 0⟩ = none := by unfold putAns; rw [if_pos (.inl e1)]
    rw [this, if_pos (by omega), dowelref12_Parse.j4, if_pos rfl]
  rw [if_neg (by omega)]
  by_cases e2 : b < a
  · have : putAns f way d ⟨nm, a, b, 0⟩ = none := by unfold putAns; rw [if_pos (.inr (.inr e2))]
    rw [this, decide_eq_true e2, dowelref12_Parse.j4, if_pos rfl]
  have hcap : f.length < 1048576 := by omega
  rw [decide_eq_false e2, dowelref12_Parse.j4, if_neg (by simp), if_pos (by omega), Option.bind_some, if_pos (by omega), if_pos (by rw [List.length_append, htl]; simp; omega)]
  have hpa : putAns f way d ⟨nm, a, b, 0⟩ = if a < loOf f way d ∨ hiOf f way d < b then none else some (kidOf f way d ++ [⟨nm, a, b, 0⟩], way.take d ++ [(f.length : Int)]) := by
    unfold putAns
    rw [if_neg (by rintro (e | e | e) <;> first | omega | exact e2 e)]
  -- what lies ahead on the level
  have hah : rd (tos f way ++ [0]) (d : Int) = if d < way.length then (rd_T37 f (rd way (d : Int))).f2 else 0 := by
    by_cases hlt : d < way.length
    · rw [if_pos hlt, rd_get _ d (by rw [List.length_append, htl]; omega), List.getElem_append_left (by omega), rd_get way d hlt]
      unfold tos
      rw [List.getElem_map]
    · obtain rfl : d = way.length := by omega
      rw [if_neg hlt, rd_get _ _ (by rw [List.length_append, htl]; simp), List.getElem_append_right (by omega)]
      simp [htl]
  have htp : (tos f way ++ [0]).take d ++ [b] = tos (kidOf f way d ++ [⟨nm, a, b, 0⟩]) (way.take d ++ [(f.length : Int)]) := tos_put h.toInv d ⟨nm, a, b, 0⟩ (by omega)
  have hwl : (way.take d).length = d := by rw [List.length_take]; omega
  have htk : ((tos f way ++ [0]).take d).length = d := by rw [List.length_take, List.length_append, htl]; simp; omega
  have hz : wrap64 ((lf : Int) + 1) = ((lf + 1 : Nat) : Int) := by rw [wrap_of (by omega) (by omega)]; omega
  have HZ : True → wrap64 ((lf : Int) + 1) = ((lf + 1 : Nat) : Int) := fun _ => hz
  clear hz
  by_cases hd0 : 0 < d
  · obtain ⟨j, rfl⟩ : ∃ j, d = j + 1 := ⟨d - 1, by omega⟩
    have hdj : ((j + 1 : Nat) : Int) - 1 = (j : Int) := by omega
    have hwj : wrap64 (((j + 1 : Nat) : Int) - 1) = (j : Int) := by rw [hdj]; exact wrap_of (by omega) (by omega)
    have hm := h.mem _ (rd_mem way j (by omega))
    have hlo := lo_ge h (j + 1) (by omega) hd0
    rw [hdj] at hlo
    have hhi : hiOf f way (j + 1) = (rd_T37 f (rd way (j : Int))).f2 := by unfold hiOf; rw [if_pos hd0, hdj]
    have hkid : kidOf f way (j + 1) = kid1 f (rd way (j : Int)) := by unfold kidOf; rw [if_pos hd0, hdj]
    have hlo2 : ∀ x : Int, x = rd (tos f way ++ [0]) ((j + 1 : Nat) : Int) → (¬ a < (rd_T37 f (rd way (j : Int))).f1) → (a < loOf f way (j + 1) ↔ a < x) := by
      intro x hx hna
      rw [hah] at hx
      unfold loOf
      by_cases hlt : j + 1 < way.length
      · rw [if_pos hlt] at hx ⊢; rw [hx]
      · rw [if_neg hlt] at hx ⊢
        unfold lo0
        rw [if_pos hd0, hdj, hx]
        constructor <;> intro e <;> omega
    rw [if_pos (by omega), hwj, if_pos (by omega), if_pos (by omega), if_pos hm.1, if_pos hm.2]
    obtain ⟨up, hup⟩ : ∃ up, rd_T37 f (rd way (j : Int)) = up := ⟨_, rfl⟩
    obtain ⟨ah, hahe⟩ : ∃ ah, rd (tos f way ++ [0]) ((j + 1 : Nat) : Int) = ah := ⟨_, rfl⟩
    have hl3 := hlo2 ah hahe.symm
    rw [hup] at hlo hhi hl3 ⊢
    by_cases e3 : a < up.f1
    · rw [if_pos e3, hpa, if_pos (.inl (by omega))]
    rw [if_neg e3]
    by_cases e4 : b > up.f2
    · rw [if_pos e4, hpa, if_pos (.inr (by omega))]
    rw [if_neg e4, hahe, dowelref12_Parse.j5]
    by_cases e5 : a < ah
    · rw [if_pos e5, hpa, if_pos (.inl ((hl3 e3).2 e5))]
    have hne : ¬ (a < loOf f way (j + 1) ∨ hiOf f way (j + 1) < b) := by
      rintro (e | e)
      · exact e5 ((hl3 e3).1 e)
      · rw [hhi] at e; omega
    rw [if_neg e5, hpa, if_neg hne, if_pos (by omega), hwj, if_pos (by omega), if_pos (by omega), if_pos hm.1, if_pos hm.2, Option.bind_some, if_pos (by omega), if_pos (by rw [List.length_append, htl]; simp; omega), Option.bind_some, Int.toNat_natCast, if_pos (by rw [htk]; omega), if_pos (by omega), Option.bind_some, if_pos (by rw [hwl]; omega)]
    have hset : f.set (rd way (j : Int)).toNat ⟨(rd_T37 f (rd way (j : Int))).f0, (rd_T37 f (rd way (j : Int))).f1, (rd_T37 f (rd way (j : Int))).f2, wrap64 ((rd_T37 f (rd way (j : Int))).f3 + 1)⟩ = kidOf f way (j + 1) := by rw [hkid]; rfl
    rw [hset, if_pos (by rw [kidOf_length]; omega), HZ trivial]
    dsimp only
    rw [← htp]
  · obtain rfl : d = 0 := by omega
    have hhi : hiOf f way 0 = 65536 := by unfold hiOf; rw [if_neg (by omega)]
    have hkid : kidOf f way 0 = f := by unfold kidOf; rw [if_neg (by omega)]
    have hlo2 : loOf f way 0 = rd (tos f way ++ [0]) ((0 : Nat) : Int) := by
      rw [hah]
      unfold loOf lo0
      rw [if_neg (by omega : ¬ 0 < 0)]
    obtain ⟨ah, hahe⟩ : ∃ ah, rd (tos f way ++ [0]) ((0 : Nat) : Int) = ah := ⟨_, rfl⟩
    rw [hahe] at hlo2
    rw [if_neg (by omega), hahe, dowelref12_Parse.j5]
    by_cases e5 : a < ah
    · rw [if_pos e5, hpa, if_pos (.inl (by omega))]
    rw [if_neg e5, hpa, if_neg (show ¬ (a < loOf f way 0 ∨ hiOf f way 0 < b) by omega), if_neg (show ¬ ((0 : Nat) : Int) > 0 by omega), if_pos (by omega), if_pos (by rw [List.length_append, htl]; simp; omega), Option.bind_some, Int.toNat_natCast, if_pos (by rw [htk]; omega), if_pos (by omega), Option.bind_some, if_pos (by rw [hwl]; omega), if_pos (by omega), HZ trivial]
    dsimp only
    rw [← htp, hkid]
theorem j2_line (t : ByteArray) (hs : t.size ≤ 4194304) (f : List SC) (way last : List Int) (at_ lf k : Nat) (h1 : at_ ≤ lf) (h2 : lf < t.size) (hk : 2 * t.size + 8 < k) :
    dowelref12_Parse.j2 (k + 1) t f way last (at_ : Int) (lf : Int) = let r := rl1 (t.extract at_ lf) ((t.extract at_ lf).data.toList.takeWhile (· == 32)).length
      dowelref12_Parse.j3 k t f way last (at_ : Int) (lf : Int) r.1 r.2.2.2.2.2 r.2.1 r.2.2.1 r.2.2.2.1 r.2.2.2.2.1 := by
  have hsz : (t.extract at_ lf).size ≤ t.size := by rw [ByteArray.size_extract]; omega
  rw [dowelref12_Parse.j2, if_pos (by omega), if_pos (by omega), if_pos (by omega), if_pos (by omega), Int.toNat_natCast, Int.toNat_natCast, refline_eq _ (by omega) k (by omega), Option.bind_some]
theorem go_ev (t : ByteArray) (hs : t.size ≤ 4194304) : ∀ d at_ f way ans k0, t.size - at_ ≤ d → at_ ≤ t.size → Inv3 f way at_ → parseGo t k0 at_ f way = ans → t.size < k0 + at_ →
    ∃ K, ∀ k, K ≤ k → dowelref12_Parse.l0 k t f way (tos f way) (at_ : Int) = some ans := by
  intro d
  induction d with
  | zero =>
    intro at_ f way ans k0 hd hle hi hp hk
    obtain ⟨k0, rfl⟩ : ∃ j, k0 = j + 1 := ⟨k0 - 1, by omega⟩
    rw [parseGo_end (by omega)] at hp
    refine ⟨1, fun k hk => ?_⟩
    obtain ⟨k, rfl⟩ : ∃ j, k = j + 1 := ⟨k - 1, by omega⟩
    rw [dowelref12_Parse.l0, if_neg (by omega), hp]
  | succ d ih =>
    intro at_ f way ans k0 hd hle hi hp hk
    obtain ⟨k0, rfl⟩ : ∃ j, k0 = j + 1 := ⟨k0 - 1, by omega⟩
    by_cases hlt : at_ < t.size
    · have hlf := lf_le t at_ hle
      have hsz : (t.extract at_ (lfAt t at_)).size ≤ 4194304 := by rw [ByteArray.size_extract]; omega
      by_cases hl : lfAt t at_ < t.size
      · have hj2 := fun k hk => j2_line t hs f way (tos f way) at_ (lfAt t at_) k hlf.1 hl hk
        by_cases hok : (lineAns (t.extract at_ (lfAt t at_))).2.2.2.2 = true
        · obtain ⟨h5, hge, hle2⟩ := line_five _ hok
          rw [line_fore _ hok] at hj2
          obtain ⟨dd, hdd, hdl⟩ := line_range _ hsz
          have hstep : stepAns t at_ f way = putAns f way dd ⟨(lineAns (t.extract at_ (lfAt t at_))).2.1, (lineAns (t.extract at_ (lfAt t at_))).2.2.1, (lineAns (t.extract at_ (lfAt t at_))).2.2.2.1, 0⟩ := by
            unfold stepAns lineAt
            rw [if_pos ⟨hl, hok⟩, hdd, Int.toNat_natCast]
            rfl
          have hj3 := fun k => j3_ok t hs f way at_ (lfAt t at_) dd (by omega) (lineAns (t.extract at_ (lfAt t at_))).2.1 (lineAns (t.extract at_ (lfAt t at_))).2.2.1 (lineAns (t.extract at_ (lfAt t at_))).2.2.2.1 hi (by omega) hge hle2 hdl k
          rw [← hstep] at hj3
          dsimp only at hj2
          rw [hdd] at hj2
          have h6 : at_ + 6 ≤ lfAt t at_ + 1 := by rw [ByteArray.size_extract] at h5; omega
          cases hs2 : stepAns t at_ f way with
          | none =>
            rw [hs2] at hj3
            rw [parseGo_none hlt hs2] at hp
            refine ⟨3 * t.size + 100, fun k hk => ?_⟩
            obtain ⟨m, rfl⟩ : ∃ m, k = m + 3 + 1 + (lfAt t at_ - at_) + 2 := ⟨k - 6 - (lfAt t at_ - at_), by omega⟩
            rw [l0_run t hs f way _ at_ _ hlt, hj2 _ (by omega), hj3 m, ← hp]
          | some r =>
            rw [hs2] at hj3
            rw [parseGo_some hlt hs2] at hp
            have hput := hs2
            rw [hstep] at hput
            obtain ⟨K, hK⟩ := ih (lfAt t at_ + 1) r.1 r.2 ans k0 (by omega) (by omega) (hi.put hput h6) hp (by omega)
            refine ⟨3 * t.size + 100 + K, fun k hk => ?_⟩
            obtain ⟨m, rfl⟩ : ∃ m, k = m + 3 + 1 + (lfAt t at_ - at_) + 2 := ⟨k - 6 - (lfAt t at_ - at_), by omega⟩
            rw [l0_run t hs f way _ at_ _ hlt, hj2 _ (by omega), hj3 m]
            exact hK m (by omega)
        · have hst : stepAns t at_ f way = none := if_neg (fun h => hok h.2)
          rw [parseGo_none hlt hst] at hp
          have hf : (rl1 (t.extract at_ (lfAt t at_)) ((t.extract at_ (lfAt t at_)).data.toList.takeWhile (· == 32)).length).2.2.2.2.2 = false := Bool.eq_false_iff.2 (fun e => hok (line_back _ e))
          dsimp only at hj2
          rw [hf] at hj2
          refine ⟨3 * t.size + 100, fun k hk => ?_⟩
          obtain ⟨m, rfl⟩ : ∃ m, k = m + 2 + 1 + (lfAt t at_ - at_) + 2 := ⟨k - 5 - (lfAt t at_ - at_), by omega⟩
          rw [l0_run t hs f way _ at_ _ hlt, hj2 _ (by omega), j3_fail, ← hp]
      · have hst : stepAns t at_ f way = none := if_neg (fun h => hl h.1)
        rw [parseGo_none hlt hst] at hp
        refine ⟨3 * t.size + 100, fun k hk => ?_⟩
        obtain ⟨m, rfl⟩ : ∃ m, k = m + 2 + 1 + (lfAt t at_ - at_) + 2 := ⟨k - 5 - (lfAt t at_ - at_), by omega⟩
        rw [l0_run t hs f way _ at_ _ hlt, dowelref12_Parse.j2, if_neg (by omega), j3_fail, ← hp]
    · rw [parseGo_end hlt] at hp
      refine ⟨1, fun k hk => ?_⟩
      obtain ⟨k, rfl⟩ : ∃ j, k = j + 1 := ⟨k - 1, by omega⟩
      rw [dowelref12_Parse.l0, if_neg (by omega), hp]
/-- The document reads what the program reads. -/
theorem refParse_ev (t : ByteArray) : ∃ K, ∀ k, K ≤ k → dowelref12_Parse.f k t = some (parseAns t) := by
  by_cases hb : 4194304 < t.size
  · exact ⟨0, fun k _ => by unfold dowelref12_Parse.f parseAns; rw [if_pos (by omega), if_pos hb]⟩
  · obtain ⟨K, hK⟩ := go_ev t (by omega) t.size 0 [] [] (parseGo t (t.size + 1) 0 [] []) (t.size + 1) (by omega) (by omega) Inv3.nil rfl (by omega)
    refine ⟨K, fun k hk => ?_⟩
    unfold dowelref12_Parse.f parseAns
    rw [if_neg (by omega), if_neg hb]
    exact hK k hk
end Go.Proofs.YtkebableanenkaaDoor.Ps
