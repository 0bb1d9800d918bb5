/- dowelbook.FreeSpans of lists that share no memory answers true. Conditions: at most eight lists, each of at most 2^21 nodes. || The walk of grower.put: a node behind the others, on a level. Conditions: at most 2^20 nodes, as many levels as nodes at most, each a node's number. || What forest.Parse reads, in plain words: line by line, each put behind the others. || The walk of forest.Parse: what it reads. Conditions: internal/bytealg's variable MaxLen holds some number. -/
import Derived.Test.YtloflodbcdlmpaaDoorLend2
import Derived.Test.YtloflodbcdlmpaaDoorQallx1
import Derived.Deep.RegionHeld3
import Derived.Test.YtloflodbcdlmpaaDoorLine2
namespace Go.Proofs.YtloflodbcdlmpaaDoor.Free
open Go.RowKit Go.Proofs.YtloflodbcdlmpaaDoor.Qall Go.Proofs.YtloflodbcdlmpaaDoorW.PrintWords Go.Proofs.YtloflodbcdlmpaaDoorW.PrintLast Go.Proofs.YtloflodbcdlmpaaDoorW.PrintMore
set_option linter.unusedSimpArgs false
set_option linter.unusedVariables false
attribute [local go_sem high] eqA60
theorem cells_S {W : World} {base g n cap : Nat} {xs : List S60} (h : Kd.R k60 60 W base (fun _ => True) (.slice (some ⟨g, 0, none⟩) n cap) xs) (q : Nat) (hq : q < n) :
    W.cell? ⟨g, q * 4, none⟩ = some (.string (rd_T60 xs q).f0) ∧ W.cell? ⟨g, q * 4 + 1, none⟩ = some (.int .i64 (rd_T60 xs q).f1) ∧ W.cell? ⟨g, q * 4 + 2, none⟩ = some (.int .i64 (rd_T60 xs q).f2) ∧ W.cell? ⟨g, q * 4 + 3, none⟩ = some (.int .i64 (rd_T60 xs q).f3) ∧
    ∀ j, W.frozen? ⟨g, q * 4 + j, none⟩ = false := by
  obtain ⟨c, _, hM, hcc, hf⟩ := Kd.R_elem h z60 (q : Int) (by omega) (by omega)
  have hc := k60_openM hM
  rw [Int.toNat_natCast, show k60.sz = 4 from rfl] at hcc hf
  rw [Int.toNat_natCast] at hc
  unfold rd_T60
  rw [Int.toNat_natCast]
  refine ⟨?_, ?_, ?_, ?_, hf⟩
  · simpa using hcc 0 _ (by rw [hc]; rfl)
  · exact hcc 1 _ (by rw [hc]; rfl)
  · exact hcc 2 _ (by rw [hc]; rfl)
  · exact hcc 3 _ (by rw [hc]; rfl)
end Go.Proofs.YtloflodbcdlmpaaDoor.Free
namespace Go.Proofs.YtloflodbcdlmpaaDoor.Ps
open Go.RowKit Go.Proofs.YtloflodbcdlmpaaDoor.Qall Go.Proofs.YtloflodbcdlmpaaDoor.Free Go.Proofs.YtloflodbcdlmpaaDoorW.PrintWords Go.Proofs.YtloflodbcdlmpaaDoorW.PrintLast Go.Proofs.YtloflodbcdlmpaaDoorW.PrintMore
set_option linter.unusedSimpArgs false
set_option linter.unusedVariables false
abbrev SC := S60
/-- What the level above lets begin, and end. -/
def lo0 (f : List SC) (way : List Int) (d : Nat) : Int := if 0 < d then (rd_T60 f (rd way ((d : Int) - 1))).f1 else 0
def hiOf (f : List SC) (way : List Int) (d : Nat) : Int := if 0 < d then (rd_T60 f (rd way ((d : Int) - 1))).f2 else 65536
def loOf (f : List SC) (way : List Int) (d : Nat) : Int := if d < way.length then (rd_T60 f (rd way (d : Int))).f2 else lo0 f way d
def kid1 (f : List SC) (i : Int) : List SC := f.set i.toNat ⟨(rd_T60 f i).f0, (rd_T60 f i).f1, (rd_T60 f i).f2, wrap64 ((rd_T60 f i).f3 + 1)⟩
def kidOf (f : List SC) (way : List Int) (d : Nat) : List SC := if 0 < d then kid1 f (rd way ((d : Int) - 1)) else f
/-- A node put behind the others, on level d. -/
def putAns (f : List SC) (way : List Int) (d : Nat) (c : SC) : Option (List SC × List Int) :=
  if way.length < d ∨ 1048576 ≤ f.length ∨ c.f2 < c.f1 then none
  else if c.f1 < loOf f way d ∨ hiOf f way d < c.f2 then none
  else some (kidOf f way d ++ [c], way.take d ++ [(f.length : Int)])
/-- A grower: two lists of one's own behind a pointer. -/
def Gr (W : World) (base g : Nat) (f : List SC) (way : List Int) : Prop :=
  ∃ v1 v2, W.heap[g]? = some (.cells #[v1, v2] 149 (0, 0)) ∧ base ≤ g ∧ Kd.R k60 60 W base (fun _ => True) v1 f ∧ Kd.R (Kd.int .i64) 3 W base (fun _ => True) v2 way
structure PW (w W : World) (base g gb : Nat) (v1 v2 : Value) (f : List SC) (way : List Int) (c : SC) : Prop where
  hg : W.heap[g]? = some (.cells #[v1, v2] 149 (0, 0))
  hgb : W.heap[gb]? = some (.cells #[.string c.f0, .int .i64 c.f1, .int .i64 c.f2, .int .i64 c.f3] 60 (0, 0))
  hf : Kd.R k60 60 W base (fun k => k ≠ gb) v1 f
  hw : Kd.R (Kd.int .i64) 3 W base (fun _ => True) v2 way
  hb : Below base w W
  hbg : base ≤ g
  hbb : base ≤ w.heap.size
  hwg : w.heap.size ≤ gb
section
variable {w W W' : World} {base g gb : Nat} {v1 v2 : Value} {f : List SC} {way : List Int} {c : SC}
theorem lt_of_some {W : World} {g : Nat} {o : Obj} (h : W.heap[g]? = some o) : g < W.heap.size := (Array.getElem?_eq_some_iff.1 h).1
theorem PW.below (h : PW w W base g gb v1 v2 f way c) (hb : Below W.heap.size W W') : PW w W' base g gb v1 v2 f way c :=
  ⟨(hb.block g (lt_of_some h.hg)).trans h.hg, (hb.block gb (lt_of_some h.hgb)).trans h.hgb, Kd.R_below h.hf hb, Kd.R_below h.hw hb, h.hb.trans (hb.mono (by have := lt_of_some h.hg; have := h.hbg; omega)), h.hbg, h.hbb, h.hwg⟩
theorem PW.drew (h : PW w W base g gb v1 v2 f way c) : PW w W.drew base g gb v1 v2 f way c := h.below (Below.refl _ W).drew
theorem PW.c0 (h : PW w W base g gb v1 v2 f way c) : W.cell? ⟨g, 0, none⟩ = some v1 := (blk_cell h.hg 0).trans rfl
theorem PW.c1 (h : PW w W base g gb v1 v2 f way c) : W.cell? ⟨g, 1, none⟩ = some v2 := (blk_cell h.hg 1).trans rfl
theorem PW.b0 (h : PW w W base g gb v1 v2 f way c) : W.cell? ⟨gb, 0, none⟩ = some (.string c.f0) := (blk_cell h.hgb 0).trans rfl
theorem PW.b1 (h : PW w W base g gb v1 v2 f way c) : W.cell? ⟨gb, 1, none⟩ = some (.int .i64 c.f1) := (blk_cell h.hgb 1).trans rfl
theorem PW.b2 (h : PW w W base g gb v1 v2 f way c) : W.cell? ⟨gb, 2, none⟩ = some (.int .i64 c.f2) := (blk_cell h.hgb 2).trans rfl
theorem PW.b3 (h : PW w W base g gb v1 v2 f way c) : W.cell? ⟨gb, 3, none⟩ = some (.int .i64 c.f3) := (blk_cell h.hgb 3).trans rfl
theorem PW.wayc {b2 n2 k2 : Nat} (h : PW w W base g gb v1 (.slice (some ⟨b2, 0, none⟩) n2 k2) f way c) (j : Nat) (hj : j < way.length) : W.cell? ⟨b2, j, none⟩ = some (.int .i64 (rd way (j : Int))) := by
  obtain ⟨hn, _, hC⟩ := Kd.R_reads' h.hw
  obtain ⟨ad, e, hc⟩ := Kd.at_int hC (j : Int) (by omega) (by omega)
  cases e
  rw [Int.toNat_natCast, add_plain] at hc
  exact hc
theorem PW.node {b1 n1 k1 : Nat} (h : PW w W base g gb (.slice (some ⟨b1, 0, none⟩) n1 k1) v2 f way c) (q : Nat) (hq : q < f.length) :
    W.cell? ⟨b1, q * 4, none⟩ = some (.string (rd_T60 f q).f0) ∧ W.cell? ⟨b1, q * 4 + 1, none⟩ = some (.int .i64 (rd_T60 f q).f1) ∧ W.cell? ⟨b1, q * 4 + 2, none⟩ = some (.int .i64 (rd_T60 f q).f2) ∧ W.cell? ⟨b1, q * 4 + 3, none⟩ = some (.int .i64 (rd_T60 f q).f3) ∧
    ∀ j, W.frozen? ⟨b1, q * 4 + j, none⟩ = false := by
  obtain ⟨hn, _, hC⟩ := Kd.R_reads' h.hf
  exact cells_S (Kd.R_mono h.hf (fun _ _ => trivial)) q (by omega)
/-- A node has a kid more. -/
theorem PW.kid {b1 n1 k1 : Nat} (h : PW w W base g gb (.slice (some ⟨b1, 0, none⟩) n1 k1) v2 f way c) (q : Nat) (hq : q < f.length) :
    PW w (W.setCell ⟨b1, q * 4 + 3, none⟩ (.int .i64 (wrap64 ((rd_T60 f q).f3 + 1)))) base g gb (.slice (some ⟨b1, 0, none⟩) n1 k1) v2 (kid1 f q) way c := by
  obtain ⟨hn, _, _⟩ := Kd.R_reads' h.hf
  obtain ⟨cs, hcl, hM, hcc, _⟩ := Kd.R_elem h.hf z60 (q : Int) (by omega) (by omega)
  obtain rfl := k60_openM hM
  have hs := Kd.R_seg (okp := fun _ => False) h.hf (q : Int) (by omega) (by omega) (seg := [.int .i64 (wrap64 ((rd_T60 f q).f3 + 1))]) (j := 3) hcl hcc (show 4 ≤ 4 from by decide) (x' := (⟨(rd_T60 f q).f0, (rd_T60 f q).f1, (rd_T60 f q).f2, wrap64 ((rd_T60 f q).f3 + 1)⟩ : SC)) (k60_mkM _ _ _ _) (fun _ hk => hk.elim)
  obtain ⟨hR, hG⟩ := hs
  change Kd.R k60 60 (W.setCell ⟨b1, q * 4 + 3, none⟩ (.int .i64 (wrap64 ((rd_T60 f q).f3 + 1)))) base (fun k => k ≠ gb) _ (kid1 f q) at hR
  change W.grownBy (W.setCell ⟨b1, q * 4 + 3, none⟩ (.int .i64 (wrap64 ((rd_T60 f q).f3 + 1)))) (some b1) at hG
  have hne : g ≠ b1 := fun e => Kd.R_ne h.hf h.hg (by decide) (by rw [e]; rfl)
  obtain ⟨hok, _⟩ := h.hf
  obtain ⟨inner, hown⟩ := Kd.R_own h.hf
  have hne2 : gb ≠ b1 := fun e => hok b1 rfl e.symm
  refine ⟨blk_grown h.hg hG (fun e => hne (Option.some.inj e)), blk_grown h.hgb hG (fun e => hne2 (Option.some.inj e)), hR, Kd.R_over' (v := .slice (some ⟨b1, 0, none⟩) n1 k1) h.hw (Kd.R_typed h.hf) (by decide) hG, ?_, h.hbg, h.hbb, h.hwg⟩
  exact h.hb.setCell (p := ⟨b1, q * 4 + 3, none⟩) (own_base hown b1 rfl) _
/-- The levels are written anew. -/
theorem PW.push2 (h : PW w W base g gb v1 v2 f way c) {v3 : Value} {w1 : World} {way' : List Int} (hR : Kd.R (Kd.int .i64) 3 w1 base (fun _ => True) v3 way') (hb : Below base w w1) (hg : W.grownBy w1 v2.ownBlock) :
    PW w (w1.setCell ⟨g, 1, none⟩ v3) base g gb v1 v3 f way' c := by
  have h1 := blk_grown h.hg hg (Kd.R_ne h.hw h.hg (by decide))
  have h2 := blk_grown h.hgb hg (Kd.R_ne h.hw h.hgb (by decide))
  have h3 := Kd.R_over' (v := v2) h.hf (Kd.R_typed h.hw) (by decide) hg
  have hne : gb ≠ g := fun e => by have h4 := h.hgb; rw [e, h.hg] at h4; simp at h4
  exact ⟨blk_put h1 1 v3 rfl, (Below.heap_setCell w1 ⟨g, 1, none⟩ v3 gb hne).trans h2, Kd.R_set h3 h1 (by decide) 1 v3, Kd.R_set hR h1 (by decide) 1 v3, hb.setCell (p := ⟨g, 1, none⟩) h.hbg v3, h.hbg, h.hbb, h.hwg⟩
/-- The nodes are written anew: that is the end. -/
theorem PW.push1 (h : PW w W base g gb v1 v2 f way c) {v3 : Value} {w1 : World} {f' : List SC} (hR : Kd.R k60 60 w1 base (fun k => k ≠ gb) v3 f') (hb : Below base w w1) (hg : W.grownBy w1 v1.ownBlock) :
    Gr (w1.setCell ⟨g, 0, none⟩ v3) base g f' way ∧ Below base w (w1.setCell ⟨g, 0, none⟩ v3) := by
  have h1 := blk_grown h.hg hg (Kd.R_ne h.hf h.hg (by decide))
  have h3 := Kd.R_over' (v := v1) h.hw (Kd.R_typed h.hf) (by decide) hg
  exact ⟨⟨v3, v2, blk_put h1 0 v3 rfl, h.hbg, Kd.R_set (Kd.R_mono hR (fun _ _ => trivial)) h1 (by decide) 0 v3, Kd.R_set h3 h1 (by decide) 0 v3⟩, hb.setCell (p := ⟨g, 0, none⟩) h.hbg v3⟩
end
theorem kidOf_length (f : List SC) (way : List Int) (d : Nat) : (kidOf f way d).length = f.length := by unfold kidOf; split <;> simp [kid1]
set_option maxRecDepth 100000 in
set_option maxHeartbeats 4000000 in
theorem put_calls (f : List SC) (way : List Int) (d : Nat) (c : SC) (base g : Nat) (w : World) (hG : Gr w base g f way) (hwl : way.length ≤ f.length) (hfl : f.length ≤ 1048576) (hway : ∀ x ∈ way, 0 ≤ x ∧ x < (f.length : Int)) (hd63 : d ≤ 4194304) :
    Calls Tryd.prog 98 #[.pointer (some ⟨g, 0, none⟩), .int .i64 (d : Int), .agg #[.string c.f0, .int .i64 c.f1, .int .i64 c.f2, .int .i64 c.f3]] w fun e w' => e = .returned (.bool (putAns f way d c).isSome) ∧ (∀ f' way', putAns f way d c = some (f', way') → Gr w' base g f' way') ∧ Below base w w' := by
  obtain ⟨v1, v2, hg, hbg, h1, h2⟩ := hG
  have hgl := lt_of_some hg
  have hbase : base ≤ w.heap.size := by omega
  obtain ⟨A1, k1, rfl⟩ := Kd.R_slice h1
  obtain ⟨A2, k2, rfl⟩ := Kd.R_slice h2
  have hu := Tryd.underlying60
  by_cases e1 : way.length < d
  · have hans : putAns f way d c = none := by unfold putAns; rw [if_pos (.inl e1)]
    rw [hans]
    have p1 : decide ((way.length : Int) < (d : Int)) = true := decide_eq_true (by omega)
    go_enter Tryd.func98, Tryd.ntmps98
    go_wp2_with ((with_reducible refine gate_dst (N := 5) rfl ?_); (try (refine gate_guard (by rfl) ?_; dsimp only)); refine box_event ?hg (N := 5) ?hd (cs := #[.string c.f0, .int .i64 c.f1, .int .i64 c.f2, .int .i64 c.f3]) (t := 60) ?hr ?_; (case hd => rfl); (case hg => rfl); (case hr => first | (go_simp; done) | (go_simp; rfl)); intro gb hgbe w3 hbox hb0; have HP := PW.mk ((hb0.block g (lt_of_some hg)).trans hg) hbox (Kd.R_below (Kd.R_mono (Kd.R_bound h1) (fun k hk => by have := hk.2.2.1; omega)) hb0) (Kd.R_below h2 hb0) (hb0.mono hbase) hbg hbase (Nat.le_of_eq hgbe.symm); have c0 := HP.c0; have c1 := HP.c1; have b0 := HP.b0; have b1 := HP.b1; have b2 := HP.b2; have b3 := HP.b3; clear hgbe hbox hb0)
    go_ret
    exact ⟨rfl, fun _ _ h => (by cases h), HP.hb⟩
  have p1 : decide ((way.length : Int) < (d : Int)) = false := decide_eq_false (by omega)
  by_cases e2 : 1048576 ≤ f.length
  · have hans : putAns f way d c = none := by unfold putAns; rw [if_pos (.inr (.inl e2))]
    rw [hans]
    have p2 : decide (1048576 ≤ (f.length : Int)) = true := decide_eq_true (by omega)
    go_enter Tryd.func98, Tryd.ntmps98
    go_wp2_with ((with_reducible refine gate_dst (N := 5) rfl ?_); (try (refine gate_guard (by rfl) ?_; dsimp only)); refine box_event ?hg (N := 5) ?hd (cs := #[.string c.f0, .int .i64 c.f1, .int .i64 c.f2, .int .i64 c.f3]) (t := 60) ?hr ?_; (case hd => rfl); (case hg => rfl); (case hr => first | (go_simp; done) | (go_simp; rfl)); intro gb hgbe w3 hbox hb0; have HP := PW.mk ((hb0.block g (lt_of_some hg)).trans hg) hbox (Kd.R_below (Kd.R_mono (Kd.R_bound h1) (fun k hk => by have := hk.2.2.1; omega)) hb0) (Kd.R_below h2 hb0) (hb0.mono hbase) hbg hbase (Nat.le_of_eq hgbe.symm); have c0 := HP.c0; have c1 := HP.c1; have b0 := HP.b0; have b1 := HP.b1; have b2 := HP.b2; have b3 := HP.b3; clear hgbe hbox hb0)
    go_ret
    exact ⟨rfl, fun _ _ h => (by cases h), HP.hb⟩
  have p2 : decide (1048576 ≤ (f.length : Int)) = false := decide_eq_false (by omega)
  by_cases e3 : c.f2 < c.f1
  · have hans : putAns f way d c = none := by unfold putAns; rw [if_pos (.inr (.inr e3))]
    rw [hans]
    have p3 : decide (c.f2 < c.f1) = true := decide_eq_true e3
    go_enter Tryd.func98, Tryd.ntmps98
    go_wp2_with ((with_reducible refine gate_dst (N := 5) rfl ?_); (try (refine gate_guard (by rfl) ?_; dsimp only)); refine box_event ?hg (N := 5) ?hd (cs := #[.string c.f0, .int .i64 c.f1, .int .i64 c.f2, .int .i64 c.f3]) (t := 60) ?hr ?_; (case hd => rfl); (case hg => rfl); (case hr => first | (go_simp; done) | (go_simp; rfl)); intro gb hgbe w3 hbox hb0; have HP := PW.mk ((hb0.block g (lt_of_some hg)).trans hg) hbox (Kd.R_below (Kd.R_mono (Kd.R_bound h1) (fun k hk => by have := hk.2.2.1; omega)) hb0) (Kd.R_below h2 hb0) (hb0.mono hbase) hbg hbase (Nat.le_of_eq hgbe.symm); have c0 := HP.c0; have c1 := HP.c1; have b0 := HP.b0; have b1 := HP.b1; have b2 := HP.b2; have b3 := HP.b3; clear hgbe hbox hb0)
    go_ret
    exact ⟨rfl, fun _ _ h => (by cases h), HP.hb⟩
  have p3 : decide (c.f2 < c.f1) = false := decide_eq_false e3
  have hans : putAns f way d c = if c.f1 < loOf f way d ∨ hiOf f way d < c.f2 then none else some (kidOf f way d ++ [c], way.take d ++ [(f.length : Int)]) := by unfold putAns; rw [if_neg (by omega)]
  rw [hans]
  clear hans
  obtain ⟨ans, hans⟩ : ∃ a, (if c.f1 < loOf f way d ∨ hiOf f way d < c.f2 then none else some (kidOf f way d ++ [c], way.take d ++ [(f.length : Int)])) = a := ⟨_, rfl⟩
  rw [hans]
  have HANS := Aside0.mk hans
  clear hans
  have HW := Aside0.mk hway
  clear hway
  go_enter Tryd.func98, Tryd.ntmps98
  go_upto_if 33 with ((with_reducible refine gate_dst (N := 5) rfl ?_); (try (refine gate_guard (by rfl) ?_; dsimp only)); refine box_event ?hg (N := 5) ?hd (cs := #[.string c.f0, .int .i64 c.f1, .int .i64 c.f2, .int .i64 c.f3]) (t := 60) ?hr ?_; (case hd => rfl); (case hg => rfl); (case hr => first | (go_simp; done) | (go_simp; rfl)); intro gb hgbe w3 hbox hb0; have HP := PW.mk ((hb0.block g (lt_of_some hg)).trans hg) hbox (Kd.R_below (Kd.R_mono (Kd.R_bound h1) (fun k hk => by have := hk.2.2.1; omega)) hb0) (Kd.R_below h2 hb0) (hb0.mono hbase) hbg hbase (Nat.le_of_eq hgbe.symm); have c0 := HP.c0; have c1 := HP.c1; have b0 := HP.b0; have b1 := HP.b1; have b2 := HP.b2; have b3 := HP.b3; clear hgbe hbox hb0)
  have HPA := Aside0.mk HP
  clear HP b0 b1 b2 b3 hg h1 h2 p1 p2 p3 e3
  go_cut [7, 8] (fun v7 v8 wc => v7 = .int .i64 (lo0 f way d) ∧ v8 = .int .i64 (hiOf f way d) ∧ Aside0 (PW w wc base g gb (.slice A1 f.length k1) (.slice A2 way.length k2) f way c))
  case first =>
    by_cases hd : 0 < d
    · obtain ⟨j, hjd⟩ : ∃ j, d = j + 1 := ⟨d - 1, by omega⟩
      have hj : j < way.length := by omega
      have hwm := HW.out (rd way (j : Int)) (by unfold rd; rw [Int.toNat_natCast, List.getD_eq_getElem?_getD, List.getElem?_eq_getElem hj]; exact List.getElem_mem _)
      obtain ⟨q, hq⟩ : ∃ q : Nat, rd way (j : Int) = (q : Int) := ⟨(rd way (j : Int)).toNat, by omega⟩
      have hqf : q < f.length := by omega
      have hdj : (d : Int) - 1 = (j : Int) := by omega
      have elo : lo0 f way d = (rd_T60 f (q : Int)).f1 := by unfold lo0; rw [if_pos hd, hdj, hq]
      have ehi : hiOf f way d = (rd_T60 f (q : Int)).f2 := by unfold hiOf; rw [if_pos hd, hdj, hq]
      obtain ⟨g1, k1', ev1, _, hg1l, _⟩ := Kd.R_form HPA.out.hf (by omega)
      obtain ⟨g2, k2', ev2, _, hg2l, _⟩ := Kd.R_form HPA.out.hw (by omega)
      injection ev1 with ev1 _ _
      injection ev2 with ev2 _ _
      subst ev1 ev2
      have y0 := HPA.out.wayc j hj
      rw [hq] at y0
      obtain ⟨z0, z1, z2, z3, _⟩ := HPA.out.node q hqf
      obtain ⟨x, hx⟩ : ∃ x, rd_T60 f (q : Int) = x := ⟨_, rfl⟩
      rw [hx] at z0 z1 z2 z3 elo ehi
      have i1 : (0 : Int) ≤ (j : Int) := by omega
      have i2 : (j : Int) < (way.length : Int) := by omega
      have i3 : (0 : Int) ≤ (q : Int) := by omega
      have i4 : (q : Int) < (f.length : Int) := by omega
      have i5 : (0 : Int) < (d : Int) := by omega
      have i6 : IntKind.i64.wrap ((d : Int) - 1) = (j : Int) := by rw [i64_w, hdj]; unfold wrap64; omega
      have i7 : decide (0 < (d : Int)) = true := decide_eq_true i5
      have i8 : (0 < d) = True := eq_true hd
      have c0 := HPA.out.c0
      have c1 := HPA.out.c1
      have ELO := Aside0.mk (And.intro elo ehi)
      clear hjd hdj e1 elo ehi hwm hq
      go_wp2
      go_region_held3 (fun w' => w'.cell? ⟨g, 0, none⟩ = some (.slice (some ⟨g1, 0, none⟩) f.length k1) ∧ w'.cell? ⟨g, 1, none⟩ = some (.slice (some ⟨g2, 0, none⟩) way.length k2) ∧ w'.cell? ⟨g2, j, none⟩ = some (.int .i64 (q : Int)) ∧ w'.cell? ⟨g1, q * 4, none⟩ = some (.string x.f0) ∧ w'.cell? ⟨g1, q * 4 + 1, none⟩ = some (.int .i64 x.f1) ∧ w'.cell? ⟨g1, q * 4 + 2, none⟩ = some (.int .i64 x.f2) ∧ w'.cell? ⟨g1, q * 4 + 3, none⟩ = some (.int .i64 x.f3)) (first | go_keep | (go_simp; done) | (simp; done)) (fail)
      go_wp2
      have n1 : ((w3.alloc (.cells #[.string x.f0, .int .i64 x.f1, .int .i64 x.f2, .int .i64 x.f3] 60)).drew).cell? ⟨w3.heap.size, 1, none⟩ = some (.int .i64 x.f1) := (blk_cell (blk_drewN (blk_new w3 _) 1) 1).trans rfl
      have n2 : ((w3.alloc (.cells #[.string x.f0, .int .i64 x.f1, .int .i64 x.f2, .int .i64 x.f3] 60)).drew).cell? ⟨w3.heap.size, 2, none⟩ = some (.int .i64 x.f2) := (blk_cell (blk_drewN (blk_new w3 _) 1) 2).trans rfl
      go_region_held3 (fun w' => w'.cell? ⟨w3.heap.size, 1, none⟩ = some (.int .i64 x.f1) ∧ w'.cell? ⟨w3.heap.size, 2, none⟩ = some (.int .i64 x.f2)) (first | go_keep | (go_simp; done) | (simp; done)) (fail)
      go_wp2
      go_meet
      case rel => exact ⟨by rw [ELO.out.1], by rw [ELO.out.2], ⟨HPA.out.below (by repeat (first | exact Below.refl _ _ | apply below_alloc | apply pw_below_drewN | apply below_drew1))⟩⟩
    · obtain rfl : d = 0 := by omega
      go_wp2
      go_meet
      case rel => exact ⟨rfl, rfl, HPA⟩
  case rest =>
    obtain ⟨rfl, rfl, HPA⟩ := hcut
    have c0 := HPA.out.c0
    have c1 := HPA.out.c1
    obtain ⟨l0, hl0⟩ : ∃ x, lo0 f way d = x := ⟨_, rfl⟩
    obtain ⟨hi, hhi⟩ : ∃ x, hiOf f way d = x := ⟨_, rfl⟩
    rw [hl0, hhi]
    have HL0 := Aside0.mk hl0
    clear hl0
    go_upto_if 58 with (fail)
    clear c0 c1
    go_cut [7] (fun v7 wc => v7 = .int .i64 (loOf f way d) ∧ Aside0 (PW w wc base g gb (.slice A1 f.length k1) (.slice A2 way.length k2) f way c))
    case first =>
      by_cases hd : d < way.length
      · have hwm := HW.out (rd way (d : Int)) (by unfold rd; rw [Int.toNat_natCast, List.getD_eq_getElem?_getD, List.getElem?_eq_getElem hd]; exact List.getElem_mem _)
        obtain ⟨q, hq⟩ : ∃ q : Nat, rd way (d : Int) = (q : Int) := ⟨(rd way (d : Int)).toNat, by omega⟩
        have hqf : q < f.length := by omega
        have elo : loOf f way d = (rd_T60 f (q : Int)).f2 := by unfold loOf; rw [if_pos hd, hq]
        obtain ⟨g1, k1', ev1, _, hg1l, _⟩ := Kd.R_form HPA.out.hf (by omega)
        obtain ⟨g2, k2', ev2, _, hg2l, _⟩ := Kd.R_form HPA.out.hw (by omega)
        injection ev1 with ev1 _ _
        injection ev2 with ev2 _ _
        subst ev1 ev2
        have y0 := HPA.out.wayc d hd
        rw [hq] at y0
        obtain ⟨z0, z1, z2, z3, _⟩ := HPA.out.node q hqf
        obtain ⟨x, hx⟩ : ∃ x, rd_T60 f (q : Int) = x := ⟨_, rfl⟩
        rw [hx] at z0 z1 z2 z3 elo
        have i1 : (0 : Int) ≤ (d : Int) := by omega
        have i2 : (d : Int) < (way.length : Int) := by omega
        have i3 : (0 : Int) ≤ (q : Int) := by omega
        have i4 : (q : Int) < (f.length : Int) := by omega
        have i7 : decide ((d : Int) < (way.length : Int)) = true := decide_eq_true i2
        have i8 : (d < way.length) = True := eq_true hd
        have c0 := HPA.out.c0
        have c1 := HPA.out.c1
        have ELO := Aside0.mk elo
        clear e1 hd elo hwm hq
        go_wp2
        go_region_held3 (fun w' => w'.cell? ⟨g, 0, none⟩ = some (.slice (some ⟨g1, 0, none⟩) f.length k1) ∧ w'.cell? ⟨g, 1, none⟩ = some (.slice (some ⟨g2, 0, none⟩) way.length k2) ∧ w'.cell? ⟨g2, d, none⟩ = some (.int .i64 (q : Int)) ∧ w'.cell? ⟨g1, q * 4 + 2, none⟩ = some (.int .i64 x.f2)) (first | go_keep | (go_simp; done) | (simp; done)) (fail)
        go_wp2
        go_meet
        case rel => exact ⟨by rw [ELO.out], ⟨HPA.out.below (by repeat (first | exact Below.refl _ _ | apply below_alloc | apply pw_below_drewN | apply below_drew1))⟩⟩
      · have i7 : decide ((d : Int) < (way.length : Int)) = false := decide_eq_false (by omega)
        have i8 : (d < way.length) = False := eq_false hd
        have c0 := HPA.out.c0
        have c1 := HPA.out.c1
        go_wp2
        go_meet
        case rel => exact ⟨by unfold loOf; rw [if_neg hd, HL0.out], HPA⟩
    case rest =>
      clear HPA
      obtain ⟨rfl, HPA⟩ := hcut
      have b0 := HPA.out.b0
      have b1 := HPA.out.b1
      have b2 := HPA.out.b2
      have b3 := HPA.out.b3
      obtain ⟨l1, hl1⟩ : ∃ x, loOf f way d = x := ⟨_, rfl⟩
      rw [hl1]
      have HL1 := Aside0.mk hl1
      have HHI := Aside0.mk hhi
      clear hl1 hhi
      by_cases e4 : c.f1 < l1
      · have p4 : decide (c.f1 < l1) = true := decide_eq_true e4
        obtain rfl : ans = none := by rw [← HANS.out, HL1.out, if_pos (.inl e4)]
        go_wp2
        go_ret
        first | exact ⟨rfl, fun _ _ h => (by cases h), HPA.out.hb⟩ | exact ⟨rfl, HPA.out.hb⟩
      have p4 : decide (c.f1 < l1) = false := decide_eq_false e4
      by_cases e5 : hi < c.f2
      · have p5 : decide (hi < c.f2) = true := decide_eq_true e5
        obtain rfl : ans = none := by rw [← HANS.out, HHI.out, if_pos (.inr e5)]
        go_wp2
        go_ret
        first | exact ⟨rfl, fun _ _ h => (by cases h), HPA.out.hb⟩ | exact ⟨rfl, HPA.out.hb⟩
      have p5 : decide (hi < c.f2) = false := decide_eq_false e5
      obtain rfl : ans = some (kidOf f way d ++ [c], way.take d ++ [(f.length : Int)]) := by rw [← HANS.out, HL1.out, HHI.out, if_neg (by omega)]
      have e4t := eq_false e4
      have e5t := eq_false e5
      go_upto_if 84 with (fail)
      clear b0 b1 b2 b3 p4 p5 e4 e5 e4t e5t HL0 HL1 HHI HANS
      go_cut [] (fun wc => Aside0 (PW w wc base g gb (.slice A1 f.length k1) (.slice A2 way.length k2) (kidOf f way d) way c))
      case first =>
        by_cases hd : 0 < d
        · obtain ⟨j, hjd⟩ : ∃ j, d = j + 1 := ⟨d - 1, by omega⟩
          have hj : j < way.length := by omega
          have hwm := HW.out (rd way (j : Int)) (by unfold rd; rw [Int.toNat_natCast, List.getD_eq_getElem?_getD, List.getElem?_eq_getElem hj]; exact List.getElem_mem _)
          obtain ⟨q, hq⟩ : ∃ q : Nat, rd way (j : Int) = (q : Int) := ⟨(rd way (j : Int)).toNat, by omega⟩
          have hqf : q < f.length := by omega
          have hdj : (d : Int) - 1 = (j : Int) := by omega
          have ekid : kidOf f way d = kid1 f (q : Int) := by unfold kidOf; rw [if_pos hd, hdj, hq]
          obtain ⟨g1, k1', ev1, _, hg1l, _⟩ := Kd.R_form HPA.out.hf (by omega)
          obtain ⟨g2, k2', ev2, _, hg2l, _⟩ := Kd.R_form HPA.out.hw (by omega)
          injection ev1 with ev1 _ _
          injection ev2 with ev2 _ _
          subst ev1 ev2
          have i1 : (0 : Int) ≤ (j : Int) := by omega
          have i2 : (j : Int) < (way.length : Int) := by omega
          have i3 : (0 : Int) ≤ (q : Int) := by omega
          have i4 : (q : Int) < (f.length : Int) := by omega
          have i5 : (0 : Int) < (d : Int) := by omega
          have i6 : IntKind.i64.wrap ((d : Int) - 1) = (j : Int) := by rw [i64_w, hdj]; unfold wrap64; omega
          have i7 : decide (0 < (d : Int)) = true := decide_eq_true i5
          have i8 : (0 < d) = True := eq_true hd
          have EK := Aside0.mk ekid
          have HQ := Aside0.mk hq
          have y0 := HPA.out.wayc j hj
          rw [hq] at y0
          obtain ⟨_, _, _, z3, _⟩ := HPA.out.node q hqf
          have c0 := HPA.out.c0
          have c1 := HPA.out.c1
          obtain ⟨x3, hx3⟩ : ∃ x3, (rd_T60 f (q : Int)).f3 = x3 := ⟨_, rfl⟩
          rw [hx3] at z3
          have HX3 := Aside0.mk hx3
          clear hjd hdj e1 hd hwm hq ekid hx3
          go_wp2
          refine start_ (n := 19) (S := fun w' => w'.cell? ⟨g, 0, none⟩ = some (.slice (some ⟨g1, 0, none⟩) f.length k1) ∧ w'.cell? ⟨g, 1, none⟩ = some (.slice (some ⟨g2, 0, none⟩) way.length k2) ∧ w'.cell? ⟨g2, j, none⟩ = some (.int .i64 (q : Int)) ∧ w'.cell? ⟨g1, q * 4 + 3, none⟩ = some (.int .i64 x3)) (ds := [18]) #[false, false, false, false, false, false, false, false, false, false, false, false, false, false, false, false, false, false, false] (by kernel_rfl) rfl rfl ⟨HPA.out.drew.c0, HPA.out.drew.c1, (by have := HPA.out.drew.wayc j hj; rw [HQ.out] at this; exact this), (by have := (HPA.out.drew.node q hqf).2.2.2.1; rw [HX3.out] at this; exact this)⟩ (fun hHeld => ?_)
          have HD := HPA.out.drew
          generalize wc.drew = wd at HD hHeld ⊢
          clear c0 c1 y0 z3
          refine pure_ (i := 0) (N := (some 85)) (v := ?_) (a' := ?_) #[true, false, false, false, false, false, false, false, false, false, false, false, false, false, false, false, false, false, false] rfl rfl (by kernel_rfl) (fun _ _ _ h => h) (Or.inl ⟨by rfl, ?_⟩) ?_ ?_
          rotate_left
          · intro w'
            skip
            go_simp
            all_goals (with_reducible rfl)
          rotate_left
          · simp only [Act.put, List.setIfInBounds_toArray, List.set_cons_zero, List.set_cons_succ, i64_w, i32_w]
            rfl
          refine pure_ (i := 1) (N := (some 86)) (v := ?_) (a' := ?_) #[true, true, false, false, false, false, false, false, false, false, false, false, false, false, false, false, false, false, false] rfl rfl (by kernel_rfl) (fun _ _ _ h => h) (Or.inl ⟨by rfl, ?_⟩) ?_ ?_
          rotate_left
          · intro w'
            skip
            go_simp
            all_goals (with_reducible rfl)
          rotate_left
          · simp only [Act.put, List.setIfInBounds_toArray, List.set_cons_zero, List.set_cons_succ, i64_w, i32_w]
            rfl
          refine pure_ (i := 2) (N := (some 87)) (v := ?_) (a' := ?_) #[true, true, true, false, false, false, false, false, false, false, false, false, false, false, false, false, false, false, false] rfl rfl (by kernel_rfl) (fun _ _ _ h => h) (Or.inl ⟨by rfl, ?_⟩) ?_ ?_
          rotate_left
          · intro w'
            skip
            go_simp
            all_goals (with_reducible rfl)
          rotate_left
          · simp only [Act.put, List.setIfInBounds_toArray, List.set_cons_zero, List.set_cons_succ, i64_w, i32_w]
            rfl
          refine take_ (i := 3) (N := (some 88)) (v := ?_) (a' := ?_) #[true, true, true, true, false, false, false, false, false, false, false, false, false, false, false, false, false, false, false] rfl rfl (by kernel_rfl) (fun _ _ _ h => h) (Or.inl ⟨by rfl, ?_⟩) hHeld ?_ ?_
          rotate_left
          · rintro w' hS_
            try dsimp only at hS_
            (try obtain ⟨s0_, s1_⟩ := hS_); go_split_ands; go_simp
            all_goals (with_reducible rfl)
          rotate_left
          · simp only [Act.put, List.setIfInBounds_toArray, List.set_cons_zero, List.set_cons_succ, i64_w, i32_w]
            rfl
          refine pure_ (i := 4) (N := (some 89)) (v := ?_) (a' := ?_) #[true, true, true, true, true, false, false, false, false, false, false, false, false, false, false, false, false, false, false] rfl rfl (by kernel_rfl) (fun _ _ _ h => h) (Or.inl ⟨by rfl, ?_⟩) ?_ ?_
          rotate_left
          · intro w'
            skip
            go_simp
            all_goals (with_reducible rfl)
          rotate_left
          · simp only [Act.put, List.setIfInBounds_toArray, List.set_cons_zero, List.set_cons_succ, i64_w, i32_w]
            rfl
          refine pure_ (i := 5) (N := (some 90)) (v := ?_) (a' := ?_) #[true, true, true, true, true, true, false, false, false, false, false, false, false, false, false, false, false, false, false] rfl rfl (by kernel_rfl) (fun _ _ _ h => h) (Or.inl ⟨by rfl, ?_⟩) ?_ ?_
          rotate_left
          · intro w'
            skip
            go_simp
            all_goals (with_reducible rfl)
          rotate_left
          · simp only [Act.put, List.setIfInBounds_toArray, List.set_cons_zero, List.set_cons_succ, i64_w, i32_w]
            rfl
          refine pure_ (i := 6) (N := (some 91)) (v := ?_) (a' := ?_) #[true, true, true, true, true, true, true, false, false, false, false, false, false, false, false, false, false, false, false] rfl rfl (by kernel_rfl) (fun _ _ _ h => h) (Or.inl ⟨by rfl, ?_⟩) ?_ ?_
          rotate_left
          · intro w'
            skip
            go_simp
            all_goals (with_reducible rfl)
          rotate_left
          · simp only [Act.put, List.setIfInBounds_toArray, List.set_cons_zero, List.set_cons_succ, i64_w, i32_w]
            rfl
          refine take_ (i := 7) (N := (some 92)) (v := ?_) (a' := ?_) #[true, true, true, true, true, true, true, true, false, false, false, false, false, false, false, false, false, false, false] rfl rfl (by kernel_rfl) (fun _ _ _ h => h) (Or.inl ⟨by rfl, ?_⟩) hHeld ?_ ?_
          rotate_left
          · rintro w' hS_
            try dsimp only at hS_
            (try obtain ⟨s0_, s1_⟩ := hS_); go_split_ands; go_simp
            all_goals (with_reducible rfl)
          rotate_left
          · simp only [Act.put, List.setIfInBounds_toArray, List.set_cons_zero, List.set_cons_succ, i64_w, i32_w]
            rfl
          refine pure_ (i := 8) (N := (some 93)) (v := ?_) (a' := ?_) #[true, true, true, true, true, true, true, true, true, false, false, false, false, false, false, false, false, false, false] rfl rfl (by kernel_rfl) (fun _ _ _ h => h) (Or.inl ⟨by rfl, ?_⟩) ?_ ?_
          rotate_left
          · intro w'
            skip
            go_simp
            all_goals (with_reducible rfl)
          rotate_left
          · simp only [Act.put, List.setIfInBounds_toArray, List.set_cons_zero, List.set_cons_succ, i64_w, i32_w]
            rfl
          refine pure_ (i := 9) (N := (some 94)) (v := ?_) (a' := ?_) #[true, true, true, true, true, true, true, true, true, true, false, false, false, false, false, false, false, false, false] rfl rfl (by kernel_rfl) (fun _ _ _ h => h) (Or.inl ⟨by rfl, ?_⟩) ?_ ?_
          rotate_left
          · intro w'
            skip
            go_simp
            all_goals (with_reducible rfl)
          rotate_left
          · simp only [Act.put, List.setIfInBounds_toArray, List.set_cons_zero, List.set_cons_succ, i64_w, i32_w]
            rfl
          refine pure_ (i := 10) (N := (some 95)) (v := ?_) (a' := ?_) #[true, true, true, true, true, true, true, true, true, true, true, false, false, false, false, false, false, false, false] rfl rfl (by kernel_rfl) (fun _ _ _ h => h) (Or.inl ⟨by rfl, ?_⟩) ?_ ?_
          rotate_left
          · intro w'
            skip
            go_simp
            all_goals (with_reducible rfl)
          rotate_left
          · simp only [Act.put, List.setIfInBounds_toArray, List.set_cons_zero, List.set_cons_succ, i64_w, i32_w]
            rfl
          refine take_ (i := 11) (N := (some 96)) (v := ?_) (a' := ?_) #[true, true, true, true, true, true, true, true, true, true, true, true, false, false, false, false, false, false, false] rfl rfl (by kernel_rfl) (fun _ _ _ h => h) (Or.inl ⟨by rfl, ?_⟩) hHeld ?_ ?_
          rotate_left
          · rintro w' hS_
            try dsimp only at hS_
            (try obtain ⟨s0_, s1_⟩ := hS_); go_split_ands; go_simp
            all_goals (with_reducible rfl)
          rotate_left
          · simp only [Act.put, List.setIfInBounds_toArray, List.set_cons_zero, List.set_cons_succ, i64_w, i32_w]
            rfl
          refine pure_ (i := 12) (N := (some 97)) (v := ?_) (a' := ?_) #[true, true, true, true, true, true, true, true, true, true, true, true, true, false, false, false, false, false, false] rfl rfl (by kernel_rfl) (fun _ _ _ h => h) (Or.inl ⟨by rfl, ?_⟩) ?_ ?_
          rotate_left
          · intro w'
            skip
            go_simp
            all_goals (with_reducible rfl)
          rotate_left
          · simp only [Act.put, List.setIfInBounds_toArray, List.set_cons_zero, List.set_cons_succ, i64_w, i32_w]
            rfl
          refine pure_ (i := 13) (N := (some 98)) (v := ?_) (a' := ?_) #[true, true, true, true, true, true, true, true, true, true, true, true, true, true, false, false, false, false, false] rfl rfl (by kernel_rfl) (fun _ _ _ h => h) (Or.inl ⟨by rfl, ?_⟩) ?_ ?_
          rotate_left
          · intro w'
            skip
            go_simp
            all_goals (with_reducible rfl)
          rotate_left
          · simp only [Act.put, List.setIfInBounds_toArray, List.set_cons_zero, List.set_cons_succ, i64_w, i32_w]
            rfl
          refine take_ (i := 14) (N := (some 99)) (v := ?_) (a' := ?_) #[true, true, true, true, true, true, true, true, true, true, true, true, true, true, true, false, false, false, false] rfl rfl (by kernel_rfl) (fun _ _ _ h => h) (Or.inl ⟨by rfl, ?_⟩) hHeld ?_ ?_
          rotate_left
          · rintro w' hS_
            try dsimp only at hS_
            (try obtain ⟨s0_, s1_⟩ := hS_); go_split_ands; go_simp
            all_goals (with_reducible rfl)
          rotate_left
          · simp only [Act.put, List.setIfInBounds_toArray, List.set_cons_zero, List.set_cons_succ, i64_w, i32_w]
            rfl
          refine pure_ (i := 15) (N := (some 100)) (v := ?_) (a' := ?_) #[true, true, true, true, true, true, true, true, true, true, true, true, true, true, true, true, false, false, false] rfl rfl (by kernel_rfl) (fun _ _ _ h => h) (Or.inl ⟨by rfl, ?_⟩) ?_ ?_
          rotate_left
          · intro w'
            skip
            go_simp
            all_goals (with_reducible rfl)
          rotate_left
          · simp only [Act.put, List.setIfInBounds_toArray, List.set_cons_zero, List.set_cons_succ, i64_w, i32_w]
            rfl
          refine pure_ (i := 16) (N := (some 101)) (v := ?_) (a' := ?_) #[true, true, true, true, true, true, true, true, true, true, true, true, true, true, true, true, true, false, false] rfl rfl (by kernel_rfl) (fun _ _ _ h => h) (Or.inl ⟨by rfl, ?_⟩) ?_ ?_
          rotate_left
          · intro w'
            skip
            go_simp
            all_goals (with_reducible rfl)
          rotate_left
          · simp only [Act.put, List.setIfInBounds_toArray, List.set_cons_zero, List.set_cons_succ, i64_w, i32_w]
            rfl
          refine pure_ (i := 17) (N := (some 102)) (v := ?_) (a' := ?_) #[true, true, true, true, true, true, true, true, true, true, true, true, true, true, true, true, true, true, false] rfl rfl (by kernel_rfl) (fun _ _ _ h => h) (Or.inl ⟨by rfl, ?_⟩) ?_ ?_
          rotate_left
          · intro w'
            skip
            go_simp
            all_goals (with_reducible rfl)
          rotate_left
          · simp only [Act.put, List.setIfInBounds_toArray, List.set_cons_zero, List.set_cons_succ, i64_w, i32_w]
            rfl
          refine last_ (i := 18) (N := none) #[true, true, true, true, true, true, true, true, true, true, true, true, true, true, true, true, true, true, true] rfl rfl (by kernel_rfl) (by decide) (fun K hK => ?_)
          have x1 : wd.cell? ⟨g1, q * 4 + 3, none⟩ = some (.int .i64 x3) := hHeld.2.2.2
          have f1 : wd.frozen? ⟨g1, q * 4 + 3, none⟩ = false := (HD.node q hqf).2.2.2.2 3
          refine skip_ (w1 := ?_) (by rfl) rfl ?_ ?_
          rotate_left
          · go_simp
            rfl
          refine hK.out _ _ ?_
          clear hK K
          refine done_ (by kernel_rfl) ?_
          have HK := HD.kid q hqf
          rw [HX3.out] at HK
          go_wp2
          go_meet
          case rel => exact ⟨by rw [EK.out]; exact HK⟩
        · obtain rfl : d = 0 := by omega
          go_wp2
          go_meet
          case rel => exact HPA
      case rest =>
        have HPC := hcut
        have hcd : (d : Int) ≤ (way.length : Int) := by omega
        obtain ⟨i0, hi0, _, hsz0, _⟩ := info_parts info3
        have hcut2 := cut_to (P := Tryd.prog) 78 3 .i64 Tryd.underlying78 hi0 A2 way.length k2 (d : Int) (by omega) hcd (Kd.R_reads' HPC.out.hw).2.1
        rw [Int.toNat_natCast] at hcut2
        have hl := kidOf_length f way d
        obtain ⟨f2, hf2⟩ : ∃ x, kidOf f way d = x := ⟨_, rfl⟩
        rw [hf2] at HPC hl
        have HF2 := Aside0.mk hf2
        clear hf2
        go_wp2
        refine start_ (n := 17) (S := fun w' => w'.cell? ⟨g, 0, none⟩ = some (.slice A1 f.length k1) ∧ w'.cell? ⟨g, 1, none⟩ = some (.slice A2 way.length k2)) (ds := [13, 16]) #[false, false, false, false, false, false, false, false, false, false, false, false, false, false, false, false, false] (by kernel_rfl) rfl rfl ⟨HPC.out.drew.c0, HPC.out.drew.c1⟩ (fun hHeld => ?_)
        have HD := HPC.out.drew
        generalize wc.drew = wd at HD hHeld ⊢
        refine pure_ (i := 0) (N := (some 103)) (v := ?_) (a' := ?_) #[true, false, false, false, false, false, false, false, false, false, false, false, false, false, false, false, false] rfl rfl (by kernel_rfl) (fun _ _ _ h => h) (Or.inl ⟨by rfl, ?_⟩) ?_ ?_
        rotate_left
        · intro w'
          skip
          go_simp
          all_goals (with_reducible rfl)
        rotate_left
        · simp only [Act.put, List.setIfInBounds_toArray, List.set_cons_zero, List.set_cons_succ, i64_w, i32_w]
          rfl
        refine pure_ (i := 1) (N := (some 104)) (v := ?_) (a' := ?_) #[true, true, false, false, false, false, false, false, false, false, false, false, false, false, false, false, false] rfl rfl (by kernel_rfl) (fun _ _ _ h => h) (Or.inl ⟨by rfl, ?_⟩) ?_ ?_
        rotate_left
        · intro w'
          skip
          go_simp
          all_goals (with_reducible rfl)
        rotate_left
        · simp only [Act.put, List.setIfInBounds_toArray, List.set_cons_zero, List.set_cons_succ, i64_w, i32_w]
          rfl
        refine pure_ (i := 2) (N := (some 105)) (v := ?_) (a' := ?_) #[true, true, true, false, false, false, false, false, false, false, false, false, false, false, false, false, false] rfl rfl (by kernel_rfl) (fun _ _ _ h => h) (Or.inl ⟨by rfl, ?_⟩) ?_ ?_
        rotate_left
        · intro w'
          skip
          go_simp
          all_goals (with_reducible rfl)
        rotate_left
        · simp only [Act.put, List.setIfInBounds_toArray, List.set_cons_zero, List.set_cons_succ, i64_w, i32_w]
          rfl
        refine pure_ (i := 3) (N := (some 106)) (v := ?_) (a' := ?_) #[true, true, true, true, false, false, false, false, false, false, false, false, false, false, false, false, false] rfl rfl (by kernel_rfl) (fun _ _ _ h => h) (Or.inl ⟨by rfl, ?_⟩) ?_ ?_
        rotate_left
        · intro w'
          skip
          go_simp
          all_goals (with_reducible rfl)
        rotate_left
        · simp only [Act.put, List.setIfInBounds_toArray, List.set_cons_zero, List.set_cons_succ, i64_w, i32_w]
          rfl
        refine take_ (i := 4) (N := (some 107)) (v := ?_) (a' := ?_) #[true, true, true, true, true, false, false, false, false, false, false, false, false, false, false, false, false] rfl rfl (by kernel_rfl) (fun _ _ _ h => h) (Or.inl ⟨by rfl, ?_⟩) hHeld ?_ ?_
        rotate_left
        · rintro w' hS_
          try dsimp only at hS_
          (try obtain ⟨s0_, s1_⟩ := hS_); go_split_ands; go_simp
          all_goals (with_reducible rfl)
        rotate_left
        · simp only [Act.put, List.setIfInBounds_toArray, List.set_cons_zero, List.set_cons_succ, i64_w, i32_w]
          rfl
        refine pure_ (i := 5) (N := (some 108)) (v := ?_) (a' := ?_) #[true, true, true, true, true, true, false, false, false, false, false, false, false, false, false, false, false] rfl rfl (by kernel_rfl) (fun _ _ _ h => h) (Or.inl ⟨by rfl, ?_⟩) ?_ ?_
        rotate_left
        · intro w'
          skip
          go_simp
          all_goals (with_reducible rfl)
        rotate_left
        · simp only [Act.put, List.setIfInBounds_toArray, List.set_cons_zero, List.set_cons_succ, i64_w, i32_w]
          rfl
        refine pure_ (i := 6) (N := (some 109)) (v := ?_) (a' := ?_) #[true, true, true, true, true, true, true, false, false, false, false, false, false, false, false, false, false] rfl rfl (by kernel_rfl) (fun _ _ _ h => h) (Or.inl ⟨by rfl, ?_⟩) ?_ ?_
        rotate_left
        · intro w'
          skip
          go_simp
          all_goals (with_reducible rfl)
        rotate_left
        · simp only [Act.put, List.setIfInBounds_toArray, List.set_cons_zero, List.set_cons_succ, i64_w, i32_w]
          rfl
        refine pure_ (i := 7) (N := (some 110)) (v := ?_) (a' := ?_) #[true, true, true, true, true, true, true, true, false, false, false, false, false, false, false, false, false] rfl rfl (by kernel_rfl) (fun _ _ _ h => h) (Or.inl ⟨by rfl, ?_⟩) ?_ ?_
        rotate_left
        · intro w'
          skip
          go_simp
          all_goals (with_reducible rfl)
        rotate_left
        · simp only [Act.put, List.setIfInBounds_toArray, List.set_cons_zero, List.set_cons_succ, i64_w, i32_w]
          rfl
        refine pure_ (i := 8) (N := (some 111)) (v := ?_) (a' := ?_) #[true, true, true, true, true, true, true, true, true, false, false, false, false, false, false, false, false] rfl rfl (by kernel_rfl) (fun _ _ _ h => h) (Or.inl ⟨by rfl, ?_⟩) ?_ ?_
        rotate_left
        · intro w'
          skip
          go_simp
          all_goals (with_reducible rfl)
        rotate_left
        · simp only [Act.put, List.setIfInBounds_toArray, List.set_cons_zero, List.set_cons_succ, i64_w, i32_w]
          rfl
        refine pure_ (i := 9) (N := (some 112)) (v := ?_) (a' := ?_) #[true, true, true, true, true, true, true, true, true, true, false, false, false, false, false, false, false] rfl rfl (by kernel_rfl) (fun _ _ _ h => h) (Or.inl ⟨by rfl, ?_⟩) ?_ ?_
        rotate_left
        · intro w'
          skip
          go_simp
          all_goals (with_reducible rfl)
        rotate_left
        · simp only [Act.put, List.setIfInBounds_toArray, List.set_cons_zero, List.set_cons_succ, i64_w, i32_w]
          rfl
        refine take_ (i := 10) (N := (some 113)) (v := ?_) (a' := ?_) #[true, true, true, true, true, true, true, true, true, true, true, false, false, false, false, false, false] rfl rfl (by kernel_rfl) (fun _ _ _ h => h) (Or.inl ⟨by rfl, ?_⟩) hHeld ?_ ?_
        rotate_left
        · rintro w' hS_
          try dsimp only at hS_
          (try obtain ⟨s0_, s1_⟩ := hS_); go_split_ands; go_simp
          all_goals (with_reducible rfl)
        rotate_left
        · simp only [Act.put, List.setIfInBounds_toArray, List.set_cons_zero, List.set_cons_succ, i64_w, i32_w]
          rfl
        refine pure_ (i := 11) (N := (some 114)) (v := ?_) (a' := ?_) #[true, true, true, true, true, true, true, true, true, true, true, true, false, false, false, false, false] rfl rfl (by kernel_rfl) (fun _ _ _ h => h) (Or.inl ⟨by rfl, ?_⟩) ?_ ?_
        rotate_left
        · intro w'
          skip
          go_simp
          all_goals (with_reducible rfl)
        rotate_left
        · simp only [Act.put, List.setIfInBounds_toArray, List.set_cons_zero, List.set_cons_succ, i64_w, i32_w]
          rfl
        refine one_ (i := 12) (N := (some 115)) #[true, true, true, true, true, true, true, true, true, true, true, true, true, false, false, false, false] rfl rfl (by kernel_rfl) (by decide) (fun K hK => ?_)
        refine value_ (w1 := ?_) (v := ?_) (by rfl) rfl ?_ ?_
        rotate_left 2
        · go_simp
          constructor
          · rfl
          · rfl
        have HA := HD.below ((Below.refl _ wd).alloc (Nat.le_refl _) (.cells #[.int .i64 (f.length : Int)] 3))
        refine hK.out _ _ ⟨HA.c0, HA.c1⟩ (fun hHeld => ?_)
        clear hK K
        refine norm_ (a' := ?_) ?_ ?_
        rotate_left
        · show Act.put _ (some 115) _ = _
          simp only [Act.put, List.setIfInBounds_toArray, List.set_cons_zero, List.set_cons_succ, i64_w, i32_w]
          rfl
        refine last_ (i := 13) (N := (some 116)) #[true, true, true, true, true, true, true, true, true, true, true, true, true, true, false, false, false] rfl rfl (by kernel_rfl) (by decide) (fun K hK => ?_)
        refine Kd.R_append_step (Kd.int .i64) (w0 := w) base (by rfl) (.tmp 109) (.tmp 115) 78 3 (.int .i64 0) 8 rfl Tryd.underlying78 info3 rfl (by decide) (by omega) (.slice A2 d k2) (way.take d) (f.length : Int) [.int .i64 (f.length : Int)] (fun _ => True) (fun _ => False) rfl rfl ?aP (fun _ hk => hk.elim) ?aF ?aO ?aB ?aS ?aL ?_
        (case aP => exact rfl)
        (case aF => exact fun _ _ => trivial)
        (case aO => exact Kd.R_take (m := d) HD.hw (by omega))
        (case aB => exact HD.hb)
        (case aS => exact Nat.le_trans HD.hbb HD.hb.size)
        (case aL => rw [List.length_take]; omega)
        intro v3 w4 ho hb hg hat
        obtain ⟨A3, n3, k3, rfl⟩ : ∃ A n k, v3 = .slice A n k := by obtain ⟨A, k, h⟩ := Kd.R_slice ho; exact ⟨A, _, k, h⟩
        have hg2 : wd.grownBy w4 (.slice A2 way.length k2 : Value).ownBlock := by cases A2 <;> exact hg
        refine hK.out _ _ ?_
        clear hK K
        refine norm_ (a' := ?_) ?_ ?_
        rotate_left
        · show Act.put _ (some 116) _ = _
          simp only [Act.put, List.setIfInBounds_toArray, List.set_cons_zero, List.set_cons_succ, i64_w, i32_w]
          rfl
        refine pure_ (i := 14) (N := (some 117)) (v := ?_) (a' := ?_) #[true, true, true, true, true, true, true, true, true, true, true, true, true, true, true, false, false] rfl rfl (by kernel_rfl) (fun _ _ _ h => h) (Or.inl ⟨by rfl, ?_⟩) ?_ ?_
        rotate_left
        · intro w'
          skip
          go_simp
          all_goals (with_reducible rfl)
        rotate_left
        · simp only [Act.put, List.setIfInBounds_toArray, List.set_cons_zero, List.set_cons_succ, i64_w, i32_w]
          rfl
        refine pure_ (i := 15) (N := (some 118)) (v := ?_) (a' := ?_) #[true, true, true, true, true, true, true, true, true, true, true, true, true, true, true, true, false] rfl rfl (by kernel_rfl) (fun _ _ _ h => h) (Or.inl ⟨by rfl, ?_⟩) ?_ ?_
        rotate_left
        · intro w'
          skip
          go_simp
          all_goals (with_reducible rfl)
        rotate_left
        · simp only [Act.put, List.setIfInBounds_toArray, List.set_cons_zero, List.set_cons_succ, i64_w, i32_w]
          rfl
        refine last_ (i := 16) (N := none) #[true, true, true, true, true, true, true, true, true, true, true, true, true, true, true, true, true] rfl rfl (by kernel_rfl) (by decide) (fun K hK => ?_)
        have h1 := blk_grown HD.hg hg2 (Kd.R_ne HD.hw HD.hg (by decide))
        have x1 : w4.cell? ⟨g, 1, none⟩ = some (.slice A2 way.length k2) := (blk_cell h1 1).trans rfl
        have f1 := blk_frozen h1 1
        refine skip_ (w1 := ?_) (by rfl) rfl ?_ ?_
        rotate_left
        · go_simp
          rfl
        refine hK.out _ _ ?_
        clear hK K
        refine done_ (by kernel_rfl) ?_
        have HE := HD.push2 ho hb hg2
        generalize w4.setCell ⟨g, 1, none⟩ (.slice A3 n3 k3) = w5 at HE ⊢
        clear ho hb hg hg2 hat HD hHeld x1 f1 h1
        go_wp2
        refine start_ (n := 11) (S := fun w' => w'.cell? ⟨g, 0, none⟩ = some (.slice A1 f.length k1) ∧ w'.cell? ⟨gb, 0, none⟩ = some (.string c.f0) ∧ w'.cell? ⟨gb, 1, none⟩ = some (.int .i64 c.f1) ∧ w'.cell? ⟨gb, 2, none⟩ = some (.int .i64 c.f2) ∧ w'.cell? ⟨gb, 3, none⟩ = some (.int .i64 c.f3)) (ds := [7, 10]) #[false, false, false, false, false, false, false, false, false, false, false] (by kernel_rfl) rfl rfl ⟨HE.drew.c0, HE.drew.b0, HE.drew.b1, HE.drew.b2, HE.drew.b3⟩ (fun hHeld => ?_)
        replace HE := HE.drew
        generalize w5.drew = wd at HE hHeld ⊢
        refine pure_ (i := 0) (N := (some 119)) (v := ?_) (a' := ?_) #[true, false, false, false, false, false, false, false, false, false, false] rfl rfl (by kernel_rfl) (fun _ _ _ h => h) (Or.inl ⟨by rfl, ?_⟩) ?_ ?_
        rotate_left
        · intro w'
          skip
          go_simp
          all_goals (with_reducible rfl)
        rotate_left
        · simp only [Act.put, List.setIfInBounds_toArray, List.set_cons_zero, List.set_cons_succ, i64_w, i32_w]
          rfl
        refine pure_ (i := 1) (N := (some 120)) (v := ?_) (a' := ?_) #[true, true, false, false, false, false, false, false, false, false, false] rfl rfl (by kernel_rfl) (fun _ _ _ h => h) (Or.inl ⟨by rfl, ?_⟩) ?_ ?_
        rotate_left
        · intro w'
          skip
          go_simp
          all_goals (with_reducible rfl)
        rotate_left
        · simp only [Act.put, List.setIfInBounds_toArray, List.set_cons_zero, List.set_cons_succ, i64_w, i32_w]
          rfl
        refine pure_ (i := 2) (N := (some 121)) (v := ?_) (a' := ?_) #[true, true, true, false, false, false, false, false, false, false, false] rfl rfl (by kernel_rfl) (fun _ _ _ h => h) (Or.inl ⟨by rfl, ?_⟩) ?_ ?_
        rotate_left
        · intro w'
          skip
          go_simp
          all_goals (with_reducible rfl)
        rotate_left
        · simp only [Act.put, List.setIfInBounds_toArray, List.set_cons_zero, List.set_cons_succ, i64_w, i32_w]
          rfl
        refine pure_ (i := 3) (N := (some 122)) (v := ?_) (a' := ?_) #[true, true, true, true, false, false, false, false, false, false, false] rfl rfl (by kernel_rfl) (fun _ _ _ h => h) (Or.inl ⟨by rfl, ?_⟩) ?_ ?_
        rotate_left
        · intro w'
          skip
          go_simp
          all_goals (with_reducible rfl)
        rotate_left
        · simp only [Act.put, List.setIfInBounds_toArray, List.set_cons_zero, List.set_cons_succ, i64_w, i32_w]
          rfl
        refine take_ (i := 4) (N := (some 123)) (v := ?_) (a' := ?_) #[true, true, true, true, true, false, false, false, false, false, false] rfl rfl (by kernel_rfl) (fun _ _ _ h => h) (Or.inl ⟨by rfl, ?_⟩) hHeld ?_ ?_
        rotate_left
        · rintro w' hS_
          try dsimp only at hS_
          (try obtain ⟨s0_, s1_⟩ := hS_); go_split_ands; go_simp
          all_goals (with_reducible rfl)
        rotate_left
        · simp only [Act.put, List.setIfInBounds_toArray, List.set_cons_zero, List.set_cons_succ, i64_w, i32_w]
          rfl
        refine take_ (i := 5) (N := (some 124)) (v := ?_) (a' := ?_) #[true, true, true, true, true, true, false, false, false, false, false] rfl rfl (by kernel_rfl) (fun _ _ _ h => h) (Or.inl ⟨by rfl, ?_⟩) hHeld ?_ ?_
        rotate_left
        · rintro w' hS_
          try dsimp only at hS_
          (try obtain ⟨s0_, s1_⟩ := hS_); go_split_ands; go_simp
          all_goals (with_reducible rfl)
        rotate_left
        · simp only [Act.put, List.setIfInBounds_toArray, List.set_cons_zero, List.set_cons_succ, i64_w, i32_w]
          rfl
        refine one_ (i := 6) (N := (some 125)) #[true, true, true, true, true, true, true, false, false, false, false] rfl rfl (by kernel_rfl) (by decide) (fun K hK => ?_)
        refine value_ (w1 := ?_) (v := ?_) (by rfl) rfl ?_ ?_
        rotate_left 2
        · go_simp
          constructor
          · rfl
          · rfl
        have HA := HE.below ((Below.refl _ wd).alloc (Nat.le_refl _) (.cells #[.string c.f0, .int .i64 c.f1, .int .i64 c.f2, .int .i64 c.f3] 60))
        refine hK.out _ _ ⟨HA.c0, HA.b0, HA.b1, HA.b2, HA.b3⟩ (fun hHeld => ?_)
        clear hK K
        refine norm_ (a' := ?_) ?_ ?_
        rotate_left
        · show Act.put _ (some 125) _ = _
          simp only [Act.put, List.setIfInBounds_toArray, List.set_cons_zero, List.set_cons_succ, i64_w, i32_w]
          rfl
        refine last_ (i := 7) (N := (some 126)) #[true, true, true, true, true, true, true, true, false, false, false] rfl rfl (by kernel_rfl) (by decide) (fun K hK => ?_)
        refine Kd.R_append_step k60 (w0 := w) base (by rfl) (.tmp 123) (.tmp 125) 22 60 (.agg #[(.string ⟨#[]⟩), (.int .i64 0), (.int .i64 0), (.int .i64 0)]) 40 rfl Tryd.underlying22 info60 rfl (by decide) (by omega) (.slice A1 f.length k1) f2 c [.string c.f0, .int .i64 c.f1, .int .i64 c.f2, .int .i64 c.f3] (fun k => k ≠ gb) (fun _ => False) rfl rfl ?aP (fun _ hk => hk.elim) ?aF ?aO ?aB ?aS ?aL ?_
        (case aP => exact k60_mkM _ _ _ c)
        (case aF => exact fun k hk => by have := lt_of_some HE.hgb; omega)
        (case aO => exact HE.hf)
        (case aB => exact HE.hb)
        (case aS => exact Nat.le_trans HE.hbb HE.hb.size)
        (case aL => omega)
        intro v4 w7 ho hb hg hat
        obtain ⟨A4, n4, k4, rfl⟩ : ∃ A n k, v4 = .slice A n k := by obtain ⟨A, k, h⟩ := Kd.R_slice ho; exact ⟨A, _, k, h⟩
        refine hK.out _ _ ?_
        clear hK K
        refine norm_ (a' := ?_) ?_ ?_
        rotate_left
        · show Act.put _ (some 126) _ = _
          simp only [Act.put, List.setIfInBounds_toArray, List.set_cons_zero, List.set_cons_succ, i64_w, i32_w]
          rfl
        refine pure_ (i := 8) (N := (some 127)) (v := ?_) (a' := ?_) #[true, true, true, true, true, true, true, true, true, false, false] rfl rfl (by kernel_rfl) (fun _ _ _ h => h) (Or.inl ⟨by rfl, ?_⟩) ?_ ?_
        rotate_left
        · intro w'
          skip
          go_simp
          all_goals (with_reducible rfl)
        rotate_left
        · simp only [Act.put, List.setIfInBounds_toArray, List.set_cons_zero, List.set_cons_succ, i64_w, i32_w]
          rfl
        refine pure_ (i := 9) (N := (some 128)) (v := ?_) (a' := ?_) #[true, true, true, true, true, true, true, true, true, true, false] rfl rfl (by kernel_rfl) (fun _ _ _ h => h) (Or.inl ⟨by rfl, ?_⟩) ?_ ?_
        rotate_left
        · intro w'
          skip
          go_simp
          all_goals (with_reducible rfl)
        rotate_left
        · simp only [Act.put, List.setIfInBounds_toArray, List.set_cons_zero, List.set_cons_succ, i64_w, i32_w]
          rfl
        refine last_ (i := 10) (N := none) #[true, true, true, true, true, true, true, true, true, true, true] rfl rfl (by kernel_rfl) (by decide) (fun K hK => ?_)
        have h1 := blk_grown HE.hg hg (Kd.R_ne HE.hf HE.hg (by decide))
        have x1 : w7.cell? ⟨g, 0, none⟩ = some (.slice A1 f.length k1) := (blk_cell h1 0).trans rfl
        have f1 := blk_frozen h1 0
        refine skip_ (w1 := ?_) (by rfl) rfl ?_ ?_
        rotate_left
        · go_simp
          rfl
        refine hK.out _ _ ?_
        clear hK K
        refine done_ (by kernel_rfl) ?_
        have HF := HE.push1 ho hb hg
        generalize w7.setCell ⟨g, 0, none⟩ (.slice A4 n4 k4) = w8 at HF ⊢
        go_wp2
        go_ret
        exact ⟨rfl, fun f' way' h => (by injection h with h; injection h with h1 h2; subst h1 h2; rw [HF2.out]; exact HF.1), HF.2⟩
end Go.Proofs.YtloflodbcdlmpaaDoor.Ps
namespace Go.Proofs.YtloflodbcdlmpaaDoor.Ps
open Go.RowKit Go.Proofs.YtloflodbcdlmpaaDoor.Qall Go.Proofs.YtloflodbcdlmpaaDoor.Ln Go.Proofs.YtloflodbcdlmpaaDoorW.PrintWords Go.Proofs.YtloflodbcdlmpaaDoorW.PrintLast Go.Proofs.YtloflodbcdlmpaaDoorW.PrintMore
set_option linter.unusedSimpArgs false
set_option linter.unusedVariables false
def nodeOf (a : Int × ByteArray × Int × Int × Bool) : SC := ⟨a.2.1, a.2.2.1, a.2.2.2.1, 0⟩
/-- Where the line of a place ends: its LF's place, or the text's end. -/
def lfAt (t : ByteArray) (at_ : Nat) : Nat := at_ + ((t.data.toList.drop at_).takeWhile (· != 10)).length
def lineAt (t : ByteArray) (at_ : Nat) : Int × ByteArray × Int × Int × Bool := lineAns (t.extract at_ (lfAt t at_))
/-- One line read and put. -/
def stepAns (t : ByteArray) (at_ : Nat) (f : List SC) (way : List Int) : Option (List SC × List Int) :=
  if lfAt t at_ < t.size ∧ (lineAt t at_).2.2.2.2 = true then putAns f way (lineAt t at_).1.toNat (nodeOf (lineAt t at_)) else none
/-- From a place on: fuel, the place, the nodes, the levels' last ones. -/
def parseGo (t : ByteArray) : Nat → Nat → List SC → List Int → List SC × Int × Int
  | 0, _, f, _ => (f, 0, 0)
  | k + 1, at_, f, way =>
    if at_ < t.size then
      match stepAns t at_ f way with
      | none => ([], (at_ : Int), 120)
      | some r => parseGo t k (lfAt t at_ + 1) r.1 r.2
    else (f, 0, 0)
def parseAns (t : ByteArray) : List SC × Int × Int := if 4194304 < t.size then ([], 0, 1) else parseGo t (t.size + 1) 0 [] []
theorem parseGo_none {t : ByteArray} {k at_ : Nat} {f : List SC} {way : List Int} (h : at_ < t.size) (hs : stepAns t at_ f way = none) : parseGo t (k + 1) at_ f way = ([], (at_ : Int), 120) := by
  rw [parseGo, if_pos h, hs]
theorem parseGo_some {t : ByteArray} {k at_ : Nat} {f : List SC} {way : List Int} {r : List SC × List Int} (h : at_ < t.size) (hs : stepAns t at_ f way = some r) : parseGo t (k + 1) at_ f way = parseGo t k (lfAt t at_ + 1) r.1 r.2 := by
  rw [parseGo, if_pos h, hs]
theorem parseGo_end {t : ByteArray} {k at_ : Nat} {f : List SC} {way : List Int} (h : ¬ at_ < t.size) : parseGo t (k + 1) at_ f way = (f, 0, 0) := by
  rw [parseGo, if_neg h]
theorem putAns_some {f : List SC} {way : List Int} {d : Nat} {c : SC} {f' : List SC} {way' : List Int} (h : putAns f way d c = some (f', way')) :
    d ≤ way.length ∧ f.length < 1048576 ∧ c.f1 ≤ c.f2 ∧ loOf f way d ≤ c.f1 ∧ c.f2 ≤ hiOf f way d ∧ f' = kidOf f way d ++ [c] ∧ way' = way.take d ++ [(f.length : Int)] := by
  unfold putAns at h
  split at h
  · cases h
  · split at h
    · cases h
    · injection h with h
      injection h with h1 h2
      exact ⟨by omega, by omega, by omega, by omega, by omega, h1.symm, h2.symm⟩
/-- What holds of the nodes and the levels' last ones. -/
structure Inv (f : List SC) (way : List Int) : Prop where
  len : way.length ≤ f.length
  cap : f.length ≤ 1048576
  mem : ∀ x ∈ way, 0 ≤ x ∧ x < (f.length : Int)
theorem Inv.nil : Inv [] [] := ⟨Nat.le_refl _, Nat.zero_le _, fun x hx => by cases hx⟩
theorem Inv.put {f : List SC} {way : List Int} {d : Nat} {c : SC} {f' : List SC} {way' : List Int} (hi : Inv f way) (h : putAns f way d c = some (f', way')) : Inv f' way' := by
  obtain ⟨h1, h2, _, _, _, rfl, rfl⟩ := putAns_some h
  have hl := kidOf_length f way d
  have h3 := hi.len
  refine ⟨?_, ?_, fun x hx => ?_⟩
  · rw [List.length_append, List.length_append, List.length_take, hl]; simp; omega
  · rw [List.length_append, hl]; simp; omega
  · rw [List.length_append, hl, List.length_singleton]
    rcases List.mem_append.1 hx with hx | hx
    · have := hi.mem x (List.mem_of_mem_take hx); omega
    · rw [List.mem_singleton.1 hx]; omega
theorem idx_eq : ∀ (l : List UInt8), Lib.indexByte l 10 = if (l.takeWhile (· != 10)).length < l.length then (((l.takeWhile (· != 10)).length : Nat) : Int) else -1
  | [] => rfl
  | b :: l => by
    by_cases hb : b = 10
    · subst hb
      rw [List.takeWhile_cons_of_neg (by decide), if_pos (by simp)]
      rfl
    · rw [List.takeWhile_cons_of_pos (by simpa using hb)]
      unfold Lib.indexByte
      rw [if_neg (by simpa using hb), idx_eq l]
      simp only [List.length_cons]
      obtain ⟨n, hn⟩ : ∃ n, (l.takeWhile (· != 10)).length = n := ⟨_, rfl⟩
      rw [hn]
      by_cases hc : n < l.length
      · have h1 : ((n : Int) == -1) = false := beq_eq_false_iff_ne.2 (by omega)
        rw [if_pos hc, if_pos (show n + 1 < l.length + 1 by omega), h1, if_neg (by simp)]
        omega
      · rw [if_neg hc, if_neg (show ¬ n + 1 < l.length + 1 by omega)]
        rfl
theorem tw_len_le (p : UInt8 → Bool) : ∀ l : List UInt8, (l.takeWhile p).length ≤ l.length
  | [] => Nat.le_refl _
  | b :: l => by
    have := tw_len_le p l
    by_cases h : p b = true
    · rw [List.takeWhile_cons_of_pos h]; simp; omega
    · rw [List.takeWhile_cons_of_neg h]; simp
theorem drop_len (t : ByteArray) (at_ : Nat) : (t.data.toList.drop at_).length = t.size - at_ := by rw [List.length_drop, Array.length_toList]; rfl
theorem lf_le (t : ByteArray) (at_ : Nat) (h : at_ ≤ t.size) : at_ ≤ lfAt t at_ ∧ lfAt t at_ ≤ t.size := by
  have h1 := tw_len_le (· != 10) (t.data.toList.drop at_)
  rw [drop_len] at h1
  unfold lfAt
  omega
theorem idx_lf (t : ByteArray) (at_ : Nat) (h : at_ ≤ t.size) : Lib.indexByte (t.data.toList.drop at_) 10 = if lfAt t at_ < t.size then ((lfAt t at_ : Nat) : Int) - at_ else -1 := by
  rw [idx_eq, drop_len]
  unfold lfAt
  by_cases hc : ((t.data.toList.drop at_).takeWhile (· != 10)).length < t.size - at_
  · rw [if_pos hc, if_pos (by omega)]; omega
  · rw [if_neg hc, if_neg (by omega)]
theorem line_range (s : ByteArray) (hs : s.size ≤ 4194304) : ∃ d : Nat, (lineAns s).1 = (d : Int) ∧ d ≤ 4194304 := by
  unfold lineAns
  split
  · split
    · refine ⟨_, rfl, ?_⟩
      have := lead_le s.data.toList
      rw [Array.length_toList] at this
      have h2 : s.data.size = s.size := rfl
      omega
    · exact ⟨0, rfl, Nat.zero_le _⟩
  · exact ⟨0, rfl, Nat.zero_le _⟩
end Go.Proofs.YtloflodbcdlmpaaDoor.Ps
namespace Go.Proofs.YtloflodbcdlmpaaDoor.Ps
open Go.RowKit Go.Proofs.YtloflodbcdlmpaaDoor.Qall Go.Proofs.YtloflodbcdlmpaaDoor.Ln Go.Proofs.YtloflodbcdlmpaaDoor.Free Go.Proofs.YtloflodbcdlmpaaDoorW.PrintWords Go.Proofs.YtloflodbcdlmpaaDoorW.PrintLast Go.Proofs.YtloflodbcdlmpaaDoorW.PrintMore
set_option linter.unusedSimpArgs false
set_option linter.unusedVariables false
theorem Gr.below {W W' : World} {base g : Nat} {f : List SC} {way : List Int} (h : Gr W base g f way) (hb : Below W.heap.size W W') : Gr W' base g f way := by
  obtain ⟨v1, v2, hg, hbg, h1, h2⟩ := h
  exact ⟨v1, v2, (hb.block g (lt_of_some hg)).trans hg, hbg, Kd.R_below h1 hb, Kd.R_below h2 hb⟩
theorem Gr.set {W : World} {base g b i : Nat} {f : List SC} {way : List Int} {t : TypeId} {cs : Array Value} (h : Gr W base g f way) (hb : W.heap[b]? = some (.cells cs t (0, 0))) (ht : t ≠ 60 ∧ t ≠ 149 ∧ t ≠ 3) (v : Value) : Gr (W.setCell ⟨b, i, none⟩ v) base g f way := by
  obtain ⟨v1, v2, hg, hbg, h1, h2⟩ := h
  have hne : g ≠ b := fun e => by rw [e, hb] at hg; injection hg with hg; injection hg with _ hg _; exact ht.2.1 hg
  exact ⟨v1, v2, (Below.heap_setCell W ⟨b, i, none⟩ v g hne).trans hg, hbg, Kd.R_set h1 hb (fun q hq e => ht.1 (by rw [← e]; have : k60.E = [] := rfl; rw [this] at hq; exact List.mem_singleton.1 hq)) i v, Kd.R_set h2 hb (fun q hq e => ht.2.2 (by rw [← e]; exact List.mem_singleton.1 hq)) i v⟩
theorem keep4 {X : World} {g gf : Nat} {o : Obj} {y0 y1 y2 y3 : Value} (hne : gf ≠ g) (h : X.heap[gf]? = some o) : ((((X.setCell ⟨g, 0, none⟩ y0).setCell ⟨g, 1, none⟩ y1).setCell ⟨g, 2, none⟩ y2).setCell ⟨g, 3, none⟩ y3).heap[gf]? = some o :=
  (Below.heap_setCell _ ⟨g, 3, none⟩ y3 gf hne).trans ((Below.heap_setCell _ ⟨g, 2, none⟩ y2 gf hne).trans ((Below.heap_setCell _ ⟨g, 1, none⟩ y1 gf hne).trans ((Below.heap_setCell _ ⟨g, 0, none⟩ y0 gf hne).trans h)))
set_option maxRecDepth 100000 in
set_option maxHeartbeats 4000000 in
theorem parse_calls (t : ByteArray) (w : World) (hm : Mx w) :
    Calls Tryd.prog 77 #[.string t] w fun e w' => ∃ v, e = .returned (.tuple #[v, .agg #[.int .i64 (parseAns t).2.1, .int .i64 (parseAns t).2.2]]) ∧ Kd.R k60 60 w' w.heap.size (fun _ => True) v (parseAns t).1 ∧ Below w.heap.size w w' := by
  have hu := Tryd.underlying34
  by_cases hbig : 4194304 < t.size
  · have hans : parseAns t = ([], 0, 1) := if_pos hbig
    rw [hans]
    have p1 : decide (4194304 < (t.size : Int)) = true := decide_eq_true (by omega)
    have p2 : decide (4194304 < t.size) = true := decide_eq_true hbig
    clear hbig
    go_enter Tryd.func77, Tryd.ntmps77
    go_wp2_with (first | ((with_reducible refine gate_dst (N := 3) rfl ?_); (try (refine gate_guard (by rfl) ?_; dsimp only)); refine box_event ?hg (N := 3) ?hd (cs := #[.int .i64 0, .int .i64 0]) (t := 34) ?hr ?_; (case hd => rfl); (case hg => rfl); (case hr => first | (go_simp; done) | (go_simp; rfl)); intro gf hg0 w3 hbox hb0; have HB := Aside0.mk hb0; have BK := Aside0.mk hbox; have GE := Aside0.mk (Nat.le_of_eq hg0.symm : w.heap.size ≤ gf); have k0 := (blk_cell hbox 0).trans rfl; have k1 := (blk_cell hbox 1).trans rfl; have z0 := blk_frozen hbox 0; have z1 := blk_frozen hbox 1; obtain ⟨b, hbe⟩ : ∃ b, w3.heap.size = b := ⟨_, rfl⟩; have HBE := Aside0.mk hbe; have GB := Aside0.mk (show gf < b by have := lt_of_some hbox; omega); have WB := Aside0.mk (show w.heap.size ≤ b by have := hb0.size; omega); clear hbe; clear hg0 hbox hb0))
    refine bodyPost_ret (results_tc rfl _ _ gf 34 #[.int .i64 0, .int .i64 1] (0, 0) _ rfl (blk_put (blk_put BK.out 0 _ rfl) 1 _ rfl) hu rfl (by kernel_rfl)) rfl ?_
    exact ⟨_, rfl, Kd.R_nil _ _ _ _ _, (HB.out.setCell (p := ⟨gf, 0, none⟩) GE.out _).setCell (p := ⟨gf, 1, none⟩) GE.out _⟩
  · have hans : parseAns t = parseGo t (t.size + 1) 0 [] [] := if_neg hbig
    rw [hans]
    obtain ⟨ans, hA⟩ : ∃ a, parseGo t (t.size + 1) 0 [] [] = a := ⟨_, rfl⟩
    rw [hA]
    have HA0 := Aside0.mk hA
    have HMX := Aside0.mk hm
    have p1 : decide (4194304 < (t.size : Int)) = false := decide_eq_false (by omega)
    have p2 : decide (4194304 < t.size) = false := decide_eq_false hbig
    clear hA hans hm
    have htz : t.size ≤ 4194304 := by omega
    go_enter Tryd.func77, Tryd.ntmps77
    go_wp2_with (first | ((with_reducible refine gate_dst (N := 3) rfl ?_); (try (refine gate_guard (by rfl) ?_; dsimp only)); refine box_event ?hg (N := 3) ?hd (cs := #[.int .i64 0, .int .i64 0]) (t := 34) ?hr ?_; (case hd => rfl); (case hg => rfl); (case hr => first | (go_simp; done) | (go_simp; rfl)); intro gf hg0 w3 hbox hb0; have HB := Aside0.mk hb0; have BK := Aside0.mk hbox; have GE := Aside0.mk (Nat.le_of_eq hg0.symm : w.heap.size ≤ gf); have k0 := (blk_cell hbox 0).trans rfl; have k1 := (blk_cell hbox 1).trans rfl; have z0 := blk_frozen hbox 0; have z1 := blk_frozen hbox 1; obtain ⟨b, hbe⟩ : ∃ b, w3.heap.size = b := ⟨_, rfl⟩; have HBE := Aside0.mk hbe; have GB := Aside0.mk (show gf < b by have := lt_of_some hbox; omega); have WB := Aside0.mk (show w.heap.size ≤ b by have := hb0.size; omega); clear hbe; clear hg0 hbox hb0) | ((with_reducible refine gate_dst (N := 15) rfl ?_); (try (refine gate_guard (by rfl) ?_; dsimp only)); refine box_event ?hg (N := 15) ?hd (cs := #[.slice none 0 0, .slice none 0 0]) (t := 149) ?hr ?_; (case hd => rfl); (case hg => rfl); (case hr => first | (go_simp; done) | (go_simp; rfl)); intro g hg0 w4 hbox hb0; have HB4 := Aside0.mk (HB.out.trans (hb0.mono HB.out.size)); have BK4 := Aside0.mk ((hb0.block gf (lt_of_some BK.out)).trans BK.out); have GR4 : Aside0 (Gr w4 b g [] []) := ⟨⟨_, _, hbox, by have := HBE.out; omega, Kd.R_nil _ _ _ _ _, Kd.R_nil _ _ _ _ _⟩⟩; clear hg0 hbox hb0))
    clear k0 k1 z0 z1 HB BK p1 p2 hbig
    go_loopw [5] (fun v5 wr => ∃ (at_ k : Nat) (f : List SC) (way : List Int), v5 = .int .i64 at_ ∧ Aside0 (at_ ≤ t.size) ∧ Aside0 (parseGo t k at_ f way = ans) ∧ Aside0 (t.size < k + at_) ∧ Aside0 (Inv f way) ∧ Aside0 (Gr wr b g f way) ∧ Aside0 (wr.heap[gf]? = some (.cells #[.int .i64 0, .int .i64 0] 34 (0, 0))) ∧ Aside0 (Below w.heap.size w wr))
      (fun v5 _ => t.size + 1 - (intOf v5).toNat)
    case atStart => exact ⟨0, t.size + 1, [], [], rfl, ⟨Nat.zero_le _⟩, HA0, ⟨by omega⟩, ⟨Inv.nil⟩, GR4, BK4, HB4⟩
    case round =>
      clear HA0 GR4 BK4 HB4
      obtain ⟨at_, k, f, way, rfl, HLE, HA, HK, HI, GR, BK, HB⟩ := hrel
      obtain ⟨k, rfl⟩ : ∃ k', k = k' + 1 := ⟨k - 1, by have := HLE.out; have := HK.out; omega⟩
      by_cases hlt : at_ < t.size
      · have hgo := HA.out
        have hlf := lf_le t at_ HLE.out
        have hix := idx_lf t at_ HLE.out
        have hcall := fun W => Tryd.strings_IndexByte (t.extract at_ t.size) 10 W
        rw [show (t.extract at_ t.size).data.toList = t.data.toList.drop at_ by rw [Lib.extract_to_end]] at hcall
        change ∀ W, Calls Tryd.prog 41 #[.string (t.extract at_ t.size), .int .u8 10] W fun e w' => e = .returned (.int .i64 (Lib.indexByte (t.data.toList.drop at_) 10)) ∧ w' = W at hcall
        have k0 := (blk_cell BK.out 0).trans rfl
        have k1 := (blk_cell BK.out 1).trans rfl
        have z0 := blk_frozen BK.out 0
        have z1 := blk_frozen BK.out 1
        have i0 : (0 : Int) ≤ (at_ : Int) := by omega
        have i1 : (at_ : Int) ≤ (t.size : Int) := by omega
        by_cases hl : lfAt t at_ < t.size
        · rw [if_pos hl] at hix
          rw [hix] at hcall
          have hsz : (t.extract at_ (lfAt t at_)).size ≤ 4194304 := by rw [ByteArray.size_extract]; omega
          obtain ⟨d, hd, hdl⟩ := line_range (t.extract at_ (lfAt t at_)) hsz
          have hline := fun W (h : Mx W) => line_calls (t.extract at_ (lfAt t at_)) hsz W h
          have hstep : stepAns t at_ f way = if (lineAns (t.extract at_ (lfAt t at_))).2.2.2.2 = true then putAns f way (lineAns (t.extract at_ (lfAt t at_))).1.toNat (nodeOf (lineAns (t.extract at_ (lfAt t at_)))) else none := by
            unfold stepAns lineAt
            by_cases hok : (lineAns (t.extract at_ (lfAt t at_))).2.2.2.2 = true
            · rw [if_pos ⟨hl, hok⟩, if_pos hok]
            · rw [if_neg (fun h => hok h.2), if_neg hok]
          obtain ⟨⟨l1, nm, a, b2, ok⟩, hL⟩ : ∃ L, lineAns (t.extract at_ (lfAt t at_)) = L := ⟨_, rfl⟩
          rw [hL] at hline hd hstep
          dsimp only [nodeOf] at hline hd hstep
          subst hd
          rw [Int.toNat_natCast] at hstep
          obtain ⟨lf, hlfe⟩ : ∃ lf, lfAt t at_ = lf := ⟨_, rfl⟩
          rw [hlfe] at hcall hline hl hlf hsz
          have HLF := Aside0.mk hlfe
          have HC := Aside0.mk hcall
          have HLN := Aside0.mk (hline wr (HMX.out.step HB.out))
          have i2 : IntKind.i64.wrap ((at_ : Int) + ((lf : Int) - (at_ : Int))) = (lf : Int) := by rw [i64_w]; unfold wrap64; omega
          have i3 : (at_ : Int) ≤ (lf : Int) := by omega
          have i4 : (lf : Int) ≤ (t.size : Int) := by omega
          have i5 : decide (((lf : Int) - (at_ : Int)) < 0) = false := decide_eq_false (by omega)
          have i6 : decide ((lf : Int) < (at_ : Int)) = false := decide_eq_false (by omega)
          clear hcall hline hix hL hlfe
          cases ok with
          | false =>
            obtain rfl : ans = ([], (at_ : Int), 120) := by rw [← hgo]; exact parseGo_none hlt (hstep.trans (if_neg (by simp)))
            clear hgo hstep HA HK HI
            go_wp2_with (first | (go_at_call 41; refine (HC.out _).mono ?_; rintro e w' ⟨rfl, rfl⟩) | (go_at_call 97; refine HLN.out.mono ?_; rintro e w6 ⟨rfl, hb6⟩; have HB6 := Aside0.mk hb6; have BK6 := Aside0.mk ((hb6.block gf (lt_of_some BK.out)).trans BK.out); clear hb6 k0 k1 z0 z1) | ((with_reducible refine gate_dst (N := 8) rfl ?_); (try (refine gate_guard (by rfl) ?_; dsimp only)); refine box_event ?hg (N := 8) ?hd (cs := #[.string ⟨#[]⟩, .int .i64 0, .int .i64 0, .int .i64 0]) (t := 60) ?hr ?_; (case hd => rfl); (case hg => rfl); (case hr => first | (go_simp; done) | (go_simp; rfl)); intro gc hg0 w7 hbox hb0; have h7 := hb0; have g7 := hg0; have BC := hbox; have q0 := (blk_cell hbox 0).trans rfl; have q1 := (blk_cell hbox 1).trans rfl; have q2 := (blk_cell hbox 2).trans rfl; have q3 := (blk_cell hbox 3).trans rfl; have u0 := blk_frozen hbox 0; have u1 := blk_frozen hbox 1; have u2 := blk_frozen hbox 2; have u3 := blk_frozen hbox 3; have k0 := (blk_cell ((hb0.block gf (lt_of_some BK6.out)).trans BK6.out) 0).trans rfl; have k1 := (blk_cell ((hb0.block gf (lt_of_some BK6.out)).trans BK6.out) 1).trans rfl; have z0 := blk_frozen ((hb0.block gf (lt_of_some BK6.out)).trans BK6.out) 0; have z1 := blk_frozen ((hb0.block gf (lt_of_some BK6.out)).trans BK6.out) 1; have hne : gf ≠ gc := (fun e => by have := lt_of_some BK6.out; omega); have hne2 : gc ≠ gf := fun e => hne e.symm; have G7 := Aside0.mk g7; have H7 := Aside0.mk h7; clear g7 h7; clear hg0 hbox hb0))
            have BK7 := keep4 (y0 := .string nm) (y1 := .int .i64 a) (y2 := .int .i64 b2) (y3 := .int .i64 0) hne ((H7.out.block gf (lt_of_some BK6.out)).trans BK6.out)
            have HX7 := bel4 (y0 := .string nm) (y1 := .int .i64 a) (y2 := .int .i64 b2) (y3 := .int .i64 0) (HB6.out.trans (H7.out.mono HB6.out.size)) (Nat.le_trans HB6.out.size (Nat.le_of_eq G7.out.symm))
            generalize (((w7.setCell ⟨gc, 0, none⟩ (.string nm)).setCell ⟨gc, 1, none⟩ (.int .i64 a)).setCell ⟨gc, 2, none⟩ (.int .i64 b2)).setCell ⟨gc, 3, none⟩ (.int .i64 0) = X7 at BK7 HX7 ⊢
            refine bodyPost_ret (results_tc rfl _ _ gf 34 #[.int .i64 at_, .int .i64 120] (0, 0) _ rfl (blk_put (blk_put BK7 0 _ rfl) 1 _ rfl) hu rfl (by kernel_rfl)) rfl ?_
            exact ⟨_, rfl, Kd.R_nil _ _ _ _ _, ((HB.out.trans (HX7.mono HB.out.size)).setCell (p := ⟨gf, 0, none⟩) GE.out _).setCell (p := ⟨gf, 1, none⟩) GE.out _⟩
          | true =>
            rw [if_pos rfl] at hstep
            have hput := fun X h => put_calls f way d ⟨nm, a, b2, 0⟩ b g X h HI.out.len HI.out.cap HI.out.mem hdl
            obtain ⟨pa, hpa⟩ : ∃ x, putAns f way d ⟨nm, a, b2, 0⟩ = x := ⟨_, rfl⟩
            rw [hpa] at hput hstep
            cases pa with
            | none =>
              obtain rfl : ans = ([], (at_ : Int), 120) := by rw [← hgo]; exact parseGo_none hlt hstep
              dsimp only [Option.isSome] at hput
              have HPT := Aside0.mk hput
              clear hgo hstep HA HK HI hput hpa
              go_wp2_with (first | (go_at_call 41; refine (HC.out _).mono ?_; rintro e w' ⟨rfl, rfl⟩) | (go_at_call 97; refine HLN.out.mono ?_; rintro e w6 ⟨rfl, hb6⟩; have HB6 := Aside0.mk hb6; have BK6 := Aside0.mk ((hb6.block gf (lt_of_some BK.out)).trans BK.out); clear hb6 k0 k1 z0 z1) | ((with_reducible refine gate_dst (N := 8) rfl ?_); (try (refine gate_guard (by rfl) ?_; dsimp only)); refine box_event ?hg (N := 8) ?hd (cs := #[.string ⟨#[]⟩, .int .i64 0, .int .i64 0, .int .i64 0]) (t := 60) ?hr ?_; (case hd => rfl); (case hg => rfl); (case hr => first | (go_simp; done) | (go_simp; rfl)); intro gc hg0 w7 hbox hb0; have h7 := hb0; have g7 := hg0; have BC := hbox; have q0 := (blk_cell hbox 0).trans rfl; have q1 := (blk_cell hbox 1).trans rfl; have q2 := (blk_cell hbox 2).trans rfl; have q3 := (blk_cell hbox 3).trans rfl; have u0 := blk_frozen hbox 0; have u1 := blk_frozen hbox 1; have u2 := blk_frozen hbox 2; have u3 := blk_frozen hbox 3; have k0 := (blk_cell ((hb0.block gf (lt_of_some BK6.out)).trans BK6.out) 0).trans rfl; have k1 := (blk_cell ((hb0.block gf (lt_of_some BK6.out)).trans BK6.out) 1).trans rfl; have z0 := blk_frozen ((hb0.block gf (lt_of_some BK6.out)).trans BK6.out) 0; have z1 := blk_frozen ((hb0.block gf (lt_of_some BK6.out)).trans BK6.out) 1; have hne : gf ≠ gc := (fun e => by have := lt_of_some BK6.out; omega); have hne2 : gc ≠ gf := fun e => hne e.symm; have G7 := Aside0.mk g7; have H7 := Aside0.mk h7; clear g7 h7; clear hg0 hbox hb0) | (go_at_call 98; have hne4 := keep4 (y0 := .string nm) (y1 := .int .i64 a) (y2 := .int .i64 b2) (y3 := .int .i64 0) hne ((H7.out.block gf (lt_of_some BK6.out)).trans BK6.out); have HX7 := bel4 (y0 := .string nm) (y1 := .int .i64 a) (y2 := .int .i64 b2) (y3 := .int .i64 0) (HB6.out.trans (H7.out.mono HB6.out.size)) (Nat.le_trans HB6.out.size (Nat.le_of_eq G7.out.symm)); refine (HPT.out _ (GR.out.below HX7)).mono ?_; rintro e w8 ⟨rfl, hgr8, hb8⟩; have BK8 := Aside0.mk ((hb8.block gf GB.out).trans hne4); have HB8 := Aside0.mk ((HB.out.trans (HX7.mono HB.out.size)).trans (hb8.mono WB.out)); have k0 := (blk_cell BK8.out 0).trans rfl; have k1 := (blk_cell BK8.out 1).trans rfl; have z0 := blk_frozen BK8.out 0; have z1 := blk_frozen BK8.out 1; clear hb8 HX7 hne4))
              refine bodyPost_ret (results_tc rfl _ _ gf 34 #[.int .i64 at_, .int .i64 120] (0, 0) _ rfl (blk_put (blk_put BK8.out 0 _ rfl) 1 _ rfl) hu rfl (by kernel_rfl)) rfl ?_
              exact ⟨_, rfl, Kd.R_nil _ _ _ _ _, (HB8.out.setCell (p := ⟨gf, 0, none⟩) GE.out _).setCell (p := ⟨gf, 1, none⟩) GE.out _⟩
            | some r =>
              obtain ⟨f', way'⟩ := r
              have hnext : parseGo t k (lf + 1) f' way' = ans := by rw [← hgo, parseGo_some hlt hstep, HLF.out]
              dsimp only [Option.isSome] at hput
              have HPT := Aside0.mk hput
              have HNX := Aside0.mk hnext
              have HI2 := Aside0.mk (HI.out.put hpa)
              have i7 : IntKind.i64.wrap (((lf : Int) - (at_ : Int)) + 1) = (lf : Int) - (at_ : Int) + 1 := by rw [i64_w]; unfold wrap64; omega
              have i8 : IntKind.i64.wrap ((at_ : Int) + ((lf : Int) - (at_ : Int) + 1)) = ((lf + 1 : Nat) : Int) := by rw [i64_w]; unfold wrap64; omega
              clear hgo hstep HA HI hput hpa hnext
              go_wp2_with (first | (go_at_call 41; refine (HC.out _).mono ?_; rintro e w' ⟨rfl, rfl⟩) | (go_at_call 97; refine HLN.out.mono ?_; rintro e w6 ⟨rfl, hb6⟩; have HB6 := Aside0.mk hb6; have BK6 := Aside0.mk ((hb6.block gf (lt_of_some BK.out)).trans BK.out); clear hb6 k0 k1 z0 z1) | ((with_reducible refine gate_dst (N := 8) rfl ?_); (try (refine gate_guard (by rfl) ?_; dsimp only)); refine box_event ?hg (N := 8) ?hd (cs := #[.string ⟨#[]⟩, .int .i64 0, .int .i64 0, .int .i64 0]) (t := 60) ?hr ?_; (case hd => rfl); (case hg => rfl); (case hr => first | (go_simp; done) | (go_simp; rfl)); intro gc hg0 w7 hbox hb0; have h7 := hb0; have g7 := hg0; have BC := hbox; have q0 := (blk_cell hbox 0).trans rfl; have q1 := (blk_cell hbox 1).trans rfl; have q2 := (blk_cell hbox 2).trans rfl; have q3 := (blk_cell hbox 3).trans rfl; have u0 := blk_frozen hbox 0; have u1 := blk_frozen hbox 1; have u2 := blk_frozen hbox 2; have u3 := blk_frozen hbox 3; have k0 := (blk_cell ((hb0.block gf (lt_of_some BK6.out)).trans BK6.out) 0).trans rfl; have k1 := (blk_cell ((hb0.block gf (lt_of_some BK6.out)).trans BK6.out) 1).trans rfl; have z0 := blk_frozen ((hb0.block gf (lt_of_some BK6.out)).trans BK6.out) 0; have z1 := blk_frozen ((hb0.block gf (lt_of_some BK6.out)).trans BK6.out) 1; have hne : gf ≠ gc := (fun e => by have := lt_of_some BK6.out; omega); have hne2 : gc ≠ gf := fun e => hne e.symm; have G7 := Aside0.mk g7; have H7 := Aside0.mk h7; clear g7 h7; clear hg0 hbox hb0) | (go_at_call 98; have hne4 := keep4 (y0 := .string nm) (y1 := .int .i64 a) (y2 := .int .i64 b2) (y3 := .int .i64 0) hne ((H7.out.block gf (lt_of_some BK6.out)).trans BK6.out); have HX7 := bel4 (y0 := .string nm) (y1 := .int .i64 a) (y2 := .int .i64 b2) (y3 := .int .i64 0) (HB6.out.trans (H7.out.mono HB6.out.size)) (Nat.le_trans HB6.out.size (Nat.le_of_eq G7.out.symm)); refine (HPT.out _ (GR.out.below HX7)).mono ?_; rintro e w8 ⟨rfl, hgr8, hb8⟩; have BK8 := Aside0.mk ((hb8.block gf GB.out).trans hne4); have HB8 := Aside0.mk ((HB.out.trans (HX7.mono HB.out.size)).trans (hb8.mono WB.out)); have k0 := (blk_cell BK8.out 0).trans rfl; have k1 := (blk_cell BK8.out 1).trans rfl; have z0 := blk_frozen BK8.out 0; have z1 := blk_frozen BK8.out 1; clear hb8 HX7 hne4))
              go_roundw
              case rel => exact ⟨lf + 1, k, f', way', by first | rfl | (simp; done) | (simp [*]; done), ⟨by omega⟩, HNX, ⟨by have := HK.out; omega⟩, HI2, ⟨hgr8 f' way' rfl⟩, BK8, HB8⟩
              case measure => simp [intOf]; omega
        · rw [if_neg hl] at hix
          rw [hix] at hcall
          obtain rfl : ans = ([], (at_ : Int), 120) := by rw [← hgo]; exact parseGo_none hlt (if_neg (fun h => hl h.1))
          have HC := Aside0.mk hcall
          clear hcall hgo hix hl hlf HA HK HI
          go_wp2_with (go_at_call 41; refine (HC.out _).mono ?_; rintro e w' ⟨rfl, rfl⟩)
          refine bodyPost_ret (results_tc rfl _ _ gf 34 #[.int .i64 at_, .int .i64 120] (0, 0) _ rfl (blk_put (blk_put BK.out 0 _ rfl) 1 _ rfl) hu rfl (by kernel_rfl)) rfl ?_
          exact ⟨_, rfl, Kd.R_nil _ _ _ _ _, (HB.out.setCell (p := ⟨gf, 0, none⟩) GE.out _).setCell (p := ⟨gf, 1, none⟩) GE.out _⟩
      · have hgo : parseGo t (k + 1) at_ f way = (f, 0, 0) := parseGo_end hlt
        obtain rfl : ans = (f, 0, 0) := by rw [← HA.out, hgo]
        obtain ⟨v1, v2, hg, hbg, h1, h2⟩ := GR.out
        have g0 := (blk_cell hg 0).trans rfl
        have k0 := (blk_cell BK.out 0).trans rfl
        have k1 := (blk_cell BK.out 1).trans rfl
        have z0 := blk_frozen BK.out 0
        have z1 := blk_frozen BK.out 1
        obtain ⟨A1, c1, rfl⟩ := Kd.R_slice h1
        have H1 := Aside0.mk h1
        clear hgo HA HK HI GR h1 h2 hg
        go_wp2
        refine bodyPost_ret (results_tc rfl _ _ gf 34 #[.int .i64 0, .int .i64 0] (0, 0) _ rfl (blk_put (blk_put BK.out 0 _ rfl) 1 _ rfl) hu rfl (by kernel_rfl)) rfl ?_
        exact ⟨_, rfl, Kd.R_set (Kd.R_set (Kd.R_lower H1.out WB.out) BK.out (by decide) _ _) (blk_put BK.out 0 _ rfl) (by decide) _ _, (HB.out.setCell (p := ⟨gf, 0, none⟩) GE.out _).setCell (p := ⟨gf, 1, none⟩) GE.out _⟩
end Go.Proofs.YtloflodbcdlmpaaDoor.Ps
