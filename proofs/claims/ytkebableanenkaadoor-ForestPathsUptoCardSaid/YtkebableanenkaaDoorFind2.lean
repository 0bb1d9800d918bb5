/- The walks of finder.next's literal and of finder.each: what is marked, and how many have been counted. || The walk of finder.next: where a step leads from a set. || The walk of forest.Find: what a path leads to. Conditions: at most 2^20 nodes, names of at most 2^20 bytes; what the path reads is given. -/
import Derived.Test.YtkebableanenkaaDoorQallx0
import Derived.Deep.RegionHeld3
import Derived.Test.YtkebableanenkaaDoorFor2
import Derived.Test.YtkebableanenkaaDoorPth
import Derived.Test.YtkebableanenkaaDoorIts
namespace Go.Proofs.YtkebableanenkaaDoor.Fi
open Go.RowKit Go.Proofs.YtkebableanenkaaDoor.Qall Go.Proofs.YtkebableanenkaaDoorW.PrintWords Go.Proofs.YtkebableanenkaaDoorW.PrintLast Go.Proofs.YtkebableanenkaaDoorW.PrintMore
set_option linter.unusedSimpArgs false
set_option linter.unusedVariables false
abbrev SC := S37
abbrev ST := S94
def hit (s : ST) (m : Nat) : Bool := s.f2 == 0 || (m : Int) == s.f2
def cont (s : ST) (m : Nat) : Bool := s.f2 == 0 || decide ((m : Int) < s.f2)
/-- What the literal reads and writes: the count, the step, the marks. -/
structure NX (W : World) (base gn gs gi : Nat) (n : Nat) (s : ST) (vi : Value) (inn : List Bool) : Prop where
  hn : W.heap[gn]? = some (.cells #[.int .i64 (n : Int)] 3 (0, 0))
  hs : W.heap[gs]? = some (.cells #[.bool s.f0, .string s.f1, .int .i64 s.f2] 94 (0, 0))
  hi : W.heap[gi]? = some (.cells #[vi] 123 (0, 0))
  hv : Kd.R Kd.bool 4 W base (fun _ => True) vi inn
  bn : base ≤ gn
theorem lt_of_some {W : World} {g : Nat} {o : Obj} (h : W.heap[g]? = some o) : g < W.heap.size := (Array.getElem?_eq_some_iff.1 h).1
section
variable {W W' : World} {base gn gs gi n : Nat} {s : ST} {vi : Value} {inn : List Bool}
theorem NX.below (h : NX W base gn gs gi n s vi inn) (hb : Below W.heap.size W W') : NX W' base gn gs gi n s vi inn :=
  ⟨(hb.block gn (lt_of_some h.hn)).trans h.hn, (hb.block gs (lt_of_some h.hs)).trans h.hs, (hb.block gi (lt_of_some h.hi)).trans h.hi, Kd.R_below h.hv hb, h.bn⟩
theorem NX.ne1 (h : NX W base gn gs gi n s vi inn) : gs ≠ gn := fun e => by have h1 := h.hs; rw [e, h.hn] at h1; simp at h1
theorem NX.ne2 (h : NX W base gn gs gi n s vi inn) : gi ≠ gn := fun e => by have h1 := h.hi; rw [e, h.hn] at h1; simp at h1
/-- The count rises. -/
theorem NX.count (h : NX W base gn gs gi n s vi inn) : NX (W.setCell ⟨gn, 0, none⟩ (.int .i64 ((n + 1 : Nat) : Int))) base gn gs gi (n + 1) s vi inn :=
  ⟨blk_put h.hn 0 _ rfl, (Below.heap_setCell W ⟨gn, 0, none⟩ _ gs h.ne1).trans h.hs, (Below.heap_setCell W ⟨gn, 0, none⟩ _ gi h.ne2).trans h.hi, Kd.R_set h.hv h.hn (by decide) 0 _, h.bn⟩
/-- A mark. -/
theorem NX.mark {g1 n1 k1 : Nat} (h : NX W base gn gs gi n s (.slice (some ⟨g1, 0, none⟩) n1 k1) inn) (p : Nat) (hp : p < inn.length) :
    NX (W.setCell ⟨g1, p, none⟩ (.bool true)) base gn gs gi n s (.slice (some ⟨g1, 0, none⟩) n1 k1) (inn.set p true) ∧ base ≤ g1 := by
  obtain ⟨hR, hG⟩ := Kd.R_putg (x := true) h.hv (p : Int)
  rw [Int.toNat_natCast] at hR hG
  obtain ⟨inner, hown⟩ := Kd.R_own h.hv
  exact ⟨⟨blk_grown h.hn hG (Kd.R_ne h.hv h.hn (by decide)), blk_grown h.hs hG (Kd.R_ne h.hv h.hs (by decide)), blk_grown h.hi hG (Kd.R_ne h.hv h.hi (by decide)), hR, h.bn⟩, own_base hown g1 rfl⟩
theorem NX.elem {g1 n1 k1 : Nat} (h : NX W base gn gs gi n s (.slice (some ⟨g1, 0, none⟩) n1 k1) inn) (p : Nat) (hp : p < inn.length) : (∃ u, W.cell? ⟨g1, p, none⟩ = some u) ∧ W.frozen? ⟨g1, p, none⟩ = false := by
  obtain ⟨hn, _, _⟩ := Kd.R_reads' h.hv
  have := Kd.R_celln false h.hv (p : Int) (by omega) (by omega)
  rw [Int.toNat_natCast] at this
  exact ⟨⟨_, this.1⟩, this.2⟩
end
/-- What one call of the literal leaves marked. -/
def mk1 (s : ST) (n p : Nat) (inn : List Bool) : List Bool := if hit s (n + 1) then inn.set p true else inn
theorem mk1_length (s : ST) (n p : Nat) (inn : List Bool) : (mk1 s n p inn).length = inn.length := by unfold mk1; split <;> simp
set_option maxRecDepth 100000 in
set_option maxHeartbeats 4000000 in
theorem yld_calls (s : ST) (base gn gs gi n p : Nat) (vi : Value) (inn : List Bool) (hp : p < inn.length) (hn : n < 1099511627776) (W : World) (h : NX W base gn gs gi n s vi inn) :
    Calls Tryd.prog 65 #[.int .i64 (p : Int), .pointer (some ⟨gn, 0, none⟩), .pointer (some ⟨gs, 0, none⟩), .pointer (some ⟨gi, 0, none⟩)] W fun e w' => e = .returned (.bool (cont s (n + 1))) ∧ NX w' base gn gs gi (n + 1) s vi (mk1 s n p inn) ∧ Below base W w' ∧ (∀ k, k ≠ gn → some k ≠ vi.ownBlock → w'.heap[k]? = W.heap[k]?) := by
  obtain ⟨A1, k1, rfl⟩ := Kd.R_slice h.hv
  have hn1 : IntKind.i64.wrap ((n : Int) + 1) = ((n + 1 : Nat) : Int) := by rw [i64_w]; unfold wrap64; omega
  have HC := h.count
  have hb1 : Below base W (W.setCell ⟨gn, 0, none⟩ (.int .i64 ((n + 1 : Nat) : Int))) := (Below.refl base W).setCell (p := ⟨gn, 0, none⟩) h.bn _
  have c0 := (blk_cell h.hn 0).trans rfl
  have f0 := blk_frozen h.hn 0
  have d0 := (blk_cell HC.hn 0).trans rfl
  have d1 := (blk_cell HC.hs 2).trans rfl
  have d2 := (blk_cell HC.hi 0).trans rfl
  generalize hW1 : W.setCell ⟨gn, 0, none⟩ (.int .i64 ((n + 1 : Nat) : Int)) = W1 at HC hb1 d0 d1 d2
  have HH := Aside0.mk HC
  obtain ⟨g1, k1', ev1, _, hg1l, _⟩ := Kd.R_form HC.hv (by omega)
  injection ev1 with ev1 _ ek
  subst ev1 ek
  obtain ⟨⟨u, hu⟩, hf⟩ := HC.elem p hp
  obtain ⟨HM, hbg⟩ := HC.mark p hp
  have hb2 : Below base W (W1.setCell ⟨g1, p, none⟩ (.bool true)) := hb1.setCell (p := ⟨g1, p, none⟩) hbg _
  have q0 := (blk_cell HM.hn 0).trans rfl
  have q2 := (blk_cell HM.hs 2).trans rfl
  generalize hW2 : W1.setCell ⟨g1, p, none⟩ (.bool true) = W2 at HM hb2 q0 q2
  have HK1 : Aside0 (∀ k, k ≠ gn → some k ≠ (Value.slice (some ⟨g1, 0, none⟩) inn.length k1 : Value).ownBlock → W1.heap[k]? = W.heap[k]?) := ⟨fun k hk _ => by rw [← hW1]; exact Below.heap_setCell W ⟨gn, 0, none⟩ _ k hk⟩
  have HK2 : Aside0 (∀ k, k ≠ gn → some k ≠ (Value.slice (some ⟨g1, 0, none⟩) inn.length k1 : Value).ownBlock → W2.heap[k]? = W.heap[k]?) := ⟨fun k hk hk2 => by rw [← hW2]; exact (Below.heap_setCell W1 ⟨g1, p, none⟩ _ k (fun e => hk2 (by rw [e]; rfl))).trans (HK1.out k hk hk2)⟩
  have HB1 := Aside0.mk hb1
  have HB2 := Aside0.mk hb2
  have HMM := Aside0.mk HM
  have i1 : (0 : Int) ≤ (p : Int) := by omega
  have i2 : (p : Int) < (inn.length : Int) := by omega
  clear h HC HM hb1 hb2 hg1l hbg
  obtain ⟨m, hm⟩ : ∃ m : Int, ((n + 1 : Nat) : Int) = m := ⟨_, rfl⟩
  rw [hm] at hn1 hW1 d0 q0
  have ehit : hit s (n + 1) = (s.f2 == 0 || m == s.f2) := by unfold hit; rw [hm]
  have econt : cont s (n + 1) = (s.f2 == 0 || decide (m < s.f2)) := by unfold cont; rw [hm]
  have emk : mk1 s n p inn = if (s.f2 == 0 || m == s.f2) = true then inn.set p true else inn := by unfold mk1; rw [ehit]
  rw [econt]
  clear hm ehit econt
  obtain ⟨t, ht⟩ : ∃ t, s.f2 = t := ⟨_, rfl⟩
  rw [ht] at d1 q2 emk ⊢
  clear ht
  by_cases e0 : t = 0
  · have emk2 : mk1 s n p inn = inn.set p true := by rw [emk, e0]; rfl
    rw [emk2]
    have p0 : (t == 0) = true := beq_iff_eq.mpr e0
    clear emk emk2
    subst e0
    go_enter Tryd.func65, Tryd.ntmps65
    go_upto_if 16 with (fail)
    try rw [hW1]
    go_wp2
    go_ret
    exact ⟨by simp, HMM.out, HB2.out, HK2.out⟩
  have p0 : (t == 0) = false := beq_eq_false_iff_ne.mpr e0
  by_cases e1 : m = t
  · have emk2 : mk1 s n p inn = inn.set p true := by rw [emk, e1]; simp
    rw [emk2]
    have p1 : (m == t) = true := beq_iff_eq.mpr e1
    have p2 : decide (m < t) = false := decide_eq_false (by omega)
    rw [p0, p2]
    clear emk emk2
    subst e1
    go_enter Tryd.func65, Tryd.ntmps65
    go_upto_if 16 with (fail)
    try rw [hW1]
    go_wp2
    go_ret
    exact ⟨by simp, HMM.out, HB2.out, HK2.out⟩
  · have p1 : (m == t) = false := beq_eq_false_iff_ne.mpr e1
    have emk2 : mk1 s n p inn = inn := by rw [emk, p0, p1]; rfl
    rw [emk2]
    clear emk emk2
    go_enter Tryd.func65, Tryd.ntmps65
    go_upto_if 16 with (fail)
    try rw [hW1]
    go_wp2
    go_ret
    exact ⟨by simp [p0], HH.out, HB1.out, HK1.out⟩
/-- A step fits a node by its name. -/
def fits (s : ST) (c : SC) : Bool := s.f1.toList == ([42] : List UInt8) || s.f1.toList == c.f0.toList
def nxt (el : List Int) (s : ST) (a : Nat) : Nat := if s.f0 = true then a + 1 else (rd el (a : Int)).toNat
/-- From node a on, up to node e: what is counted and marked. -/
def eachGo (f : List SC) (el : List Int) (s : ST) (e : Nat) : Nat → Nat → Nat → List Bool → Nat × List Bool
  | 0, _, n, inn => (n, inn)
  | d + 1, a, n, inn =>
    if a < e then
      if fits s (rd_T37 f (a : Int)) = true then
        if cont s (n + 1) = true then eachGo f el s e d (nxt el s a) (n + 1) (mk1 s n a inn) else (n + 1, mk1 s n a inn)
      else eachGo f el s e d (nxt el s a) n inn
    else (n, inn)
def endOf (f : List SC) (el : List Int) (i : Int) : Nat := if 0 ≤ i then (rd el i).toNat else f.length
def eachAns (f : List SC) (el : List Int) (s : ST) (i : Int) (inn : List Bool) : Nat × List Bool := eachGo f el s (endOf f el i) (f.length + 1) (i + 1).toNat 0 inn
/-- What one node does: whether it ends there, the count, the marks. -/
def at1 (f : List SC) (s : ST) (a n : Nat) (inn : List Bool) : Bool × Nat × List Bool := if fits s (rd_T37 f (a : Int)) = true then (!cont s (n + 1), n + 1, mk1 s n a inn) else (false, n, inn)
theorem eachGo_stop {f : List SC} {el : List Int} {s : ST} {e d a n n' : Nat} {inn inn' : List Bool} (h : a < e) (h1 : at1 f s a n inn = (true, n', inn')) : eachGo f el s e (d + 1) a n inn = (n', inn') := by
  rw [eachGo, if_pos h]
  unfold at1 at h1
  split at h1
  · rename_i hf
    injection h1 with h1 h2
    injection h2 with h2 h3
    rw [if_pos hf, if_neg (by simpa using h1), h2, h3]
  · injection h1 with h1 _
    cases h1
theorem eachGo_go {f : List SC} {el : List Int} {s : ST} {e d a n n' : Nat} {inn inn' : List Bool} (h : a < e) (h1 : at1 f s a n inn = (false, n', inn')) : eachGo f el s e (d + 1) a n inn = eachGo f el s e d (nxt el s a) n' inn' := by
  rw [eachGo, if_pos h]
  unfold at1 at h1
  split at h1
  · rename_i hf
    injection h1 with h1 h2
    injection h2 with h2 h3
    rw [if_pos hf, if_pos (by simpa using h1), h2, h3]
  · rename_i hf
    injection h1 with h1 h2
    injection h2 with h2 h3
    rw [if_neg hf, h2, h3]
theorem at1_facts {f : List SC} {s : ST} {a n n' : Nat} {inn inn' : List Bool} {b : Bool} (h : at1 f s a n inn = (b, n', inn')) : n' ≤ n + 1 ∧ inn'.length = inn.length := by
  unfold at1 at h
  split at h
  · injection h with _ h; injection h with h1 h2; rw [← h1, ← h2, mk1_length]; exact ⟨Nat.le_refl _, rfl⟩
  · injection h with _ h; injection h with h1 h2; rw [← h1, ← h2]; exact ⟨by omega, rfl⟩
theorem eachGo_length (f : List SC) (el : List Int) (s : ST) (e : Nat) : ∀ d a n inn, (eachGo f el s e d a n inn).2.length = inn.length
  | 0, _, _, _ => rfl
  | d + 1, a, n, inn => by
    rw [eachGo]
    split
    · split
      · split
        · rw [eachGo_length f el s e d, mk1_length]
        · exact mk1_length s n a inn
      · exact eachGo_length f el s e d _ _ _
    · rfl
set_option maxRecDepth 100000 in
set_option maxHeartbeats 4000000 in
theorem each_calls (f : List SC) (hfl : f.length ≤ 2097152) (el : List Int) (hel : el.length = f.length) (hex : ∀ a : Nat, a < f.length → (a : Int) < rd el (a : Int) ∧ rd el (a : Int) ≤ (f.length : Int)) (s : ST) (i : Int) (hi : -1 ≤ i ∧ i < (f.length : Int))
    (Af Ae : Option Addr) (cf ce gx gn gs gi : Nat) (vi : Value) (inn : List Bool) (hinn : inn.length = f.length) (w0 W : World) (hCf : Kd.C k37 w0 Af f.length f) (hCe : Kd.C (Kd.int .i64) w0 Ae el.length el)
    (hx : w0.heap[gx]? = some (.cells #[.slice Af f.length cf, .slice Ae el.length ce] 92 (0, 0))) (hB : Below w0.heap.size w0 W) (h : NX W w0.heap.size gn gs gi 0 s vi inn) :
    Calls Tryd.prog 64 #[.pointer (some ⟨gx, 0, none⟩), .agg #[.bool s.f0, .string s.f1, .int .i64 s.f2], .int .i64 i, .func (.func 65) #[] #[.pointer (some ⟨gn, 0, none⟩), .pointer (some ⟨gs, 0, none⟩), .pointer (some ⟨gi, 0, none⟩)]] W
      fun e w' => (∃ v, e = .returned v) ∧ NX w' w0.heap.size gn gs gi (eachAns f el s i inn).1 s vi (eachAns f el s i inn).2 ∧ Below w0.heap.size w0 w' := by
  obtain ⟨ans, hans⟩ : ∃ a, eachAns f el s i inn = a := ⟨_, rfl⟩
  rw [hans]
  have HANS := Aside0.mk hans
  have HX := Aside0.mk hx
  have HCF := Aside0.mk hCf
  have HCE := Aside0.mk hCe
  have HEX := Aside0.mk hex
  have HNX := Aside0.mk h
  have HB := Aside0.mk hB
  have hi1 : IntKind.i64.wrap (i + 1) = i + 1 := by rw [i64_w]; unfold wrap64; omega
  have hu := Tryd.underlying94
  have cx := (blk_cell (hB.block gx (lt_of_some hx) |>.trans hx) 0).trans rfl
  have cy := (blk_cell (hB.block gx (lt_of_some hx) |>.trans hx) 1).trans rfl
  clear hans hx hCf hCe hex h hB
  go_enter Tryd.func64, Tryd.ntmps64
  go_wp2_with ((with_reducible refine gate_dst (N := 5) rfl ?_); (try (refine gate_guard (by rfl) ?_; dsimp only)); refine box_event ?hg (N := 5) ?hd (cs := #[.bool s.f0, .string s.f1, .int .i64 s.f2]) (t := 94) ?hr ?_; (case hd => rfl); (case hg => rfl); (case hr => first | (go_simp; done) | (go_simp; rfl)); intro gb hg0 w3 hbox hb0; have GB := Aside0.mk (show gn < gb ∧ ∀ k, vi.ownBlock = some k → k < gb from ⟨by have := lt_of_some HNX.out.hn; omega, fun k hk => by have := Kd.R_lt HNX.out.hv k hk; omega⟩); have BX := Aside0.mk hbox; have HN3 := Aside0.mk (HNX.out.below hb0); have HB3 := Aside0.mk (HB.out.trans (hb0.mono HB.out.size)); have c0 := (blk_cell ((HB3.out.block gx (lt_of_some HX.out)).trans HX.out) 0).trans rfl; have c1 := (blk_cell ((HB3.out.block gx (lt_of_some HX.out)).trans HX.out) 1).trans rfl; clear hg0 hbox hb0)
  have n1 : w3.drew.cell? ⟨gx, 0, none⟩ = some (.slice Af f.length cf) := c0
  go_region_held3 (fun w' => w'.cell? ⟨gx, 0, none⟩ = some (.slice Af f.length cf)) (first | go_keep | (go_simp; done) | (simp; done)) (fail)
  go_upto_if 18 with (fail)
  clear n1 c0 c1 cx cy
  obtain ⟨e, he⟩ : ∃ e, endOf f el i = e := ⟨_, rfl⟩
  have hef : e ≤ f.length := by
    rw [← he]; unfold endOf
    split
    · have := (HEX.out i.toNat (by omega)).2; rw [show ((i.toNat : Nat) : Int) = i by omega] at this; omega
    · exact Nat.le_refl _
  go_cut [9] (fun v9 wc => v9 = .int .i64 (e : Int) ∧ Aside0 (NX wc w0.heap.size gn gs gi 0 s vi inn) ∧ Aside0 (Below w0.heap.size w0 wc) ∧ Aside0 (wc.heap[gb]? = some (.cells #[.bool s.f0, .string s.f1, .int .i64 s.f2] 94 (0, 0))))
  case first =>
    have hbd : Below w3.heap.size w3 w3.drew := (Below.refl _ w3).drew
    have HN4 := Aside0.mk (HN3.out.below hbd)
    have HB4 := Aside0.mk (HB3.out.trans (hbd.mono HB3.out.size))
    have BX4 := Aside0.mk ((hbd.block gb (lt_of_some BX.out)).trans BX.out)
    clear hbd
    by_cases h0 : 0 ≤ i
    · have hel2 : rd el i = (e : Int) := by
        rw [← he]; unfold endOf
        rw [if_pos h0]
        have := (HEX.out i.toNat (by omega)).1; rw [show ((i.toNat : Nat) : Int) = i by omega] at this; omega
      obtain ⟨ad, hade, hc⟩ := Kd.at_int (Kd.C_below HCE.out HB4.out) i h0 (by omega)
      subst hade
      rw [hel2] at hc
      have c1 : w3.drew.cell? ⟨gx, 1, none⟩ = some (.slice (some ad) el.length ce) := (blk_cell ((HB4.out.block gx (lt_of_some HX.out)).trans HX.out) 1).trans rfl
      have i2 : i < (el.length : Int) := by omega
      have p0 : decide (0 ≤ i) = true := decide_eq_true h0
      clear hel2
      go_wp2
      go_meet
      case rel => exact ⟨rfl, HN4, HB4, BX4⟩
    · have p0 : decide (0 ≤ i) = false := decide_eq_false h0
      have hee : e = f.length := by rw [← he]; unfold endOf; rw [if_neg h0]
      have HE := Aside0.mk hee
      clear hee
      go_wp2
      go_meet
      case rel => exact ⟨by rw [HE.out], HN4, HB4, BX4⟩
  case rest =>
    obtain ⟨rfl, HN5, HB5, BX5⟩ := hcut
    clear HN3 HB3 BX HNX HB
    have hans0 : eachGo f el s e (f.length + 1) (i + 1).toNat 0 inn = ans := by rw [← he]; exact HANS.out
    have HA0 := Aside0.mk hans0
    clear hans0 HANS
    have HE := Aside0.mk he
    clear he
    go_wp2
    go_loopw [8] (fun v8 wr => ∃ (a d n : Nat) (inn' : List Bool), v8 = .int .i64 (a : Int) ∧ Aside0 (a ≤ f.length) ∧ Aside0 (eachGo f el s e d a n inn' = ans) ∧ Aside0 (f.length < d + a) ∧ Aside0 (n ≤ a) ∧ Aside0 (inn'.length = f.length) ∧ Aside0 (NX wr w0.heap.size gn gs gi n s vi inn') ∧ Aside0 (Below w0.heap.size w0 wr) ∧ Aside0 (wr.heap[gb]? = some (.cells #[.bool s.f0, .string s.f1, .int .i64 s.f2] 94 (0, 0))))
      (fun v8 _ => f.length + 1 - (intOf v8).toNat)
    case atStart => exact ⟨(i + 1).toNat, f.length + 1, 0, inn, by rw [show (((i + 1).toNat : Nat) : Int) = i + 1 by omega], ⟨by omega⟩, HA0, ⟨by omega⟩, ⟨Nat.zero_le _⟩, ⟨hinn⟩, HN5, HB5, BX5⟩
    case round =>
      clear HA0 HN5 HB5 BX5
      obtain ⟨a, d, n, inn', rfl, HLE, HA, HD, HNA, HIL, HN, HB, BX⟩ := hrel
      obtain ⟨d, rfl⟩ : ∃ d', d = d' + 1 := ⟨d - 1, by have := HD.out; have := HLE.out; omega⟩
      by_cases hlt : a < e
      · have p0 : decide ((a : Int) < (e : Int)) = true := decide_eq_true (by omega)
        have hltn : (a < e) = True := eq_true hlt
        obtain ⟨⟨b, n', inn2⟩, hat⟩ : ∃ x, at1 f s a n inn' = x := ⟨_, rfl⟩
        have hatf := at1_facts hat
        have HAT := Aside0.mk hat
        clear hat
        go_upto_region 5 with (fail)
        go_cut [50] (fun v50 wc => v50 = .bool b ∧ Aside0 (NX wc w0.heap.size gn gs gi n' s vi inn2) ∧ Aside0 (Below w0.heap.size w0 wc) ∧ Aside0 (wc.heap[gb]? = some (.cells #[.bool s.f0, .string s.f1, .int .i64 s.f2] 94 (0, 0))))
        case first =>
          have hm := HAT.out
          obtain ⟨ad, hade, y0, _⟩ := at_T37 (Kd.C_below HCF.out HB.out) (a : Int) (by omega) (by omega)
          subst hade
          rw [Int.toNat_natCast] at y0
          have x0 : wr.cell? ⟨gx, 0, none⟩ = some (.slice (some ad) f.length cf) := (blk_cell ((HB.out.block gx (lt_of_some HX.out)).trans HX.out) 0).trans rfl
          have b1 : wr.cell? ⟨gb, 1, none⟩ = some (.string s.f1) := (blk_cell BX.out 1).trans rfl
          have hbd : Below wr.heap.size wr wr.drew := (Below.refl _ wr).drew
          have adl := World.block_lt_of_cell? wr _ y0
          have i1 : (a : Int) < (f.length : Int) := by omega
          have hsz := HB.out.size
          have hgx := lt_of_some HX.out
          have HS0 : wr.drew.cell? ⟨gb, 1, none⟩ = some (.string s.f1) ∧ wr.drew.cell? ⟨gx, 0, none⟩ = some (.slice (some ad) f.length cf) ∧ wr.drew.cell? (ad.add (a * 4)) = some (.string (rd_T37 f (a : Int)).f0) := ⟨b1, x0, y0⟩
          have hyd := fun (hn1 : n < 1099511627776) => yld_calls s w0.heap.size gn gs gi n a vi inn' (by have := HIL.out; omega) hn1 wr.drew (HN.out.below hbd)
          have HYD := Aside0.mk (hyd (by have := HNA.out; omega))
          have HB3 := Aside0.mk (HB.out.trans (hbd.mono hsz))
          have BX3 := Aside0.mk ((hbd.block gb (lt_of_some BX.out)).trans BX.out)
          clear hyd hbd adl hgx
          unfold at1 at hm
          by_cases hst : s.f1.toList = ([42] : List UInt8)
          · have hf : fits s (rd_T37 f (a : Int)) = true := by unfold fits; rw [beq_iff_eq.mpr hst]; rfl
            rw [if_pos hf] at hm
            injection hm with hm1 hm2
            injection hm2 with hm2 hm3
            subst hm1 hm2 hm3
            have s0 : (s.f1.toList == ([42] : List UInt8)) = true := beq_iff_eq.mpr hst
            clear hst hf
            refine start_ (n := 22) (S := fun w' => w'.cell? ⟨gb, 1, none⟩ = some (.string s.f1) ∧ w'.cell? ⟨gx, 0, none⟩ = some (.slice (some ad) f.length cf) ∧ w'.cell? (ad.add (a * 4)) = some (.string (rd_T37 f (a : Int)).f0)) (ds := [19]) #[false, false, false, false, false, false, false, false, false, false, false, false, false, false, false, false, false, false, false, false, false, false] (by kernel_rfl) rfl rfl HS0 (fun hHeld => ?_)
            clear HS0 b1 x0 y0
            refine pure_ (i := 0) (N := (some 29)) (v := ?_) (a' := ?_) #[true, false, false, false, false, false, false, false, false, false, false, false, false, false, false, false, false, false, false, false, false, false] rfl rfl (by kernel_rfl) (fun _ _ _ h => h) (Or.inl ⟨by rfl, ?_⟩) ?_ ?_
            rotate_left
            · intro w'
              skip
              go_simp
              all_goals (with_reducible rfl)
            rotate_left
            · simp only [Act.put, List.setIfInBounds_toArray, List.set_cons_zero, List.set_cons_succ, i64_w, i32_w]
              rfl
            refine take_ (i := 1) (N := (some 30)) (v := ?_) (a' := ?_) #[true, true, false, false, false, false, false, false, false, false, false, false, false, false, false, false, false, false, false, false, false, false] rfl rfl (by kernel_rfl) (fun _ _ _ h => h) (Or.inl ⟨by rfl, ?_⟩) hHeld ?_ ?_
            rotate_left
            · rintro w' hS_
              try dsimp only at hS_
              (try obtain ⟨s0_, s1_⟩ := hS_); go_split_ands; go_simp
              all_goals (with_reducible rfl)
            rotate_left
            · simp only [Act.put, List.setIfInBounds_toArray, List.set_cons_zero, List.set_cons_succ, i64_w, i32_w]
              rfl
            refine pure_ (i := 2) (N := (some 31)) (v := ?_) (a' := ?_) #[true, true, true, false, false, false, false, false, false, false, false, false, false, false, false, false, false, false, false, false, false, false] rfl rfl (by kernel_rfl) (fun _ _ _ h => h) (Or.inl ⟨by rfl, ?_⟩) ?_ ?_
            rotate_left
            · intro w'
              skip
              go_simp
              all_goals (with_reducible rfl)
            rotate_left
            · simp only [Act.put, List.setIfInBounds_toArray, List.set_cons_zero, List.set_cons_succ, i64_w, i32_w]
              rfl
            refine pure_ (i := 3) (N := (some 32)) (v := ?_) (a' := ?_) #[true, true, true, true, false, false, false, false, false, false, false, false, false, false, false, false, false, false, false, false, false, false] rfl rfl (by kernel_rfl) (fun _ _ _ h => h) (Or.inl ⟨by rfl, ?_⟩) ?_ ?_
            rotate_left
            · intro w'
              skip
              go_simp
              all_goals (with_reducible rfl)
            rotate_left
            · simp only [Act.put, List.setIfInBounds_toArray, List.set_cons_zero, List.set_cons_succ, i64_w, i32_w]
              rfl
            refine pure_ (i := 4) (N := (some 33)) (v := undef) (a' := ?_) #[true, true, true, true, true, false, false, false, false, false, false, false, false, false, false, false, false, false, false, false, false, false] rfl rfl (by kernel_rfl) (fun _ _ _ h => h) (Or.inr ⟨by rfl, rfl⟩) ?_ ?_
            rotate_left
            · simp only [Act.put, List.setIfInBounds_toArray, List.set_cons_zero, List.set_cons_succ, i64_w, i32_w]
              rfl
            refine pure_ (i := 5) (N := (some 34)) (v := undef) (a' := ?_) #[true, true, true, true, true, true, false, false, false, false, false, false, false, false, false, false, false, false, false, false, false, false] rfl rfl (by kernel_rfl) (fun _ _ _ h => h) (Or.inr ⟨by rfl, rfl⟩) ?_ ?_
            rotate_left
            · simp only [Act.put, List.setIfInBounds_toArray, List.set_cons_zero, List.set_cons_succ, i64_w, i32_w]
              rfl
            refine pure_ (i := 6) (N := (some 35)) (v := undef) (a' := ?_) #[true, true, true, true, true, true, true, false, false, false, false, false, false, false, false, false, false, false, false, false, false, false] rfl rfl (by kernel_rfl) (fun _ _ _ h => h) (Or.inr ⟨by rfl, rfl⟩) ?_ ?_
            rotate_left
            · simp only [Act.put, List.setIfInBounds_toArray, List.set_cons_zero, List.set_cons_succ, i64_w, i32_w]
              rfl
            refine pure_ (i := 7) (N := (some 36)) (v := undef) (a' := ?_) #[true, true, true, true, true, true, true, true, false, false, false, false, false, false, false, false, false, false, false, false, false, false] rfl rfl (by kernel_rfl) (fun _ _ _ h => h) (Or.inr ⟨by rfl, rfl⟩) ?_ ?_
            rotate_left
            · simp only [Act.put, List.setIfInBounds_toArray, List.set_cons_zero, List.set_cons_succ, i64_w, i32_w]
              rfl
            refine pure_ (i := 8) (N := (some 37)) (v := undef) (a' := ?_) #[true, true, true, true, true, true, true, true, true, false, false, false, false, false, false, false, false, false, false, false, false, false] rfl rfl (by kernel_rfl) (fun _ _ _ h => h) (Or.inr ⟨by rfl, rfl⟩) ?_ ?_
            rotate_left
            · simp only [Act.put, List.setIfInBounds_toArray, List.set_cons_zero, List.set_cons_succ, i64_w, i32_w]
              rfl
            refine pure_ (i := 9) (N := (some 38)) (v := undef) (a' := ?_) #[true, true, true, true, true, true, true, true, true, true, false, false, false, false, false, false, false, false, false, false, false, false] rfl rfl (by kernel_rfl) (fun _ _ _ h => h) (Or.inr ⟨by rfl, rfl⟩) ?_ ?_
            rotate_left
            · simp only [Act.put, List.setIfInBounds_toArray, List.set_cons_zero, List.set_cons_succ, i64_w, i32_w]
              rfl
            refine pure_ (i := 10) (N := (some 39)) (v := undef) (a' := ?_) #[true, true, true, true, true, true, true, true, true, true, true, false, false, false, false, false, false, false, false, false, false, false] rfl rfl (by kernel_rfl) (fun _ _ _ h => h) (Or.inr ⟨by rfl, rfl⟩) ?_ ?_
            rotate_left
            · simp only [Act.put, List.setIfInBounds_toArray, List.set_cons_zero, List.set_cons_succ, i64_w, i32_w]
              rfl
            refine pure_ (i := 11) (N := (some 40)) (v := undef) (a' := ?_) #[true, true, true, true, true, true, true, true, true, true, true, true, false, false, false, false, false, false, false, false, false, false] rfl rfl (by kernel_rfl) (fun _ _ _ h => h) (Or.inr ⟨by rfl, rfl⟩) ?_ ?_
            rotate_left
            · simp only [Act.put, List.setIfInBounds_toArray, List.set_cons_zero, List.set_cons_succ, i64_w, i32_w]
              rfl
            refine pure_ (i := 12) (N := (some 41)) (v := undef) (a' := ?_) #[true, true, true, true, true, true, true, true, true, true, true, true, true, false, false, false, false, false, false, false, false, false] rfl rfl (by kernel_rfl) (fun _ _ _ h => h) (Or.inr ⟨by rfl, rfl⟩) ?_ ?_
            rotate_left
            · simp only [Act.put, List.setIfInBounds_toArray, List.set_cons_zero, List.set_cons_succ, i64_w, i32_w]
              rfl
            refine pure_ (i := 13) (N := (some 42)) (v := undef) (a' := ?_) #[true, true, true, true, true, true, true, true, true, true, true, true, true, true, false, false, false, false, false, false, false, false] rfl rfl (by kernel_rfl) (fun _ _ _ h => h) (Or.inr ⟨by rfl, rfl⟩) ?_ ?_
            rotate_left
            · simp only [Act.put, List.setIfInBounds_toArray, List.set_cons_zero, List.set_cons_succ, i64_w, i32_w]
              rfl
            refine pure_ (i := 14) (N := (some 43)) (v := undef) (a' := ?_) #[true, true, true, true, true, true, true, true, true, true, true, true, true, true, true, false, false, false, false, false, false, false] rfl rfl (by kernel_rfl) (fun _ _ _ h => h) (Or.inr ⟨by rfl, rfl⟩) ?_ ?_
            rotate_left
            · simp only [Act.put, List.setIfInBounds_toArray, List.set_cons_zero, List.set_cons_succ, i64_w, i32_w]
              rfl
            refine pure_ (i := 15) (N := (some 44)) (v := ?_) (a' := ?_) #[true, true, true, true, true, true, true, true, true, true, true, true, true, true, true, true, false, false, false, false, false, false] rfl rfl (by kernel_rfl) (fun _ _ _ h => h) (Or.inl ⟨by rfl, ?_⟩) ?_ ?_
            rotate_left
            · intro w'
              skip
              go_simp
              all_goals (with_reducible rfl)
            rotate_left
            · simp only [Act.put, List.setIfInBounds_toArray, List.set_cons_zero, List.set_cons_succ, i64_w, i32_w]
              rfl
            refine pure_ (i := 16) (N := (some 45)) (v := ?_) (a' := ?_) #[true, true, true, true, true, true, true, true, true, true, true, true, true, true, true, true, true, false, false, false, false, false] rfl rfl (by kernel_rfl) (fun _ _ _ h => h) (Or.inl ⟨by rfl, ?_⟩) ?_ ?_
            rotate_left
            · intro w'
              skip
              go_simp
              all_goals (with_reducible rfl)
            rotate_left
            · simp only [Act.put, List.setIfInBounds_toArray, List.set_cons_zero, List.set_cons_succ, i64_w, i32_w]
              rfl
            refine pure_ (i := 17) (N := (some 46)) (v := ?_) (a' := ?_) #[true, true, true, true, true, true, true, true, true, true, true, true, true, true, true, true, true, true, false, false, false, false] rfl rfl (by kernel_rfl) (fun _ _ _ h => h) (Or.inl ⟨by rfl, ?_⟩) ?_ ?_
            rotate_left
            · intro w'
              skip
              go_simp
              all_goals (with_reducible rfl)
            rotate_left
            · simp only [Act.put, List.setIfInBounds_toArray, List.set_cons_zero, List.set_cons_succ, i64_w, i32_w]
              rfl
            refine pure_ (i := 18) (N := (some 47)) (v := ?_) (a' := ?_) #[true, true, true, true, true, true, true, true, true, true, true, true, true, true, true, true, true, true, true, false, false, false] rfl rfl (by kernel_rfl) (fun _ _ _ h => h) (Or.inl ⟨by rfl, ?_⟩) ?_ ?_
            rotate_left
            · intro w'
              skip
              go_simp
              all_goals (with_reducible rfl)
            rotate_left
            · simp only [Act.put, List.setIfInBounds_toArray, List.set_cons_zero, List.set_cons_succ, i64_w, i32_w]
              rfl
            refine last_ (i := 19) (N := (some 48)) #[true, true, true, true, true, true, true, true, true, true, true, true, true, true, true, true, true, true, true, true, false, false] rfl rfl (by kernel_rfl) (by decide) (fun K hK => ?_)
            refine call_ 65 #[.int .i64 (a : Int), .pointer (some ⟨gn, 0, none⟩), .pointer (some ⟨gs, 0, none⟩), .pointer (some ⟨gi, 0, none⟩)] (by rfl) rfl ?_ ?_
            · go_simp
              all_goals rfl
            refine HYD.out.mono ?_
            rintro e_ w5 ⟨rfl, hn4, hb4, hk4⟩
            have HN4 := Aside0.mk hn4
            have HB4 := Aside0.mk (HB3.out.trans hb4)
            have BX4 := Aside0.mk ((hk4 gb (by have := GB.out.1; omega) (fun e_ => by have := GB.out.2 gb e_.symm; omega)).trans BX3.out)
            clear hn4 hb4 hk4
            refine ⟨_, rfl, hK.out _ _ ?_⟩
            clear hK K
            refine norm_ (a' := ?_) ?_ ?_
            rotate_left
            · show Act.put _ (some 48) _ = _
              simp only [Act.put, List.setIfInBounds_toArray, List.set_cons_zero, List.set_cons_succ, i64_w, i32_w]
              rfl
            refine pure_ (i := 20) (N := (some 49)) (v := ?_) (a' := ?_) #[true, true, true, true, true, true, true, true, true, true, true, true, true, true, true, true, true, true, true, true, true, false] rfl rfl (by kernel_rfl) (fun _ _ _ h => h) (Or.inl ⟨by rfl, ?_⟩) ?_ ?_
            rotate_left
            · intro w'
              skip
              go_simp
              all_goals (with_reducible rfl)
            rotate_left
            · simp only [Act.put, List.setIfInBounds_toArray, List.set_cons_zero, List.set_cons_succ, i64_w, i32_w]
              rfl
            refine pure_ (i := 21) (N := (some 50)) (v := ?_) (a' := ?_) #[true, true, true, true, true, true, true, true, true, true, true, true, true, true, true, true, true, true, true, true, true, true] rfl rfl (by kernel_rfl) (fun _ _ _ h => h) (Or.inl ⟨by rfl, ?_⟩) ?_ ?_
            rotate_left
            · intro w'
              skip
              go_simp
              all_goals (with_reducible rfl)
            rotate_left
            · simp only [Act.put, List.setIfInBounds_toArray, List.set_cons_zero, List.set_cons_succ, i64_w, i32_w]
              rfl
            refine done_ (by kernel_rfl) ?_
            go_wp2
            go_meet
            case rel => exact ⟨by simp, HN4, HB4, BX4⟩
          · have s0 : (s.f1.toList == ([42] : List UInt8)) = false := beq_eq_false_iff_ne.mpr hst
            by_cases hnm : s.f1.toList = (rd_T37 f (a : Int)).f0.toList
            · have hf : fits s (rd_T37 f (a : Int)) = true := by unfold fits; rw [beq_iff_eq.mpr hnm]; simp
              rw [if_pos hf] at hm
              injection hm with hm1 hm2
              injection hm2 with hm2 hm3
              subst hm1 hm2 hm3
              have s1 : (s.f1.toList == (rd_T37 f (a : Int)).f0.toList) = true := beq_iff_eq.mpr hnm
              clear hst hf hnm
              refine start_ (n := 22) (S := fun w' => w'.cell? ⟨gb, 1, none⟩ = some (.string s.f1) ∧ w'.cell? ⟨gx, 0, none⟩ = some (.slice (some ad) f.length cf) ∧ w'.cell? (ad.add (a * 4)) = some (.string (rd_T37 f (a : Int)).f0)) (ds := [19]) #[false, false, false, false, false, false, false, false, false, false, false, false, false, false, false, false, false, false, false, false, false, false] (by kernel_rfl) rfl rfl HS0 (fun hHeld => ?_)
              clear HS0 b1 x0 y0
              refine pure_ (i := 0) (N := (some 29)) (v := ?_) (a' := ?_) #[true, false, false, false, false, false, false, false, false, false, false, false, false, false, false, false, false, false, false, false, false, false] rfl rfl (by kernel_rfl) (fun _ _ _ h => h) (Or.inl ⟨by rfl, ?_⟩) ?_ ?_
              rotate_left
              · intro w'
                skip
                go_simp
                all_goals (with_reducible rfl)
              rotate_left
              · simp only [Act.put, List.setIfInBounds_toArray, List.set_cons_zero, List.set_cons_succ, i64_w, i32_w]
                rfl
              refine take_ (i := 1) (N := (some 30)) (v := ?_) (a' := ?_) #[true, true, false, false, false, false, false, false, false, false, false, false, false, false, false, false, false, false, false, false, false, false] rfl rfl (by kernel_rfl) (fun _ _ _ h => h) (Or.inl ⟨by rfl, ?_⟩) hHeld ?_ ?_
              rotate_left
              · rintro w' hS_
                try dsimp only at hS_
                (try obtain ⟨s0_, s1_⟩ := hS_); go_split_ands; go_simp
                all_goals (with_reducible rfl)
              rotate_left
              · simp only [Act.put, List.setIfInBounds_toArray, List.set_cons_zero, List.set_cons_succ, i64_w, i32_w]
                rfl
              refine pure_ (i := 2) (N := (some 31)) (v := ?_) (a' := ?_) #[true, true, true, false, false, false, false, false, false, false, false, false, false, false, false, false, false, false, false, false, false, false] rfl rfl (by kernel_rfl) (fun _ _ _ h => h) (Or.inl ⟨by rfl, ?_⟩) ?_ ?_
              rotate_left
              · intro w'
                skip
                go_simp
                all_goals (with_reducible rfl)
              rotate_left
              · simp only [Act.put, List.setIfInBounds_toArray, List.set_cons_zero, List.set_cons_succ, i64_w, i32_w]
                rfl
              refine pure_ (i := 3) (N := (some 32)) (v := ?_) (a' := ?_) #[true, true, true, true, false, false, false, false, false, false, false, false, false, false, false, false, false, false, false, false, false, false] rfl rfl (by kernel_rfl) (fun _ _ _ h => h) (Or.inl ⟨by rfl, ?_⟩) ?_ ?_
              rotate_left
              · intro w'
                skip
                go_simp
                all_goals (with_reducible rfl)
              rotate_left
              · simp only [Act.put, List.setIfInBounds_toArray, List.set_cons_zero, List.set_cons_succ, i64_w, i32_w]
                rfl
              refine pure_ (i := 4) (N := (some 33)) (v := ?_) (a' := ?_) #[true, true, true, true, true, false, false, false, false, false, false, false, false, false, false, false, false, false, false, false, false, false] rfl rfl (by kernel_rfl) (fun _ _ _ h => h) (Or.inl ⟨by rfl, ?_⟩) ?_ ?_
              rotate_left
              · intro w'
                skip
                go_simp
                all_goals (with_reducible rfl)
              rotate_left
              · simp only [Act.put, List.setIfInBounds_toArray, List.set_cons_zero, List.set_cons_succ, i64_w, i32_w]
                rfl
              refine take_ (i := 5) (N := (some 34)) (v := ?_) (a' := ?_) #[true, true, true, true, true, true, false, false, false, false, false, false, false, false, false, false, false, false, false, false, false, false] rfl rfl (by kernel_rfl) (fun _ _ _ h => h) (Or.inl ⟨by rfl, ?_⟩) hHeld ?_ ?_
              rotate_left
              · rintro w' hS_
                try dsimp only at hS_
                (try obtain ⟨s0_, s1_⟩ := hS_); go_split_ands; go_simp
                all_goals (with_reducible rfl)
              rotate_left
              · simp only [Act.put, List.setIfInBounds_toArray, List.set_cons_zero, List.set_cons_succ, i64_w, i32_w]
                rfl
              refine pure_ (i := 6) (N := (some 35)) (v := ?_) (a' := ?_) #[true, true, true, true, true, true, true, false, false, false, false, false, false, false, false, false, false, false, false, false, false, false] rfl rfl (by kernel_rfl) (fun _ _ _ h => h) (Or.inl ⟨by rfl, ?_⟩) ?_ ?_
              rotate_left
              · intro w'
                skip
                go_simp
                all_goals (with_reducible rfl)
              rotate_left
              · simp only [Act.put, List.setIfInBounds_toArray, List.set_cons_zero, List.set_cons_succ, i64_w, i32_w]
                rfl
              refine pure_ (i := 7) (N := (some 36)) (v := ?_) (a' := ?_) #[true, true, true, true, true, true, true, true, false, false, false, false, false, false, false, false, false, false, false, false, false, false] rfl rfl (by kernel_rfl) (fun _ _ _ h => h) (Or.inl ⟨by rfl, ?_⟩) ?_ ?_
              rotate_left
              · intro w'
                skip
                go_simp
                all_goals (with_reducible rfl)
              rotate_left
              · simp only [Act.put, List.setIfInBounds_toArray, List.set_cons_zero, List.set_cons_succ, i64_w, i32_w]
                rfl
              refine pure_ (i := 8) (N := (some 37)) (v := ?_) (a' := ?_) #[true, true, true, true, true, true, true, true, true, false, false, false, false, false, false, false, false, false, false, false, false, false] rfl rfl (by kernel_rfl) (fun _ _ _ h => h) (Or.inl ⟨by rfl, ?_⟩) ?_ ?_
              rotate_left
              · intro w'
                skip
                go_simp
                all_goals (with_reducible rfl)
              rotate_left
              · simp only [Act.put, List.setIfInBounds_toArray, List.set_cons_zero, List.set_cons_succ, i64_w, i32_w]
                rfl
              refine take_ (i := 9) (N := (some 38)) (v := ?_) (a' := ?_) #[true, true, true, true, true, true, true, true, true, true, false, false, false, false, false, false, false, false, false, false, false, false] rfl rfl (by kernel_rfl) (fun _ _ _ h => h) (Or.inl ⟨by rfl, ?_⟩) hHeld ?_ ?_
              rotate_left
              · rintro w' hS_
                try dsimp only at hS_
                (try obtain ⟨s0_, s1_⟩ := hS_); go_split_ands; go_simp
                all_goals (with_reducible rfl)
              rotate_left
              · simp only [Act.put, List.setIfInBounds_toArray, List.set_cons_zero, List.set_cons_succ, i64_w, i32_w]
                rfl
              refine pure_ (i := 10) (N := (some 39)) (v := ?_) (a' := ?_) #[true, true, true, true, true, true, true, true, true, true, true, false, false, false, false, false, false, false, false, false, false, false] rfl rfl (by kernel_rfl) (fun _ _ _ h => h) (Or.inl ⟨by rfl, ?_⟩) ?_ ?_
              rotate_left
              · intro w'
                skip
                go_simp
                all_goals (with_reducible rfl)
              rotate_left
              · simp only [Act.put, List.setIfInBounds_toArray, List.set_cons_zero, List.set_cons_succ, i64_w, i32_w]
                rfl
              refine pure_ (i := 11) (N := (some 40)) (v := ?_) (a' := ?_) #[true, true, true, true, true, true, true, true, true, true, true, true, false, false, false, false, false, false, false, false, false, false] rfl rfl (by kernel_rfl) (fun _ _ _ h => h) (Or.inl ⟨by rfl, ?_⟩) ?_ ?_
              rotate_left
              · intro w'
                skip
                go_simp
                all_goals (with_reducible rfl)
              rotate_left
              · simp only [Act.put, List.setIfInBounds_toArray, List.set_cons_zero, List.set_cons_succ, i64_w, i32_w]
                rfl
              refine pure_ (i := 12) (N := (some 41)) (v := ?_) (a' := ?_) #[true, true, true, true, true, true, true, true, true, true, true, true, true, false, false, false, false, false, false, false, false, false] rfl rfl (by kernel_rfl) (fun _ _ _ h => h) (Or.inl ⟨by rfl, ?_⟩) ?_ ?_
              rotate_left
              · intro w'
                skip
                go_simp
                all_goals (with_reducible rfl)
              rotate_left
              · simp only [Act.put, List.setIfInBounds_toArray, List.set_cons_zero, List.set_cons_succ, i64_w, i32_w]
                rfl
              refine take_ (i := 13) (N := (some 42)) (v := ?_) (a' := ?_) #[true, true, true, true, true, true, true, true, true, true, true, true, true, true, false, false, false, false, false, false, false, false] rfl rfl (by kernel_rfl) (fun _ _ _ h => h) (Or.inl ⟨by rfl, ?_⟩) hHeld ?_ ?_
              rotate_left
              · rintro w' hS_
                try dsimp only at hS_
                (try obtain ⟨s0_, s1_⟩ := hS_); go_split_ands; go_simp
                all_goals (with_reducible rfl)
              rotate_left
              · simp only [Act.put, List.setIfInBounds_toArray, List.set_cons_zero, List.set_cons_succ, i64_w, i32_w]
                rfl
              refine pure_ (i := 14) (N := (some 43)) (v := ?_) (a' := ?_) #[true, true, true, true, true, true, true, true, true, true, true, true, true, true, true, false, false, false, false, false, false, false] rfl rfl (by kernel_rfl) (fun _ _ _ h => h) (Or.inl ⟨by rfl, ?_⟩) ?_ ?_
              rotate_left
              · intro w'
                skip
                go_simp
                all_goals (with_reducible rfl)
              rotate_left
              · simp only [Act.put, List.setIfInBounds_toArray, List.set_cons_zero, List.set_cons_succ, i64_w, i32_w]
                rfl
              refine pure_ (i := 15) (N := (some 44)) (v := ?_) (a' := ?_) #[true, true, true, true, true, true, true, true, true, true, true, true, true, true, true, true, false, false, false, false, false, false] rfl rfl (by kernel_rfl) (fun _ _ _ h => h) (Or.inl ⟨by rfl, ?_⟩) ?_ ?_
              rotate_left
              · intro w'
                skip
                go_simp
                all_goals (with_reducible rfl)
              rotate_left
              · simp only [Act.put, List.setIfInBounds_toArray, List.set_cons_zero, List.set_cons_succ, i64_w, i32_w]
                rfl
              refine pure_ (i := 16) (N := (some 45)) (v := ?_) (a' := ?_) #[true, true, true, true, true, true, true, true, true, true, true, true, true, true, true, true, true, false, false, false, false, false] rfl rfl (by kernel_rfl) (fun _ _ _ h => h) (Or.inl ⟨by rfl, ?_⟩) ?_ ?_
              rotate_left
              · intro w'
                skip
                go_simp
                all_goals (with_reducible rfl)
              rotate_left
              · simp only [Act.put, List.setIfInBounds_toArray, List.set_cons_zero, List.set_cons_succ, i64_w, i32_w]
                rfl
              refine pure_ (i := 17) (N := (some 46)) (v := ?_) (a' := ?_) #[true, true, true, true, true, true, true, true, true, true, true, true, true, true, true, true, true, true, false, false, false, false] rfl rfl (by kernel_rfl) (fun _ _ _ h => h) (Or.inl ⟨by rfl, ?_⟩) ?_ ?_
              rotate_left
              · intro w'
                skip
                go_simp
                all_goals (with_reducible rfl)
              rotate_left
              · simp only [Act.put, List.setIfInBounds_toArray, List.set_cons_zero, List.set_cons_succ, i64_w, i32_w]
                rfl
              refine pure_ (i := 18) (N := (some 47)) (v := ?_) (a' := ?_) #[true, true, true, true, true, true, true, true, true, true, true, true, true, true, true, true, true, true, true, false, false, false] rfl rfl (by kernel_rfl) (fun _ _ _ h => h) (Or.inl ⟨by rfl, ?_⟩) ?_ ?_
              rotate_left
              · intro w'
                skip
                go_simp
                all_goals (with_reducible rfl)
              rotate_left
              · simp only [Act.put, List.setIfInBounds_toArray, List.set_cons_zero, List.set_cons_succ, i64_w, i32_w]
                rfl
              refine last_ (i := 19) (N := (some 48)) #[true, true, true, true, true, true, true, true, true, true, true, true, true, true, true, true, true, true, true, true, false, false] rfl rfl (by kernel_rfl) (by decide) (fun K hK => ?_)
              refine call_ 65 #[.int .i64 (a : Int), .pointer (some ⟨gn, 0, none⟩), .pointer (some ⟨gs, 0, none⟩), .pointer (some ⟨gi, 0, none⟩)] (by rfl) rfl ?_ ?_
              · go_simp
                all_goals rfl
              refine HYD.out.mono ?_
              rintro e_ w5 ⟨rfl, hn4, hb4, hk4⟩
              have HN4 := Aside0.mk hn4
              have HB4 := Aside0.mk (HB3.out.trans hb4)
              have BX4 := Aside0.mk ((hk4 gb (by have := GB.out.1; omega) (fun e_ => by have := GB.out.2 gb e_.symm; omega)).trans BX3.out)
              clear hn4 hb4 hk4
              refine ⟨_, rfl, hK.out _ _ ?_⟩
              clear hK K
              refine norm_ (a' := ?_) ?_ ?_
              rotate_left
              · show Act.put _ (some 48) _ = _
                simp only [Act.put, List.setIfInBounds_toArray, List.set_cons_zero, List.set_cons_succ, i64_w, i32_w]
                rfl
              refine pure_ (i := 20) (N := (some 49)) (v := ?_) (a' := ?_) #[true, true, true, true, true, true, true, true, true, true, true, true, true, true, true, true, true, true, true, true, true, false] rfl rfl (by kernel_rfl) (fun _ _ _ h => h) (Or.inl ⟨by rfl, ?_⟩) ?_ ?_
              rotate_left
              · intro w'
                skip
                go_simp
                all_goals (with_reducible rfl)
              rotate_left
              · simp only [Act.put, List.setIfInBounds_toArray, List.set_cons_zero, List.set_cons_succ, i64_w, i32_w]
                rfl
              refine pure_ (i := 21) (N := (some 50)) (v := ?_) (a' := ?_) #[true, true, true, true, true, true, true, true, true, true, true, true, true, true, true, true, true, true, true, true, true, true] rfl rfl (by kernel_rfl) (fun _ _ _ h => h) (Or.inl ⟨by rfl, ?_⟩) ?_ ?_
              rotate_left
              · intro w'
                skip
                go_simp
                all_goals (with_reducible rfl)
              rotate_left
              · simp only [Act.put, List.setIfInBounds_toArray, List.set_cons_zero, List.set_cons_succ, i64_w, i32_w]
                rfl
              refine done_ (by kernel_rfl) ?_
              go_wp2
              go_meet
              case rel => exact ⟨by simp, HN4, HB4, BX4⟩
            · have hf : ¬ fits s (rd_T37 f (a : Int)) = true := by unfold fits; rw [s0, beq_eq_false_iff_ne.mpr hnm]; simp
              rw [if_neg hf] at hm
              injection hm with hm1 hm2
              injection hm2 with hm2 hm3
              subst hm1 hm2 hm3
              have s1 : (s.f1.toList == (rd_T37 f (a : Int)).f0.toList) = false := beq_eq_false_iff_ne.mpr hnm
              have HN4 := Aside0.mk (HN.out.below (Below.refl _ wr).drew)
              clear hst hf hnm
              refine start_ (n := 22) (S := fun w' => w'.cell? ⟨gb, 1, none⟩ = some (.string s.f1) ∧ w'.cell? ⟨gx, 0, none⟩ = some (.slice (some ad) f.length cf) ∧ w'.cell? (ad.add (a * 4)) = some (.string (rd_T37 f (a : Int)).f0)) (ds := []) #[false, false, false, false, false, false, false, false, false, false, false, false, false, false, false, false, false, false, false, false, false, false] (by kernel_rfl) rfl rfl HS0 (fun hHeld => ?_)
              clear HS0 b1 x0 y0
              refine pure_ (i := 0) (N := (some 29)) (v := ?_) (a' := ?_) #[true, false, false, false, false, false, false, false, false, false, false, false, false, false, false, false, false, false, false, false, false, false] rfl rfl (by kernel_rfl) (fun _ _ _ h => h) (Or.inl ⟨by rfl, ?_⟩) ?_ ?_
              rotate_left
              · intro w'
                skip
                go_simp
                all_goals (with_reducible rfl)
              rotate_left
              · simp only [Act.put, List.setIfInBounds_toArray, List.set_cons_zero, List.set_cons_succ, i64_w, i32_w]
                rfl
              refine take_ (i := 1) (N := (some 30)) (v := ?_) (a' := ?_) #[true, true, false, false, false, false, false, false, false, false, false, false, false, false, false, false, false, false, false, false, false, false] rfl rfl (by kernel_rfl) (fun _ _ _ h => h) (Or.inl ⟨by rfl, ?_⟩) hHeld ?_ ?_
              rotate_left
              · rintro w' hS_
                try dsimp only at hS_
                (try obtain ⟨s0_, s1_⟩ := hS_); go_split_ands; go_simp
                all_goals (with_reducible rfl)
              rotate_left
              · simp only [Act.put, List.setIfInBounds_toArray, List.set_cons_zero, List.set_cons_succ, i64_w, i32_w]
                rfl
              refine pure_ (i := 2) (N := (some 31)) (v := ?_) (a' := ?_) #[true, true, true, false, false, false, false, false, false, false, false, false, false, false, false, false, false, false, false, false, false, false] rfl rfl (by kernel_rfl) (fun _ _ _ h => h) (Or.inl ⟨by rfl, ?_⟩) ?_ ?_
              rotate_left
              · intro w'
                skip
                go_simp
                all_goals (with_reducible rfl)
              rotate_left
              · simp only [Act.put, List.setIfInBounds_toArray, List.set_cons_zero, List.set_cons_succ, i64_w, i32_w]
                rfl
              refine pure_ (i := 3) (N := (some 32)) (v := ?_) (a' := ?_) #[true, true, true, true, false, false, false, false, false, false, false, false, false, false, false, false, false, false, false, false, false, false] rfl rfl (by kernel_rfl) (fun _ _ _ h => h) (Or.inl ⟨by rfl, ?_⟩) ?_ ?_
              rotate_left
              · intro w'
                skip
                go_simp
                all_goals (with_reducible rfl)
              rotate_left
              · simp only [Act.put, List.setIfInBounds_toArray, List.set_cons_zero, List.set_cons_succ, i64_w, i32_w]
                rfl
              refine pure_ (i := 4) (N := (some 33)) (v := ?_) (a' := ?_) #[true, true, true, true, true, false, false, false, false, false, false, false, false, false, false, false, false, false, false, false, false, false] rfl rfl (by kernel_rfl) (fun _ _ _ h => h) (Or.inl ⟨by rfl, ?_⟩) ?_ ?_
              rotate_left
              · intro w'
                skip
                go_simp
                all_goals (with_reducible rfl)
              rotate_left
              · simp only [Act.put, List.setIfInBounds_toArray, List.set_cons_zero, List.set_cons_succ, i64_w, i32_w]
                rfl
              refine take_ (i := 5) (N := (some 34)) (v := ?_) (a' := ?_) #[true, true, true, true, true, true, false, false, false, false, false, false, false, false, false, false, false, false, false, false, false, false] rfl rfl (by kernel_rfl) (fun _ _ _ h => h) (Or.inl ⟨by rfl, ?_⟩) hHeld ?_ ?_
              rotate_left
              · rintro w' hS_
                try dsimp only at hS_
                (try obtain ⟨s0_, s1_⟩ := hS_); go_split_ands; go_simp
                all_goals (with_reducible rfl)
              rotate_left
              · simp only [Act.put, List.setIfInBounds_toArray, List.set_cons_zero, List.set_cons_succ, i64_w, i32_w]
                rfl
              refine pure_ (i := 6) (N := (some 35)) (v := ?_) (a' := ?_) #[true, true, true, true, true, true, true, false, false, false, false, false, false, false, false, false, false, false, false, false, false, false] rfl rfl (by kernel_rfl) (fun _ _ _ h => h) (Or.inl ⟨by rfl, ?_⟩) ?_ ?_
              rotate_left
              · intro w'
                skip
                go_simp
                all_goals (with_reducible rfl)
              rotate_left
              · simp only [Act.put, List.setIfInBounds_toArray, List.set_cons_zero, List.set_cons_succ, i64_w, i32_w]
                rfl
              refine pure_ (i := 7) (N := (some 36)) (v := ?_) (a' := ?_) #[true, true, true, true, true, true, true, true, false, false, false, false, false, false, false, false, false, false, false, false, false, false] rfl rfl (by kernel_rfl) (fun _ _ _ h => h) (Or.inl ⟨by rfl, ?_⟩) ?_ ?_
              rotate_left
              · intro w'
                skip
                go_simp
                all_goals (with_reducible rfl)
              rotate_left
              · simp only [Act.put, List.setIfInBounds_toArray, List.set_cons_zero, List.set_cons_succ, i64_w, i32_w]
                rfl
              refine pure_ (i := 8) (N := (some 37)) (v := ?_) (a' := ?_) #[true, true, true, true, true, true, true, true, true, false, false, false, false, false, false, false, false, false, false, false, false, false] rfl rfl (by kernel_rfl) (fun _ _ _ h => h) (Or.inl ⟨by rfl, ?_⟩) ?_ ?_
              rotate_left
              · intro w'
                skip
                go_simp
                all_goals (with_reducible rfl)
              rotate_left
              · simp only [Act.put, List.setIfInBounds_toArray, List.set_cons_zero, List.set_cons_succ, i64_w, i32_w]
                rfl
              refine take_ (i := 9) (N := (some 38)) (v := ?_) (a' := ?_) #[true, true, true, true, true, true, true, true, true, true, false, false, false, false, false, false, false, false, false, false, false, false] rfl rfl (by kernel_rfl) (fun _ _ _ h => h) (Or.inl ⟨by rfl, ?_⟩) hHeld ?_ ?_
              rotate_left
              · rintro w' hS_
                try dsimp only at hS_
                (try obtain ⟨s0_, s1_⟩ := hS_); go_split_ands; go_simp
                all_goals (with_reducible rfl)
              rotate_left
              · simp only [Act.put, List.setIfInBounds_toArray, List.set_cons_zero, List.set_cons_succ, i64_w, i32_w]
                rfl
              refine pure_ (i := 10) (N := (some 39)) (v := ?_) (a' := ?_) #[true, true, true, true, true, true, true, true, true, true, true, false, false, false, false, false, false, false, false, false, false, false] rfl rfl (by kernel_rfl) (fun _ _ _ h => h) (Or.inl ⟨by rfl, ?_⟩) ?_ ?_
              rotate_left
              · intro w'
                skip
                go_simp
                all_goals (with_reducible rfl)
              rotate_left
              · simp only [Act.put, List.setIfInBounds_toArray, List.set_cons_zero, List.set_cons_succ, i64_w, i32_w]
                rfl
              refine pure_ (i := 11) (N := (some 40)) (v := ?_) (a' := ?_) #[true, true, true, true, true, true, true, true, true, true, true, true, false, false, false, false, false, false, false, false, false, false] rfl rfl (by kernel_rfl) (fun _ _ _ h => h) (Or.inl ⟨by rfl, ?_⟩) ?_ ?_
              rotate_left
              · intro w'
                skip
                go_simp
                all_goals (with_reducible rfl)
              rotate_left
              · simp only [Act.put, List.setIfInBounds_toArray, List.set_cons_zero, List.set_cons_succ, i64_w, i32_w]
                rfl
              refine pure_ (i := 12) (N := (some 41)) (v := ?_) (a' := ?_) #[true, true, true, true, true, true, true, true, true, true, true, true, true, false, false, false, false, false, false, false, false, false] rfl rfl (by kernel_rfl) (fun _ _ _ h => h) (Or.inl ⟨by rfl, ?_⟩) ?_ ?_
              rotate_left
              · intro w'
                skip
                go_simp
                all_goals (with_reducible rfl)
              rotate_left
              · simp only [Act.put, List.setIfInBounds_toArray, List.set_cons_zero, List.set_cons_succ, i64_w, i32_w]
                rfl
              refine take_ (i := 13) (N := (some 42)) (v := ?_) (a' := ?_) #[true, true, true, true, true, true, true, true, true, true, true, true, true, true, false, false, false, false, false, false, false, false] rfl rfl (by kernel_rfl) (fun _ _ _ h => h) (Or.inl ⟨by rfl, ?_⟩) hHeld ?_ ?_
              rotate_left
              · rintro w' hS_
                try dsimp only at hS_
                (try obtain ⟨s0_, s1_⟩ := hS_); go_split_ands; go_simp
                all_goals (with_reducible rfl)
              rotate_left
              · simp only [Act.put, List.setIfInBounds_toArray, List.set_cons_zero, List.set_cons_succ, i64_w, i32_w]
                rfl
              refine pure_ (i := 14) (N := (some 43)) (v := ?_) (a' := ?_) #[true, true, true, true, true, true, true, true, true, true, true, true, true, true, true, false, false, false, false, false, false, false] rfl rfl (by kernel_rfl) (fun _ _ _ h => h) (Or.inl ⟨by rfl, ?_⟩) ?_ ?_
              rotate_left
              · intro w'
                skip
                go_simp
                all_goals (with_reducible rfl)
              rotate_left
              · simp only [Act.put, List.setIfInBounds_toArray, List.set_cons_zero, List.set_cons_succ, i64_w, i32_w]
                rfl
              refine pure_ (i := 15) (N := (some 44)) (v := ?_) (a' := ?_) #[true, true, true, true, true, true, true, true, true, true, true, true, true, true, true, true, false, false, false, false, false, false] rfl rfl (by kernel_rfl) (fun _ _ _ h => h) (Or.inl ⟨by rfl, ?_⟩) ?_ ?_
              rotate_left
              · intro w'
                skip
                go_simp
                all_goals (with_reducible rfl)
              rotate_left
              · simp only [Act.put, List.setIfInBounds_toArray, List.set_cons_zero, List.set_cons_succ, i64_w, i32_w]
                rfl
              refine pure_ (i := 16) (N := (some 45)) (v := ?_) (a' := ?_) #[true, true, true, true, true, true, true, true, true, true, true, true, true, true, true, true, true, false, false, false, false, false] rfl rfl (by kernel_rfl) (fun _ _ _ h => h) (Or.inl ⟨by rfl, ?_⟩) ?_ ?_
              rotate_left
              · intro w'
                skip
                go_simp
                all_goals (with_reducible rfl)
              rotate_left
              · simp only [Act.put, List.setIfInBounds_toArray, List.set_cons_zero, List.set_cons_succ, i64_w, i32_w]
                rfl
              refine pure_ (i := 17) (N := (some 46)) (v := undef) (a' := ?_) #[true, true, true, true, true, true, true, true, true, true, true, true, true, true, true, true, true, true, false, false, false, false] rfl rfl (by kernel_rfl) (fun _ _ _ h => h) (Or.inr ⟨by rfl, rfl⟩) ?_ ?_
              rotate_left
              · simp only [Act.put, List.setIfInBounds_toArray, List.set_cons_zero, List.set_cons_succ, i64_w, i32_w]
                rfl
              refine pure_ (i := 18) (N := (some 47)) (v := undef) (a' := ?_) #[true, true, true, true, true, true, true, true, true, true, true, true, true, true, true, true, true, true, true, false, false, false] rfl rfl (by kernel_rfl) (fun _ _ _ h => h) (Or.inr ⟨by rfl, rfl⟩) ?_ ?_
              rotate_left
              · simp only [Act.put, List.setIfInBounds_toArray, List.set_cons_zero, List.set_cons_succ, i64_w, i32_w]
                rfl
              refine pure_ (i := 19) (N := (some 48)) (v := undef) (a' := ?_) #[true, true, true, true, true, true, true, true, true, true, true, true, true, true, true, true, true, true, true, true, false, false] rfl rfl (by kernel_rfl) (fun _ _ _ h => h) (Or.inr ⟨by rfl, rfl⟩) ?_ ?_
              rotate_left
              · simp only [Act.put, List.setIfInBounds_toArray, List.set_cons_zero, List.set_cons_succ, i64_w, i32_w]
                rfl
              refine pure_ (i := 20) (N := (some 49)) (v := undef) (a' := ?_) #[true, true, true, true, true, true, true, true, true, true, true, true, true, true, true, true, true, true, true, true, true, false] rfl rfl (by kernel_rfl) (fun _ _ _ h => h) (Or.inr ⟨by rfl, rfl⟩) ?_ ?_
              rotate_left
              · simp only [Act.put, List.setIfInBounds_toArray, List.set_cons_zero, List.set_cons_succ, i64_w, i32_w]
                rfl
              refine pure_ (i := 21) (N := (some 50)) (v := ?_) (a' := ?_) #[true, true, true, true, true, true, true, true, true, true, true, true, true, true, true, true, true, true, true, true, true, true] rfl rfl (by kernel_rfl) (fun _ _ _ h => h) (Or.inl ⟨by rfl, ?_⟩) ?_ ?_
              rotate_left
              · intro w'
                skip
                go_simp
                all_goals (with_reducible rfl)
              rotate_left
              · simp only [Act.put, List.setIfInBounds_toArray, List.set_cons_zero, List.set_cons_succ, i64_w, i32_w]
                rfl
              refine done_ (by kernel_rfl) ?_
              go_wp2
              go_meet
              case rel => exact ⟨rfl, HN4, HB3, BX3⟩
        case rest =>
          obtain ⟨rfl, HN2, HB2, BX2⟩ := hcut
          cases b with
          | true =>
            obtain rfl : ans = (n', inn2) := by rw [← HA.out]; exact eachGo_stop hlt HAT.out
            go_wp2
            refine bodyPost_ret (results_none rfl _ _ _) rfl ?_
            exact ⟨⟨_, rfl⟩, HN2.out, HB2.out⟩
          | false =>
            have hgo := (eachGo_go (el := el) (d := d) hlt HAT.out).symm.trans HA.out
            have HGO := Aside0.mk hgo
            have hxa := HEX.out a (by omega)
            clear hgo
            by_cases hdp : s.f0 = true
            · have hnx : nxt el s a = a + 1 := by unfold nxt; rw [if_pos hdp]
              have q0 : wc.cell? ⟨gb, 0, none⟩ = some (.bool true) := by rw [← hdp]; exact (blk_cell BX2.out 0).trans rfl
              have i8 : IntKind.i64.wrap ((a : Int) + 1) = ((a + 1 : Nat) : Int) := by rw [i64_w]; unfold wrap64; omega
              have HNXT := Aside0.mk hnx
              clear hnx hdp p0
              go_wp2
              go_roundw
              case rel => exact ⟨a + 1, d, n', inn2, rfl, ⟨by omega⟩, ⟨by rw [← HNXT.out]; exact HGO.out⟩, ⟨by have := HD.out; omega⟩, ⟨by have := HNA.out; omega⟩, ⟨by have := HIL.out; omega⟩, HN2, HB2, BX2⟩
              case measure => simp [intOf]; omega
            · have hnx : ((nxt el s a : Nat) : Int) = rd el (a : Int) := by unfold nxt; rw [if_neg hdp]; omega
              have q0 : wc.cell? ⟨gb, 0, none⟩ = some (.bool false) := by rw [← Bool.eq_false_iff.2 hdp]; exact (blk_cell BX2.out 0).trans rfl
              obtain ⟨ad, hade, hc⟩ := Kd.at_int (Kd.C_below HCE.out HB2.out) (a : Int) (by omega) (by omega)
              subst hade
              rw [← hnx] at hc
              rw [Int.toNat_natCast] at hc
              obtain ⟨m, hm⟩ : ∃ m, nxt el s a = m := ⟨_, rfl⟩
              rw [hm] at hc hnx
              have hm1 : a < m ∧ m ≤ f.length := by omega
              have c1 : wc.cell? ⟨gx, 1, none⟩ = some (.slice (some ad) el.length ce) := (blk_cell ((HB2.out.block gx (lt_of_some HX.out)).trans HX.out) 1).trans rfl
              have i2 : (a : Int) < (el.length : Int) := by omega
              have HM := Aside0.mk hm
              clear hnx hdp p0 hm
              go_wp2
              go_roundw
              case rel => exact ⟨m, d, n', inn2, rfl, ⟨hm1.2⟩, ⟨by rw [← HM.out]; exact HGO.out⟩, ⟨by have := HD.out; omega⟩, ⟨by have := HNA.out; omega⟩, ⟨by have := HIL.out; omega⟩, HN2, HB2, BX2⟩
              case measure => simp [intOf]; omega
      · have p0 : decide ((a : Int) < (e : Int)) = false := decide_eq_false (by omega)
        have hltn : (a < e) = False := eq_false hlt
        obtain rfl : ans = (n, inn') := by rw [← HA.out, eachGo, if_neg hlt]
        go_wp2
        refine bodyPost_end (results_none rfl _ _ _) rfl ?_
        exact ⟨⟨_, rfl⟩, HN.out, HB.out⟩
end Go.Proofs.YtkebableanenkaaDoor.Fi
namespace Go.Proofs.YtkebableanenkaaDoor.Fi
open Go.RowKit Go.Proofs.YtkebableanenkaaDoor.Qall Go.Proofs.YtkebableanenkaaDoorW.PrintWords Go.Proofs.YtkebableanenkaaDoorW.PrintLast Go.Proofs.YtkebableanenkaaDoorW.PrintMore
set_option linter.unusedSimpArgs false
set_option linter.unusedVariables false
attribute [local go_sem] max2_int
theorem infoB : (Tryd.prog.info? 4).map (fun i => (i.zero, i.size, i.bytes)) = some (some (.bool false), 1, 1) := by kernel_rfl
/-- All that was marked from this node is known: it is passed over. -/
def skipB (el : List Int) (s : ST) (i rc : Int) : Bool := s.f0 && s.f2 == 0 && decide (0 ≤ i) && decide (rd el i ≤ rc)
def reach (el : List Int) (s : ST) (i rc : Int) : Int := if s.f0 = true ∧ 0 ≤ i then max rc (rd el i) else rc
def nextGo (f : List SC) (el : List Int) (s : ST) : List Int → Int → List Bool → List Bool
  | [], _, inn => inn
  | i :: l, rc, inn => if skipB el s i rc = true then nextGo f el s l rc inn else nextGo f el s l (reach el s i rc) (eachAns f el s i inn).2
def outFrom : List Bool → Nat → List Int
  | [], _ => []
  | b :: l, k => if b = true then (k : Int) :: outFrom l (k + 1) else outFrom l (k + 1)
def nextAns (f : List SC) (el : List Int) (s : ST) (set : List Int) : List Int := outFrom (nextGo f el s set (-1) (List.replicate f.length false)) 0
theorem eachAns_length (f : List SC) (el : List Int) (s : ST) (i : Int) (inn : List Bool) : (eachAns f el s i inn).2.length = inn.length := eachGo_length f el s _ _ _ _ _
/-- The step and the marks. -/
structure NY (W : World) (base gs gi : Nat) (s : ST) (vi : Value) (inn : List Bool) : Prop where
  hs : W.heap[gs]? = some (.cells #[.bool s.f0, .string s.f1, .int .i64 s.f2] 94 (0, 0))
  hi : W.heap[gi]? = some (.cells #[vi] 123 (0, 0))
  hv : Kd.R Kd.bool 4 W base (fun _ => True) vi inn
theorem NY.of {W : World} {base gn gs gi n : Nat} {s : ST} {vi : Value} {inn : List Bool} (h : NX W base gn gs gi n s vi inn) : NY W base gs gi s vi inn := ⟨h.hs, h.hi, h.hv⟩
theorem NY.below {W W' : World} {base gs gi : Nat} {s : ST} {vi : Value} {inn : List Bool} (h : NY W base gs gi s vi inn) (hb : Below W.heap.size W W') : NY W' base gs gi s vi inn :=
  ⟨(hb.block gs (lt_of_some h.hs)).trans h.hs, (hb.block gi (lt_of_some h.hi)).trans h.hi, Kd.R_below h.hv hb⟩
set_option maxRecDepth 100000 in
set_option maxHeartbeats 4000000 in
theorem next_calls (f : List SC) (hfl : f.length ≤ 2097152) (el : List Int) (hel : el.length = f.length) (hex : ∀ a : Nat, a < f.length → (a : Int) < rd el (a : Int) ∧ rd el (a : Int) ≤ (f.length : Int)) (s : ST) (set : List Int) (hsl : set.length ≤ 2097152) (hset : ∀ i ∈ set, -1 ≤ i ∧ i < (f.length : Int))
    (Af Ae As : Option Addr) (cf ce cs gx : Nat) (W : World) (hCf : Kd.C k37 W Af f.length f) (hCe : Kd.C (Kd.int .i64) W Ae el.length el) (hCs : Kd.C (Kd.int .i64) W As set.length set)
    (hx : W.heap[gx]? = some (.cells #[.slice Af f.length cf, .slice Ae el.length ce] 92 (0, 0))) :
    Calls Tryd.prog 45 #[.pointer (some ⟨gx, 0, none⟩), .agg #[.bool s.f0, .string s.f1, .int .i64 s.f2], .slice As set.length cs] W
      fun e w' => ∃ v, e = .returned v ∧ Kd.R (Kd.int .i64) 3 w' W.heap.size (fun _ => True) v (nextAns f el s set) ∧ Below W.heap.size W w' := by
  obtain ⟨ans, hans⟩ : ∃ a, nextAns f el s set = a := ⟨_, rfl⟩
  rw [hans]
  have HANS := Aside0.mk hans
  have HX := Aside0.mk hx
  have HCE := Aside0.mk hCe
  have HCS := Aside0.mk hCs
  have HEX := Aside0.mk hex
  have HSET := Aside0.mk hset
  have HEA0 := Aside0.mk (fun (i : Int) (hi : -1 ≤ i ∧ i < (f.length : Int)) (gn gs gi : Nat) (vi : Value) (inn : List Bool) (hinn : inn.length = f.length) (W' : World) (hB : Below W.heap.size W W') (h : NX W' W.heap.size gn gs gi 0 s vi inn) => each_calls f hfl el hel hex s i hi Af Ae cf ce gx gn gs gi vi inn hinn W W' hCf hCe hx hB h)
  have hu := Tryd.underlying94
  clear hans hx hCf hCe hCs hex hset
  go_enter Tryd.func45, Tryd.ntmps45
  go_upto_region 2 with (first | ((with_reducible refine gate_dst (N := 4) rfl ?_); (try (refine gate_guard (by rfl) ?_; dsimp only)); refine box_event ?hg (N := 4) ?hd (cs := #[.bool s.f0, .string s.f1, .int .i64 s.f2]) (t := 94) ?hr ?_; (case hd => rfl); (case hg => rfl); (case hr => first | (go_simp; done) | (go_simp; rfl)); intro gs hg0 w3 hbox hb0; have GS := Aside0.mk (Nat.le_of_eq hg0.symm : W.heap.size ≤ gs); have HB3 := Aside0.mk hb0; have BS := Aside0.mk hbox; have c0 := (blk_cell ((hb0.block gx (lt_of_some HX.out)).trans HX.out) 0).trans rfl; clear hg0 hbox hb0) | ((with_reducible refine gate_dst (N := 20) rfl ?_); (try (refine gate_guard (by rfl) ?_; dsimp only)); refine Kd.R_make Kd.bool _ 4 rfl (N := 20) rfl 123 _ _ rfl (f.length : Int) rfl rfl Tryd.underlying123 (.bool false) 1 infoB rfl (by decide) (by omega) false (ok := fun _ => True) (okp := fun _ => True) rfl (fun _ hk => hk) trivial (by omega) (by omega) (Below.refl _ _) (Nat.le_refl _) ?_; intro vi w4 ho hb hg_ hnew_; rw [Int.toNat_natCast] at ho; have HV := Aside0.mk (Kd.R_lower ho HB3.out.size); have HB4 := Aside0.mk (HB3.out.trans (hb.mono HB3.out.size)); have BS4 := Aside0.mk ((hb.block gs (lt_of_some BS.out)).trans BS.out); obtain ⟨Ai, ci, rfl⟩ := Kd.R_slice ho; clear ho hb hg_ hnew_ c0) | ((with_reducible refine gate_dst (N := 7) rfl ?_); (try (refine gate_guard (by rfl) ?_; dsimp only)); refine box_event ?hg (N := 7) ?hd (cs := #[.slice none 0 0]) (t := 123) ?hr ?_; (case hd => rfl); (case hg => rfl); (case hr => first | (go_simp; done) | (go_simp; rfl)); intro gi hg0 w5 hbox hb0; have GI := Aside0.mk (Nat.le_of_eq hg0.symm : w4.heap.size ≤ gi); have HB5 := Aside0.mk (HB4.out.trans (hb0.mono HB4.out.size)); have BS5 := Aside0.mk ((hb0.block gs (lt_of_some BS4.out)).trans BS4.out); have BI5 := Aside0.mk hbox; have HV5 := Aside0.mk (Kd.R_below HV.out hb0); have k0 := (blk_cell hbox 0).trans rfl; have z0 := blk_frozen hbox 0; clear hg0 hbox hb0))
  have hne : gs ≠ gi := fun e => by have h1 := BI5.out; rw [← e, BS5.out] at h1; simp at h1
  have HY0 : NY (w5.setCell ⟨gi, 0, none⟩ (.slice Ai f.length ci)) W.heap.size gs gi s (.slice Ai f.length ci) (List.replicate f.length false) := ⟨(Below.heap_setCell w5 ⟨gi, 0, none⟩ _ gs hne).trans BS5.out, blk_put BI5.out 0 _ rfl, Kd.R_set (by have := HV5.out; rwa [List.length_replicate] at this) BI5.out (by decide) 0 _⟩
  have HB0 : Below W.heap.size W (w5.setCell ⟨gi, 0, none⟩ (.slice Ai f.length ci)) := HB5.out.setCell (p := ⟨gi, 0, none⟩) (by have := GI.out; have := HB4.out.size; show W.heap.size ≤ gi; omega) _
  generalize w5.setCell ⟨gi, 0, none⟩ (.slice Ai f.length ci) = w6 at HY0 HB0 ⊢
  have HYA := Aside0.mk HY0
  have HBA := Aside0.mk HB0
  clear HY0 HB0 HV HV5 HB3 HB4 HB5 BS BS4 BS5 BI5 GI k0 z0 hne
  obtain ⟨inz, hinz⟩ : ∃ x, nextGo f el s set (-1) (List.replicate f.length false) = x := ⟨_, rfl⟩
  have HINZ := Aside0.mk hinz
  have HOUT : Aside0 (outFrom inz 0 = ans) := ⟨by rw [← hinz]; exact HANS.out⟩
  clear hinz HANS
  go_wp2
  go_loopw [8, 23] (fun v8 v23 wr => ∃ (k : Nat) (rc : Int) (inn : List Bool), v23 = .int .i64 (k : Int) ∧ v8 = .int .i64 rc ∧ Aside0 (k ≤ set.length) ∧ Aside0 (nextGo f el s (set.drop k) rc inn = inz) ∧ Aside0 (inn.length = f.length) ∧ Aside0 (NY wr W.heap.size gs gi s (.slice Ai f.length ci) inn) ∧ Aside0 (Below W.heap.size W wr))
    (fun v8 v23 _ => set.length - (intOf v23).toNat)
  case atStart => exact ⟨0, -1, List.replicate f.length false, rfl, rfl, ⟨Nat.zero_le _⟩, HINZ, ⟨by simp⟩, HYA, HBA⟩
  case round =>
    clear HYA HBA HINZ
    obtain ⟨k, rc, inn, rfl, rfl, HKL, HGO, HIL, HY, HB⟩ := hrel
    by_cases hlt : k < set.length
    · obtain ⟨i, hie⟩ : ∃ i, set[k] = i := ⟨_, rfl⟩
      have hi := HSET.out i (by rw [← hie]; exact List.getElem_mem _)
      have hrd : rd set (k : Int) = i := by unfold rd; rw [Int.toNat_natCast, List.getD_eq_getElem?_getD, List.getElem?_eq_getElem hlt, hie]; rfl
      have hdr : set.drop k = i :: set.drop (k + 1) := by rw [List.drop_eq_getElem_cons hlt, hie]
      have hgo := HGO.out
      rw [hdr, nextGo] at hgo
      have HGN := Aside0.mk hgo
      obtain ⟨ad, hade, hc⟩ := Kd.at_int (Kd.C_below HCS.out HB.out) (k : Int) (by omega) (by omega)
      subst hade
      rw [hrd, Int.toNat_natCast] at hc
      have i1 : (k : Int) < (set.length : Int) := by omega
      have p0 : decide ((k : Int) < (set.length : Int)) = true := decide_eq_true i1
      have hltt := eq_true hlt
      have i8 : IntKind.i64.wrap ((k : Int) + 1) = ((k + 1 : Nat) : Int) := by rw [i64_w]; unfold wrap64; omega
      clear hgo hdr hrd hie
      go_upto_region 6 with (fail)
      clear hc
      go_cut [48] (fun v48 wc => v48 = .bool (skipB el s i rc) ∧ Aside0 (NY wc W.heap.size gs gi s (.slice Ai f.length ci) inn) ∧ Aside0 (Below W.heap.size W wc))
      case first =>
        have f0 := HY.out
        by_cases a1 : s.f0 = true
        · have d0 : wr.cell? ⟨gs, 0, none⟩ = some (.bool true) := by rw [← a1]; exact (blk_cell HY.out.hs 0).trans rfl
          have d2 : wr.cell? ⟨gs, 2, none⟩ = some (.int .i64 s.f2) := (blk_cell HY.out.hs 2).trans rfl
          by_cases a2 : s.f2 = 0
          · have q2 : (s.f2 == 0) = true := beq_iff_eq.mpr a2
            by_cases a3 : 0 ≤ i
            · have q3 : decide (0 ≤ i) = true := decide_eq_true a3
              obtain ⟨ae, hae, hc⟩ := Kd.at_int (Kd.C_below HCE.out HB.out) i a3 (by omega)
              subst hae
              have x1 : wr.cell? ⟨gx, 1, none⟩ = some (.slice (some ae) el.length ce) := (blk_cell ((HB.out.block gx (lt_of_some HX.out)).trans HX.out) 1).trans rfl
              have i2 : i < (el.length : Int) := by omega
              have esk : skipB el s i rc = decide (rd el i ≤ rc) := by unfold skipB; rw [a1, q2, q3]; simp
              have ESK := Aside0.mk esk
              clear esk a1 a2
              go_wp2
              go_meet
              case rel => exact ⟨by rw [ESK.out], HY, HB⟩
            · have q3 : decide (0 ≤ i) = false := decide_eq_false a3
              have esk : skipB el s i rc = false := by unfold skipB; rw [q3]; simp
              have ESK := Aside0.mk esk
              clear esk a1 a2
              go_wp2
              go_meet
              case rel => exact ⟨by rw [ESK.out], HY, HB⟩
          · have q2 : (s.f2 == 0) = false := beq_eq_false_iff_ne.mpr a2
            have esk : skipB el s i rc = false := by unfold skipB; rw [q2]; simp
            have ESK := Aside0.mk esk
            clear esk a1 a2
            go_wp2
            go_meet
            case rel => exact ⟨by rw [ESK.out], HY, HB⟩
        · have d0 : wr.cell? ⟨gs, 0, none⟩ = some (.bool false) := by rw [← Bool.eq_false_iff.2 a1]; exact (blk_cell HY.out.hs 0).trans rfl
          have esk : skipB el s i rc = false := by unfold skipB; rw [Bool.eq_false_iff.2 a1]; rfl
          have ESK := Aside0.mk esk
          clear esk a1
          go_wp2
          go_meet
          case rel => exact ⟨by rw [ESK.out], HY, HB⟩
      case rest =>
        obtain ⟨rfl, HYC, HBC⟩ := hcut
        clear HY HB
        have hgn := HGN.out
        cases hsk : skipB el s i rc with
        | true =>
          rw [if_pos hsk] at hgn
          have HG2 := Aside0.mk hgn
          clear hgn hsk
          go_wp2
          go_roundw
          case rel => exact ⟨k + 1, rc, inn, by first | rfl | (simp; done) | (simp [*]; done), rfl, ⟨by omega⟩, HG2, HIL, HYC, HBC⟩
          case measure => simp [intOf]; omega
        | false =>
          rw [if_neg (by rw [hsk]; exact Bool.false_ne_true)] at hgn
          have HG2 := Aside0.mk hgn
          clear hgn hsk
          go_upto_region 8 with (first | ((with_reducible refine gate_dst (N := 11) rfl ?_); (try (refine gate_guard (by rfl) ?_; dsimp only)); refine box_event ?hg (N := 11) ?hd (cs := #[.int .i64 0]) (t := 3) ?hr ?_; (case hd => rfl); (case hg => rfl); (case hr => first | (go_simp; done) | (go_simp; rfl)); intro gn hg0 w7 hbox hb0; have GN := Aside0.mk (Nat.le_of_eq hg0.symm : wc.heap.size ≤ gn); have HB7 := Aside0.mk (HBC.out.trans (hb0.mono HBC.out.size)); have HY7 := Aside0.mk (HYC.out.below hb0); have BN7 := Aside0.mk hbox; have k0 := (blk_cell hbox 0).trans rfl; have z0 := blk_frozen hbox 0; clear hg0 hbox hb0))
          have hszc := HBC.out.size
          have hgs : gs < gn := by have := lt_of_some HYC.out.hs; have := GN.out; omega
          have hgi : gi < gn := by have := lt_of_some HYC.out.hi; have := GN.out; omega
          have NX0 : NX (w7.setCell ⟨gn, 0, none⟩ (.int .i64 0)) W.heap.size gn gs gi 0 s (.slice Ai f.length ci) inn := ⟨blk_put BN7.out 0 _ rfl, (Below.heap_setCell w7 ⟨gn, 0, none⟩ _ gs (by show gs ≠ gn; omega)).trans HY7.out.hs, (Below.heap_setCell w7 ⟨gn, 0, none⟩ _ gi (by show gi ≠ gn; omega)).trans HY7.out.hi, Kd.R_set HY7.out.hv BN7.out (by decide) 0 _, by have := GN.out; omega⟩
          have HB0 : Below W.heap.size W (w7.setCell ⟨gn, 0, none⟩ (.int .i64 0)) := HB7.out.setCell (p := ⟨gn, 0, none⟩) (by have := GN.out; show W.heap.size ≤ gn; omega) _
          generalize w7.setCell ⟨gn, 0, none⟩ (.int .i64 0) = w8 at NX0 HB0 ⊢
          have NX8 := Aside0.mk NX0
          have HB8 := Aside0.mk HB0
          have HEA := Aside0.mk (HEA0.out i hi gn gs gi (.slice Ai f.length ci) inn HIL.out w8 HB8.out NX8.out)
          have d0 : w8.cell? ⟨gs, 0, none⟩ = some (.bool s.f0) := (blk_cell NX0.hs 0).trans rfl
          have d1 : w8.cell? ⟨gs, 1, none⟩ = some (.string s.f1) := (blk_cell NX0.hs 1).trans rfl
          have d2 : w8.cell? ⟨gs, 2, none⟩ = some (.int .i64 s.f2) := (blk_cell NX0.hs 2).trans rfl
          clear NX0 HB0 HY7 HB7 BN7 k0 z0 HYC HBC hgs hgi
          obtain ⟨⟨nn, inn2⟩, hea⟩ : ∃ x, eachAns f el s i inn = x := ⟨_, rfl⟩
          have hil2 := eachAns_length f el s i inn
          rw [hea] at HEA HG2 hil2
          dsimp only at HEA HG2 hil2
          have HIL2 := Aside0.mk (hil2.trans HIL.out)
          clear hil2 hea
          go_wp2_with fail
          go_at_call 64
          refine HEA.out.mono ?_
          rintro e_ w9 ⟨⟨v_, rfl⟩, hn9, hb9⟩
          have HY9 := Aside0.mk (NY.of hn9)
          have HB9 := Aside0.mk hb9
          clear HEA HB8 NX8 hn9 hb9 d0 d1 d2
          by_cases a1 : s.f0 = true
          · have d0 : w9.cell? ⟨gs, 0, none⟩ = some (.bool true) := by rw [← a1]; exact (blk_cell HY9.out.hs 0).trans rfl
            by_cases a3 : 0 ≤ i
            · have q3 : decide (0 ≤ i) = true := decide_eq_true a3
              obtain ⟨ae, hae, hc⟩ := Kd.at_int (Kd.C_below HCE.out HB9.out) i a3 (by omega)
              subst hae
              have x1 : w9.cell? ⟨gx, 1, none⟩ = some (.slice (some ae) el.length ce) := (blk_cell ((HB9.out.block gx (lt_of_some HX.out)).trans HX.out) 1).trans rfl
              have i2 : i < (el.length : Int) := by omega
              have ere : reach el s i rc = max rc (rd el i) := by unfold reach; rw [if_pos ⟨a1, a3⟩]
              rw [ere] at HG2
              clear ere a1
              go_wp2
              go_roundw
              case rel => exact ⟨k + 1, max rc (rd el i), inn2, by first | rfl | (simp; done) | (simp [*]; done), rfl, ⟨by omega⟩, HG2, HIL2, HY9, HB9⟩
              case measure => simp [intOf]; omega
            · have q3 : decide (0 ≤ i) = false := decide_eq_false a3
              have ere : reach el s i rc = rc := by unfold reach; rw [if_neg (fun h => a3 h.2)]
              rw [ere] at HG2
              clear ere a1
              go_wp2
              go_roundw
              case rel => exact ⟨k + 1, rc, inn2, by first | rfl | (simp; done) | (simp [*]; done), rfl, ⟨by omega⟩, HG2, HIL2, HY9, HB9⟩
              case measure => simp [intOf]; omega
          · have d0 : w9.cell? ⟨gs, 0, none⟩ = some (.bool false) := by rw [← Bool.eq_false_iff.2 a1]; exact (blk_cell HY9.out.hs 0).trans rfl
            have ere : reach el s i rc = rc := by unfold reach; rw [if_neg (fun h => a1 h.1)]
            rw [ere] at HG2
            clear ere a1
            go_wp2
            go_roundw
            case rel => exact ⟨k + 1, rc, inn2, by first | rfl | (simp; done) | (simp [*]; done), rfl, ⟨by omega⟩, HG2, HIL2, HY9, HB9⟩
            case measure => simp [intOf]; omega
    · obtain rfl : k = set.length := by have := HKL.out; omega
      have hgo := HGO.out
      rw [List.drop_length, nextGo] at hgo
      subst hgo
      have d0 : wr.cell? ⟨gi, 0, none⟩ = some (.slice Ai f.length ci) := (blk_cell HY.out.hi 0).trans rfl
      have HV := Aside0.mk HY.out.hv
      have HIL2 := HIL
      clear HGO HY HIL hlt HX HEA0 HCE HCS HEX HSET
      go_wp2
      go_loopw [12, 72] (fun v12 v72 wo => ∃ (k : Nat) (out : List Int), v72 = .int .i64 (k : Int) ∧ Aside0 (k ≤ f.length) ∧ Aside0 (out.length ≤ k) ∧ Aside0 (out ++ outFrom (inn.drop k) k = ans) ∧ Aside0 (Kd.R (Kd.int .i64) 3 wo W.heap.size (fun _ => True) v12 out) ∧ Aside0 (Kd.R Kd.bool 4 wo W.heap.size (fun _ => True) (.slice Ai f.length ci) inn) ∧ Aside0 (Below W.heap.size W wo))
        (fun v12 v72 _ => f.length - (intOf v72).toNat)
      case atStart => exact ⟨0, [], rfl, ⟨Nat.zero_le _⟩, ⟨Nat.zero_le _⟩, ⟨HOUT.out⟩, ⟨Kd.R_nil _ _ _ _ _⟩, HV, HB⟩
      case round =>
        clear HV HB HOUT d0
        obtain ⟨k, out, rfl, HKL, HOL, HOUT, HO, HV, HB⟩ := hrel
        by_cases hlt : k < f.length
        · obtain ⟨ad, hade, hc⟩ := Kd.at_bool (Kd.R_reads' HV.out).2.2 (k : Int) (by omega) (by have := HIL2.out; omega)
          subst hade
          rw [Int.toNat_natCast] at hc
          have hki : k < inn.length := by have := HIL2.out; omega
          have hrd : rdOf false inn (k : Int) = inn[k] := by unfold rdOf; rw [Int.toNat_natCast, List.getD_eq_getElem?_getD, List.getElem?_eq_getElem hki]; rfl
          have hdr : inn.drop k = inn[k] :: inn.drop (k + 1) := List.drop_eq_getElem_cons hki
          have ho := HOUT.out
          rw [hdr, outFrom] at ho
          rw [hrd] at hc
          have i1 : (k : Int) < (f.length : Int) := by omega
          have p0 : decide ((k : Int) < (f.length : Int)) = true := decide_eq_true i1
          have i8 : IntKind.i64.wrap ((k : Int) + 1) = ((k + 1 : Nat) : Int) := by rw [i64_w]; unfold wrap64; omega
          have hltt := eq_true hlt
          clear hrd hdr
          cases hb : inn[k] with
          | true =>
            rw [hb, if_pos rfl] at ho
            rw [hb] at hc
            have HO1 : Aside0 ((out ++ [(k : Int)]) ++ outFrom (inn.drop (k + 1)) (k + 1) = ans) := ⟨by rw [← ho, List.append_assoc]; rfl⟩
            clear ho hb
            go_wp2_with (first | ((with_reducible refine gate_builtin (b := .append) (xs := #[.tmp 78, .tmp 80]) rfl ?_); (try (refine gate_guard (by rfl) ?_; dsimp only)); at_builtin; refine Kd.R_append (Kd.int .i64) (w0 := W) W.heap.size rfl (.tmp 78) (.tmp 80) 49 3 (.int .i64 0) 8 rfl Tryd.underlying49 info3 rfl (by decide) (by omega) u12 out (k : Int) [.int .i64 (k : Int)] (fun _ => True) (fun _ => False) rfl rfl ?aP (fun _ hk => hk.elim) ?aF ?aO ?aB ?aS ?aL ?_; (case aP => exact rfl); (case aF => exact fun _ _ => trivial); (case aO => exact HO.out); (case aB => exact HB.out); (case aS => exact HB.out.size); (case aL => have := HOL.out; omega); intro v2 w6 ho hb hg hat; have HO2 := Aside0.mk ho; have HB2 := Aside0.mk hb; have HV2 := Aside0.mk (Kd.R_over' (v := u12) HV.out (Kd.R_typed HO.out) (by decide) hg); clear ho hb hg hat))
            go_roundw
            case rel => exact ⟨k + 1, out ++ [(k : Int)], by first | rfl | (simp; done) | (simp [*]; done), ⟨by omega⟩, ⟨by rw [List.length_append, List.length_singleton]; have := HOL.out; omega⟩, HO1, HO2, HV2, HB2⟩
            case measure => simp [intOf]; omega
          | false =>
            rw [hb, if_neg Bool.false_ne_true] at ho
            rw [hb] at hc
            have HO1 := Aside0.mk ho
            clear ho hb
            go_wp2
            go_roundw
            case rel => exact ⟨k + 1, out, by first | rfl | (simp; done) | (simp [*]; done), ⟨by omega⟩, ⟨by have := HOL.out; omega⟩, HO1, HO, HV, HB⟩
            case measure => simp [intOf]; omega
        · obtain rfl : k = f.length := by have := HKL.out; omega
          have ho := HOUT.out
          rw [← HIL2.out, List.drop_length, outFrom, List.append_nil] at ho
          subst ho
          have HF := Aside0.mk HO.out
          clear HOUT HV
          go_wp2
          go_ret
          exact ⟨_, rfl, HF.out, HB.out⟩
end Go.Proofs.YtkebableanenkaaDoor.Fi
namespace Go.Proofs.YtkebableanenkaaDoor.Fi
open Go.RowKit Go.Proofs.YtkebableanenkaaDoor.Qall Go.Proofs.YtkebableanenkaaDoor.Fo Go.Proofs.YtkebableanenkaaDoor.Chk Go.Proofs.YtkebableanenkaaDoorW.PrintWords Go.Proofs.YtkebableanenkaaDoorW.PrintLast Go.Proofs.YtkebableanenkaaDoorW.PrintMore
set_option linter.unusedSimpArgs false
set_option linter.unusedVariables false
/-- The ends of the extents, as the program has them. -/
def elOf (f : List SC) : List Int := absZ (-1) (ex (K f)) 0
theorem elOf_length (f : List SC) : (elOf f).length = f.length := by unfold elOf; rw [absZ_length, ex_length, K_length]
theorem chk_mach (f : List SC) (h : chkAns f 65536 = 0) : f.length ≤ 1048576 ∧ (mach [] (K f)).isSome = true := by
  unfold chkAns at h
  rw [if_neg (by omega)] at h
  split at h
  · cases h
  split at h
  · rename_i h1 h2
    unfold rightB at h2
    rw [Bool.and_eq_true] at h2
    exact ⟨by omega, h2.1⟩
  · cases h
theorem right_ex (f : List SC) (h : chkAns f 65536 = 0) : ∀ a : Nat, a < f.length → (a : Int) < rd (elOf f) (a : Int) ∧ rd (elOf f) (a : Int) ≤ (f.length : Int) := by
  intro a ha
  have hq : Q [] (ex (K f)) := (mach_iff (K f) []).1 (chk_mach f h).2
  have hl : (ex (K f)).length = f.length := by rw [ex_length, K_length]
  have hrd := abs_rd (-1) (ex (K f)) a (by omega)
  have hdr := drop_hd (ex (K f)) a (by omega)
  cases hh : Fo.hd ((ex (K f)).drop a) with
  | none =>
    exfalso
    rw [hh] at hdr
    have hm : (none : Option Nat) ∈ ex (K f) := List.mem_of_mem_drop (i := a) (by rw [hdr]; exact List.mem_cons_self ..)
    exact Q_all _ _ hq none hm rfl
  | some m =>
    have hw := ((ex_wf (K f)).drop a).hd hh
    rw [List.length_drop, hl] at hw
    rw [hh] at hrd
    have hv : rd (elOf f) (a : Int) = ((a + m : Nat) : Int) := hrd
    rw [hv]
    omega
/-- The nodes that a path's steps lead to. -/
def stepsAns (f : List SC) : List ST → List Int → List Int
  | [], set => set
  | s :: l, set => stepsAns f l (nextAns f (elOf f) s set)
def findAns (f : List SC) (t : ByteArray) (pa : List ST × Int × Int) : List Int × Int × Int :=
  if chkAns f 65536 = 0 then
    if 65536 < t.size then ([], 0, 1)
    else if pa.2.2 = 0 then (stepsAns f pa.1 [-1], 0, 0) else ([], pa.2.1, pa.2.2)
  else ([], 0, chkAns f 65536)
theorem outFrom_mem : ∀ (l : List Bool) (k : Nat), ∀ x ∈ outFrom l k, (k : Int) ≤ x ∧ x < ((k + l.length : Nat) : Int)
  | [], k, x, hx => by cases hx
  | b :: l, k, x, hx => by
    unfold outFrom at hx
    have ih := outFrom_mem l (k + 1)
    rw [List.length_cons]
    split at hx
    · rcases List.mem_cons.1 hx with rfl | hx
      · omega
      · have := ih x hx; omega
    · have := ih x hx; omega
theorem outFrom_length : ∀ (l : List Bool) (k : Nat), (outFrom l k).length ≤ l.length
  | [], _ => Nat.le_refl _
  | b :: l, k => by
    unfold outFrom
    have := outFrom_length l (k + 1)
    split
    · rw [List.length_cons, List.length_cons]; omega
    · rw [List.length_cons]; omega
theorem nextGo_length (f : List SC) (el : List Int) (s : ST) : ∀ (l : List Int) rc inn, (nextGo f el s l rc inn).length = inn.length
  | [], _, _ => rfl
  | i :: l, rc, inn => by
    rw [nextGo]
    split
    · exact nextGo_length f el s l _ _
    · rw [nextGo_length f el s l, eachAns_length]
theorem nextAns_ok (f : List SC) (el : List Int) (s : ST) (set : List Int) : (nextAns f el s set).length ≤ f.length ∧ ∀ i ∈ nextAns f el s set, -1 ≤ i ∧ i < (f.length : Int) := by
  have hl : (nextGo f el s set (-1) (List.replicate f.length false)).length = f.length := by rw [nextGo_length]; simp
  refine ⟨by have := outFrom_length (nextGo f el s set (-1) (List.replicate f.length false)) 0; unfold nextAns; omega, fun i hi => ?_⟩
  have := outFrom_mem _ _ i hi
  omega
theorem one_R (W : World) (base g : Nat) (hg : W.heap[g]? = some (.cells #[.int .i64 (-1)] 3 (0, 0))) (hb : base ≤ g) : Kd.R (Kd.int .i64) 3 W base (fun _ => True) (.slice (some ⟨g, 0, none⟩) 1 1) [-1] := by
  refine ⟨fun k hk => trivial, [.int .i64 (-1)], ⟨rfl, .inr ⟨g, 1, _, rfl, hb, hg, Nat.le_refl _, by unfold maxLen; decide, rfl, rfl⟩⟩, ⟨rfl, fun j p hp => ?_⟩⟩
  obtain ⟨hlt, rfl⟩ := List.getElem?_eq_some_iff.1 hp
  obtain rfl : j = 0 := by simp at hlt; omega
  rfl
set_option maxRecDepth 100000 in
set_option maxHeartbeats 4000000 in
theorem find_calls (f : List SC) (hn : f.length ≤ 2097152) (M : Nat) (hM : ∀ x ∈ f, x.f0.size ≤ M) (hM2 : M ≤ 1073741824) (t : ByteArray) (KP : Nat) (pl : List ST) (pa pc : Int) (hp : forest_path.f KP t = some (pl, pa, pc)) (hpl : pl.length ≤ 1073741824)
    (Af : Option Addr) (cf : Nat) (W : World) (hCf : Kd.C k37 W Af f.length f) (hcf : f.length ≤ cf) :
    Calls Tryd.prog 21 #[.slice Af f.length cf, .string t] W fun e w' => ∃ v, e = .returned (.tuple #[v, .agg #[.int .i64 (findAns f t (pl, pa, pc)).2.1, .int .i64 (findAns f t (pl, pa, pc)).2.2]]) ∧ Kd.R (Kd.int .i64) 3 w' W.heap.size (fun _ => True) v (findAns f t (pl, pa, pc)).1 ∧ Below W.heap.size W w' := by
  have hu := Tryd.underlying25
  have hck := fun W' (hC : Kd.C k37 W' Af f.length f) => check_calls f hn 65536 M hM hM2 Af cf W' hC hcf
  obtain ⟨ck, hcke⟩ : ∃ x, chkAns f 65536 = x := ⟨_, rfl⟩
  rw [hcke] at hck
  have HCK := Aside0.mk hck
  have HC := Aside0.mk hCf
  clear hck
  by_cases hc0 : ck = 0
  · subst hc0
    by_cases hbig : 65536 < t.size
    · have hans : findAns f t (pl, pa, pc) = ([], 0, 1) := by unfold findAns; rw [if_pos hcke, if_pos hbig]
      rw [hans]
      have p1 : decide (65536 < (t.size : Int)) = true := decide_eq_true (by omega)
      have p2 : decide (65536 < t.size) = true := decide_eq_true hbig
      clear hcke hans hbig
      go_enter Tryd.func21, Tryd.ntmps21
      go_wp2_with (first | ((with_reducible refine gate_dst (N := 5) rfl ?_); (try (refine gate_guard (by rfl) ?_; dsimp only)); refine box_event ?hg (N := 5) ?hd (cs := #[.int .i64 0, .int .i64 0]) (t := 25) ?hr ?_; (case hd => rfl); (case hg => rfl); (case hr => first | (go_simp; done) | (go_simp; rfl)); intro gf hg0 w3 hbox hb0; have GF := Aside0.mk (Nat.le_of_eq hg0.symm : W.heap.size ≤ gf); have HB3 := Aside0.mk hb0; have BF := Aside0.mk hbox; have k0 := (blk_cell hbox 0).trans rfl; have k1 := (blk_cell hbox 1).trans rfl; have z0 := blk_frozen hbox 0; have z1 := blk_frozen hbox 1; clear hg0 hbox hb0))
      go_at_call 20
      refine (HCK.out w3 (Kd.C_below HC.out HB3.out)).mono ?_
      rintro e_ w4 ⟨rfl, hb4⟩
      have k0 := (blk_cell ((hb4.block gf (lt_of_some BF.out)).trans BF.out) 0).trans rfl
      have k1 := (blk_cell ((hb4.block gf (lt_of_some BF.out)).trans BF.out) 1).trans rfl
      have z0 := blk_frozen ((hb4.block gf (lt_of_some BF.out)).trans BF.out) 0
      have z1 := blk_frozen ((hb4.block gf (lt_of_some BF.out)).trans BF.out) 1
      have BF4 := (hb4.block gf (lt_of_some BF.out)).trans BF.out
      have HB4 := HB3.out.trans (hb4.mono HB3.out.size)
      clear hb4
      go_wp2
      refine bodyPost_ret (results_tc rfl _ _ gf 25 #[.int .i64 0, .int .i64 1] (0, 0) _ rfl (blk_put (blk_put BF4 0 _ rfl) 1 _ rfl) hu rfl (by kernel_rfl)) rfl ?_
      exact ⟨_, rfl, Kd.R_nil _ _ _ _ _, (HB4.setCell (p := ⟨gf, 0, none⟩) GF.out _).setCell (p := ⟨gf, 1, none⟩) GF.out _⟩
    have p1 : decide (65536 < (t.size : Int)) = false := decide_eq_false (by omega)
    have p2 : decide (65536 < t.size) = false := decide_eq_false hbig
    have hpath := fun W' => forest_path.calls KP t pl pa pc W' hp
    have HPA := Aside0.mk hpath
    clear hpath
    by_cases hpc : pc = 0
    · subst hpc
      have hans : findAns f t (pl, pa, 0) = (stepsAns f pl [-1], 0, 0) := by unfold findAns; rw [if_pos hcke, if_neg hbig, if_pos rfl]
      rw [hans]
      obtain ⟨ans, hse⟩ : ∃ x, stepsAns f pl [-1] = x := ⟨_, rfl⟩
      rw [hse]
      have HSE := Aside0.mk hse
      obtain ⟨K1, hK1⟩ : ∃ K1, ∀ k, K1 ≤ k → forest_ends.f k f = some (absZ (-1) (ex (K f)) 0) := ends_ev f hn
      have HEN := Aside0.mk (hK1 K1 (Nat.le_refl _))
      have HEX := Aside0.mk (right_ex f hcke)
      have HEL := Aside0.mk (elOf_length f)
      clear hK1 hse hans hbig hcke hp
      go_enter Tryd.func21, Tryd.ntmps21
      go_wp2_with (first | ((with_reducible refine gate_dst (N := 5) rfl ?_); (try (refine gate_guard (by rfl) ?_; dsimp only)); refine box_event ?hg (N := 5) ?hd (cs := #[.int .i64 0, .int .i64 0]) (t := 25) ?hr ?_; (case hd => rfl); (case hg => rfl); (case hr => first | (go_simp; done) | (go_simp; rfl)); intro gf hg0 w3 hbox hb0; have GF := Aside0.mk (Nat.le_of_eq hg0.symm : W.heap.size ≤ gf); have HB3 := Aside0.mk hb0; have BF := Aside0.mk hbox; have k0 := (blk_cell hbox 0).trans rfl; have k1 := (blk_cell hbox 1).trans rfl; have z0 := blk_frozen hbox 0; have z1 := blk_frozen hbox 1; clear hg0 hbox hb0))
      go_at_call 20
      refine (HCK.out w3 (Kd.C_below HC.out HB3.out)).mono ?_
      rintro e_ w4 ⟨rfl, hb4⟩
      have BF4 := (hb4.block gf (lt_of_some BF.out)).trans BF.out
      have HB4 := HB3.out.trans (hb4.mono HB3.out.size)
      clear hb4 k0 k1 z0 z1
      go_wp2_with fail
      go_at_call 44
      refine (HPA.out w4).mono ?_
      rintro e_ w5 ⟨vp, rfl, hRp, hb5⟩
      obtain ⟨Ap, cp, rfl⟩ := Kd.R_slice hRp
      have BF5 := (hb5.block gf (lt_of_some BF4)).trans BF4
      have HB5 := HB4.trans (hb5.mono HB4.size)
      have hRp2 := Kd.R_reads' hRp
      clear hb5 BF4 HB4 hRp
      go_wp2_with (first | ((with_reducible refine gate_dst (N := 8) rfl ?_); (try (refine gate_guard (by rfl) ?_; dsimp only)); refine box_event ?hg (N := 8) ?hd (cs := #[.int .i64 0, .int .i64 0]) (t := 25) ?hr ?_; (case hd => rfl); (case hg => rfl); (case hr => first | (go_simp; done) | (go_simp; rfl)); intro gp hg0 w6 hbox hb0; have H6 := Aside0.mk hb0; have GP := Aside0.mk (Nat.le_of_eq hg0.symm : w5.heap.size ≤ gp); have BP := Aside0.mk hbox; have m0 := (blk_cell hbox 0).trans rfl; have m1 := (blk_cell hbox 1).trans rfl; have y0 := blk_frozen hbox 0; have y1 := blk_frozen hbox 1; clear hg0 hbox hb0))
      have BF6 := (H6.out.block gf (lt_of_some BF5)).trans BF5
      have HB6 := HB5.trans (H6.out.mono HB5.size)
      have hX7 : Below w5.heap.size w5 ((w6.setCell ⟨gp, 0, none⟩ (.int .i64 pa)).setCell ⟨gp, 1, none⟩ (.int .i64 0)) := (H6.out.setCell (p := ⟨gp, 0, none⟩) GP.out _).setCell (p := ⟨gp, 1, none⟩) GP.out _
      generalize (w6.setCell ⟨gp, 0, none⟩ (.int .i64 pa)).setCell ⟨gp, 1, none⟩ (.int .i64 0) = w7 at hX7 ⊢
      have BF7 := (hX7.block gf (lt_of_some BF5)).trans BF5
      have HB7 := HB5.trans (hX7.mono HB5.size)
      have HP7 := Kd.C_below hRp2.2.2 hX7
      clear HB5 BF5 BF6 HB6 hX7 BP H6 m0 m1 y0 y1
      go_at_call 41
      refine (forest_ends.calls K1 Af cf f _ w7 (Kd.C_below HC.out HB7) hcf HEN.out).mono ?_
      rintro e_ w8 ⟨ve, rfl, hRe, hb8⟩
      obtain ⟨Ae, ce, rfl⟩ := Kd.R_slice hRe
      have hRe2 := Kd.R_reads' hRe
      have BF8 := (hb8.block gf (lt_of_some BF7)).trans BF7
      have HB8 := HB7.trans (hb8.mono HB7.size)
      have HP8 := Kd.C_below HP7 hb8
      have HC8 := Kd.C_below HC.out HB8
      clear hb8 BF7 HB7 HP7 hRe
      go_wp2_with (first | ((with_reducible refine gate_dst (N := 36) rfl ?_); (try (refine gate_guard (by rfl) ?_; dsimp only)); refine box_event ?hg (N := 36) ?hd (cs := #[.slice Af f.length cf, .slice Ae (elOf f).length ce]) (t := 92) ?hr ?_; (case hd => rfl); (case hg => rfl); (case hr => first | (go_simp; done) | (go_simp; rfl)); intro gx hg0 w9 hbox hb0; have H9 := Aside0.mk hb0; have GX := Aside0.mk (Nat.le_of_eq hg0.symm : w8.heap.size ≤ gx); have BX := Aside0.mk hbox; clear hg0 hbox hb0))
      have HB9 := HB8.trans (H9.out.mono HB8.size)
      have hs9 := HB9.size
      have ha := (Below.refl w9.heap.size w9).alloc (Nat.le_refl _) (.cells #[.int .i64 (-1)] 3)
      have BX10 := (ha.block gx (lt_of_some BX.out)).trans BX.out
      have BF10 := (ha.block gf (lt_of_some ((H9.out.block gf (lt_of_some BF8)).trans BF8))).trans ((H9.out.block gf (lt_of_some BF8)).trans BF8)
      have HP10 := Kd.C_below (Kd.C_below HP8 H9.out) ha
      have HC10 := Kd.C_below (Kd.C_below HC8 H9.out) ha
      have HE10 := Kd.C_below (Kd.C_below hRe2.2.2 H9.out) ha
      have HB10 := HB9.trans (ha.mono hs9)
      have HS10 := one_R (w9.alloc (.cells #[.int .i64 (-1)] 3)) W.heap.size w9.heap.size (Array.getElem?_push_size) hs9
      change Kd.C (Kd.int .i64) _ Ae (elOf f).length (elOf f) at HE10
      generalize w9.alloc (.cells #[.int .i64 (-1)] 3) = w10 at ha BX10 BF10 HP10 HC10 HE10 HB10 HS10 ⊢
      have LB := Aside0.mk HB10
      have LF := Aside0.mk BF10
      have LX := Aside0.mk BX10
      have LP := Aside0.mk HP10
      have LC := Aside0.mk HC10
      have LE := Aside0.mk HE10
      have LS := Aside0.mk HS10
      clear ha BX10 BF10 HP10 HC10 HE10 HB10 HS10 HB9 hs9 HB8 HP8 HC8 hRe2 BX H9 GX BF8
      go_loopw [10, 40] (fun v10 v40 wr => ∃ (k : Nat) (set : List Int), v40 = .int .i64 (k : Int) ∧ Aside0 (k ≤ pl.length) ∧ Aside0 (stepsAns f (pl.drop k) set = ans) ∧ Aside0 (set.length ≤ 2097152 ∧ ∀ i ∈ set, -1 ≤ i ∧ i < (f.length : Int)) ∧ Aside0 (Kd.R (Kd.int .i64) 3 wr W.heap.size (fun _ => True) v10 set) ∧ Aside0 (Below w10.heap.size w10 wr))
        (fun v10 v40 _ => pl.length - (intOf v40).toNat)
      case atStart => exact ⟨0, [-1], rfl, ⟨Nat.zero_le _⟩, HSE, ⟨by decide, fun i hi => by rw [List.mem_singleton.1 hi]; omega⟩, LS, ⟨Below.refl _ _⟩⟩
      case round =>
        clear LS HSE
        obtain ⟨k, set, rfl, HKL, HGO, HST, HR, HB⟩ := hrel
        obtain ⟨As, cs, rfl⟩ := Kd.R_slice HR.out
        by_cases hlt : k < pl.length
        · obtain ⟨s, hs⟩ : ∃ s, pl[k] = s := ⟨_, rfl⟩
          have hrd : rd_T94 pl (k : Int) = s := by unfold rd_T94; rw [Int.toNat_natCast, List.getD_eq_getElem?_getD, List.getElem?_eq_getElem hlt, hs]; rfl
          have hdr : pl.drop k = s :: pl.drop (k + 1) := by rw [List.drop_eq_getElem_cons hlt, hs]
          have hgo := HGO.out
          rw [hdr, stepsAns] at hgo
          have HGN := Aside0.mk hgo
          obtain ⟨ad, hade, y0, y1, y2⟩ := at_T94 (Kd.C_below LP.out HB.out) (k : Int) (by omega) (by omega)
          subst hade
          rw [hrd] at y0 y1 y2
          rw [Int.toNat_natCast] at y0 y1 y2
          have i1 : (k : Int) < (pl.length : Int) := by omega
          have p0 : decide ((k : Int) < (pl.length : Int)) = true := decide_eq_true i1
          have i8 : IntKind.i64.wrap ((k : Int) + 1) = ((k + 1 : Nat) : Int) := by rw [i64_w]; unfold wrap64; omega
          have hltt := eq_true hlt
          have hus := Tryd.underlying94
          clear hgo hdr hrd hs
          go_upto_region 14 with (first | ((with_reducible refine gate_dst (N := 12) rfl ?_); (try (refine gate_guard (by rfl) ?_; dsimp only)); refine box_event ?hg (N := 12) ?hd (cs := #[.bool false, .string ⟨#[]⟩, .int .i64 0]) (t := 94) ?hr ?_; (case hd => rfl); (case hg => rfl); (case hr => first | (go_simp; done) | (go_simp; rfl)); intro gt hg0 x1 hbox hb0; have H12 := Aside0.mk hb0; have GT := Aside0.mk (Nat.le_of_eq hg0.symm : wr.heap.size ≤ gt); have BT := Aside0.mk hbox; have m0 := (blk_cell hbox 0).trans rfl; have m1 := (blk_cell hbox 1).trans rfl; have m2 := (blk_cell hbox 2).trans rfl; have y3 := blk_frozen hbox 0; have y4 := blk_frozen hbox 1; have y5 := blk_frozen hbox 2; clear hg0 hbox hb0))
          have hX : Below wr.heap.size wr (((x1.setCell ⟨gt, 0, none⟩ (.bool s.f0)).setCell ⟨gt, 1, none⟩ (.string s.f1)).setCell ⟨gt, 2, none⟩ (.int .i64 s.f2)) := ((H12.out.setCell (p := ⟨gt, 0, none⟩) GT.out _).setCell (p := ⟨gt, 1, none⟩) GT.out _).setCell (p := ⟨gt, 2, none⟩) GT.out _
          have hblk : (((x1.setCell ⟨gt, 0, none⟩ (.bool s.f0)).setCell ⟨gt, 1, none⟩ (.string s.f1)).setCell ⟨gt, 2, none⟩ (.int .i64 s.f2)).heap[gt]? = some (.cells #[.bool s.f0, .string s.f1, .int .i64 s.f2] 94 (0, 0)) := blk_put (blk_put (blk_put BT.out 0 _ rfl) 1 _ rfl) 2 _ rfl
          generalize ((x1.setCell ⟨gt, 0, none⟩ (.bool s.f0)).setCell ⟨gt, 1, none⟩ (.string s.f1)).setCell ⟨gt, 2, none⟩ (.int .i64 s.f2) = X at hX hblk ⊢
          have c0 : X.cell? ⟨gt, 0, none⟩ = some (.bool s.f0) := (blk_cell hblk 0).trans rfl
          have c1 : X.cell? ⟨gt, 1, none⟩ = some (.string s.f1) := (blk_cell hblk 1).trans rfl
          have c2 : X.cell? ⟨gt, 2, none⟩ = some (.int .i64 s.f2) := (blk_cell hblk 2).trans rfl
          have HBX := HB.out.trans (hX.mono HB.out.size)
          have hnx := next_calls f hn (elOf f) HEL.out HEX.out s set HST.out.1 HST.out.2 Af Ae As cf ce cs gx X (Kd.C_below LC.out HBX) (Kd.C_below LE.out HBX) (Kd.R_reads' (Kd.R_below HR.out hX)).2.2 ((HBX.block gx (lt_of_some LX.out)).trans LX.out)
          have HNX := Aside0.mk hnx
          have HBX2 := Aside0.mk HBX
          have hsz : W.heap.size ≤ X.heap.size := by have := LB.out.size; have := HBX.size; omega
          clear hnx HBX hX hblk H12 GT BT m0 m1 m2 y3 y4 y5
          go_wp2_with fail
          go_at_call 45
          refine HNX.out.mono ?_
          rintro e_ w12 ⟨v2, rfl, hR2, hb2⟩
          have HR2 := Aside0.mk (Kd.R_lower hR2 hsz)
          have HB2 := Aside0.mk (HBX2.out.trans (hb2.mono HBX2.out.size))
          have hok := nextAns_ok f (elOf f) s set
          have HOK : Aside0 ((nextAns f (elOf f) s set).length ≤ 2097152 ∧ ∀ i ∈ nextAns f (elOf f) s set, -1 ≤ i ∧ i < (f.length : Int)) := ⟨by omega, hok.2⟩
          clear hR2 hb2 HNX HBX2 c0 c1 c2 hok
          go_wp2
          go_roundw
          case rel => exact ⟨k + 1, nextAns f (elOf f) s set, by first | rfl | (simp; done) | (simp [*]; done), ⟨by omega⟩, HGN, HOK, HR2, HB2⟩
          case measure => simp [intOf]; omega
        · obtain rfl : k = pl.length := by have := HKL.out; omega
          have hgo := HGO.out
          rw [List.drop_length, stepsAns] at hgo
          subst hgo
          have BFX := (HB.out.block gf (lt_of_some LF.out)).trans LF.out
          have k0 := (blk_cell BFX 0).trans rfl
          have k1 := (blk_cell BFX 1).trans rfl
          have z0 := blk_frozen BFX 0
          have z1 := blk_frozen BFX 1
          have HBZ := Aside0.mk (LB.out.trans (HB.out.mono LB.out.size))
          have HBF := Aside0.mk BFX
          clear HGO hlt BFX HB LB LF LX LP LC LE HST
          go_wp2
          refine bodyPost_ret (results_tc rfl _ _ gf 25 #[.int .i64 0, .int .i64 0] (0, 0) _ rfl (blk_put (blk_put HBF.out 0 _ rfl) 1 _ rfl) hu rfl (by kernel_rfl)) rfl ?_
          exact ⟨_, rfl, Kd.R_set (Kd.R_set HR.out HBF.out (by decide) _ _) (blk_put HBF.out 0 _ rfl) (by decide) _ _, (HBZ.out.setCell (p := ⟨gf, 0, none⟩) GF.out _).setCell (p := ⟨gf, 1, none⟩) GF.out _⟩
    · have hans : findAns f t (pl, pa, pc) = ([], pa, pc) := by unfold findAns; rw [if_pos hcke, if_neg hbig, if_neg hpc]
      rw [hans]
      have q1 : (pc != 0) = true := bne_iff_ne.mpr hpc
      have q2 : (pc == 0) = false := beq_eq_false_iff_ne.mpr hpc
      clear hans hbig hcke hpc
      go_enter Tryd.func21, Tryd.ntmps21
      go_wp2_with (first | ((with_reducible refine gate_dst (N := 5) rfl ?_); (try (refine gate_guard (by rfl) ?_; dsimp only)); refine box_event ?hg (N := 5) ?hd (cs := #[.int .i64 0, .int .i64 0]) (t := 25) ?hr ?_; (case hd => rfl); (case hg => rfl); (case hr => first | (go_simp; done) | (go_simp; rfl)); intro gf hg0 w3 hbox hb0; have GF := Aside0.mk (Nat.le_of_eq hg0.symm : W.heap.size ≤ gf); have HB3 := Aside0.mk hb0; have BF := Aside0.mk hbox; have k0 := (blk_cell hbox 0).trans rfl; have k1 := (blk_cell hbox 1).trans rfl; have z0 := blk_frozen hbox 0; have z1 := blk_frozen hbox 1; clear hg0 hbox hb0))
      go_at_call 20
      refine (HCK.out w3 (Kd.C_below HC.out HB3.out)).mono ?_
      rintro e_ w4 ⟨rfl, hb4⟩
      have BF4 := (hb4.block gf (lt_of_some BF.out)).trans BF.out
      have HB4 := HB3.out.trans (hb4.mono HB3.out.size)
      clear hb4 k0 k1 z0 z1
      go_wp2_with fail
      go_at_call 44
      refine (HPA.out w4).mono ?_
      rintro e_ w5 ⟨vp, rfl, hRp, hb5⟩
      have BF5 := (hb5.block gf (lt_of_some BF4)).trans BF4
      have HB5 := HB4.trans (hb5.mono HB4.size)
      clear hb5 BF4 HB4 hRp
      go_wp2_with (first | ((with_reducible refine gate_dst (N := 8) rfl ?_); (try (refine gate_guard (by rfl) ?_; dsimp only)); refine box_event ?hg (N := 8) ?hd (cs := #[.int .i64 0, .int .i64 0]) (t := 25) ?hr ?_; (case hd => rfl); (case hg => rfl); (case hr => first | (go_simp; done) | (go_simp; rfl)); intro gp hg0 w6 hbox hb0; have H6 := Aside0.mk hb0; have GP := Aside0.mk (Nat.le_of_eq hg0.symm : w5.heap.size ≤ gp); have BP := Aside0.mk hbox; have m0 := (blk_cell hbox 0).trans rfl; have m1 := (blk_cell hbox 1).trans rfl; have y0 := blk_frozen hbox 0; have y1 := blk_frozen hbox 1; clear hg0 hbox hb0))
      have BF6 := (H6.out.block gf (lt_of_some BF5)).trans BF5
      have HB6 := HB5.trans (H6.out.mono HB5.size)
      have hX7 : Below w5.heap.size w5 ((w6.setCell ⟨gp, 0, none⟩ (.int .i64 pa)).setCell ⟨gp, 1, none⟩ (.int .i64 pc)) := (H6.out.setCell (p := ⟨gp, 0, none⟩) GP.out _).setCell (p := ⟨gp, 1, none⟩) GP.out _
      have hblk : ((w6.setCell ⟨gp, 0, none⟩ (.int .i64 pa)).setCell ⟨gp, 1, none⟩ (.int .i64 pc)).heap[gp]? = some (.cells #[.int .i64 pa, .int .i64 pc] 25 (0, 0)) := blk_put (blk_put BP.out 0 _ rfl) 1 _ rfl
      have hlt5 := lt_of_some BF5
      generalize (w6.setCell ⟨gp, 0, none⟩ (.int .i64 pa)).setCell ⟨gp, 1, none⟩ (.int .i64 pc) = w7 at hX7 hblk ⊢
      have BF7 := (hX7.block gf (lt_of_some BF5)).trans BF5
      have HB7 := HB5.trans (hX7.mono HB5.size)
      have hne : gp ≠ gf := by have := GP.out; omega
      clear HB5 BF5 BF6 HB6 hX7 BP H6 m0 m1 y0 y1 GP hlt5
      refine start_ (n := 3) (S := fun w' => w'.cell? ⟨gp, 0, none⟩ = some (.int .i64 pa) ∧ w'.cell? ⟨gp, 1, none⟩ = some (.int .i64 pc)) (ds := [2]) #[false, false, false] (by kernel_rfl) rfl rfl ⟨(blk_cell hblk 0).trans rfl, (blk_cell hblk 1).trans rfl⟩ (fun hHeld => ?_)
      have BF8 : w7.drew.heap[gf]? = some (.cells #[.int .i64 0, .int .i64 0] 25 (0, 0)) := BF7
      have HB8 : Below W.heap.size W w7.drew := HB7.trans ((Below.refl _ w7).drew.mono HB7.size)
      generalize w7.drew = wd at BF8 HB8 hHeld ⊢
      refine take_ (i := 0) (N := (some 31)) (v := ?_) (a' := ?_) #[true, false, false] rfl rfl (by kernel_rfl) (fun _ _ _ h => h) (Or.inl ⟨by rfl, ?_⟩) hHeld ?_ ?_
      rotate_left
      · rintro w' hS_
        try dsimp only at hS_
        (try obtain ⟨s0_, s1_⟩ := hS_); go_split_ands; go_simp
        all_goals (with_reducible rfl)
      rotate_left
      · simp only [Act.put, List.setIfInBounds_toArray, List.set_cons_zero, List.set_cons_succ, i64_w, i32_w]
        rfl
      refine pure_ (i := 1) (N := (some 4)) (v := ?_) (a' := ?_) #[true, true, false] rfl rfl (by kernel_rfl) (fun _ _ _ h => h) (Or.inl ⟨by rfl, ?_⟩) ?_ ?_
      rotate_left
      · intro w'
        skip
        go_simp
        all_goals (with_reducible rfl)
      rotate_left
      · simp only [Act.put, List.setIfInBounds_toArray, List.set_cons_zero, List.set_cons_succ, i64_w, i32_w]
        rfl
      refine last_ (i := 2) (N := none) #[true, true, true] rfl rfl (by kernel_rfl) (by decide) (fun K hK => ?_)
      have k0 : wd.cell? ⟨gf, 0, none⟩ = some (.int .i64 0) := (blk_cell BF8 0).trans rfl
      have k1 : wd.cell? ⟨gf, 1, none⟩ = some (.int .i64 0) := (blk_cell BF8 1).trans rfl
      have z0 : wd.frozen? ⟨gf, 0, none⟩ = false := blk_frozen BF8 0
      have z1 : wd.frozen? ⟨gf, 1, none⟩ = false := blk_frozen BF8 1
      refine skip_ (w1 := ?_) (by rfl) rfl ?_ ?_
      rotate_left
      · go_simp
        rfl
      refine hK.out _ _ ?_
      clear hK K
      refine done_ (by kernel_rfl) ?_
      have hfin : Below W.heap.size W ((wd.setCell ⟨gf, 0, none⟩ (.int .i64 pa)).setCell ⟨gf, 1, none⟩ (.int .i64 pc)) := (HB8.setCell (p := ⟨gf, 0, none⟩) GF.out _).setCell (p := ⟨gf, 1, none⟩) GF.out _
      go_wp2
      refine bodyPost_ret (results_tc rfl _ _ gf 25 #[.int .i64 pa, .int .i64 pc] (0, 0) _ rfl (blk_put (blk_put BF8 0 _ rfl) 1 _ rfl) hu rfl (by kernel_rfl)) rfl ?_
      exact ⟨_, rfl, Kd.R_nil _ _ _ _ _, hfin⟩
  · have hans : findAns f t (pl, pa, pc) = ([], 0, ck) := by unfold findAns; rw [if_neg (by rw [hcke]; exact hc0), hcke]
    rw [hans]
    have q1 : (ck != 0) = true := bne_iff_ne.mpr hc0
    have q2 : (ck == 0) = false := beq_eq_false_iff_ne.mpr hc0
    clear hans hcke hc0
    go_enter Tryd.func21, Tryd.ntmps21
    go_wp2_with (first | ((with_reducible refine gate_dst (N := 5) rfl ?_); (try (refine gate_guard (by rfl) ?_; dsimp only)); refine box_event ?hg (N := 5) ?hd (cs := #[.int .i64 0, .int .i64 0]) (t := 25) ?hr ?_; (case hd => rfl); (case hg => rfl); (case hr => first | (go_simp; done) | (go_simp; rfl)); intro gf hg0 w3 hbox hb0; have GF := Aside0.mk (Nat.le_of_eq hg0.symm : W.heap.size ≤ gf); have HB3 := Aside0.mk hb0; have BF := Aside0.mk hbox; have k0 := (blk_cell hbox 0).trans rfl; have k1 := (blk_cell hbox 1).trans rfl; have z0 := blk_frozen hbox 0; have z1 := blk_frozen hbox 1; clear hg0 hbox hb0))
    go_at_call 20
    refine (HCK.out w3 (Kd.C_below HC.out HB3.out)).mono ?_
    rintro e_ w4 ⟨rfl, hb4⟩
    have k0 := (blk_cell ((hb4.block gf (lt_of_some BF.out)).trans BF.out) 0).trans rfl
    have k1 := (blk_cell ((hb4.block gf (lt_of_some BF.out)).trans BF.out) 1).trans rfl
    have z0 := blk_frozen ((hb4.block gf (lt_of_some BF.out)).trans BF.out) 0
    have z1 := blk_frozen ((hb4.block gf (lt_of_some BF.out)).trans BF.out) 1
    have BF4 := (hb4.block gf (lt_of_some BF.out)).trans BF.out
    have HB4 := HB3.out.trans (hb4.mono HB3.out.size)
    clear hb4
    go_wp2
    refine bodyPost_ret (results_tc rfl _ _ gf 25 #[.int .i64 0, .int .i64 ck] (0, 0) _ rfl (blk_put (blk_put BF4 0 _ rfl) 1 _ rfl) hu rfl (by kernel_rfl)) rfl ?_
    exact ⟨_, rfl, Kd.R_nil _ _ _ _ _, (HB4.setCell (p := ⟨gf, 0, none⟩) GF.out _).setCell (p := ⟨gf, 1, none⟩) GF.out _⟩
end Go.Proofs.YtkebableanenkaaDoor.Fi
