/- The walk of the law ForestWalks: it answers true, and what lay ahead of the call lies as it lay. Conditions: a list of at most 2^20 nodes. -/
import Derived.Test.YtkebableanenkaaWalked
import Derived.Test.YtkebableanenkaaLendC
import Derived.Test.YtkebableanenkaaArg
namespace Go.Proofs.Ytkebableanenkaa.LawWalks
open Go.RowKit Go.Shelf Go.Proofs.Ytkebableanenkaa.Qall Go.Proofs.Ytkebableanenkaa.Fo Go.Proofs.Ytkebableanenkaa.Walked Go.Proofs.YtkebableanenkaaW.PrintWords Go.Proofs.YtkebableanenkaaW.PrintLast Go.Proofs.YtkebableanenkaaW.PrintMore
set_option linter.unusedSimpArgs false
set_option linter.unusedVariables false
attribute [local go_sem] Oper.semAt_some
theorem fin_ans (f : List S34) : ∃ b, fin [] 0 [] (K f) = (walkAns f, b) := by
  unfold fin walkAns
  cases mach [] (K f) with
  | none => exact ⟨_, rfl⟩
  | some ls => exact ⟨true, by simp [toI]⟩
theorem mach_length : ∀ (c : List Int) (st ls : List Nat), mach st c = some ls → ls.length = c.length
  | [], st, ls, h => by
    unfold mach at h
    split at h
    · cases h; rfl
    · cases h
  | x :: c, st, ls, h => by
    unfold mach at h
    split at h
    · cases h
    · obtain ⟨m, hm, rfl⟩ := Option.map_eq_some_iff.1 h
      simp [mach_length c _ m hm]
theorem walkAns_le (f : List S34) : (walkAns f).length ≤ f.length := by
  unfold walkAns
  cases h : mach [] (K f) with
  | none => simp
  | some ls => have := mach_length _ _ _ h; rw [K_length] at this; simp [toI, this]
theorem gtrans {a w w' : World} {row : Option Nat} (h : a.grownBy w row) (k : w.grownBy w' row) : a.grownBy w' row :=
  ⟨k.os.trans h.os, k.tape.trans h.tape, k.output.trans h.output, Nat.le_trans h.size k.size, fun i hi hr => (k.block i (Nat.lt_of_lt_of_le hi h.size) hr).trans (h.block i hi hr)⟩
theorem grown_set (W : World) (b i : Nat) (v : Value) : W.grownBy (W.setCell ⟨b, i, none⟩ v) (some b) :=
  ⟨rfl, rfl, rfl, (KeepsWalks.setCell W _ v).size, fun k _ hk => Below.heap_setCell _ _ _ k (fun e => hk (by rw [e]))⟩
theorem heap_new (W : World) (o : Obj) : (W.alloc o).heap[W.heap.size]? = some o := Array.getElem?_push_size
theorem heap_new1 (W : World) (o p : Obj) : ((W.alloc p).alloc o).heap[W.heap.size + 1]? = some o := by
  have := heap_new (W.alloc p) o
  rw [World.size_alloc] at this
  exact this
/-- The list that the law writes itself. -/
def two : List S34 := [⟨⟨#[97]⟩, 0, 0, 1⟩, ⟨⟨#[98]⟩, 0, 0, 0⟩]
theorem two_C (W : World) (g : Nat) (hg : W.heap[g]? = some (.cells #[.string ⟨#[97]⟩, .int .i64 0, .int .i64 0, .int .i64 1, .string ⟨#[98]⟩, .int .i64 0, .int .i64 0, .int .i64 0] 34 (0, 0))) : Kd.C k34 W (some ⟨g, 0, none⟩) two.length two :=
  (Kd.R_reads' (Lend.R_of W 0 (fun _ => True) g 2 _ two hg (Nat.zero_le _) trivial (Nat.le_refl _) (by unfold maxLen; decide) rfl rfl)).2.2
theorem two_ans : walkAns two = [0, 1] := by decide +kernel
theorem ints_C (W : World) (g : Nat) (hg : W.heap[g]? = some (.cells #[.int .i64 0, .int .i64 1] 3 (0, 0))) : Kd.C (Kd.int .i64) W (some ⟨g, 0, none⟩) ([0, 1] : List Int).length [0, 1] := by
  have h : Kd.R (Kd.int .i64) 3 W 0 (fun _ => True) (.slice (some ⟨g, 0, none⟩) 2 2) [0, 1] := by
    refine ⟨fun k hk => trivial, [.int .i64 0, .int .i64 1], ⟨rfl, .inr ⟨g, 2, _, rfl, Nat.zero_le _, hg, Nat.le_refl _, by unfold maxLen; decide, rfl, rfl⟩⟩, ⟨rfl, fun j p hp => ?_⟩⟩
    obtain ⟨hlt, rfl⟩ := List.getElem?_eq_some_iff.1 hp
    obtain rfl | rfl : j = 0 ∨ j = 1 := by simp at hlt; omega
    · rfl
    · rfl
  exact (Kd.R_reads' h).2.2
/-- Between two rounds. -/
def IR2 (zs : List Int) (w1 : World) (Bn : Nat) (pre : List (Nat × Int)) (W : World) : Prop :=
  GoodR zs pre ∧ Boxed W Bn 3 (.int .i64 (pre.length : Int)) ∧ Below w1.heap.size w1 W
theorem IR2_own (zs : List Int) (w1 : World) (Bn : Nat) (B : Nat) (hB : w1.heap.size ≤ B) : OwnFrom B (IR2 zs w1 Bn) := fun pre X Y row hs hg hr =>
  ⟨hs.1, (Own.from (boxed_own _ _ (fun pre : List (Nat × Int) => .int .i64 (pre.length : Int))) _) pre X Y row hs.2.1 hg hr,
    (ownFrom_below (β := List (Nat × Int)) (Nat.le_refl _) hB) pre X Y row hs.2.2 hg hr⟩
theorem Lend.R_own (W : World) (g cap : Nat) (cur : Array Value) (l : List S34) (hg : W.heap[g]? = some (.cells cur 34 (0, 0))) (hcap : l.length + 2 ≤ cap) (hmax : cap ≤ maxLen) (hs : cur.size = cap * 4) (ht : cur.toList.take ((l.length + 2) * 4) = Lend.cellsOf (l ++ Lend.lent)) :
    Kd.R k34 34 W 0 (fun _ => True) (.slice (some ⟨g, 0, none⟩) l.length cap) l := by
  refine Lend.R_of W 0 (fun _ => True) g cap cur l hg (Nat.zero_le _) trivial (by omega) hmax hs ?_
  have h1 := congrArg (List.take (l.length * 4)) ht
  rw [List.take_take, Nat.min_eq_left (by omega), Lend.cellsOf_append, List.take_left' (Lend.cellsOf_length l)] at h1
  exact h1
set_option maxRecDepth 100000 in
set_option maxHeartbeats 4000000 in
theorem Walks_walk (f : List S34) (hn : f.length ≤ 1048576) (hb : ∀ c ∈ f, c.f3 ≤ 9223372036854775807) (Af : Option Addr) (cf : Nat) (st ir : Int) (w : World) (hCf : Kd.C k34 w Af f.length f) (hcf : f.length ≤ cf) :
    Calls Try.prog 4 #[.slice Af f.length cf, .int .i64 st, .int .i64 ir] w fun e w' => e = .returned (.bool true) ∧ Below w.heap.size w w' := by
  obtain ⟨kb, hfin⟩ := fin_ans f
  obtain ⟨K0, h0⟩ : ∃ K0, ∀ k, K0 ≤ k → dowelref12_Levels.f k f = some (fin [] 0 [] (K f)) := levels_ev f (by omega) hb
  have hlev := h0 K0 (Nat.le_refl _)
  clear h0
  rw [hfin] at hlev
  have hzl := walkAns_le f
  obtain ⟨zs, hzs⟩ : ∃ zs, walkAns f = zs := ⟨_, rfl⟩
  rw [hzs] at hlev hzl
  have HZS := Aside0.mk hzs
  have HLEV := Aside0.mk hlev
  clear hfin hzs hlev hb
  have hng : ¬ f.length > 1048585 := by omega
  have hnb : decide (1048585 < f.length) = false := by simpa using (by omega : ¬ 1048585 < f.length)
  refine (callsIn_wide (n := 12)).1 ?_
  refine callsIn_of_wp_marks Try.func4 rfl trivial ?_ rfl
  simp only [Try.ntmps4, List.size_toArray, List.length_cons, List.length_nil, Nat.reduceAdd, Nat.reduceSub, Array.replicate_succ, Array.replicate_zero, List.push_toArray, List.append_toArray, List.nil_append, List.cons_append]
  have eqf : ∀ (b : Nat) (W : World), (binOp .eql 31 (.func (.func 31) #[] #[.pointer (some ⟨b, 0, none⟩)]) .nilFunc).run Try.prog W = .ok (.bool false) W := fun _ _ => by kernel_rfl
  have hCf1 := Kd.C_alloc hCf (.cells #[.bool false] 4)
  have bR := Boxed.new w 4 (.bool false)
  have hb0 : Below w.heap.size w (w.alloc (.cells #[.bool false] 4)) := (Below.refl _ w).alloc (Nat.le_refl _) _
  gi_wp2_with (first
    | (refine ⟨trivial, ?_⟩; gi_at_call 8; go_loud (refine (callsIn_wide.2 (dowelref12_Levels.calls K0 Af cf f zs kb _ hCf1 hcf HLEV.out)).mono ?_); go_loud (rintro e w1 ⟨v0, rfl, hR1, hb1⟩; obtain ⟨Al, cl, rfl⟩ := Kd.R_slice hR1; have hRd1 := Aside0.mk (Kd.R_reads' hR1).2; have HCL := Aside0.mk (Kd.R_reads' hR1).2.1; have hBw1 : Below w.heap.size w w1 := hb0.trans (hb1.mono (by simp)); have hsz1 : w.heap.size + 1 ≤ w1.heap.size := (by have := hb1.size; simpa using this); have bR1 := Fo.bx hb1 bR (by simp); have HC1 := hRd1.out.2; clear hR1 bR))
    | (refine ⟨trivial, ?_⟩; gi_at_call 9; go_loud (have hB2 := hBw1.alloc hBw1.size (.cells #[.slice Al zs.length cl] 24); refine (callsIn_wide.2 (Lend.lend f Af cf _ (Kd.C_below hCf hB2) (by omega))).mono ?_; rintro e w2 ⟨g, cap, cur, hg, rfl, hcap, hmax, hcur, hcs, htake, hb2⟩; have hBw2 := hB2.trans (hb2.mono hB2.size); have bL2 := Fo.bx hb2 (Boxed.new w1 24 (.slice Al zs.length cl)) (by simp); have bR2 := Fo.bx hb2 (bR1.alloc (.cells #[.slice Al zs.length cl] 24)) (by simp; omega); have hCl2 := Kd.C_below (Kd.C_alloc hRd1.out.2 (.cells #[.slice Al zs.length cl] 24)) hb2; have hg1 : w1.heap.size + 1 ≤ g := (by simpa using hg); have hz2 : w1.heap.size + 1 ≤ w2.heap.size := (by have := hb2.size; simpa using this); have hglt : g < w2.heap.size := (Array.getElem?_eq_some_iff.1 hcur).1; have HO := Aside0.mk (And.intro hcs htake); clear hcs htake; have hC2 := (Kd.R_reads' (Lend.R_own w2 g cap cur f hcur hcap hmax HO.out.1 HO.out.2)).2.2; have HCUR := Aside0.mk hcur; clear hcur hg; have dL2 := bL2.cell; clear hRd1 hb1 hCf1))
    | (refine ⟨trivial, ?_⟩; gi_at_call 10; go_loud (refine (callsIn_wide.2 (walked_walk f (by omega) _ cap Al cl zs HZS.out (by omega) st ir w2 hC2 (by omega) hCl2 HCL.out)).mono ?_; rintro e w3 ⟨rfl, hb3⟩; have HCUR3 := Aside0.mk ((hb3.block g hglt).trans HCUR.out); have hBw3 := hBw2.trans (hb3.mono hBw2.size); have hz3 := hb3.size; have bL3 := Fo.bx hb3 bL2 (by omega); have bR3 := Fo.bx hb3 bR2 (by omega); have hCl3 := Kd.C_below hCl2 hb3; clear dL2))
    | (refine ⟨trivial, ?_⟩; gi_at_call 11; go_loud (refine (callsIn_wide.2 (Lend.kept f (by omega) Af cf g cap cur w3 (Kd.C_below hCf hBw3) hcf HCUR3.out hcap hmax HO.out.1 HO.out.2)).mono ?_; rintro e w4 ⟨rfl, hb4⟩; have HCUR4 := Aside0.mk ((hb4.block g (by omega)).trans HCUR3.out); have hBw4 := hBw3.trans (hb4.mono hBw3.size); have hz4 := hb4.size; have bL4 := Fo.bx hb4 bL3 (by omega); have bR4 := Fo.bx hb4 bR3 (by omega); have hCl4 := Kd.C_below hCl3 hb4; have hC4 := (Kd.R_reads' (Lend.R_own w4 g cap cur f HCUR4.out hcap hmax HO.out.1 HO.out.2)).2.2))
    | (refine ⟨trivial, ?_⟩; gi_at_call 12; go_loud (have hwk := fwalk_calls f (by omega) (some ⟨g, 0, none⟩) cap w4 hC4 (by omega); rw [HZS.out] at hwk; refine (callsIn_wide.2 hwk).mono ?_; rintro e w5 ⟨fb, v0, rfl, hfb, bF, hRw, hb5⟩; have HCUR5 := Aside0.mk ((hb5.block g (by omega)).trans HCUR4.out); have hBw5 := hBw4.trans (hb5.mono hBw4.size); have hz5 := hb5.size; have bL5 := Fo.bx hb5 bL4 (by omega); have bR5 := Fo.bx hb5 bR4 (by omega); have hCl5 := Kd.C_below hCl4 hb5; clear hwk))
    | fail)
  have HB15 := Aside0.mk (((((Below.refl w1.heap.size w1).alloc (Nat.le_refl _) (.cells #[.slice Al zs.length cl] 24)).trans (hb2.mono (by simp))).trans (hb3.mono (by omega))).trans ((hb4.mono (by omega)).trans (hb5.mono (by omega))))
  clear hb2 hb3 hb4 hb5 hC2 hC4 bL2 bL3 bL4 bR1 bR2 bR3 bR4 hCl2 hCl3 hCl4 HCUR HCUR3 HCUR4 hBw1 hBw2 hBw3 hBw4 hB2 hb0
  obtain ⟨Aw, cw, rfl⟩ := Kd.R_slice hRw
  have HCW := Aside0.mk (Kd.R_reads' hRw).2
  gi_loopw [11] (fun i wr => ∃ (k : Nat) (cur' : Array Value), k ≤ f.length ∧ i = .int .i64 k ∧ Aside0 (wr.heap[g]? = some (.cells cur' 34 (0, 0))) ∧ Aside0 (cur'.size = cap * 4) ∧ w5.grownBy wr (some g))
    (fun i _ => f.length - (intOf i).toNat)
  case atStart => exact ⟨0, cur, Nat.zero_le _, rfl, HCUR5, ⟨HO.out.1⟩, World.grownBy.refl _ _⟩
  case round =>
    obtain ⟨k, cur', hk, rfl, HG, HZ, hgr⟩ := hrel
    by_cases hlt : k < f.length
    · obtain ⟨u, hu⟩ : ∃ u, wr.cell? ⟨g, k * 4 + 3, none⟩ = some u := by
        have hi : k * 4 + 3 < cur'.size := by rw [HZ.out]; omega
        exact ⟨cur'[k * 4 + 3], by simp [World.cell?, HG.out, hi]⟩
      have hfz : wr.frozen? ⟨g, k * 4 + 3, none⟩ = false := by simp [World.frozen?, HG.out]
      gi_wp2
      have hg2 := gtrans hgr (grown_set wr g (k * 4 + 3) (.int .i64 3))
      refine ⟨⟨k + 1, cur'.setIfInBounds (k * 4 + 3) (.int .i64 3), by omega, by simp, ⟨heap_setCell_same _ _ _ _ _ _ HG.out⟩, ⟨by rw [Array.size_setIfInBounds]; exact HZ.out⟩, hg2⟩, by simp [intOf]; omega⟩
    · obtain rfl : k = f.length := by omega
      have hBr : Below w1.heap.size w1 wr := HB15.out.grown hgr (by omega) (fun k' e => by cases e; omega)
      have hBwr : Below w.heap.size w wr := hBw5.grown hgr (by omega) (fun k' e => by cases e; omega)
      have bL6 := bL5.kept hgr (fun e => by cases e; omega)
      have bR6 := bR5.kept hgr (fun e => by cases e; omega)
      have bF6 := bF.kept hgr (fun e => by cases e; omega)
      have hR6 := Kd.R_grown1 hRw rfl hgr (fun e => by have := Kd.R_base hRw g e.symm; omega)
      have hCw := Aside0.mk (Kd.R_reads' hR6).2.2
      have hCl6 := Kd.C_below HC1 hBr
      have hszr := hgr.size
      have bFlt := bF6.lt
      clear hR6 hRw hgr HG HZ HCUR5 HB15 bL5 bR5 bF hCl5
      gi_wp2
      have gN := Boxed.new wr 3 (.int .i64 0)
      have gB : Below wr.heap.size wr (wr.alloc (.cells #[.int .i64 0] 3)) := (Below.refl _ wr).alloc (Nat.le_refl _) _
      obtain ⟨W0, hW0⟩ : ∃ W0, wr.alloc (.cells #[.int .i64 0] 3) = W0 := ⟨_, rfl⟩
      have hsz0 : W0.heap.size = wr.heap.size + 1 := by rw [← hW0]; simp
      rw [hW0] at gN gB ⊢
      refine wpIn_rangeFunc_ownG rfl (by omega) (gf := 31) (lb := #[.pointer (some ⟨fb, 0, none⟩)]) rfl trivial (enters_of Try.func31 (by kernel_rfl) rfl)
        (walk_stops Fence.wide _ trivial rfl (by omega) fb Aw cw zs (by omega) wr W0 gB (by omega) ((Fo.bx gB bF6 (by omega)).cell) hCw.out) belowK_t (belowK_b (by omega)) (Below.refl _ _) (fun _ => rfl)
        (IR2 zs wr wr.heap.size) (fun c pre W' => c = .ret ∧ ¬ GoodR zs pre)
        (IR2_own _ _ _ _ (by omega))
        (fun c => ownFrom_pure _ _)
        ⟨goodR_nil zs, gN, gB⟩
        (fun x => { tmps := #[.slice Af f.length cf, .int .i64 st, .int .i64 ir, undef, undef, undef, .pointer (some ⟨w.heap.size, 0, none⟩), .pointer (some ⟨w1.heap.size, 0, none⟩), .bool kb, .slice (some ⟨g, 0, none⟩) f.length cap, .func (.func 31) #[] #[.pointer (some ⟨fb, 0, none⟩)], .int .i64 (f.length : Int), .pointer (some ⟨wr.heap.size, 0, none⟩), .int .i64 (x.1 : Int), .int .i64 x.2, .slice Af f.length cf, .int .i64 (f.length : Int), .bool (decide (1048585 < (f.length : Int))), .tuple #[.slice Al zs.length cl, .bool kb], .slice Af f.length cf, .tuple #[.slice Al zs.length cl, .bool kb], .slice Al zs.length cl, .bool kb, .slice Af f.length cf, .slice (some ⟨g, 0, none⟩) f.length cap, .slice (some ⟨g, 0, none⟩) f.length cap, .slice Al zs.length cl, .int .i64 st, .int .i64 ir, .bool true, .bool false, .bool false, .slice (some ⟨g, 0, none⟩) f.length cap, .slice Af f.length cf, .bool true, .bool false, .bool false, .slice (some ⟨g, 0, none⟩) f.length cap, .func (.func 31) #[] #[.pointer (some ⟨fb, 0, none⟩)], .func (.func 31) #[] #[.pointer (some ⟨fb, 0, none⟩)], .bool false, .int .i64 (f.length : Int), .slice (some ⟨g, 0, none⟩) f.length cap, .int .i64 (f.length : Int), .bool false, u45, u46, u47, u48, u49, u50, .func (.func 31) #[] #[.pointer (some ⟨fb, 0, none⟩)], .int .i64 (x.1 : Int), .int .i64 x.2, undef, undef, undef, undef, undef, undef, undef, undef, undef, undef, undef, undef, undef, undef, undef, undef, undef, undef, undef, undef, undef, undef, undef, undef, undef, undef, undef, undef, undef, undef, undef, undef], defers := [] }) ?assign ?body ?done ?stop
      case assign =>
        intro l x W' K hK
        gi_wp2
        exact hK
      case body =>
        rintro l pre ⟨p, c⟩ W' ⟨hG, kN, kB⟩ hlt
        have dN := kN.cell
        have eN := kN.frozen
        have dL2 := (Fo.bx kB bL6 (by omega)).cell
        have kR := Fo.bx kB bR6 (by omega)
        have dR2 := kR.cell
        have eR2 := kR.frozen
        have hC2 := Kd.C_below hCl6 kB
        obtain ⟨m, hm⟩ : ∃ m, pre.length = m := ⟨_, rfl⟩
        obtain ⟨N, hN⟩ : ∃ N, zs.length = N := ⟨_, rfl⟩
        have hmb : m < 2097152 := by omega
        have hIR : ∀ v, v = Value.int .i64 (((pre ++ [((p, c) : Nat × Int)]).length : Nat) : Int) → okR zs pre ((p, c) : Nat × Int) → IR2 zs wr wr.heap.size (pre ++ [((p, c) : Nat × Int)]) (W'.setCell ⟨wr.heap.size, 0, none⟩ v) := fun v hv ho =>
          ⟨goodR_snoc zs pre _ hG ho, by rw [← hv]; exact kN.set v, kB.setCell (p := ⟨wr.heap.size, 0, none⟩) (Nat.le_refl _) v⟩
        have hv1 : ∀ v, v = Value.int .i64 ((m : Int) + 1) ∨ v = Value.int .i64 (wrap64 ((m : Int) + 1)) → v = Value.int .i64 (((pre ++ [((p, c) : Nat × Int)]).length : Nat) : Int) := fun v h => by
          have e1 : (((pre ++ [((p, c) : Nat × Int)]).length : Nat) : Int) = (m : Int) + 1 := by simp [hm]
          rw [e1]
          rcases h with h | h
          · exact h
          · rw [h, wrap_of (by omega) (by omega)]
        have HIR := Aside0.mk hIR
        have HV1 := Aside0.mk hv1
        have hKp : ∀ v, Below wr.heap.size W' (W'.setCell ⟨wr.heap.size, 0, none⟩ v) := fun v => (Below.refl wr.heap.size W').setCell (p := ⟨wr.heap.size, 0, none⟩) (Nat.le_refl _) v
        have HKP := Aside0.mk hKp
        clear hIR hv1 hKp
        have hn : m < N := by omega
        have hn2 : ¬ N ≤ m := by omega
        obtain ⟨ad, rfl, x0⟩ := Kd.at_int hC2 (m : Int) (by omega) (by omega)
        obtain ⟨e0, he0⟩ : ∃ e0, rd zs (m : Int) = e0 := ⟨_, rfl⟩
        rw [Int.toNat_natCast, he0] at x0
        rw [hN] at dL2
        rw [hm] at dN
        by_cases hch : (p : Int) = (m : Int) ∧ c = e0
        · have hok : okR zs pre ((p, c) : Nat × Int) := ⟨by omega, by rw [hm]; exact hch.1, by rw [hm, he0]; exact hch.2⟩
          have hp2 : p = m := by omega
          obtain ⟨_, rfl⟩ := hch
          subst hp2
          gi_wp2
          all_goals (exact ⟨(KeepsOthers.setCell _ _ _).from _, HKP.out _, HIR.out _ (HV1.out _ (by first | exact .inl rfl | exact .inr rfl | exact .inl (congrArg (Value.int .i64) (by omega)))) hok⟩)
        · have hch2 : ¬ ((p : Int) = (m : Int) ∧ c = e0) := hch
          by_cases hpm : p = m
          · subst hpm
            have hce : ¬ c = e0 := fun h => hch ⟨rfl, h⟩
            clear hch hch2
            gi_wp2
            all_goals (refine ⟨(KeepsOthers.setCell _ _ _).from _, ⟨rfl, fun hG2 => ?_⟩⟩; obtain ⟨o1, o2, o3⟩ := goodR_last zs pre _ hG2; rw [hm, he0] at o3; exact hce o3)
          · clear hch hch2
            have hpm2 : ¬ (p : Int) = (m : Int) := by omega
            gi_wp2
            all_goals (refine ⟨(KeepsOthers.setCell _ _ _).from _, ⟨rfl, fun hG2 => ?_⟩⟩; obtain ⟨o1, o2, o3⟩ := goodR_last zs pre _ hG2; rw [hm] at o2; exact hpm2 o2)
      case done =>
        rintro D xs W' hD rfl ⟨hG, kN, kB⟩ hK
        rw [came_length] at kN
        have dN := kN.cell
        have dL2 := (Fo.bx kB bL6 (by omega)).cell
        have hszW' := kB.size
        have kR := Fo.bx kB bR6 (by omega)
        have hE : W'.heap[D]? = some (.deferred (some [])) := hK
        have hDlt := (Array.getElem?_eq_some_iff.1 hE).1
        have hBW : Below w.heap.size w W' := hBwr.trans (kB.mono (by omega))
        gi_wp2_with (first
          | (refine ⟨trivial, ?_⟩; gi_at_call 10; go_loud (refine (callsIn_wide.2 (walked_walk two (by decide) (some ⟨W'.heap.size, 0, none⟩) 2 (some ⟨W'.heap.size + 1, 0, none⟩) 2 [0, 1] two_ans (by decide) st ir _ (two_C _ _ ?hg1) (by decide) (ints_C _ _ ?hg2) (by decide))).mono ?_; (case hg1 => exact (Below.heap_alloc _ _ _ (by simp)).trans (heap_new _ _)); (case hg2 => exact heap_new1 _ _ _); rintro e w7 ⟨rfl, hb7⟩; have kR7 := Fo.bx hb7 ((kR.alloc _).alloc _) (by simp; omega); have eR7 := kR7.frozen; have dR7 := kR7.cell; have hD7 : w7.heap[D]? = some (.deferred (some [])) := (hb7.block D (by simp; omega)).trans ((Below.heap_alloc _ _ D (by simp; omega)).trans ((Below.heap_alloc _ _ D hDlt).trans hE)); have hB7 : Below w.heap.size w w7 := ((hBW.alloc hBW.size _).alloc (by have := hBW.size; simp; omega) _).trans (hb7.mono (by have := hBW.size; simp; omega))))
          | fail)
        refine leaves_all (fun X => Boxed X w.heap.size 4 (.bool true) ∧ Below w.heap.size w X) [D] _ (fun E hE => ?_) (by simp) ⟨kR7.set _, hB7.setCell (p := ⟨w.heap.size, 0, none⟩) (Nat.le_refl _) _⟩ (fun X E hE hk hJ => ⟨hJ.1.kept (grownBy_putObj' X E _) (fun e => by cases e; have h1 := hJ.1; rw [show X.heap[_]? = _ from h1] at hk; cases hk), hJ.2.trans (belowK_b (w := w) (Nat.le_refl _) X E _ _ (by rw [List.mem_singleton.1 hE]; omega) hk rfl rfl)⟩) (fun X hJ => ⟨.bool true, ?_, rfl, hJ.2⟩)
        · obtain rfl := List.mem_singleton.1 hE
          exact (KeepsOthers.setCell w7 ⟨w.heap.size, 0, none⟩ (.bool true)).same E _ hD7 rfl
        · have := hJ.1.cell
          simp [results, Try.f4, go_sem, this]
      case stop =>
        rintro D c pre W' hD ⟨kk, hkk, rfl⟩ hx hK
        exact absurd (came_good zs kk hkk) hx.2
end Go.Proofs.Ytkebableanenkaa.LawWalks
