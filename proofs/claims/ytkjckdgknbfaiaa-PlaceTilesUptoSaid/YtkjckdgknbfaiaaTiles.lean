/- The walk of PlaceTiles: it answers true, and what lay ahead of the call lies as it lay. Conditions: a text of at most 2^30 bytes. -/
import Derived.Test.YtkjckdgknbfaiaaTilesA
namespace Go.Proofs.Ytkjckdgknbfaiaa.Tiles
set_option linter.unusedSimpArgs false
set_option linter.unusedVariables false
open Go.RowKit Go.Shelf Go.Proofs.Ytkjckdgknbfaiaa.Qall Go.Proofs.Ytkjckdgknbfaiaa.Iter
attribute [local go_sem] Oper.semAt_some
set_option maxRecDepth 100000 in
set_option maxHeartbeats 4000000 in
theorem Tiles_walk (s : ByteArray) (hs : s.size ≤ 1073741824) (w : World) :
    Calls Try.prog 12 #[.string s] w fun e w' => e = .returned (.bool true) ∧ Below w.heap.size w w' := by
  obtain ⟨K, hw⟩ := works_at
  refine (callsIn_wide (n := 9)).1 ?_
  refine callsIn_of_wp_marks Try.func12 rfl trivial ?_ rfl
  simp only [Try.ntmps12, List.size_toArray, List.length_cons, List.length_nil, Nat.reduceAdd, Nat.reduceSub, Array.replicate_succ, Array.replicate_zero, List.push_toArray, List.append_toArray, List.nil_append, List.cons_append]
  gi_wp2_with (refine ⟨trivial, ?_⟩; gi_at_call 26; refine (callsIn_wide.2 (dowellaw02_works.calls K true _ (hw K (Nat.le_refl _)))).mono ?_; rintro e w1 ⟨rfl, hb1⟩)
  have bS0 : Boxed ((w.alloc (.cells #[.string s] 9)).alloc (.cells #[.bool false] 4)) w.heap.size 9 (.string s) := (Boxed.new w 9 (.string s)).alloc _
  have bR0 : Boxed ((w.alloc (.cells #[.string s] 9)).alloc (.cells #[.bool false] 4)) (w.heap.size + 1) 4 (.bool false) := by have := Boxed.new (w.alloc (.cells #[.string s] 9)) 4 (.bool false); rw [World.size_alloc] at this; exact this
  have bS1 : Boxed w1 w.heap.size 9 (.string s) := (hb1.block _ bS0.lt).trans bS0
  have bR1 : Boxed w1 (w.heap.size + 1) 4 (.bool false) := (hb1.block _ bR0.lt).trans bR0
  have hB1 : Below w.heap.size w w1 := (((Below.refl _ w).alloc (Nat.le_refl _) _).alloc (by simp) _).trans (hb1.mono (by simp; omega))
  have hsz1 : w.heap.size + 2 ≤ w1.heap.size := by have := hb1.size; simp at this; omega
  clear hb1 bS0 bR0
  have hS := bS1.cell
  gi_loopw [4] (fun i wr => ∃ j : Nat, i = .int .i64 j ∧ j ≤ s.size ∧ Boxed wr w1.heap.size 4 (.bool (noLF s j)) ∧ Below w1.heap.size w1 wr)
    (fun i _ => s.size - (intOf i).toNat)
  case atStart => exact ⟨0, rfl, Nat.zero_le _, by rw [show noLF s 0 = true from decide_eq_true (fun m h => absurd h (Nat.not_lt_zero m))]; exact Boxed.new w1 4 (.bool true), (Below.refl _ w1).alloc (Nat.le_refl _) _⟩
  case round =>
    obtain ⟨j, rfl, hj, bO, hB⟩ := hrel
    have hSr := (hB.cell (p := ⟨w.heap.size, 0, none⟩) (by show w.heap.size < w1.heap.size; omega)).trans hS
    have hc := bO.cell
    have hf := bO.frozen
    by_cases hjs : j < s.size
    · have hnl := noLF_succ s j
      rw [← neq_by s j hjs] at hnl
      generalize noLF s j = d at hc hnl bO
      gi_wp2
      all_goals refine ⟨⟨j + 1, by simp, by omega, ?_, hB.setCell (p := ⟨w1.heap.size, 0, none⟩) (Nat.le_refl _) _⟩, by simp [intOf]; omega⟩
      all_goals rw [hnl]
      · rename_i hdt
        subst hdt
        rw [Bool.true_and]
        exact bO.set _
      · rename_i hdf
        obtain rfl : d = false := by simpa using hdf
        rw [Bool.false_and]
        exact bO.set _
    · obtain rfl : j = s.size := by omega
      have hS2 : ((wr.alloc (.cells #[.int .i64 0] 3)).alloc (.cells #[.int .i64 0] 3)).cell? ⟨w.heap.size, 0, none⟩ = some (.string s) := ((((Below.refl wr.heap.size wr).alloc (Nat.le_refl _) _).alloc (by simp) _).cell (p := ⟨w.heap.size, 0, none⟩) (by have := hB.size; show w.heap.size < wr.heap.size; omega)).trans hSr
      have eqf : ∀ (b : Nat) (W : World), (binOp .eql 28 (.func (.func 28) #[] #[.pointer (some ⟨b, 0, none⟩)]) .nilFunc).run Try.prog W = .ok (.bool false) W := fun _ _ => by kernel_rfl
      gi_wp2_with (refine ⟨trivial, ?_⟩; gi_at_call 15; refine (Runes_in Fence.wide _ trivial rfl s _).mono ?_; rintro e w2 ⟨rfl, rfl⟩)
      have bS := ((((bx hB bS1 (by omega)).alloc (.cells #[.int .i64 0] 3)).alloc (.cells #[.int .i64 0] 3)).alloc (.cells #[.string s] 9))
      have bR := ((((bx hB bR1 (by omega)).alloc (.cells #[.int .i64 0] 3)).alloc (.cells #[.int .i64 0] 3)).alloc (.cells #[.string s] 9))
      have bO2 := ((bO.alloc (.cells #[.int .i64 0] 3)).alloc (.cells #[.int .i64 0] 3)).alloc (.cells #[.string s] 9)
      have bN := ((Boxed.new wr 3 (.int .i64 0)).alloc (.cells #[.int .i64 0] 3)).alloc (.cells #[.string s] 9)
      have bL := (Boxed.new (wr.alloc (.cells #[.int .i64 0] 3)) 3 (.int .i64 0)).alloc (.cells #[.string s] 9)
      have bX := Boxed.new ((wr.alloc (.cells #[.int .i64 0] 3)).alloc (.cells #[.int .i64 0] 3)) 9 (.string s)
      rw [World.size_alloc] at bL
      rw [World.size_alloc, World.size_alloc] at bX
      have hszr := bO.lt
      have hB2 : Below w.heap.size w (((wr.alloc (.cells #[.int .i64 0] 3)).alloc (.cells #[.int .i64 0] 3)).alloc (.cells #[.string s] 9)) := (((hB1.trans (hB.mono (by omega))).alloc (by omega) _).alloc (by simp; omega) _).alloc (by simp; omega) _
      obtain ⟨W0, hW0⟩ : ∃ W0, ((wr.alloc (.cells #[.int .i64 0] 3)).alloc (.cells #[.int .i64 0] 3)).alloc (.cells #[.string s] 9) = W0 := ⟨_, rfl⟩
      have hsz0 : W0.heap.size = wr.heap.size + 3 := by rw [← hW0]; simp
      rw [hW0] at bS bR bO2 bN bL bX hB2 ⊢
      refine wpIn_rangeFunc_ownG rfl (by omega) (gf := 28) (lb := #[.pointer (some ⟨wr.heap.size + 1 + 1, 0, none⟩)]) rfl trivial (enters_of Try.func28 (by kernel_rfl) rfl)
        (runes_stops Fence.wide _ trivial rfl (by omega) (wr.heap.size + 1 + 1) s (by omega) W0 (by omega) bX.cell) walksK_t walksK_b (Below.refl _ _) (fun _ => rfl)
        (fun pre W => Good s pre ∧ Boxed W w.heap.size 9 (.string s) ∧ Boxed W (w.heap.size + 1) 4 (.bool false) ∧ Boxed W w1.heap.size 4 (.bool (noLF s s.size)) ∧ Boxed W wr.heap.size 3 (.int .i64 (pre.length : Int)) ∧ Boxed W (wr.heap.size + 1) 3 (.int .i64 (lastp pre : Int)) ∧ Below w.heap.size w W)
        (fun _ pre _ => ¬ Good s pre)
        (fun pre A B row hs hg hr => ⟨hs.1, (Own.from (boxed_own _ _ (fun _ => _)) _) pre A B row hs.2.1 hg hr, (Own.from (boxed_own _ _ (fun _ => _)) _) pre A B row hs.2.2.1 hg hr, (Own.from (boxed_own _ _ (fun _ => _)) _) pre A B row hs.2.2.2.1 hg hr, (Own.from (boxed_own _ _ (fun pre : List Rn => .int .i64 (pre.length : Int))) _) pre A B row hs.2.2.2.2.1 hg hr, (Own.from (boxed_own _ _ (fun pre : List Rn => .int .i64 (lastp pre : Int))) _) pre A B row hs.2.2.2.2.2.1 hg hr, (ownFrom_below (β := List Rn) (Nat.le_refl _) (by omega)) pre A B row hs.2.2.2.2.2.2 hg hr⟩)
        (fun c => ownFrom_pure _ _)
        ⟨good_nil s, bS, bR, bO2, bN, bL, hB2⟩
        (fun x => { tmps := #[.string s, .pointer (some ⟨w.heap.size, 0, none⟩), .pointer (some ⟨w.heap.size + 1, 0, none⟩), .pointer (some ⟨w1.heap.size, 0, none⟩), .int .i64 (s.size : Int), .pointer (some ⟨wr.heap.size, 0, none⟩), .pointer (some ⟨wr.heap.size + 1, 0, none⟩), .func (.func 28) #[] #[.pointer (some ⟨wr.heap.size + 1 + 1, 0, none⟩)], .int .i64 (x.pos : Int), .int .i32 (x.c : Int), undef, undef, .bool true, .bool false, .int .i64 (s.size : Int), .string s, .int .i64 (s.size : Int), .bool false, u18, u19, u20, u21, u22, u23, u24, u25, u26, .string s, .func (.func 28) #[] #[.pointer (some ⟨wr.heap.size + 1 + 1, 0, none⟩)], .func (.func 28) #[] #[.pointer (some ⟨wr.heap.size + 1 + 1, 0, none⟩)], .bool false, .func (.func 28) #[] #[.pointer (some ⟨wr.heap.size + 1 + 1, 0, none⟩)], .int .i64 (x.pos : Int), .int .i32 (x.c : Int), undef, undef, undef, undef, undef, undef, undef, undef, undef, undef, undef, undef, undef, undef, undef, undef, undef, undef, undef, undef, undef, undef, undef, undef, undef, undef, undef, undef, undef, undef, undef, undef, undef, undef, undef, undef, undef, undef, undef, undef, undef, undef, undef, undef, undef, undef, undef, undef, undef, undef, undef, undef, undef, undef, undef, undef, undef, undef, undef, undef, undef, undef, undef, undef, undef, undef, undef, undef, undef, undef, undef, undef, undef, undef, undef, undef, undef, undef, undef, undef, undef, undef, undef, undef, undef, undef, undef, undef, undef, undef, undef, undef, undef, undef, undef, undef, undef, undef, undef, undef, undef, undef, undef, undef, undef, undef, undef, undef, undef, undef, undef, undef, undef, undef, undef, undef], defers := [] }) ?assign ?body ?done ?stop
      case assign =>
        intro l x W K hK
        gi_wp2
        exact hK
      case body =>
        rintro l pre ⟨p, c, hp, hc2⟩ W ⟨hG, cS, cR, cO, cN, cL, cB⟩ hlt
        have dS := cS.cell
        have dR := cR.cell
        have eR := cR.frozen
        have dO := cO.cell
        have dN := cN.cell
        have eN := cN.frozen
        have dL := cL.cell
        have eL := cL.frozen
        have hlast := lastp_lt pre
        have hlen : pre.length < 4611686018427387904 := by have := runes_le s (by omega); omega
        obtain ⟨r1, r2, r3, r4, hsp⟩ : ∃ r1 r2 r3 r4, spotAns s (p : Int) = (r1, r2, r3, r4) := ⟨_, _, _, _, rfl⟩
        have hspf : place_Spot.f 1 s (p : Int) = some (r1, r2, r3, r4) := by rw [spot_eq s hs _ 1 (by omega), hsp]
        have nN : ∀ v, Boxed (W.setCell ⟨wr.heap.size, 0, none⟩ v) (wr.heap.size + 1) 3 (.int .i64 (lastp pre : Int)) := fun v => cL.other (by omega) v
        have fL : ∀ v, (W.setCell ⟨wr.heap.size, 0, none⟩ v).frozen? ⟨wr.heap.size + 1, 0, none⟩ = false := fun v => (nN v).frozen
        have gL : ∀ v, (W.setCell ⟨wr.heap.size, 0, none⟩ v).cell? ⟨wr.heap.size + 1, 0, none⟩ = some (.int .i64 (lastp pre : Int)) := fun v => (nN v).cell
        have kN : ∀ v u, Boxed ((W.setCell ⟨wr.heap.size, 0, none⟩ v).setCell ⟨wr.heap.size + 1, 0, none⟩ u) wr.heap.size 3 v := fun v u => (cN.set v).other (by omega) u
        have kL : ∀ v u, Boxed ((W.setCell ⟨wr.heap.size, 0, none⟩ v).setCell ⟨wr.heap.size + 1, 0, none⟩ u) (wr.heap.size + 1) 3 u := fun v u => (nN v).set u
        have kO : ∀ v u, Boxed ((W.setCell ⟨wr.heap.size, 0, none⟩ v).setCell ⟨wr.heap.size + 1, 0, none⟩ u) w1.heap.size 4 (.bool (noLF s s.size)) := fun v u => (cO.other (by omega) v).other (by omega) u
        have kS : ∀ v u, Boxed ((W.setCell ⟨wr.heap.size, 0, none⟩ v).setCell ⟨wr.heap.size + 1, 0, none⟩ u) w.heap.size 9 (.string s) := fun v u => (cS.other (by omega) v).other (by omega) u
        have kR : ∀ v u, Boxed ((W.setCell ⟨wr.heap.size, 0, none⟩ v).setCell ⟨wr.heap.size + 1, 0, none⟩ u) (w.heap.size + 1) 4 (.bool false) := fun v u => (cR.other (by omega) v).other (by omega) u
        have kB : ∀ v u, Below w.heap.size w ((W.setCell ⟨wr.heap.size, 0, none⟩ v).setCell ⟨wr.heap.size + 1, 0, none⟩ u) := fun v u => (cB.setCell (p := ⟨wr.heap.size, 0, none⟩) (by show w.heap.size ≤ wr.heap.size; omega) v).setCell (p := ⟨wr.heap.size + 1, 0, none⟩) (by show w.heap.size ≤ wr.heap.size + 1; omega) u
        have kK : ∀ v u, KeepsOthers W ((W.setCell ⟨wr.heap.size, 0, none⟩ v).setCell ⟨wr.heap.size + 1, 0, none⟩ u) := fun v u => (KeepsOthers.setCell W _ v).trans (KeepsOthers.setCell _ _ u)
        have qN : ∀ v u, ((W.setCell ⟨wr.heap.size, 0, none⟩ v).setCell ⟨wr.heap.size + 1, 0, none⟩ u).cell? ⟨wr.heap.size, 0, none⟩ = some v := fun v u => (kN v u).cell
        have qO : ∀ v u, ((W.setCell ⟨wr.heap.size, 0, none⟩ v).setCell ⟨wr.heap.size + 1, 0, none⟩ u).cell? ⟨w1.heap.size, 0, none⟩ = some (.bool (noLF s s.size)) := fun v u => (kO v u).cell
        have qS : ∀ v u, ((W.setCell ⟨wr.heap.size, 0, none⟩ v).setCell ⟨wr.heap.size + 1, 0, none⟩ u).cell? ⟨w.heap.size, 0, none⟩ = some (.string s) := fun v u => (kS v u).cell
        have kB5 : ∀ w5 v u, Below ((W.setCell ⟨wr.heap.size, 0, none⟩ v).setCell ⟨wr.heap.size + 1, 0, none⟩ u).heap.size ((W.setCell ⟨wr.heap.size, 0, none⟩ v).setCell ⟨wr.heap.size + 1, 0, none⟩ u) w5 → ∀ o, Below w.heap.size w (w5.alloc o) := fun w5 v u hb o => by
          have h1 := (kB v u).trans (hb.mono (kB v u).size)
          exact h1.alloc h1.size o
        have kK5 : ∀ w5 v u, Below ((W.setCell ⟨wr.heap.size, 0, none⟩ v).setCell ⟨wr.heap.size + 1, 0, none⟩ u).heap.size ((W.setCell ⟨wr.heap.size, 0, none⟩ v).setCell ⟨wr.heap.size + 1, 0, none⟩ u) w5 → ∀ o, KeepsOthers W (w5.alloc o) := fun w5 v u hb o =>
          (((kK v u).trans ⟨hb.size, fun k o hk _ => (hb.block k (Array.getElem?_eq_some_iff.1 hk).1).trans hk⟩).trans (KeepsOthers.alloc _ _))
        have hl : (((pre ++ [(⟨p, c, hp, hc2⟩ : Rn)]).length : Nat) : Int) = (pre.length : Int) + 1 := by simp
        have hla : lastp (pre ++ [(⟨p, c, hp, hc2⟩ : Rn)]) = p := lastp_snoc _ _
        obtain ⟨one, hone⟩ : ∃ one, noLF s s.size = one := ⟨_, rfl⟩
        have hone2 := Lib.hid hone
        rw [hone] at dO cO kO qO
        have hemp : s.size = 0 → s = ByteArray.empty := fun h => Go.WideShapes.bytes_inj (List.eq_nil_of_length_eq_zero (by rw [Array.length_toList]; exact h))
        by_cases hps : p < s.size
        · have hne : ¬ s = ByteArray.empty := by rintro rfl; exact absurd hps (by simp)
          have hby : by_ s.data.toList p = s[p].toNat := (by_at s p hps).symm
          have f3 : ¬ (p : Int) ≥ (s.size : Int) := by omega
          have f4 : ¬ (c : Int) < 0 := by omega
          have f5 : ¬ (c : Int) > 1114111 := by omega
          have hkind : (pre = [] ∧ p = 0) ∨ (pre = [] ∧ p ≠ 0) ∨ (pre ≠ [] ∧ lastp pre < p ∧ p ≤ lastp pre + 4) ∨ (pre ≠ [] ∧ ¬ lastp pre < p) ∨ (pre ≠ [] ∧ lastp pre < p ∧ ¬ p ≤ lastp pre + 4) := by
            by_cases e1 : pre = [] <;> by_cases e2 : p = 0 <;> by_cases e3 : lastp pre < p <;> by_cases e4 : p ≤ lastp pre + 4 <;> simp [e1, e2, e3, e4]
          rcases hkind with ⟨rfl, rfl⟩ | ⟨rfl, e1⟩ | ⟨e1, e2, e3⟩ | ⟨e1, e2⟩ | ⟨e1, e2, e3⟩
          · have nil : True := trivial
            replace hspf : place_Spot.f 1 s 0 = some (r1, r2, r3, r4) := hspf
            replace hl : ((([] ++ [(⟨0, c, hp, hc2⟩ : Rn)]).length : Nat) : Int) = 1 := rfl
            cases one with
            | false =>
              gi_wp2
              all_goals (try simp only [bne_iff_ne, ne_eq, bne_eq_false_iff_eq] at *)
              all_goals first | (refine ⟨(kK _ _).from _, (kK _ _).walks, good_snoc s [] _ hG ⟨fun _ => rfl, fun h => absurd h (by simp), hps, (show c < 128 → by_ s.data.toList 0 = c by intros; omega), (show by_ s.data.toList 0 < 128 → c = by_ s.data.toList 0 by intros; omega), fun h1 h2 => absurd h1 (by rw [hone]; simp)⟩, kS _ _, kR _ _, (by first | exact kO _ _ | (rw [hone2.out]; exact kO _ _)), (by first | exact kN _ _ | (rw [hl]; exact kN _ _)), (by first | exact kL _ _ | (rw [hla]; exact kL _ _)), kB _ _⟩) | (refine ⟨(KeepsOthers.setCell _ _ _).from _, fun hG2 => ?_⟩; obtain ⟨o1, o2, o3, o4, o5, o6⟩ := good_last s [] _ hG2; replace o4 : c < 128 → by_ s.data.toList 0 = c := o4; replace o5 : by_ s.data.toList 0 < 128 → c = by_ s.data.toList 0 := o5; simp only [List.length_nil] at o1 o2 o4 o5; omega) | (refine ⟨(KeepsOthers.setCell _ _ _).from _, fun hG2 => ?_⟩; obtain ⟨o1, o2, o3, o4, o5, o6⟩ := good_last s [] _ hG2; replace o4 : c < 128 → by_ s.data.toList 0 = c := o4; replace o5 : by_ s.data.toList 0 < 128 → c = by_ s.data.toList 0 := o5; omega)
            | true =>
              skip
              gi_wp2_with (refine ⟨trivial, ?_⟩; gi_at_call 22; refine (CallsIn.inRound l (callsIn_wide.2 (place_Spot.calls 1 s _ _ _ _ _ _ hspf))).mono ?_; rintro e w5 ⟨rfl, hb5⟩; have yK := kK5 w5 _ _ hb5; have yB := kB5 w5 _ _ hb5; have yN := fun o => (bx hb5 (kN _ _) (kN _ _).lt).alloc o; have yL := fun o => (bx hb5 (kL _ _) (kL _ _).lt).alloc o; have yS := fun o => (bx hb5 (kS _ _) (kS _ _).lt).alloc o; have yO := fun o => (bx hb5 (kO _ _) (kO _ _).lt).alloc o; have yR := fun o => (bx hb5 (kR _ _) (kR _ _).lt).alloc o; have zN := fun o => (yN o).cell; have zR := fun o => (yR o).cell; have zF := fun o => (yR o).frozen)
              all_goals (try simp only [bne_iff_ne, ne_eq, bne_eq_false_iff_eq] at *)
              all_goals first | (refine ⟨(yK _).from _, (yK _).walks, good_snoc s [] _ hG ⟨fun _ => rfl, fun h => absurd h (by simp), hps, (show c < 128 → by_ s.data.toList 0 = c by intros; omega), (show by_ s.data.toList 0 < 128 → c = by_ s.data.toList 0 by intros; omega), fun h1 h2 => by rw [show spotAns s ((0 : Nat) : Int) = _ from hsp]; simp only [List.length_nil]; exact ⟨by omega, by omega, by omega, by omega⟩⟩, yS _, yR _, (by first | exact yO _ | (rw [hone2.out]; exact yO _)), (by first | exact yN _ | (rw [hl]; exact yN _)), (by first | exact yL _ | (rw [hla]; exact yL _)), yB _⟩) | (refine ⟨((yK _).trans (KeepsOthers.setCell _ _ _)).from _, fun hG2 => ?_⟩; have o6 : (spotAns s ((0 : Nat) : Int)).1 = 1 ∧ (spotAns s ((0 : Nat) : Int)).2.1 = ((0 : Nat) : Int) + 1 ∧ (spotAns s ((0 : Nat) : Int)).2.2.1 = ((0 : Nat) : Int) + 1 ∧ (spotAns s ((0 : Nat) : Int)).2.2.2 = 0 := (good_last s [] _ hG2).2.2.2.2.2 hone (by simp); rw [show spotAns s ((0 : Nat) : Int) = _ from hsp] at o6; obtain ⟨a1, a2, a3, a4⟩ := o6; replace a1 : r1 = 1 := a1; replace a2 : r2 = ((0 : Nat) : Int) + 1 := a2; replace a3 : r3 = ((0 : Nat) : Int) + 1 := a3; replace a4 : r4 = 0 := a4; omega) | (refine ⟨(KeepsOthers.setCell _ _ _).from _, fun hG2 => ?_⟩; obtain ⟨o1, o2, o3, o4, o5, o6⟩ := good_last s [] _ hG2; replace o4 : c < 128 → by_ s.data.toList 0 = c := o4; replace o5 : by_ s.data.toList 0 < 128 → c = by_ s.data.toList 0 := o5; simp only [List.length_nil] at o1 o2 o4 o5; omega) | (refine ⟨(KeepsOthers.setCell _ _ _).from _, fun hG2 => ?_⟩; obtain ⟨o1, o2, o3, o4, o5, o6⟩ := good_last s [] _ hG2; replace o4 : c < 128 → by_ s.data.toList 0 = c := o4; replace o5 : by_ s.data.toList 0 < 128 → c = by_ s.data.toList 0 := o5; omega)
          · gi_wp2
            all_goals (try simp only [bne_iff_ne, ne_eq, bne_eq_false_iff_eq] at *)
            all_goals first | exact ⟨(KeepsOthers.setCell _ _ _).from _, fun hG2 => e1 ((good_last s [] _ hG2).1 rfl)⟩ | (exfalso; omega)
          · have f0 : ¬ p ≤ lastp pre := by omega
            have f1 : ((lastp pre : Nat) : Int) < (p : Int) := by omega
            have f2 : (p : Int) ≤ ((lastp pre : Nat) : Int) + 4 := by omega
            have f6 : 0 < pre.length := List.length_pos_iff.2 e1
            cases one with
            | false =>
              gi_wp2
              all_goals (try simp only [bne_iff_ne, ne_eq, bne_eq_false_iff_eq] at *)
              all_goals first | (refine ⟨(kK _ _).from _, (kK _ _).walks, good_snoc s pre _ hG ⟨fun h => absurd h (by omega), fun _ => ⟨e2, e3⟩, hps, (show c < 128 → by_ s.data.toList p = c by intros; omega), (show by_ s.data.toList p < 128 → c = by_ s.data.toList p by intros; omega), fun h1 h2 => absurd h1 (by rw [hone]; simp)⟩, kS _ _, kR _ _, (by first | exact kO _ _ | (rw [hone2.out]; exact kO _ _)), (by first | exact kN _ _ | (rw [hl]; exact kN _ _)), (by first | exact kL _ _ | (rw [hla]; exact kL _ _)), kB _ _⟩) | (refine ⟨(KeepsOthers.setCell _ _ _).from _, fun hG2 => ?_⟩; obtain ⟨o1, o2, o3, o4, o5, o6⟩ := good_last s pre _ hG2; replace o2 : 0 < pre.length → lastp pre < p ∧ p ≤ lastp pre + 4 := o2; replace o4 : c < 128 → by_ s.data.toList p = c := o4; replace o5 : by_ s.data.toList p < 128 → c = by_ s.data.toList p := o5; simp only [List.length_nil] at o1 o2 o4 o5; omega) | (refine ⟨(KeepsOthers.setCell _ _ _).from _, fun hG2 => ?_⟩; obtain ⟨o1, o2, o3, o4, o5, o6⟩ := good_last s pre _ hG2; replace o2 : 0 < pre.length → lastp pre < p ∧ p ≤ lastp pre + 4 := o2; replace o4 : c < 128 → by_ s.data.toList p = c := o4; replace o5 : by_ s.data.toList p < 128 → c = by_ s.data.toList p := o5; omega)
            | true =>
              by_cases g3 : (pre.length : Int) + 1 ≤ 100
              · gi_wp2_with (refine ⟨trivial, ?_⟩; gi_at_call 22; refine (CallsIn.inRound l (callsIn_wide.2 (place_Spot.calls 1 s _ _ _ _ _ _ hspf))).mono ?_; rintro e w5 ⟨rfl, hb5⟩; have yK := kK5 w5 _ _ hb5; have yB := kB5 w5 _ _ hb5; have yN := fun o => (bx hb5 (kN _ _) (kN _ _).lt).alloc o; have yL := fun o => (bx hb5 (kL _ _) (kL _ _).lt).alloc o; have yS := fun o => (bx hb5 (kS _ _) (kS _ _).lt).alloc o; have yO := fun o => (bx hb5 (kO _ _) (kO _ _).lt).alloc o; have yR := fun o => (bx hb5 (kR _ _) (kR _ _).lt).alloc o; have zN := fun o => (yN o).cell; have zR := fun o => (yR o).cell; have zF := fun o => (yR o).frozen)
                all_goals (try simp only [bne_iff_ne, ne_eq, bne_eq_false_iff_eq] at *)
                all_goals first | (refine ⟨(yK _).from _, (yK _).walks, good_snoc s pre _ hG ⟨fun h => absurd h (by omega), fun _ => ⟨e2, e3⟩, hps, (show c < 128 → by_ s.data.toList p = c by intros; omega), (show by_ s.data.toList p < 128 → c = by_ s.data.toList p by intros; omega), fun h1 h2 => by rw [show spotAns s ((⟨p, c, hp, hc2⟩ : Rn).pos : Int) = _ from hsp]; exact ⟨(by omega : r1 = 1), (by omega : r2 = (p : Int) + 1), (by omega : r3 = (pre.length : Int) + 1), (by omega : r4 = 0)⟩⟩, yS _, yR _, (by first | exact yO _ | (rw [hone2.out]; exact yO _)), (by first | exact yN _ | (rw [hl]; exact yN _)), (by first | exact yL _ | (rw [hla]; exact yL _)), yB _⟩) | (refine ⟨((yK _).trans (KeepsOthers.setCell _ _ _)).from _, fun hG2 => ?_⟩; have o6 : (spotAns s (p : Int)).1 = 1 ∧ (spotAns s (p : Int)).2.1 = (p : Int) + 1 ∧ (spotAns s (p : Int)).2.2.1 = (pre.length : Int) + 1 ∧ (spotAns s (p : Int)).2.2.2 = 0 := (good_last s pre _ hG2).2.2.2.2.2 hone (by omega); rw [hsp] at o6; obtain ⟨a1, a2, a3, a4⟩ := o6; replace a1 : r1 = 1 := a1; replace a2 : r2 = (p : Int) + 1 := a2; replace a3 : r3 = (pre.length : Int) + 1 := a3; replace a4 : r4 = 0 := a4; omega) | (refine ⟨(KeepsOthers.setCell _ _ _).from _, fun hG2 => ?_⟩; obtain ⟨o1, o2, o3, o4, o5, o6⟩ := good_last s pre _ hG2; replace o2 : 0 < pre.length → lastp pre < p ∧ p ≤ lastp pre + 4 := o2; replace o4 : c < 128 → by_ s.data.toList p = c := o4; replace o5 : by_ s.data.toList p < 128 → c = by_ s.data.toList p := o5; simp only [List.length_nil] at o1 o2 o4 o5; omega) | (refine ⟨(KeepsOthers.setCell _ _ _).from _, fun hG2 => ?_⟩; obtain ⟨o1, o2, o3, o4, o5, o6⟩ := good_last s pre _ hG2; replace o2 : 0 < pre.length → lastp pre < p ∧ p ≤ lastp pre + 4 := o2; replace o4 : c < 128 → by_ s.data.toList p = c := o4; replace o5 : by_ s.data.toList p < 128 → c = by_ s.data.toList p := o5; omega)
              · gi_wp2
                all_goals (try simp only [bne_iff_ne, ne_eq, bne_eq_false_iff_eq] at *)
                all_goals first | (refine ⟨(kK _ _).from _, (kK _ _).walks, good_snoc s pre _ hG ⟨fun h => absurd h (by omega), fun _ => ⟨e2, e3⟩, hps, (show c < 128 → by_ s.data.toList p = c by intros; omega), (show by_ s.data.toList p < 128 → c = by_ s.data.toList p by intros; omega), fun h1 h2 => absurd h2 (by omega)⟩, kS _ _, kR _ _, (by first | exact kO _ _ | (rw [hone2.out]; exact kO _ _)), (by first | exact kN _ _ | (rw [hl]; exact kN _ _)), (by first | exact kL _ _ | (rw [hla]; exact kL _ _)), kB _ _⟩) | (refine ⟨(KeepsOthers.setCell _ _ _).from _, fun hG2 => ?_⟩; obtain ⟨o1, o2, o3, o4, o5, o6⟩ := good_last s pre _ hG2; replace o2 : 0 < pre.length → lastp pre < p ∧ p ≤ lastp pre + 4 := o2; replace o4 : c < 128 → by_ s.data.toList p = c := o4; replace o5 : by_ s.data.toList p < 128 → c = by_ s.data.toList p := o5; simp only [List.length_nil] at o1 o2 o4 o5; omega) | (refine ⟨(KeepsOthers.setCell _ _ _).from _, fun hG2 => ?_⟩; obtain ⟨o1, o2, o3, o4, o5, o6⟩ := good_last s pre _ hG2; replace o2 : 0 < pre.length → lastp pre < p ∧ p ≤ lastp pre + 4 := o2; replace o4 : c < 128 → by_ s.data.toList p = c := o4; replace o5 : by_ s.data.toList p < 128 → c = by_ s.data.toList p := o5; omega)
          · have f0 : p ≤ lastp pre := by omega
            have f6 : 0 < pre.length := List.length_pos_iff.2 e1
            gi_wp2
            all_goals (try simp only [bne_iff_ne, ne_eq, bne_eq_false_iff_eq] at *)
            all_goals first | (refine ⟨(KeepsOthers.setCell _ _ _).from _, fun hG2 => ?_⟩; obtain ⟨o1, o2, o3, o4, o5, o6⟩ := good_last s pre _ hG2; replace o2 : 0 < pre.length → lastp pre < p ∧ p ≤ lastp pre + 4 := o2; replace o4 : c < 128 → by_ s.data.toList p = c := o4; replace o5 : by_ s.data.toList p < 128 → c = by_ s.data.toList p := o5; omega)
          · have f0 : ¬ p ≤ lastp pre := by omega
            have f6 : 0 < pre.length := List.length_pos_iff.2 e1
            have f2 : ¬ (p : Int) ≤ ((lastp pre : Nat) : Int) + 4 := by omega
            gi_wp2
            all_goals (try simp only [bne_iff_ne, ne_eq, bne_eq_false_iff_eq] at *)
            all_goals first | (refine ⟨(KeepsOthers.setCell _ _ _).from _, fun hG2 => ?_⟩; obtain ⟨o1, o2, o3, o4, o5, o6⟩ := good_last s pre _ hG2; replace o2 : 0 < pre.length → lastp pre < p ∧ p ≤ lastp pre + 4 := o2; replace o4 : c < 128 → by_ s.data.toList p = c := o4; replace o5 : by_ s.data.toList p < 128 → c = by_ s.data.toList p := o5; omega)
        · have f3 : (p : Int) ≥ (s.size : Int) := by omega
          gi_wp2
          all_goals (try simp only [bne_iff_ne, ne_eq, bne_eq_false_iff_eq] at *)
          all_goals first | exact ⟨(KeepsOthers.setCell _ _ _).from _, fun hG2 => hps (good_last s pre _ hG2).2.2.1⟩ | (exfalso; exact absurd (hemp (by omega)) (by assumption))
      case done =>
        rintro D xs W hD rfl ⟨hG, cS, cR, cO, cN, cL, cB⟩ hK
        have dS := cS.cell
        have dR := cR.cell
        have eR := cR.frozen
        have dN := cN.cell
        have dL := cL.cell
        by_cases h0 : s.size = 0
        · rw [runes_none s (by omega) h0] at dN
          have hemp : s = ByteArray.empty := Go.WideShapes.bytes_inj (List.eq_nil_of_length_eq_zero (by rw [Array.length_toList]; exact h0))
          gi_wp2
          all_goals first | (have hK' := (KeepsOthers.setCell W ⟨w.heap.size + 1, 0, none⟩ (.bool true)).same D _ hK rfl; have hc5 := cell_kept (World.cell?_setCell_same' W ⟨w.heap.size + 1, 0, none⟩ (.bool true) (by rw [dR]; rfl)) (grownBy_putObj' _ D (.deferred none)) (fun r e => by cases e; exact ⟨_, hK', rfl⟩); refine ⟨by simp, .inl ⟨_, _, rfl, run_takeDeferred hK', .bool true, ?_, rfl, (cB.setCell (p := ⟨w.heap.size + 1, 0, none⟩) (by show w.heap.size ≤ w.heap.size + 1; omega) _).trans (belowK_b (w := w) (Nat.le_refl _) _ D _ _ (by omega) hK' rfl rfl)⟩⟩; simp [results, Try.f12, go_sem, hc5]) | (exfalso; simp_all [undef]; done)
        · obtain ⟨l1, l2, l3⟩ := runes_last s (by omega) (by omega)
          have hlen := runes_le s (by omega)
          obtain ⟨n, hn⟩ : ∃ n, (runes s (by omega)).length = n := ⟨_, rfl⟩
          obtain ⟨q, hq⟩ : ∃ q, lastp (runes s (by omega)) = q := ⟨_, rfl⟩
          rw [hn] at dN l1 hlen
          rw [hq] at dL l2 l3
          have m1 : ¬ (n : Int) = 0 := by omega
          have m2 : (n : Int) > 0 := by omega
          have m3 : (s.size : Int) > (q : Int) := by omega
          have m4 : (s.size : Int) ≤ (q : Int) + 4 := by omega
          gi_wp2
          all_goals first | (have hK' := (KeepsOthers.setCell W ⟨w.heap.size + 1, 0, none⟩ (.bool true)).same D _ hK rfl; have hc5 := cell_kept (World.cell?_setCell_same' W ⟨w.heap.size + 1, 0, none⟩ (.bool true) (by rw [dR]; rfl)) (grownBy_putObj' _ D (.deferred none)) (fun r e => by cases e; exact ⟨_, hK', rfl⟩); refine ⟨by simp, .inl ⟨_, _, rfl, run_takeDeferred hK', .bool true, ?_, rfl, (cB.setCell (p := ⟨w.heap.size + 1, 0, none⟩) (by show w.heap.size ≤ w.heap.size + 1; omega) _).trans (belowK_b (w := w) (Nat.le_refl _) _ D _ _ (by omega) hK' rfl rfl)⟩⟩; simp [results, Try.f12, go_sem, hc5]) | (exfalso; simp_all [undef]; done)
      case stop =>
        rintro D c pre W hD hp hbad hK
        exact absurd (runes_good s _ pre hp) hbad
end Go.Proofs.Ytkjckdgknbfaiaa.Tiles
