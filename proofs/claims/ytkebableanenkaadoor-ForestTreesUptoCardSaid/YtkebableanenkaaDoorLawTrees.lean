/- The walk of the law ForestTrees: it answers true, and what lay ahead of the call lies as it lay. Conditions: a list of at most 2^20 nodes, names of at most 2^20 bytes; what works asks. -/
import Derived.Test.YtkebableanenkaaDoorTreeA
import Derived.Test.YtkebableanenkaaDoorWorks
import Derived.Test.YtkebableanenkaaDoorKds
namespace Go.Proofs.YtkebableanenkaaDoor.LawTrees
open Go.RowKit Go.Proofs.YtkebableanenkaaDoor.Qall Go.Proofs.YtkebableanenkaaDoor.Fo Go.Proofs.YtkebableanenkaaDoor.Chk Go.Proofs.YtkebableanenkaaDoor.Ln Go.Proofs.YtkebableanenkaaDoor.Fi Go.Proofs.YtkebableanenkaaDoor.Free Go.Proofs.YtkebableanenkaaDoor.Nsa Go.Proofs.YtkebableanenkaaDoor.Tra Go.Proofs.YtkebableanenkaaDoorW.PrintWords Go.Proofs.YtkebableanenkaaDoorW.PrintLast Go.Proofs.YtkebableanenkaaDoorW.PrintMore
set_option linter.unusedSimpArgs false
set_option linter.unusedVariables false
theorem gb_trans {a w w' : World} {row : Option Nat} (h : a.grownBy w row) (k : w.grownBy w' row) : a.grownBy w' row :=
  ⟨k.os.trans h.os, k.tape.trans h.tape, k.output.trans h.output, Nat.le_trans h.size k.size, fun i hi hr => (k.block i (Nat.lt_of_lt_of_le hi h.size) hr).trans (h.block i hi hr)⟩
theorem gb_below {a w w' : World} {row : Option Nat} (h : a.grownBy w row) (k : Below w.heap.size w w') : a.grownBy w' row :=
  gb_trans h ⟨k.os, k.tape, k.output, k.size, fun i hi _ => k.block i hi⟩
theorem zero_C (W : World) (g : Nat) (hg : W.heap[g]? = some (.cells #[.int .i64 0] 3 (0, 0))) : Kd.C (Kd.int .i64) W (some ⟨g, 0, none⟩) ([0] : List Int).length [0] := by
  have h : Kd.R (Kd.int .i64) 3 W 0 (fun _ => True) (.slice (some ⟨g, 0, none⟩) 1 1) [0] := by
    refine ⟨fun k hk => trivial, [.int .i64 0], ⟨rfl, .inr ⟨g, 1, _, rfl, Nat.zero_le _, hg, Nat.le_refl _, by unfold maxLen; decide, rfl, rfl⟩⟩, ⟨rfl, fun j p hp => ?_⟩⟩
    obtain ⟨hlt, rfl⟩ := List.getElem?_eq_some_iff.1 hp
    obtain rfl : j = 0 := by simp at hlt; omega
    rfl
  exact (Kd.R_reads' h).2.2
theorem ints_z : dowelbook_Ints.f 10 [0] [0] = some true := by kernel_rfl
theorem kids_all (f : List S37) (hn : f.length ≤ 2097152) : ∃ KK, ∀ k, KK ≤ k → ∀ i : Nat, i ≤ f.length → forest_Kids.f k f ((i : Int) - 1) = some (kidsAns f ((i : Int) - 1)) := by
  have h : ∀ n : Nat, ∃ KK, ∀ k, KK ≤ k → ∀ i : Nat, i ≤ n → forest_Kids.f k f ((i : Int) - 1) = some (kidsAns f ((i : Int) - 1)) := by
    intro n
    induction n with
    | zero =>
      obtain ⟨K0, h0⟩ : ∃ K0, ∀ k, K0 ≤ k → forest_Kids.f k f (((0 : Nat) : Int) - 1) = some (kidsAns f (((0 : Nat) : Int) - 1)) := kids_ev f hn _
      exact ⟨K0, fun k hk i hi => by obtain rfl : i = 0 := by omega
                                     exact h0 k hk⟩
    | succ n ih =>
      obtain ⟨K1, h1⟩ := ih
      obtain ⟨K0, h0⟩ : ∃ K0, ∀ k, K0 ≤ k → forest_Kids.f k f (((n + 1 : Nat) : Int) - 1) = some (kidsAns f (((n + 1 : Nat) : Int) - 1)) := kids_ev f hn _
      refine ⟨max K0 K1, fun k hk i hi => ?_⟩
      by_cases hi2 : i = n + 1
      · subst hi2
        exact h0 k (by omega)
      · exact h1 k (by omega) i (by omega)
  exact h f.length
set_option maxRecDepth 100000 in
set_option maxHeartbeats 4000000 in
theorem Trees_walk (f : List S37) (hn : f.length ≤ 1048576) (hM : ∀ x ∈ f, x.f0.size ≤ 1048576) (Af : Option Addr) (cf : Nat) (w : World) (hCf : Kd.C k37 w Af f.length f) (hcf : f.length ≤ cf) (hm : Mx w) (htab : Tab w) :
    Calls Tryd.prog 9 #[.slice Af f.length cf] w fun e w' => e = .returned (.bool true) ∧ Below w.heap.size w w' := by
  have HWK := Aside0.mk (Wk.works_calls w hm htab)
  have hck := fun (A : Option Addr) (c : Nat) (W : World) (hC : Kd.C k37 W A f.length f) (h : f.length ≤ c) => check_calls f (by omega) 65536 1048576 hM (by decide) A c W hC h
  obtain ⟨ck, hcke⟩ : ∃ x, chkAns f 65536 = x := ⟨_, rfl⟩
  rw [hcke] at hck
  have HCK := Aside0.mk hck
  have HC := Aside0.mk hCf
  have HM := Aside0.mk hM
  clear hck hm htab hCf hM
  go_enter Tryd.func9, Tryd.ntmps9
  go_wp2_with fail
  go_at_call 19
  refine HWK.out.mono ?_
  rintro e_ w1 ⟨rfl, hb1⟩
  by_cases h200 : 200 < f.length
  · have hnb : decide (200 < (f.length : Int)) = true := decide_eq_true (by omega)
    have hnb2 : decide (200 < f.length) = true := decide_eq_true (by omega)
    have HB1 := Aside0.mk hb1
    clear hb1 HWK hcke
    go_wp2
    go_ret
    exact ⟨rfl, HB1.out⟩
  have hnb : decide (200 < (f.length : Int)) = false := decide_eq_false (by omega)
  have hnb2 : decide (200 < f.length) = false := decide_eq_false (by omega)
  go_wp2_with fail
  go_at_call 15
  refine (Lend.lend f Af cf w1 (Kd.C_below HC.out hb1) (by omega)).mono ?_
  rintro e_ w2 ⟨g, cap, cur, hg, rfl, hcap, hmax, hcur, hcs, htake, hb2⟩
  have hCo := (Kd.R_reads' (own_R w2 w1.heap.size g cap cur f hcur hg (by omega) hmax hcs htake)).2.2
  have HB2 := hb1.trans (hb2.mono hb1.size)
  have hcap2 : f.length ≤ cap := by omega
  clear hcur hcs htake hb2 hb1
  go_wp2_with fail
  go_at_call 20
  refine (HCK.out (some ⟨g, 0, none⟩) cap w2 hCo hcap2).mono ?_
  rintro e_ w3 ⟨rfl, hb3⟩
  have HB3 := Aside0.mk (HB2.trans (hb3.mono HB2.size))
  clear hb3 HB2 hCo hmax hcap hcap2 hg
  by_cases hc0 : ck ≠ 0
  · have q1 : (ck != 0) = true := bne_iff_ne.mpr hc0
    have q2 : (ck == 0) = false := beq_eq_false_iff_ne.mpr hc0
    clear hc0
    go_wp2
    go_ret
    exact ⟨rfl, HB3.out⟩
  obtain rfl : ck = 0 := by omega
  have HR := Aside0.mk hcke
  clear hcke hc0 HCK HWK
  go_wp2_with fail
  go_at_call 15
  refine (Lend.lend f Af cf w3 (Kd.C_below HC.out HB3.out) (by omega)).mono ?_
  rintro e_ w4 ⟨g2, cap2, cur2, hg2, rfl, hcap4, hmax2, hcur2, hcs2, htake2, hb4⟩
  have HO4 := Aside0.mk (own_R w4 w3.heap.size g2 cap2 cur2 f hcur2 hg2 (by omega) hmax2 hcs2 htake2)
  have HB4 := Aside0.mk (HB3.out.trans (hb4.mono HB3.out.size))
  have hcap5 : f.length ≤ cap2 := by omega
  have HG2 := Aside0.mk (show g2 < w4.heap.size from lt_of_some hcur2)
  clear hcur2 hcs2 htake2 hb4 hcap4 hmax2
  go_upto_region 7 with (first | ((with_reducible refine gate_dst (N := 26) rfl ?_); (try (refine gate_guard (by rfl) ?_; dsimp only)); refine Kd.R_make (Kd.int .i64) _ 3 rfl (N := 26) rfl 49 _ _ rfl (f.length : Int) rfl rfl Tryd.underlying49 (.int .i64 0) 8 info3 rfl (by decide) (by omega) 0 (ok := fun _ => True) (okp := fun _ => True) rfl (fun _ hk => hk) trivial (by omega) (by omega) (Below.refl _ _) (Nat.le_refl _) ?_; intro vi w5 ho hb hg_ hnew_; rw [Int.toNat_natCast] at ho; have HV := Aside0.mk ho; have HB5 := Aside0.mk (HB4.out.trans (hb.mono HB4.out.size)); have HO5 := Aside0.mk (Kd.R_below HO4.out hb); have HG5 := Aside0.mk hnew_; obtain ⟨Ai, ci, rfl⟩ := Kd.R_slice ho; clear ho hb hg_ hnew_))
  obtain ⟨ga, hga1, hga2⟩ := HG5.out
  have HF := Aside0.mk (show 0 < f.length → Ai = some ⟨ga, 0, none⟩ from fun h => by
    obtain ⟨g', cap', e1, _, _, _⟩ := Kd.R_form HV.out (by rw [List.length_replicate]; exact h)
    injection e1 with e1 _ _
    subst e1
    simp only [Value.ownBlock, Option.some.injEq] at hga1
    rw [hga1])
  have HGA := Aside0.mk hga2
  have HV0 : Aside0 (Kd.R (Kd.int .i64) 3 w5 w4.heap.size (fun _ => True) (.slice Ai f.length ci) (abv f 0 0)) := ⟨by rw [abv_zero]; have := HV.out; rwa [List.length_replicate] at this⟩
  obtain ⟨KK, hKK⟩ : ∃ KK, ∀ k, KK ≤ k → ∀ i : Nat, i ≤ f.length → forest_Kids.f k f ((i : Int) - 1) = some (kidsAns f ((i : Int) - 1)) := kids_all f (by omega)
  have HKK := Aside0.mk (hKK KK (Nat.le_refl _))
  clear hga1 hga2 HV HG5 hKK
  go_wp2
  go_loopw [5] (fun v5 wr => ∃ j : Nat, v5 = .int .i64 ((j : Int) - 1) ∧ Aside0 (j ≤ f.length + 1) ∧ Aside0 (Kd.R (Kd.int .i64) 3 wr w4.heap.size (fun _ => True) (.slice Ai f.length ci) (abv f j 0)) ∧ Aside0 (w5.grownBy wr (some ga)))
    (fun v5 _ => ((f.length : Int) + 1 - intOf v5).toNat)
  case atStart => exact ⟨0, rfl, ⟨by omega⟩, HV0, ⟨World.grownBy.refl _ _⟩⟩
  case round =>
    obtain ⟨wo, rfl⟩ : ∃ wo, wo = wr := ⟨_, rfl⟩
    obtain ⟨j, rfl, HJ, HA, HG⟩ := hrel
    have HBR := Aside0.mk (HB5.out.grown HG.out (show w.heap.size ≤ w5.heap.size from HB5.out.size) (fun k' e => by injection e with e; have := HGA.out; have := HB4.out.size; omega))
    have HO := Aside0.mk (Kd.R_reads' (Kd.R_grown1 HO5.out rfl HG.out (fun e => by simp only [Value.ownBlock, Option.some.injEq] at e; have := HGA.out; have := HG2.out; omega))).2.2
    by_cases hj : j ≤ f.length
    · have HKF := Aside0.mk (HKK.out j hj)
      have HKL := Aside0.mk (kl_chain f HR.out j hj)
      have HST := Aside0.mk (fun q hq => tree_step f HR.out j hj q hq)
      have HEN := Aside0.mk (tree_end f HR.out j hj)
      cases j with
      | zero =>
        rw [show ((0 : Nat) : Int) - 1 = -1 from rfl]
        have HK0 := Aside0.mk (show forest_Kids.f KK f (-1) = some (toI (KL f (0))) from by rw [← HKL.out.1]; first | exact HKF.out | (rw [← HKF.out]; congr 1; omega))
        have HGR := Aside0.mk (show w5.heap.size ≤ wo.heap.size from HG.out.size)
        clear HKF
        go_wp2_with fail
        go_at_call 26
        refine (forest_Kids.calls KK (some ⟨g2, 0, none⟩) cap2 f (-1) _ wo HO.out hcap5 HK0.out).mono ?_
        rintro e_ w6 ⟨v6, rfl, hR6, hb6⟩
        obtain ⟨Al, cl, rfl⟩ := Kd.R_slice hR6
        have HL2 := Aside0.mk hR6
        have HA2 := Aside0.mk (Kd.R_below HA.out hb6)
        have HG2_ := Aside0.mk (gb_below HG.out hb6)
        rw [toI_length] at HL2 ⊢
        have HB6_ := Aside0.mk hb6
        clear hR6 hb6
        go_wp2
        clear HA HG HBR HO
        go_loopw [7, 8] (fun v7 v8 wq => ∃ q : Nat, v8 = .int .i64 (q : Int) ∧ v7 = .int .i64 ((place (endN f) (0) (KL f (0)) q : Nat) : Int) ∧ Aside0 (q ≤ (KL f (0)).length) ∧ Aside0 (Kd.R (Kd.int .i64) 3 wq w4.heap.size (fun _ => True) (.slice Ai f.length ci) (abv f (0) q)) ∧ Aside0 (w5.grownBy wq (some ga)) ∧ Aside0 (Kd.R (Kd.int .i64) 3 wq wo.heap.size (fun _ => True) (.slice Al (KL f (0)).length cl) (toI (KL f (0)))))
          (fun _ v8 _ => (KL f (0)).length - (intOf v8).toNat)
        case atStart => exact ⟨0, rfl, by first | rfl | (simp [place]; done) | go_num, ⟨Nat.zero_le _⟩, HA2, HG2_, HL2⟩
        case round =>
          clear HA2 HG2_ HL2
          obtain ⟨q, rfl, rfl, HQ, HA, HG, HL⟩ := hrel
          by_cases hq : q < (KL f (0)).length
          · obtain ⟨x, m, s1, s2, s3, s4, s5, s6, s7, s8⟩ := HST.out q hq
            have hqn : q < f.length := by have := HEN.out.2; omega
            have hwr : IntKind.i64.wrap ((x : Int) + (m : Int)) = ((x + m : Nat) : Int) := by rw [i64_w]; unfold wrap64; omega
            obtain rfl := HF.out (by omega)
            obtain ⟨al, hal, hl0⟩ := Kd.at_int (Kd.R_reads' HL.out).2.2 (q : Int) (by omega) (by rw [toI_length]; omega)
            subst hal
            rw [s2, Int.toNat_natCast] at hl0
            obtain ⟨ha0, haf⟩ := Kd.R_celln 0 HA.out (x : Int) (by omega) (by omega)
            have ha1 : wr.cell? ⟨ga, x, none⟩ = some (.int .i64 0) := by
              rw [Int.toNat_natCast] at ha0
              rw [ha0]
              show some (Value.int .i64 (rd (abv f (0) q) (x : Int))) = _
              rw [s7]
            rw [Int.toNat_natCast] at haf
            rw [s3]
            have hx0 : decide ((q : Int) < ((KL f (0)).length : Int)) = true := decide_eq_true (by omega)
            have hx1 : decide (q < (KL f (0)).length) = true := decide_eq_true hq
            have HP2 := Aside0.mk s4
            have HS2 := Aside0.mk s2
            have HS8 := Aside0.mk s8
            have HCL := Aside0.mk s5
            have HWR := Aside0.mk hwr
            have HXM := Aside0.mk s6
            clear s2 s3 s4 s5 s7 s8 ha0 hwr
            go_upto_region 20 with fail
            obtain ⟨hA3, hG3⟩ := Kd.R_putg HA.out (x : Int) 1
            rw [Int.toNat_natCast, HS8.out] at hA3
            rw [Int.toNat_natCast] at hG3
            have hL3 := Kd.R_grown1 HL.out rfl hG3 (fun e => by have h1 := Kd.R_base HL.out ga e.symm; have h2 := HGR.out; have h3 := Kd.R_lt HV0.out ga rfl; omega)
            have HG7 := Aside0.mk (gb_trans HG.out hG3)
            have HA7 := Aside0.mk hA3
            have HL7 := Aside0.mk hL3
            have HO7 := Aside0.mk (Kd.R_reads' (Kd.R_grown1 HO5.out rfl HG7.out (fun e => by simp only [Value.ownBlock, Option.some.injEq] at e; have := HGA.out; have := HG2.out; omega))).2.2
            obtain ⟨hl7, hal7, hl70⟩ := Kd.at_int (Kd.R_reads' hL3).2.2 (q : Int) (by omega) (by rw [toI_length]; omega)
            obtain rfl := Option.some.inj hal7
            rw [HS2.out, Int.toNat_natCast] at hl70
            clear hA3 hG3 hL3 hl0 ha1 haf HS8 hal7 HS2
            generalize wr.setCell ⟨ga, x, none⟩ (.int .i64 1) = w7 at hl70 HG7 HA7 HL7 HO7 ⊢
            go_wp2_with fail
            go_at_call 25
            refine (cut_calls f (by omega) (some ⟨g2, 0, none⟩) cap2 (x : Int) w7 HO7.out hcap5).mono ?_
            rintro e_ w8 ⟨v8_, rfl, hR8, hb8⟩
            obtain ⟨A8, c8, rfl⟩ := Kd.R_slice hR8
            rw [HCL.out]
            have HA8 := Aside0.mk (Kd.R_below HA7.out hb8)
            have HL8 := Aside0.mk (Kd.R_below HL7.out hb8)
            have HG8 := Aside0.mk (gb_below HG7.out hb8)
            have hwr := HWR.out
            clear hR8 hb8 HA7 HL7 HG7 HO7 hl70 HCL HWR
            go_wp2
            go_roundw
            case rel => exact ⟨q + 1, by first | rfl | (simp; done), by rw [HP2.out]; first | rfl | (simp; done), ⟨by omega⟩, HA8, HG8, HL8⟩
            case measure => simp [intOf]; omega
          · obtain rfl : q = (KL f (0)).length := by have := HQ.out; omega
            have hx0 : decide (((KL f (0)).length : Int) < ((KL f (0)).length : Int)) = false := decide_eq_false (by omega)
            have hx1 : decide ((KL f (0)).length < (KL f (0)).length) = false := decide_eq_false (by omega)
            rw [HEN.out.1]
            have hen : EN f 0 = f.length := rfl
            have HA9 := Aside0.mk (show Kd.R (Kd.int .i64) 3 wr w4.heap.size (fun _ => True) (.slice Ai f.length ci) (abv f (0 + 1) 0) from by rw [← abv_next]; exact HA.out)
            have HG9 := HG
            rw [hen]
            clear HA HL HG HST HEN HKL hen
            go_wp2
            go_roundw
            case rel => exact ⟨0 + 1, by first | rfl | (simp; done), ⟨by omega⟩, HA9, HG9⟩
            case measure => simp [intOf]; omega
      | succ i =>
        rw [show ((i + 1 : Nat) : Int) - 1 = (i : Int) by omega]
        have hil : i < f.length := by omega
        obtain ⟨af, haf_, y0, y1, y2, y3⟩ := at_T37 (Kd.C_below HC.out HBR.out) (i : Int) (by omega) (by omega)
        have HY := Aside0.mk (show (rd_T37 f (i : Int)).f3 = ((KL f (i + 1)).length : Int) from kl_length f HR.out i hil)
        clear y0 y1 y2 y3
        have HK0 := Aside0.mk (show forest_Kids.f KK f ((i : Int)) = some (toI (KL f (i + 1))) from by rw [← HKL.out.1]; first | exact HKF.out | (rw [← HKF.out]; congr 1; omega))
        have HGR := Aside0.mk (show w5.heap.size ≤ wo.heap.size from HG.out.size)
        clear HKF
        go_wp2_with fail
        go_at_call 26
        refine (forest_Kids.calls KK (some ⟨g2, 0, none⟩) cap2 f ((i : Int)) _ wo HO.out hcap5 HK0.out).mono ?_
        rintro e_ w6 ⟨v6, rfl, hR6, hb6⟩
        obtain ⟨Al, cl, rfl⟩ := Kd.R_slice hR6
        have HL2 := Aside0.mk hR6
        have HA2 := Aside0.mk (Kd.R_below HA.out hb6)
        have HG2_ := Aside0.mk (gb_below HG.out hb6)
        rw [toI_length] at HL2 ⊢
        have HB6_ := Aside0.mk hb6
        clear hR6 hb6
        obtain ⟨af2, haf2, _, _, _, y3⟩ := at_T37 (Kd.C_below HC.out (HBR.out.trans (HB6_.out.mono HBR.out.size))) (i : Int) (by omega) (by omega)
        subst haf2
        rw [HY.out, Int.toNat_natCast] at y3
        clear HY haf_
        go_wp2
        clear HA HG HBR HO
        go_loopw [7, 8] (fun v7 v8 wq => ∃ q : Nat, v8 = .int .i64 (q : Int) ∧ v7 = .int .i64 ((place (endN f) (i + 1) (KL f (i + 1)) q : Nat) : Int) ∧ Aside0 (q ≤ (KL f (i + 1)).length) ∧ Aside0 (Kd.R (Kd.int .i64) 3 wq w4.heap.size (fun _ => True) (.slice Ai f.length ci) (abv f (i + 1) q)) ∧ Aside0 (w5.grownBy wq (some ga)) ∧ Aside0 (Kd.R (Kd.int .i64) 3 wq wo.heap.size (fun _ => True) (.slice Al (KL f (i + 1)).length cl) (toI (KL f (i + 1)))))
          (fun _ v8 _ => (KL f (i + 1)).length - (intOf v8).toNat)
        case atStart => exact ⟨0, rfl, by first | rfl | (simp [place]; done) | go_num, ⟨Nat.zero_le _⟩, HA2, HG2_, HL2⟩
        case round =>
          clear HA2 HG2_ HL2
          obtain ⟨q, rfl, rfl, HQ, HA, HG, HL⟩ := hrel
          by_cases hq : q < (KL f (i + 1)).length
          · obtain ⟨x, m, s1, s2, s3, s4, s5, s6, s7, s8⟩ := HST.out q hq
            have hqn : q < f.length := by have := HEN.out.2; omega
            have hwr : IntKind.i64.wrap ((x : Int) + (m : Int)) = ((x + m : Nat) : Int) := by rw [i64_w]; unfold wrap64; omega
            obtain rfl := HF.out (by omega)
            obtain ⟨al, hal, hl0⟩ := Kd.at_int (Kd.R_reads' HL.out).2.2 (q : Int) (by omega) (by rw [toI_length]; omega)
            subst hal
            rw [s2, Int.toNat_natCast] at hl0
            obtain ⟨ha0, haf⟩ := Kd.R_celln 0 HA.out (x : Int) (by omega) (by omega)
            have ha1 : wr.cell? ⟨ga, x, none⟩ = some (.int .i64 0) := by
              rw [Int.toNat_natCast] at ha0
              rw [ha0]
              show some (Value.int .i64 (rd (abv f (i + 1) q) (x : Int))) = _
              rw [s7]
            rw [Int.toNat_natCast] at haf
            rw [s3]
            have hx0 : decide ((q : Int) < ((KL f (i + 1)).length : Int)) = true := decide_eq_true (by omega)
            have hx1 : decide (q < (KL f (i + 1)).length) = true := decide_eq_true hq
            have HP2 := Aside0.mk s4
            have HS2 := Aside0.mk s2
            have HS8 := Aside0.mk s8
            have HCL := Aside0.mk s5
            have HWR := Aside0.mk hwr
            have HXM := Aside0.mk s6
            clear s2 s3 s4 s5 s7 s8 ha0 hwr
            go_upto_region 20 with fail
            obtain ⟨hA3, hG3⟩ := Kd.R_putg HA.out (x : Int) 1
            rw [Int.toNat_natCast, HS8.out] at hA3
            rw [Int.toNat_natCast] at hG3
            have hL3 := Kd.R_grown1 HL.out rfl hG3 (fun e => by have h1 := Kd.R_base HL.out ga e.symm; have h2 := HGR.out; have h3 := Kd.R_lt HV0.out ga rfl; omega)
            have HG7 := Aside0.mk (gb_trans HG.out hG3)
            have HA7 := Aside0.mk hA3
            have HL7 := Aside0.mk hL3
            have HO7 := Aside0.mk (Kd.R_reads' (Kd.R_grown1 HO5.out rfl HG7.out (fun e => by simp only [Value.ownBlock, Option.some.injEq] at e; have := HGA.out; have := HG2.out; omega))).2.2
            obtain ⟨hl7, hal7, hl70⟩ := Kd.at_int (Kd.R_reads' hL3).2.2 (q : Int) (by omega) (by rw [toI_length]; omega)
            obtain rfl := Option.some.inj hal7
            rw [HS2.out, Int.toNat_natCast] at hl70
            clear hA3 hG3 hL3 hl0 ha1 haf HS8 hal7 HS2
            generalize wr.setCell ⟨ga, x, none⟩ (.int .i64 1) = w7 at hl70 HG7 HA7 HL7 HO7 ⊢
            go_wp2_with fail
            go_at_call 25
            refine (cut_calls f (by omega) (some ⟨g2, 0, none⟩) cap2 (x : Int) w7 HO7.out hcap5).mono ?_
            rintro e_ w8 ⟨v8_, rfl, hR8, hb8⟩
            obtain ⟨A8, c8, rfl⟩ := Kd.R_slice hR8
            rw [HCL.out]
            have HA8 := Aside0.mk (Kd.R_below HA7.out hb8)
            have HL8 := Aside0.mk (Kd.R_below HL7.out hb8)
            have HG8 := Aside0.mk (gb_below HG7.out hb8)
            have hwr := HWR.out
            clear hR8 hb8 HA7 HL7 HG7 HO7 hl70 HCL HWR
            go_wp2
            go_roundw
            case rel => exact ⟨q + 1, by first | rfl | (simp; done), by rw [HP2.out]; first | rfl | (simp; done), ⟨by omega⟩, HA8, HG8, HL8⟩
            case measure => simp [intOf]; omega
          · obtain rfl : q = (KL f (i + 1)).length := by have := HQ.out; omega
            have hx0 : decide (((KL f (i + 1)).length : Int) < ((KL f (i + 1)).length : Int)) = false := decide_eq_false (by omega)
            have hx1 : decide ((KL f (i + 1)).length < (KL f (i + 1)).length) = false := decide_eq_false (by omega)
            rw [HEN.out.1]
            have HA9 := Aside0.mk (show Kd.R (Kd.int .i64) 3 wr w4.heap.size (fun _ => True) (.slice Ai f.length ci) (abv f (i + 1 + 1) 0) from by rw [← abv_next]; exact HA.out)
            have HG9 := HG
            have HB9 := Aside0.mk (HB5.out.grown HG.out HB5.out.size (fun k' e => by injection e with e; have := HGA.out; have := HB4.out.size; omega))
            have HO9 := Aside0.mk (Kd.R_reads' (Kd.R_grown1 HO5.out rfl HG.out (fun e => by simp only [Value.ownBlock, Option.some.injEq] at e; have := HGA.out; have := HG2.out; omega))).2.2
            obtain ⟨m, g1, g2_, g3, g4, g5, g6, g7⟩ := cut_is f HR.out i (by omega)
            have hcr := cut_right f HR.out i (by omega)
            obtain ⟨hck1, hck2⟩ := cut_kids f HR.out i (by omega)
            have hkl := kl_length f HR.out i (by omega)
            have hen : EN f (i + 1) = i + m := g2_
            rw [hen]
            obtain ⟨cu, hcu⟩ : ∃ cu, cutAns f (i : Int) = cu := ⟨_, rfl⟩
            have hmid := fun (W : World) (hW : Kd.C k37 W (some af2) f.length f) => Kd.C_mid (lo := i) (hi := i + m) hW (by omega) (by omega) hcf
            rw [← g7, hcu] at hmid
            have hMc : ∀ x ∈ cu, x.f0.size ≤ 1048576 := fun x hx => HM.out x (by rw [← hcu, g7] at hx; exact List.mem_of_mem_take (List.mem_of_mem_drop hx))
            rw [hcu] at hcr hck1 hck2 g6
            have hcc := fun (A : Option Addr) (c : Nat) (W : World) (hC : Kd.C k37 W A cu.length cu) (h : cu.length ≤ c) => check_calls cu (by omega) 65536 1048576 hMc (by decide) A c W hC h
            rw [hcr] at hcc
            obtain ⟨K1, h1⟩ : ∃ K1, ∀ k, K1 ≤ k → forest_Kids.f k cu (-1) = some (kidsAns cu (-1)) := kids_ev cu (by omega) _
            obtain ⟨K2, h2⟩ : ∃ K2, ∀ k, K2 ≤ k → forest_Kids.f k cu 0 = some (kidsAns cu 0) := kids_ev cu (by omega) _
            have HK1 := Aside0.mk (h1 K1 (Nat.le_refl _))
            have HK2 := Aside0.mk (h2 K2 (Nat.le_refl _))
            rw [hck1] at HK1
            obtain ⟨KS, hKS⟩ := Lend.spans_self cu (by omega)
            have HKS := Aside0.mk hKS
            have HCC := Aside0.mk hcc
            have HMID := Aside0.mk hmid
            have HKL0 := Aside0.mk (show (kidsAns cu 0).length = (KL f (i + 1)).length from by have := hck2; rw [hkl] at this; omega)
            have HCUT := Aside0.mk (fun (W : World) (hW : Kd.C k37 W (some ⟨g2, 0, none⟩) f.length f) => cut_calls f (by omega) (some ⟨g2, 0, none⟩) cap2 (i : Int) W hW hcap5)
            rw [hcu] at HCUT
            obtain ⟨i0, hi0, _, hsz0, _⟩ := info_parts info37
            have hcut := cut_mid (P := Tryd.prog) 22 37 .i64 .i64 Tryd.underlying22 hi0 4 hsz0 (some af2) f.length cf (i : Int) ((i + m : Nat) : Int) (by omega) (by omega) (by omega) hcf
            have HCU := Aside0.mk hcut
            have hwr : IntKind.i64.wrap (((i + m : Nat) : Int) - (i : Int)) = (m : Int) := by rw [i64_w]; unfold wrap64; omega
            have HW1 := Aside0.mk hwr
            obtain rfl : cu.length = m := g6
            obtain ⟨e, hee⟩ : ∃ e, i + cu.length = e := ⟨_, rfl⟩
            rw [hee] at hwr HCU ⊢
            have hei : e - i = cu.length := by omega
            have hel : e ≤ f.length := by omega
            have hie : i ≤ e := by omega
            have HEI := Aside0.mk hei
            have HWR := Aside0.mk hwr
            have HI := Aside0.mk hj
            clear hcut hmid hcc hKS h1 h2 hcr hck1 hck2 hkl hMc g1 g2_ g4 g5 g7 hcu hwr hen hei hee HA HL HG HST HEN HKL
            go_wp2_with fail
            go_at_call 25
            refine (HCUT.out wr HO9.out).mono ?_
            rintro e_ w9 ⟨v9, rfl, hR9, hb9⟩
            obtain ⟨A9, c9, rfl⟩ := Kd.R_slice hR9
            have HR9 := Aside0.mk (Kd.R_reads' hR9).2
            have HB10 := Aside0.mk (HB9.out.trans (hb9.mono HB9.out.size))
            have HA10 := Aside0.mk (Kd.R_below HA9.out hb9)
            have HG10 := Aside0.mk (gb_below HG9.out hb9)
            clear hR9 hb9 HB9 HA9 HG9 HO9 HCUT
            have hcut := HCU.out
            have hei := HEI.out
            have hwr := HWR.out
            clear HW1 HCU HEI HWR
            go_upto_region 25 with fail
            have hmid := HMID.out w9 (Kd.C_below HC.out HB10.out)
            rw [if_neg (by omega)] at hmid
            have HM9 := Aside0.mk hmid
            clear hmid HMID
            go_wp2_with fail
            go_at_call 12
            refine (dowelbook_Spans.calls KS A9 c9 cu (some (af2.add (i * 4))) (cf - i) cu true w9 HR9.out.2 HR9.out.1 HM9.out (by omega) HKS.out).mono ?_
            rintro e_ w10 ⟨rfl, hd⟩
            have HR10 := Aside0.mk (Kd.C_below HR9.out.2 hd.below)
            have HB11 := Aside0.mk (HB10.out.trans (hd.below.mono HB10.out.size))
            have HA11 := Aside0.mk (Kd.R_below HA10.out hd.below)
            have HG11 := Aside0.mk (gb_below HG10.out hd.below)
            have HC9 := Aside0.mk HR9.out.1
            clear hd HB10 HA10 HG10 HM9 HR9 hcut HKS
            go_wp2_with fail
            go_at_call 20
            refine (HCC.out A9 c9 w10 HR10.out HC9.out).mono ?_
            rintro e_ w11 ⟨rfl, hb⟩
            have HR11 := Aside0.mk (Kd.C_below HR10.out hb)
            have HA12 := Aside0.mk (Kd.R_below HA11.out hb)
            have HG12 := Aside0.mk (gb_below HG11.out hb)
            clear hb HA11 HG11 HR10 HCC HB11
            go_wp2_with fail
            go_at_call 26
            refine (forest_Kids.calls K1 A9 c9 cu (-1) [0] w11 HR11.out HC9.out HK1.out).mono ?_
            rintro e_ w12 ⟨v12, rfl, hR12, hb⟩
            obtain ⟨A12, c12, rfl⟩ := Kd.R_slice hR12
            have HI12 := Aside0.mk (Kd.R_reads' hR12).2
            have HR12 := Aside0.mk (Kd.C_below HR11.out hb)
            have HA13 := Aside0.mk (Kd.R_below HA12.out hb)
            have HG13 := Aside0.mk (gb_below HG12.out hb)
            clear hR12 hb HA12 HG12 HR11 HK1
            go_wp2_with fail
            go_at_call 22
            have hal := (Below.refl w12.heap.size w12).alloc (Nat.le_refl _) (.cells #[.int .i64 0] 3)
            refine (dowelbook_Ints.calls 10 A12 c12 [0] (some ⟨w12.heap.size, 0, none⟩) 1 [0] true _ (Kd.C_below HI12.out.2 hal) HI12.out.1 (zero_C _ _ (Array.getElem?_push_size)) (by decide) ints_z).mono ?_
            rintro e_ w13 ⟨rfl, hd⟩
            have HR13 := Aside0.mk (Kd.C_below (Kd.C_below HR12.out hal) hd.below)
            have HA14 := Aside0.mk (Kd.R_below (Kd.R_below HA13.out hal) hd.below)
            have HG14 := Aside0.mk (gb_below (gb_below HG13.out hal) hd.below)
            clear hd hal HR12 HA13 HG13 HI12
            go_wp2_with fail
            go_at_call 26
            refine (forest_Kids.calls K2 A9 c9 cu 0 _ w13 HR13.out HC9.out HK2.out).mono ?_
            rintro e_ w14 ⟨v14, rfl, hR14, hb⟩
            obtain ⟨A14, c14, rfl⟩ := Kd.R_slice hR14
            rw [HKL0.out]
            have HA15 := Aside0.mk (Kd.R_below HA14.out hb)
            have HG15 := Aside0.mk (gb_below HG14.out hb)
            clear hR14 hb HA14 HG14 HR13 HK2 HKL0
            go_wp2
            go_roundw
            case rel => exact ⟨i + 1 + 1, by first | rfl | (simp; done) | (simp; omega), ⟨by omega⟩, HA15, HG15⟩
            case measure => simp [intOf]; omega
    · obtain rfl : j = f.length + 1 := by have := HJ.out; omega
      rw [show ((f.length + 1 : Nat) : Int) - 1 = (f.length : Int) by omega]
      have hx0 : decide ((f.length : Int) < (f.length : Int)) = false := decide_eq_false (by omega)
      have hx1 : decide (f.length < f.length) = false := decide_eq_false (by omega)
      have HAL := Aside0.mk (fun x hx => abv_all f HR.out x hx)
      have HBZ := HBR
      clear hj HJ HG HO HC HM HR HKK HO5 HBR
      go_wp2
      go_loopw [10] (fun v10 wz => ∃ p : Nat, v10 = .int .i64 (p : Int) ∧ Aside0 (p ≤ f.length) ∧ Aside0 (wo = wz)) (fun v10 _ => f.length - (intOf v10).toNat)
      case atStart => exact ⟨0, rfl, ⟨Nat.zero_le _⟩, ⟨by first | rfl | trivial⟩⟩
      case round =>
        obtain ⟨p, rfl, HP, HW⟩ := hrel
        obtain rfl := HW.out
        clear HW
        by_cases hp : p < f.length
        · obtain ⟨al, hal, hl0⟩ := Kd.at_int (Kd.R_reads' HA.out).2.2 (p : Int) (by omega) (by rw [abv_length]; omega)
          subst hal
          rw [HAL.out p hp, Int.toNat_natCast] at hl0
          have hy0 : decide ((p : Int) < (f.length : Int)) = true := decide_eq_true (by omega)
          have hy1 : decide (p < f.length) = true := decide_eq_true hp
          go_wp2
          go_roundw
          case rel => exact ⟨p + 1, by first | rfl | (simp; done), ⟨by omega⟩, ⟨by first | rfl | trivial⟩⟩
          case measure => simp [intOf]; omega
        · obtain rfl : p = f.length := by have := HP.out; omega
          go_wp2
          go_ret
          exact ⟨rfl, HBZ.out⟩
end Go.Proofs.YtkebableanenkaaDoor.LawTrees
