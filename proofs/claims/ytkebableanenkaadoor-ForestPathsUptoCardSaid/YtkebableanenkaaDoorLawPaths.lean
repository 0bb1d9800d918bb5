/- The walk of the law ForestPaths: it answers true, and what lay ahead of the call lies as it lay. Conditions: a list of at most 2^20 nodes, names of at most 2^20 bytes; what works asks. -/
import Derived.Test.YtkebableanenkaaDoorPathW
import Derived.Test.YtkebableanenkaaDoorWorks
namespace Go.Proofs.YtkebableanenkaaDoor.LawPaths
open Go.RowKit Go.Shelf Go.Proofs.YtkebableanenkaaDoor.Qall Go.Proofs.YtkebableanenkaaDoor.Fo Go.Proofs.YtkebableanenkaaDoor.Chk Go.Proofs.YtkebableanenkaaDoor.Ln Go.Proofs.YtkebableanenkaaDoor.Fi Go.Proofs.YtkebableanenkaaDoor.Free Go.Proofs.YtkebableanenkaaDoor.Nsa Go.Proofs.YtkebableanenkaaDoor.Tra Go.Proofs.YtkebableanenkaaDoor.Tx Go.Proofs.YtkebableanenkaaDoorW.PrintWords Go.Proofs.YtkebableanenkaaDoorW.PrintLast Go.Proofs.YtkebableanenkaaDoorW.PrintMore
set_option linter.unusedSimpArgs false
set_option linter.unusedVariables false
theorem env4 {w W : World} {v4 v5 v6 v8 : Value} {t4 t5 t6 t8 : TypeId} (hW : (((w.alloc (.cells #[v4] t4)).alloc (.cells #[v5] t5)).alloc (.cells #[v6] t6)).alloc (.cells #[v8] t8) = W) :
    Boxed W w.heap.size t4 v4 ∧ Boxed W (w.heap.size + 1) t5 v5 ∧ Boxed W (w.heap.size + 1 + 1) t6 v6 ∧ Boxed W (w.heap.size + 1 + 1 + 1) t8 v8 ∧ Below w.heap.size w W ∧ W.heap.size = w.heap.size + 1 + 1 + 1 + 1 := by
  have s1 : (w.alloc (.cells #[v4] t4)).heap.size = w.heap.size + 1 := World.size_alloc ..
  have s2 : ((w.alloc (.cells #[v4] t4)).alloc (.cells #[v5] t5)).heap.size = w.heap.size + 1 + 1 := by rw [World.size_alloc, s1]
  have s3 : (((w.alloc (.cells #[v4] t4)).alloc (.cells #[v5] t5)).alloc (.cells #[v6] t6)).heap.size = w.heap.size + 1 + 1 + 1 := by rw [World.size_alloc, s2]
  have s4 : ((((w.alloc (.cells #[v4] t4)).alloc (.cells #[v5] t5)).alloc (.cells #[v6] t6)).alloc (.cells #[v8] t8)).heap.size = w.heap.size + 1 + 1 + 1 + 1 := by rw [World.size_alloc, s3]
  have b1 := (((Boxed.new w t4 v4).alloc (.cells #[v5] t5)).alloc (.cells #[v6] t6)).alloc (.cells #[v8] t8)
  have b2 := ((Boxed.new (w.alloc (.cells #[v4] t4)) t5 v5).alloc (.cells #[v6] t6)).alloc (.cells #[v8] t8)
  have b3 := (Boxed.new ((w.alloc (.cells #[v4] t4)).alloc (.cells #[v5] t5)) t6 v6).alloc (.cells #[v8] t8)
  have b4 := Boxed.new (((w.alloc (.cells #[v4] t4)).alloc (.cells #[v5] t5)).alloc (.cells #[v6] t6)) t8 v8
  rw [s1] at b2
  rw [s2] at b3
  rw [s3] at b4
  subst hW
  exact ⟨b1, b2, b3, b4, ((((Below.refl _ w).alloc (Nat.le_refl _) _).alloc (by rw [s1]; omega) _).alloc (by rw [s2]; omega) _).alloc (by rw [s3]; omega) _, s4⟩
theorem levels_of_ (f : List S37) (h : chkAns f 65536 = 0) : (walkAns f).length = f.length ∧ ∀ x, x < f.length → 0 ≤ (walkAns f)[x]?.getD 0 ∧ ((walkAns f)[x]?.getD 0 ≠ 0 → ∃ r : Nat, Pd.rootAt (walkAns f) x = (r : Int) ∧ r < x) := by
  obtain ⟨h1, h2⟩ := Pd.levels_of f h
  exact ⟨h1, fun x hx => ⟨(h2 x hx).1, fun h0 => by obtain ⟨r, e1, e2, _⟩ := Pd.root_ge f h x hx h0; exact ⟨r, e1, e2⟩⟩⟩
abbrev wantP' (f : List S37) (a b : ByteArray) (x : Nat) : Bool := Pd.wantP f (walkAns f) a b x
theorem at_act {P : Program} {c : Code} {Q : Exit → Act → World → Prop} {tm : Array Value} {w : World} (h : ∀ T, tm = T → c.wp P Q { tmps := T, defers := [] } w) : c.wp P Q { tmps := tm, defers := [] } w := h _ rfl
attribute [local go_sem] Oper.semAt_some
def S6 (g4 gr g5 g6 : Nat) (p1 p2 : Addr) (v4 vR u1 v5 u2 v6 : Value) (W : World) : Prop := W.cell? ⟨g4, 0, none⟩ = some v4 ∧ W.cell? ⟨gr, 0, none⟩ = some vR ∧ W.cell? p1 = some u1 ∧ W.cell? ⟨g5, 0, none⟩ = some v5 ∧ W.cell? p2 = some u2 ∧ W.cell? ⟨g6, 0, none⟩ = some v6
theorem byte_C (W : World) (x : Int) : (Kd.int .u8).C (W.alloc (.cells #[.int .u8 x] 5)) (some ⟨W.heap.size, 0, none⟩) 1 [x] := by
  have h : Kd.R (Kd.int .u8) 5 (W.alloc (.cells #[.int .u8 x] 5)) 0 (fun _ => True) (.slice (some ⟨W.heap.size, 0, none⟩) 1 1) [x] := by
    refine ⟨fun k hk => trivial, [.int .u8 x], ⟨rfl, .inr ⟨W.heap.size, 1, _, rfl, Nat.zero_le _, Array.getElem?_push_size, Nat.le_refl _, by unfold maxLen; decide, rfl, rfl⟩⟩, ⟨rfl, fun j p hp => ?_⟩⟩
    obtain ⟨hlt, rfl⟩ := List.getElem?_eq_some_iff.1 hp
    obtain rfl : j = 0 := by simp at hlt; omega
    rfl
  exact (Kd.R_reads' h).2.2
/-- The end, behind the range. -/
theorem fin1 {tm : Array Value} {g8 D : Nat} (h8 : tm[8]? = some (.pointer (some ⟨g8, 0, none⟩))) {w W : World} (hb8 : Boxed W g8 4 (.bool false)) (hB : Below w.heap.size w W) (hg : w.heap.size ≤ g8) (hD : W.heap[D]? = some (.deferred (some []))) (hDl : w.heap.size ≤ D) (hDg : D ≠ g8) {QM : Exit → Act → World → Prop}
    (hQ : bodyPostM Fence.wide 12 Tryd.prog Tryd.f7 (fun e w' => e = .returned (.bool true) ∧ Below w.heap.size w w') = QM) : QM .ret { tmps := tm, defers := [{ target := .collected D, args := #[] }] } (W.setCell ⟨g8, 0, none⟩ (.bool true)) := by
  rw [← hQ]
  refine leaves_all (fun X => Boxed X g8 4 (.bool true) ∧ Below w.heap.size w X) [D] _ (fun E hE => ?_) (by simp) ⟨hb8.set _, hB.setCell (p := ⟨g8, 0, none⟩) hg _⟩ (fun X E hE hk hJ => ?_) (fun X hJ => ⟨.bool true, ?_, rfl, hJ.2⟩)
  · obtain rfl : E = D := by simpa using hE
    exact (Below.heap_setCell W ⟨g8, 0, none⟩ _ E hDg).trans hD
  · obtain rfl : E = D := by simpa using hE
    refine ⟨hJ.1.kept (grownBy_putObj' X E _) (fun e => hDg (by injection e with e; exact e.symm)), hJ.2.grown (grownBy_putObj' X E _) hJ.2.size (fun k e => by injection e with e; omega)⟩
  · have h1 := hJ.1.cell
    simp [results, Tryd.f7, go_sem, h8, h1]
/-- The end, ahead of the range. -/
theorem fin0 {tm : Array Value} {g8 : Nat} (h8 : tm[8]? = some (.pointer (some ⟨g8, 0, none⟩))) {w W : World} (hb8 : Boxed W g8 4 (.bool false)) (hB : Below w.heap.size w W) (hg : w.heap.size ≤ g8) {QM : Exit → Act → World → Prop}
    (hQ : bodyPostM Fence.wide 12 Tryd.prog Tryd.f7 (fun e w' => e = .returned (.bool true) ∧ Below w.heap.size w w') = QM) : QM .ret { tmps := tm, defers := [] } (W.setCell ⟨g8, 0, none⟩ (.bool true)) := by
  rw [← hQ]
  refine leaves_all (fun X => Boxed X g8 4 (.bool true) ∧ Below w.heap.size w X) [] _ (fun D hD => by cases hD) List.nodup_nil ⟨hb8.set _, hB.setCell (p := ⟨g8, 0, none⟩) hg _⟩ (fun X D hD => by cases hD) (fun X hJ => ⟨.bool true, ?_, rfl, hJ.2⟩)
  have h1 := hJ.1.cell
  simp [results, Tryd.f7, go_sem, h8, h1]
attribute [local go_sem high] Wk.eqF
set_option maxRecDepth 100000 in
set_option maxHeartbeats 4000000 in
theorem Paths_walk (f : List S37) (hn : f.length ≤ 1048576) (hM : ∀ x ∈ f, x.f0.size ≤ 1048576) (Af : Option Addr) (cf : Nat) (a b : ByteArray) (ha : a.size ≤ 1048576) (hb : b.size ≤ 1048576) (n : Int) (w : World) (hCf : Kd.C k37 w Af f.length f) (hcf : f.length ≤ cf) (hm : Mx w) (htab : Tab w) :
    Calls Tryd.prog 7 #[.slice Af f.length cf, .string a, .string b, .int .i64 n] w fun e w' => e = .returned (.bool true) ∧ Below w.heap.size w w' := by
  have HM := Aside0.mk hM
  have HMX := Aside0.mk hm
  have HTAB := Aside0.mk htab
  have HC := Aside0.mk hCf
  have hck := fun (A : Option Addr) (c : Nat) (W : World) (hC : Kd.C k37 W A f.length f) (h : f.length ≤ c) => check_calls f (by omega) 65536 1048576 hM (by decide) A c W hC h
  obtain ⟨ck, hcke⟩ : ∃ x, chkAns f 65536 = x := ⟨_, rfl⟩
  rw [hcke] at hck
  have HCK := Aside0.mk hck
  clear hm htab hCf hM hck
  refine (callsIn_wide (n := 12)).1 ?_
  refine callsIn_of_wp_marks Tryd.func7 rfl trivial ?_ rfl
  refine wpIn_wide.2 ?_
  simp only [Tryd.ntmps7, List.size_toArray, List.length_cons, List.length_nil, Nat.reduceAdd, Nat.reduceSub, Array.replicate_succ, Array.replicate_zero, List.push_toArray, List.append_toArray, List.nil_append, List.cons_append]
  obtain ⟨QM, hQM⟩ : ∃ QM, bodyPostM Fence.wide 12 Tryd.prog Tryd.f7 (fun e w' => e = .returned (.bool true) ∧ Below w.heap.size w w') = QM := ⟨_, rfl⟩
  rw [hQM]
  have HQM := Aside0.mk hQM
  clear hQM
  go_upto_region 1 with fail
  generalize hw0 : (((w.alloc _).alloc _).alloc _).alloc _ = w0
  obtain ⟨b4, b5, b6, b8, hb0, hs0⟩ := env4 hw0
  clear hw0
  have g8le : w.heap.size ≤ w.heap.size + 1 + 1 + 1 := by omega
  have l4 : w.heap.size < w0.heap.size := by omega
  have l5 : w.heap.size + 1 < w0.heap.size := by omega
  have l6 : w.heap.size + 1 + 1 < w0.heap.size := by omega
  have l8 : w.heap.size + 1 + 1 + 1 < w0.heap.size := by omega
  clear hs0
  obtain ⟨g8, hg8⟩ : ∃ x, w.heap.size + 1 + 1 + 1 = x := ⟨_, rfl⟩
  rw [hg8] at b8 g8le l8 ⊢
  obtain ⟨g6, hg6⟩ : ∃ x, w.heap.size + 1 + 1 = x := ⟨_, rfl⟩
  rw [hg6] at b6 l6 ⊢
  obtain ⟨g5, hg5⟩ : ∃ x, w.heap.size + 1 = x := ⟨_, rfl⟩
  rw [hg5] at b5 l5 ⊢
  obtain ⟨g4, hg4⟩ : ∃ x, w.heap.size = x := ⟨_, rfl⟩
  rw [hg4] at b4 l4 ⊢
  clear hg8 hg6 hg5 hg4
  have B8LE := Aside0.mk g8le
  have EB := Aside0.mk (And.intro b4 (And.intro b5 (And.intro b6 b8)))
  have EL := Aside0.mk (And.intro l4 (And.intro l5 (And.intro l6 l8)))
  have HB0 := Aside0.mk hb0
  clear b4 b5 b6 b8 l4 l5 l6 l8 g8le hb0
  have HWK := Aside0.mk (Wk.works_calls w0 (HMX.out.step HB0.out) (Tab.step HTAB.out HB0.out))
  go_wp2_with fail
  go_at_call 19
  refine HWK.out.mono ?_
  rintro e_ w1 ⟨rfl, hb1⟩
  have HN1 := Aside0.mk hb1
  have c4 := (bx HN1.out EB.out.1 EL.out.1).cell
  have hnb : decide (1048585 < (f.length : Int)) = false := decide_eq_false (by omega)
  have hnb2 : decide (1048585 < f.length) = false := decide_eq_false (by omega)
  clear hb1 HWK
  go_wp2_with fail
  go_at_call 15
  refine (Lend.lend f Af cf w1 (Kd.C_below HC.out (HB0.out.trans (HN1.out.mono HB0.out.size))) (by omega)).mono ?_
  rintro e_ w2 ⟨g, cap, cur, hg, rfl, hcap, hmax, hcur, hcs, htake, hb2⟩
  have hCo := (Kd.R_reads' (own_R w2 w1.heap.size g cap cur f hcur hg (by omega) hmax hcs htake)).2.2
  have HN2 := Aside0.mk (HN1.out.trans (hb2.mono HN1.out.size))
  have hcap2 : f.length ≤ cap := by omega
  clear hcur hcs htake hb2 c4 HN1
  go_wp2_with fail
  go_at_call 20
  refine (HCK.out (some ⟨g, 0, none⟩) cap w2 hCo hcap2).mono ?_
  rintro e_ w3 ⟨rfl, hb3⟩
  have HN3 := Aside0.mk (HN2.out.trans (hb3.mono HN2.out.size))
  clear hb3 HN2 hCo hmax hcap hcap2 hg
  have c4 := (bx HN3.out EB.out.1 EL.out.1).cell
  have d8 := (bx HN3.out EB.out.2.2.2 EL.out.2.2.2)
  have d8c := d8.cell
  have d8f := d8.frozen
  have D8 := Aside0.mk d8
  clear d8
  by_cases hc0 : ck ≠ 0
  · have q1 : (ck != 0) = true := bne_iff_ne.mpr hc0
    have q2 : (ck == 0) = false := beq_eq_false_iff_ne.mpr hc0
    have HB3 := Aside0.mk (HB0.out.trans (HN3.out.mono HB0.out.size))
    clear hc0
    go_wp2
    exact fin0 rfl D8.out HB3.out B8LE.out HQM.out
  obtain rfl : ck = 0 := by omega
  have HR := Aside0.mk hcke
  clear hcke hc0 HCK D8 d8c d8f
  go_wp2_with fail
  go_at_call 15
  refine (Lend.lend f Af cf w3 (Kd.C_below HC.out (HB0.out.trans (HN3.out.mono HB0.out.size))) (by omega)).mono ?_
  rintro e_ wo ⟨g2, cap2, cur2, hg2, rfl, hcap4, hmax2, hcur2, hcs2, htake2, hb4⟩
  have HO := Aside0.mk (Kd.R_reads' (own_R wo w3.heap.size g2 cap2 cur2 f hcur2 hg2 (by omega) hmax2 hcs2 htake2)).2.2
  have HNo := Aside0.mk (HN3.out.trans (hb4.mono HN3.out.size))
  have hcap5 : f.length ≤ cap2 := by omega
  clear hcur2 hcs2 htake2 hb4 hcap4 hmax2 c4 hg2
  have HBO := Aside0.mk (HB0.out.trans (HNo.out.mono HB0.out.size))
  have O4 := Aside0.mk (bx HNo.out EB.out.1 EL.out.1)
  have O5 := Aside0.mk (bx HNo.out EB.out.2.1 EL.out.2.1)
  have O6 := Aside0.mk (bx HNo.out EB.out.2.2.1 EL.out.2.2.1)
  have O8 := Aside0.mk (bx HNo.out EB.out.2.2.2 EL.out.2.2.2)
  have HCO := Aside0.mk (Kd.C_below HC.out HBO.out)
  have HFP := Aside0.mk (fun (t : ByteArray) (W : World) (hB : Below wo.heap.size wo W) => Pe.find_p f (by omega) 1048576 HM.out (by decide) HR.out t (some ⟨g2, 0, none⟩) cap2 W (Kd.C_below HO.out hB) hcap5)
  have c5 := O5.out.cell
  clear HNo HN3 EB EL HB0
  have s1 : ¬ 9223372036854775807 < 2 + a.size := by omega
  obtain ⟨t1, ht1⟩ : ∃ t, (⟨#[47, 47]⟩ : ByteArray) ++ a = t := ⟨_, rfl⟩
  have ht1l : t1.data.toList = [47, 47] ++ (a.data.toList ++ []) := by rw [← ht1]; simp
  obtain ⟨⟨l1, A1, C1⟩, hf1⟩ : ∃ x, Pe.findP f t1 = x := ⟨_, rfl⟩
  have hc1 := HFP.out t1
  have hcs := Pe.findP_cases f t1
  rw [hf1] at hc1 hcs
  dsimp only at hc1 hcs
  have HC1 := Aside0.mk hc1
  have HCS := Aside0.mk hcs
  have HT1 := Aside0.mk ht1
  have HT1L := Aside0.mk ht1l
  clear hf1 hc1 hcs ht1 ht1l
  go_upto_region 7 with (first | (go_at_call 21; rw [HT1.out]; refine (HC1.out wo (Below.refl _ _)).mono ?_; rintro e_ w5 ⟨v5, rfl, R, hbb⟩; obtain ⟨A5, c5_, rfl⟩ := Kd.R_slice R; have RN := Aside0.mk R; have HN := Aside0.mk hbb; clear R hbb c5) | ((with_reducible refine gate_dst (N := 11) rfl ?_); (try (refine gate_guard (by rfl) ?_; dsimp only)); refine box_event ?hg (N := 11) ?hd (cs := #[.int .i64 0, .int .i64 0]) (t := 25) ?hr ?_; (case hd => rfl); (case hg => rfl); (case hr => first | (go_simp; done) | (go_simp; rfl)); intro gf hg0 x1 hbox hb0; have GE := Aside0.mk (Nat.le_of_eq hg0.symm); have BX := Aside0.mk hbox; have HX := Aside0.mk hb0; have k0 := (blk_cell hbox 0).trans rfl; have k1 := (blk_cell hbox 1).trans rfl; have z0 := blk_frozen hbox 0; have z1 := blk_frozen hbox 1; clear hg0 hbox hb0))
  obtain ⟨BY, HY⟩ := Wk.boxed (a := .int .i64 A1) (b := .int .i64 C1) BX.out HX.out GE.out
  generalize (x1.setCell ⟨gf, 0, none⟩ (.int .i64 A1)).setCell ⟨gf, 1, none⟩ (.int .i64 C1) = y1 at BY HY ⊢
  have HB1 := Aside0.mk (HN.out.trans (HY.mono HN.out.size))
  have HL1 := Aside0.mk (Kd.R_reads' (Kd.R_below RN.out HY)).2
  have HG := Aside0.mk (Nat.le_trans HN.out.size GE.out)
  have BK := Aside0.mk BY
  clear BX HX GE RN HN HY BY k0 k1 z0 z1 HC1
  have a0 := (blk_cell BK.out 0).trans rfl
  have a1 := (blk_cell BK.out 1).trans rfl
  rcases HCS.out with ⟨hA, hC, hts, pl, pa, hpl, hst⟩ | ⟨hl, hC⟩
  rotate_left
  · subst hl
    have q1 : (C1 == 0) = false := beq_eq_false_iff_ne.mpr hC
    have q2 : (C1 != 0) = true := bne_iff_ne.mpr hC
    have d8 := bx HB1.out O8.out O8.out.lt
    have d8c := d8.cell
    have d8f := d8.frozen
    have D8 := Aside0.mk d8
    have HB3 := Aside0.mk (HBO.out.trans (HB1.out.mono HBO.out.size))
    clear d8 hC HCS
    go_wp2
    exact fin0 rfl D8.out HB3.out B8LE.out HQM.out
  obtain rfl := hA
  obtain rfl := hC
  have HPL := Aside0.mk hpl
  have HST := Aside0.mk (show l1 = stepsAns f pl [-1] from (Prod.mk.inj hst).1)
  have HTS := Aside0.mk hts
  have c5 := (bx HB1.out O5.out O5.out.lt).cell
  clear hpl hst hts HCS
  go_wp2
  go_loop [12, 13] (fun v12 v13 => ∃ k : Nat, v13 = .int .i64 (k : Int) ∧ v12 = .bool (Pg.oneUp a k) ∧ Aside0 (k ≤ a.size)) (fun _ v13 => a.size - (intOf v13).toNat)
  case atStart => exact ⟨0, rfl, rfl, ⟨Nat.zero_le _⟩⟩
  case round =>
    obtain ⟨k, rfl, rfl, HK⟩ := hrel
    by_cases hlt : k < a.size
    · have HOS := Aside0.mk (Pg.oneUp_succ a k)
      obtain ⟨o, ho⟩ : ∃ o, Pg.oneUp a k = o := ⟨_, rfl⟩
      rw [ho] at HOS ⊢
      cases o with
      | false =>
        go_wp2
        go_round
        case rel => exact ⟨k + 1, by first | rfl | (simp; done), by rw [HOS.out]; rfl, ⟨by omega⟩⟩
        case measure => simp [intOf]; omega
      | true =>
        have hbt : bt a (k : Int) = ((a[k]'hlt).toNat : Int) := by unfold bt; rw [dif_pos (by rw [Int.toNat_natCast]; exact hlt)]; rfl
        have HBT := Aside0.mk hbt
        clear hbt
        go_wp2
        all_goals
          go_round
          case rel =>
            refine ⟨k + 1, by first | rfl | (simp; done), ?_, ⟨by omega⟩⟩
            rw [HOS.out, Bool.true_and]
            unfold Pg.pj Pa.isL Pa.isD
            rw [HBT.out]
            congr 1
            simp [*]
            try first | omega | ac_rfl
          case measure => simp [intOf]; omega
    · obtain rfl : k = a.size := by have := HK.out; omega
      obtain ⟨one, hone⟩ : ∃ o, Pg.oneUp a a.size = o := ⟨_, rfl⟩
      rw [hone]
      have HONE := Aside0.mk hone
      have a0 := (blk_cell BK.out 0).trans rfl
      have a1 := (blk_cell BK.out 1).trans rfl
      have c4 := (bx HB1.out O4.out O4.out.lt).cell
      have c5 := (bx HB1.out O5.out O5.out.lt).cell
      clear hone hlt HK
      cases one with
      | false =>
        obtain ⟨LA, hLA, hLAl⟩ := Pg.all_len f HR.out
        have HFC := Aside0.mk (HFP.out ⟨#[47, 47, 42]⟩ y1 HB1.out)
        rw [hLA] at HFC
        dsimp only at HFC
        go_upto_region 17 with (first | (go_at_call 21; refine HFC.out.mono ?_; rintro e_ wf_ ⟨vf_, rfl, R, hbb⟩; obtain ⟨Af_, cf_, rfl⟩ := Kd.R_slice R; have RN := Aside0.mk R; have HN := Aside0.mk hbb; have BKn := (hbb.block gf (lt_of_some BK.out)).trans BK.out; have k0 := (blk_cell BKn 0).trans rfl; have k1 := (blk_cell BKn 1).trans rfl; have z0 := blk_frozen BKn 0; have z1 := blk_frozen BKn 1; have BX := Aside0.mk BKn; clear R hbb BKn a0 a1))
        obtain ⟨BY, HY⟩ := Wk.boxed (w := wo) (a := .int .i64 0) (b := .int .i64 0) BX.out (HB1.out.trans (HN.out.mono HB1.out.size)) HG.out
        have RF0 := Kd.R_set (Kd.R_set RN.out BX.out (by decide) 0 (.int .i64 0)) (blk_put BX.out 0 _ rfl) (by decide) 1 (.int .i64 0)
        generalize (wf_.setCell ⟨gf, 0, none⟩ (.int .i64 0)).setCell ⟨gf, 1, none⟩ (.int .i64 0) = y2 at BY HY RF0 ⊢
        have HB2 := Aside0.mk HY
        have BK2 := Aside0.mk BY
        have RF := Aside0.mk (Kd.R_reads' RF0).2
        clear BX HN BY HY RF0 k0 k1 z0 z1 HFC RN BK
        have BK := BK2
        clear BK2
        have a0 := (blk_cell BK.out 0).trans rfl
        have a1 := (blk_cell BK.out 1).trans rfl
        have hLA1 : decide ((LA.length : Int) = (f.length : Int)) = true := decide_eq_true (by omega)
        have c4 := (bx HB2.out O4.out O4.out.lt).cell

        clear hLA hLAl hLA1
        have d8 := bx HB2.out O8.out O8.out.lt
        have d8c := d8.cell
        have d8f := d8.frozen
        have D8 := Aside0.mk d8
        have HB3 := Aside0.mk (HBO.out.trans (HB2.out.mono HBO.out.size))
        clear d8
        go_wp2
        exact fin0 rfl D8.out HB3.out B8LE.out HQM.out
      | true =>
        obtain ⟨hpl1, hpl2⟩ := Pg.one_deep t1 a HT1L.out HONE.out pl pa HPL.out
        subst hpl1
        have hl1 : l1 = Pc.outP f.length (fun x => fits ⟨true, a, 0⟩ (nd f x)) := by rw [HST.out]; exact Pc.next_all f HR.out ⟨true, a, 0⟩ rfl rfl
        have hl1n : l1.length ≤ f.length := by rw [hl1]; exact Pg.outP_len _ _
        obtain ⟨KN, hKN⟩ := Pd.named_ev f (by omega) a ⟨true, a, 0⟩ rfl
        rw [← hl1] at hKN
        obtain ⟨KI1, hKI1⟩ := Pg.ints_self l1 (by omega)
        have HKN := Aside0.mk hKN
        have HKI1 := Aside0.mk hKI1
        have HPL2 := Aside0.mk hpl2
        clear hKN hKI1 hl1 hl1n hpl2 HST HPL HONE
        go_wp2_with fail
        go_at_call 23
        refine (dowellaw12_named.calls KN Af cf f a l1 y1 (Kd.C_below HCO.out HB1.out) hcf HKN.out).mono ?_
        rintro e_ w7 ⟨v7, rfl, R7, hb7⟩
        obtain ⟨A7, c7, rfl⟩ := Kd.R_slice R7
        have RF7 := Aside0.mk (Kd.R_reads' R7).2
        have HL7 := Aside0.mk (And.intro HL1.out.1 (Kd.C_below HL1.out.2 hb7))
        have HB7 := Aside0.mk (HB1.out.trans (hb7.mono HB1.out.size))
        have BK7 := Aside0.mk ((hb7.block gf (lt_of_some BK.out)).trans BK.out)
        clear R7 hb7 HB1 HL1 BK HKN a0 a1 c4 c5
        go_wp2_with fail
        go_at_call 22
        refine (dowelbook_Ints.calls KI1 A5 c5_ l1 A7 c7 l1 true w7 HL7.out.2 HL7.out.1 RF7.out.2 RF7.out.1 HKI1.out).mono ?_
        rintro e_ w8 ⟨rfl, hd⟩
        have HB8 := Aside0.mk (HB7.out.trans (hd.below.mono HB7.out.size))
        have BK := Aside0.mk ((hd.below.block gf (lt_of_some BK7.out)).trans BK7.out)
        clear hd HB7 BK7 RF7 HL7 HKI1
        obtain ⟨LA, hLA, hLAl⟩ := Pg.all_len f HR.out
        have HFC := Aside0.mk (HFP.out ⟨#[47, 47, 42]⟩ w8 HB8.out)
        rw [hLA] at HFC
        dsimp only at HFC
        go_upto_region 17 with (first | (go_at_call 21; refine HFC.out.mono ?_; rintro e_ wf_ ⟨vf_, rfl, R, hbb⟩; obtain ⟨Af_, cf_, rfl⟩ := Kd.R_slice R; have RN := Aside0.mk R; have HN := Aside0.mk hbb; have BKn := (hbb.block gf (lt_of_some BK.out)).trans BK.out; have k0 := (blk_cell BKn 0).trans rfl; have k1 := (blk_cell BKn 1).trans rfl; have z0 := blk_frozen BKn 0; have z1 := blk_frozen BKn 1; have BX := Aside0.mk BKn; clear R hbb BKn a0 a1))
        obtain ⟨BY, HY⟩ := Wk.boxed (w := wo) (a := .int .i64 0) (b := .int .i64 0) BX.out (HB8.out.trans (HN.out.mono HB8.out.size)) HG.out
        have RF0 := Kd.R_set (Kd.R_set RN.out BX.out (by decide) 0 (.int .i64 0)) (blk_put BX.out 0 _ rfl) (by decide) 1 (.int .i64 0)
        generalize (wf_.setCell ⟨gf, 0, none⟩ (.int .i64 0)).setCell ⟨gf, 1, none⟩ (.int .i64 0) = y2 at BY HY RF0 ⊢
        have HB2 := Aside0.mk HY
        have BK2 := Aside0.mk BY
        have RF := Aside0.mk (Kd.R_reads' RF0).2
        clear BX HN BY HY RF0 k0 k1 z0 z1 HFC RN BK
        have BK := BK2
        clear BK2
        have a0 := (blk_cell BK.out 0).trans rfl
        have a1 := (blk_cell BK.out 1).trans rfl
        have hLA1 : decide ((LA.length : Int) = (f.length : Int)) = true := decide_eq_true (by omega)
        have c4 := (bx HB2.out O4.out O4.out.lt).cell

        clear hLA hLAl hLA1
        have c5 := (bx HB2.out O5.out O5.out.lt).cell
        have c6 := (bx HB2.out O6.out O6.out.lt).cell
        have d8 := bx HB2.out O8.out O8.out.lt
        have D8 := Aside0.mk d8
        have HB3 := Aside0.mk (HBO.out.trans (HB2.out.mono HBO.out.size))
        have d8c := d8.cell
        have d8f := d8.frozen
        clear d8
        by_cases hst : (a.toList == ([42] : List UInt8)) = true
        · go_wp2
          exact fin0 rfl D8.out HB3.out B8LE.out HQM.out
        by_cases h60 : 60 < a.size
        · have p1 : decide (60 < (a.size : Int)) = true := decide_eq_true (by omega)
          have p2 : decide (60 < a.size) = true := decide_eq_true h60
          have p0 : ¬ a.toList = [42] := fun e => hst (beq_iff_eq.2 e)
          go_wp2
          exact fin0 rfl D8.out HB3.out B8LE.out HQM.out
        have p0 : ¬ a.toList = [42] := fun e => hst (beq_iff_eq.2 e)
        have p1 : decide (60 < (a.size : Int)) = false := decide_eq_false (by omega)
        have p2 : decide (60 < a.size) = false := decide_eq_false h60
        by_cases hb1 : b.size = 1
        rotate_left
        · have p3 : ¬ (b.size : Int) = 1 := by omega
          have p4 : ((b.size : Int) == 1) = false := beq_eq_false_iff_ne.mpr p3
          go_wp2
          exact fin0 rfl D8.out HB3.out B8LE.out HQM.out
        have hb0 : 0 < b.size := by omega
        have p3 : (b.size : Int) = 1 := by omega
        have p4 : ((b.size : Int) == 1) = true := beq_iff_eq.mpr p3
        by_cases h97 : (b[0]'hb0).toNat < 97
        · have p5 : decide (((b[0]'hb0).toNat : Int) < 97) = true := decide_eq_true (by omega)
          have p6 : decide ((b[0]'hb0).toNat < 97) = true := decide_eq_true h97
          go_wp2
          exact fin0 rfl D8.out HB3.out B8LE.out HQM.out
        by_cases h122 : 122 < (b[0]'hb0).toNat
        · have p5 : decide (((b[0]'hb0).toNat : Int) < 97) = false := decide_eq_false (by omega)
          have p6 : decide ((b[0]'hb0).toNat < 97) = false := decide_eq_false h97
          have p7 : decide (122 < ((b[0]'hb0).toNat : Int)) = true := decide_eq_true (by omega)
          have p8 : decide (122 < (b[0]'hb0).toNat) = true := decide_eq_true h122
          go_wp2
          exact fin0 rfl D8.out HB3.out B8LE.out HQM.out
        have p5 : decide (((b[0]'hb0).toNat : Int) < 97) = false := decide_eq_false (by omega)
        have p6 : decide ((b[0]'hb0).toNat < 97) = false := decide_eq_false h97
        have p7 : decide (122 < ((b[0]'hb0).toNat : Int)) = false := decide_eq_false (by omega)
        have p8 : decide (122 < (b[0]'hb0).toNat) = false := decide_eq_false h122
        go_upto_region 21 with fail
        have hbt0 : bt b 0 = ((b[0]'hb0).toNat : Int) := by unfold bt; rw [dif_pos (show (0 : Int).toNat < b.size by exact hb0)]; rfl
        have hLb : Pa.isL (bt b 0) = true := by
          rw [hbt0]
          unfold Pa.isL
          rw [decide_eq_true (show (97 : Int) ≤ ((b[0]'hb0).toNat : Int) ∧ ((b[0]'hb0).toNat : Int) ≤ 122 by omega), Bool.true_or, Bool.true_or]
        have hb42 : (b.toList == ([42] : List UInt8)) = false := by
          rw [Bool.eq_false_iff]
          intro hb_
          have hbe := Pg.star_list b hb_
          subst hbe
          revert hLb
          decide
        have ha42 : (a.toList == ([42] : List UInt8)) = false := Bool.eq_false_iff.2 hst
        obtain ⟨hpla, hLa, ha1, _⟩ := HPL2.out ha42
        have HPA := Aside0.mk hpla
        have HLA := Aside0.mk hLa
        have HLB := Aside0.mk hLb
        have HB42 := Aside0.mk hb42
        have HA42 := Aside0.mk ha42
        clear hbt0 hLb hb42 ha42 hpla hLa p0 p1 p2 p3 p4 p5 p6 p7 p8 h97 h122 hb0 hst d8c d8f D8 HB3 HPL2 c4
        have s2 : ¬ 9223372036854775807 < 1 + a.size := by omega
        have s3 : ¬ 9223372036854775807 < 1 + a.size + 2 := by omega
        have s4 : ¬ 9223372036854775807 < 1 + a.size + 2 + b.size := by omega
        have s5 : ¬ 9223372036854775807 < 1 + a.size + 2 + 1 := by omega
        obtain ⟨t3, ht3⟩ : ∃ t, (⟨#[47]⟩ : ByteArray) ++ a ++ (⟨#[47, 47]⟩ : ByteArray) ++ b = t := ⟨_, rfl⟩
        have ht3l : t3.data.toList = [47] ++ (a.data.toList ++ ([47, 47] ++ b.data.toList)) := by rw [← ht3]; simp
        have hf3 : Pe.findP f t3 = (Pc.outP f.length (wantP' f a b), 0, 0) := by
          have hz : t3.size ≤ 65536 := by rw [Pb.size_list ht3l]; simp; omega
          rw [Pe.findP_small f t3 _ hz (Pb.path_below t3 a b ht3l HPA.out HLA.out ha1 (by omega) hb1 HLB.out), Pc.next_below f HR.out ⟨false, a, 0⟩ ⟨true, b, 0⟩ rfl rfl rfl rfl]
          congr 1
          unfold Pc.outP
          congr 1
          exact List.map_congr_left (fun x hx => Pd.want_eq f HR.out a b _ _ rfl rfl HA42.out HB42.out x (List.mem_range.1 hx))
        obtain ⟨x3, hx3⟩ : ∃ x, Pc.outP f.length (wantP' f a b) = x := ⟨_, rfl⟩
        rw [hx3] at hf3
        have HX3 := Aside0.mk hx3
        have HT3 := Aside0.mk ht3
        clear hx3 ht3 ht3l
        have HFC := Aside0.mk (HFP.out t3 y2 HB2.out)
        rw [hf3] at HFC
        dsimp only at HFC
        go_upto_region 22 with (first | (go_at_call 21; rw [HT3.out]; refine HFC.out.mono ?_; rintro e_ wf_ ⟨vf_, rfl, R, hbb⟩; obtain ⟨Af_, cf_, rfl⟩ := Kd.R_slice R; have RN := Aside0.mk R; have HN := Aside0.mk hbb; have BKn := (hbb.block gf (lt_of_some BK.out)).trans BK.out; have k0 := (blk_cell BKn 0).trans rfl; have k1 := (blk_cell BKn 1).trans rfl; have z0 := blk_frozen BKn 0; have z1 := blk_frozen BKn 1; have BX := Aside0.mk BKn; clear R hbb BKn a0 a1))
        obtain ⟨BY, HY⟩ := Wk.boxed (w := wo) (a := .int .i64 0) (b := .int .i64 0) BX.out (HB2.out.trans (HN.out.mono HB2.out.size)) HG.out
        have RF0 := Kd.R_set (Kd.R_set RN.out BX.out (by decide) 0 (.int .i64 0)) (blk_put BX.out 0 _ rfl) (by decide) 1 (.int .i64 0)
        generalize (wf_.setCell ⟨gf, 0, none⟩ (.int .i64 0)).setCell ⟨gf, 1, none⟩ (.int .i64 0) = y4 at BY HY RF0 ⊢
        have HB4 := Aside0.mk HY
        have BK2 := Aside0.mk BY
        have RF := Aside0.mk (Kd.R_reads' RF0).2
        clear BX HN BY HY RF0 k0 k1 z0 z1 HFC RN BK
        have BK := BK2
        clear BK2
        have a0 := (blk_cell BK.out 0).trans rfl
        have a1 := (blk_cell BK.out 1).trans rfl
        have c5 := (bx HB4.out O5.out O5.out.lt).cell
        have c6 := (bx HB4.out O6.out O6.out.lt).cell
        clear HB2
        have RX3 := RF
        clear RF hf3
        go_upto_region 26 with (first | ((with_reducible refine gate_dst (N := 16) rfl ?_); (try (refine gate_guard (by rfl) ?_; dsimp only)); refine box_event ?hg (N := 16) ?hd (cs := #[.slice none 0 0]) (t := 49) ?hr ?_; (case hd => rfl); (case hg => rfl); (case hr => first | (go_simp; done) | (go_simp; rfl)); intro gw hg0 x2 hbox hb0; have GW := Aside0.mk (Nat.le_of_eq hg0.symm); have BW := Aside0.mk hbox; have HW := Aside0.mk hb0; clear hg0 hbox hb0) | ((with_reducible refine gate_dst (N := 17) rfl ?_); (try (refine gate_guard (by rfl) ?_; dsimp only)); refine box_event ?hg (N := 17) ?hd (cs := #[.int .i64 0]) (t := 3) ?hr ?_; (case hd => rfl); (case hg => rfl); (case hr => first | (go_simp; done) | (go_simp; rfl)); intro gr hg0 x3_ hbox hb0; have GR := Aside0.mk (Nat.le_of_eq hg0.symm); have BR := Aside0.mk hbox; have HRR := Aside0.mk hb0; have k0 := (blk_cell hbox 0).trans rfl; have z0 := blk_frozen hbox 0; clear hg0 hbox hb0))
        have hne : gw ≠ gr := by have h1 := lt_of_some BW.out; have h2 := GR.out; omega
        have HX11 : Below y4.heap.size y4 (x3_.setCell ⟨gr, 0, none⟩ (.int .i64 (-1))) := (HW.out.trans (HRR.out.mono HW.out.size)).setCell (p := ⟨gr, 0, none⟩) (by have h1 := HW.out.size; have h2 := GR.out; show y4.heap.size ≤ gr; omega) _
        have B17 : Boxed (x3_.setCell ⟨gr, 0, none⟩ (.int .i64 (-1))) gr 3 (.int .i64 (-1)) := blk_put BR.out 0 _ rfl
        have B16 : Boxed (x3_.setCell ⟨gr, 0, none⟩ (.int .i64 (-1))) gw 49 (.slice none 0 0) := (Below.heap_setCell x3_ ⟨gr, 0, none⟩ _ gw hne).trans ((HRR.out.block gw (lt_of_some BW.out)).trans BW.out)
        generalize x3_.setCell ⟨gr, 0, none⟩ (.int .i64 (-1)) = w11 at HX11 B17 B16 ⊢
        have HB11 := Aside0.mk (HB4.out.trans (HX11.mono HB4.out.size))
        have HY11 := Aside0.mk HX11
        have O4Y := Aside0.mk (bx HB4.out O4.out O4.out.lt)
        have O5Y := Aside0.mk (bx HB4.out O5.out O5.out.lt)
        have O6Y := Aside0.mk (bx HB4.out O6.out O6.out.lt)
        have O8Y := Aside0.mk (bx HB4.out O8.out O8.out.lt)
        have HCY := Aside0.mk (Kd.C_below HCO.out HB4.out)
        have HOY := Aside0.mk (Kd.C_below HO.out HB4.out)
        have GWY := Aside0.mk (show y4.heap.size ≤ gw ∧ y4.heap.size ≤ gr ∧ gw ≠ gr from ⟨GW.out, by have h2 := GR.out; have h3 := HW.out.size; omega, hne⟩)
        have HYO := HB4
        have GWR := Aside0.mk (show wo.heap.size ≤ gw ∧ wo.heap.size ≤ gr ∧ gw ≠ gr from ⟨by have h1 := HB4.out.size; have h2 := GW.out; omega, by have h1 := HB4.out.size; have h2 := GR.out; have h3 := HW.out.size; omega, hne⟩)
        have B16A := Aside0.mk B16
        have B17A := Aside0.mk B17
        obtain ⟨zs, hzs⟩ : ∃ zs, walkAns f = zs := ⟨_, rfl⟩
        have hwk := fwalk_calls f (by omega) (some ⟨g2, 0, none⟩) cap2 w11 (Kd.C_below HO.out HB11.out) hcap5
        have HZL := Aside0.mk (levels_of_ f HR.out)
        rw [hzs] at hwk HZL
        have HWK2 := Aside0.mk hwk
        have HZS := Aside0.mk hzs
        have eqf : ∀ (b : Nat) (W : World), (binOp .eql 55 (.func (.func 47) #[] #[.pointer (some ⟨b, 0, none⟩)]) .nilFunc).run Tryd.prog W = .ok (.bool false) W := fun _ _ => by kernel_rfl
        clear hne HX11 B17 B16 HW HRR BW BR GW GR HB4 hwk hzs k0 z0 a0 a1 c5 c6
        go_wp2_with fail
        go_at_call 24
        refine HWK2.out.mono ?_
        rintro e_ w12 ⟨Bs, vs, rfl, hBs, bS, hRs, hb12⟩
        obtain ⟨As, cs, rfl⟩ := Kd.R_slice hRs
        have HBS12 := Aside0.mk bS
        have HRS12 := Aside0.mk hRs
        have HN12 := Aside0.mk hb12
        have HBSB := Aside0.mk hBs
        clear bS hRs hb12 hBs HWK2
        go_wp2_with fail
        refine at_act (fun T hT => ?_)
        have HT := Aside0.mk hT
        clear hT
        have hsz12 : w11.heap.size ≤ w12.heap.size := HN12.out.size
        have hbsl : Bs < w12.heap.size := HBS12.out.lt
        have hbsg : w11.heap.size ≤ Bs := HBSB.out
        have hlvb := Kd.R_base HRS12.out
        have hlvl := Kd.R_lt HRS12.out
        have hgwl : gw < w11.heap.size := B16A.out.lt
        have hgrl : gr < w11.heap.size := B17A.out.lt
        have hwo : wo.heap.size ≤ w11.heap.size := HB11.out.size
        have hzl1 : zs.length ≤ f.length := Nat.le_of_eq HZL.out.1
        have hzl2 : f.length ≤ zs.length := Nat.le_of_eq HZL.out.1.symm
        have HB12 := Aside0.mk (HY11.out.trans (HN12.out.mono HY11.out.size))
        have hyz : y4.heap.size ≤ w11.heap.size := HY11.out.size
        refine (wpIn_wide (n := 12)).1 ?_
        refine wpIn_rangeFunc_ownH rfl (by omega) (gf := 47) (lb := #[.pointer (some ⟨Bs, 0, none⟩)]) (by rw [← HT.out]; rfl) trivial (enters_of Tryd.func47 (by kernel_rfl) rfl)
          (Ph.walk_stopsL Fence.wide _ trivial rfl (by omega) Bs w11.heap.size As cs zs (by omega) w12 _ HBS12.out HRS12.out) Ph.KpL.trans (fun W l o o' hl _ _ _ => Ph.KpL.put W l w12.heap.size o' hbsl hlvl hl) (Below.refl _ _) (fun _ => rfl)
          (Ph.PI f zs a b gw gr y4 w12.heap.size) (fun c pre W => Ph.Bad f zs a b pre) (Ph.PI_own f zs a b gw gr y4 w12.heap.size w12.heap.size (by omega)) (fun c pre X Y row hs _ _ => hs)
          ⟨bx HN12.out B17A.out B17A.out.lt, HB12.out, Nat.le_refl _, .slice none 0 0, bx HN12.out B16A.out B16A.out.lt, ⟨rfl, .inl ⟨rfl, rfl⟩⟩, trivial⟩
          (fun x a' _ => a' = { tmps := (((T.setIfInBounds 179 (.int .i64 (x.1 : Int))).setIfInBounds 180 (.int .i64 (zs[x.1]?.getD 0))).setIfInBounds 19 (.int .i64 (x.1 : Int))).setIfInBounds 20 (.int .i64 (zs[x.1]?.getD 0)), defers := [] }) (fun _ _ _ _ _ _ h _ _ => h) ?assign ?body ?done ?stop
        case assign =>
          intro l pre x W' K hI hK
          have hT := HT.out
          subst hT
          dsimp only at hK ⊢
          generalize zs[x.1]?.getD 0 = z at hK ⊢
          gi_wp2
          exact hK _ _ (KeepsFrom.refl _ _) (Ph.KpL.refl _ _ _) hI (by simp only [List.setIfInBounds_toArray, List.set_cons_zero, List.set_cons_succ])
        case stop =>
          rintro D c pre W hD ⟨k, hk, rfl⟩ hbad _
          exact (Ph.not_bad f HR.out a b zs HZS.out k hk hbad).elim
        case body =>
          rintro l pre ⟨q, hql⟩ a' W hl _ hI rfl hlt
          obtain ⟨u, hu⟩ : ∃ u, T = Pw.frame g4 g5 g6 g8 gw gr u := ⟨fun i => T.toList.getD i undef, by rw [← HT.out]; kernel_rfl⟩
          rw [hu]
          unfold Pw.frame
          simp only [List.setIfInBounds_toArray, List.set_cons_zero, List.set_cons_succ]
          exact Pw.body_walk u f hn zs hzl1 hzl2 (fun x hx => (HZL.out.2 x hx).1) a b g4 g5 g6 g8 gw gr Bs w11.heap.size w12.heap.size Af As cf cs y4 HCY.out O4Y.out O5Y.out O6Y.out O8Y.out ⟨GWY.out.1, hgwl⟩ ⟨GWY.out.2.1, hgrl⟩ GWY.out.2.2 ⟨hbsg, hbsl⟩ hsz12 (fun k hk => ⟨hlvb k hk, hlvl k hk⟩) l pre q hql hlt _ rfl W hI
        case done =>
          rintro D xs wz hD rfl hI hDk
          have hT := HT.out
          subst hT
          unfold Ph.PI at hI
          rw [Ph.up_all, Ph.goF_up] at hI
          obtain ⟨_, hBz, _, vw, bW, hrow, _⟩ := hI
          dsimp only at hrow
          have hx3' : Pc.outP zs.length (Pd.wantP f zs a b) = x3 := by rw [← HX3.out]; unfold wantP'; rw [HZS.out, HZL.out.1]
          rw [hx3'] at hrow
          have hRW : Kd.R (Kd.int .i64) 3 wz w12.heap.size (fun _ => True) vw x3 := Kd.R_of_own (h1 := fun x => rfl) (e := 3) hrow (ok := fun _ => True) (fun _ _ => trivial)
          obtain ⟨Aw, cw, rfl⟩ := Kd.R_slice hRW
          have RW := Aside0.mk (Kd.R_reads' hRW).2
          have hx3n : x3.length ≤ f.length := by rw [← HX3.out]; exact Pg.outP_len _ _
          obtain ⟨KI3, hKI3⟩ := Pg.ints_self x3 (by omega)
          have HKI3 := Aside0.mk hKI3
          have HBZ := Aside0.mk hBz
          have HDK := Aside0.mk hDk
          have HDL := Aside0.mk (show w12.heap.size ≤ D from hD)
          have d16 := bW.cell
          clear hRW hKI3 hBz hDk hrow hx3' bW hlvb hlvl hx3n HX3
          go_wp2_with fail
          go_at_call 22
          refine (dowelbook_Ints.calls KI3 Af_ cf_ x3 Aw cw x3 true wz (Kd.C_below RX3.out.2 HBZ.out) RX3.out.1 RW.out.2 RW.out.1 HKI3.out).mono ?_
          rintro e_ wi ⟨rfl, hd⟩
          have HBI := Aside0.mk (HBZ.out.trans (hd.below.mono HBZ.out.size))
          have hDl : D < wz.heap.size := (Array.getElem?_eq_some_iff.1 HDK.out).1
          have HDI := Aside0.mk ((hd.below.block D hDl).trans HDK.out)
          have c5 := (bx HBI.out O5Y.out O5Y.out.lt).cell
          have c6 := (bx HBI.out O6Y.out O6Y.out.lt).cell
          have BKI := Aside0.mk ((HBI.out.block gf (lt_of_some BK.out)).trans BK.out)
          clear hd hDl HDK HBZ RW HKI3 RX3 d16
          obtain ⟨kk, hkk, hk9⟩ : ∃ kk : Nat, wrap64 ((IntKind.u64.wrap n).tmod 9) = (kk : Int) ∧ kk < 9 := by
            have h0 : 0 ≤ IntKind.u64.wrap n := by
              have hq := Int.emod_nonneg n (show (18446744073709551616 : Int) ≠ 0 by decide)
              show 0 ≤ (n % 18446744073709551616 : Int)
              exact hq
            have h1 := Int.tmod_nonneg (9 : Int) h0
            have h2 := Int.tmod_lt_of_pos (IntKind.u64.wrap n) (show (0 : Int) < 9 by decide)
            refine ⟨((IntKind.u64.wrap n).tmod 9).toNat, ?_, by omega⟩
            rw [Ln.wrap_of (by omega) (by omega)]
            omega
          go_upto_region 41 with fail
          rw [hkk]
          have r1 : ¬ 9223372036854775807 < 2 + a.size + 1 := by omega
          have r2 : ¬ 9223372036854775807 < 2 + a.size + 1 + 1 := by omega
          have r3 : ¬ 9223372036854775807 < 2 + a.size + 1 + 1 + 1 := by omega
          have r4 : ¬ 9223372036854775807 < 2 + a.size + 1 + 1 + 1 + 1 := by omega
          have r5 : ¬ 9223372036854775807 < 2 + a.size + 1 + 1 + 1 + 1 + 1 := by omega
          have r6 : ¬ 9223372036854775807 < 2 + a.size + 1 + 1 + 1 + 1 + 1 + 1 := by omega
          have r7 : ¬ 9223372036854775807 < 2 + a.size + 1 + b.size := by omega
          have r8 : ¬ 9223372036854775807 < 2 + a.size + 1 + b.size + 1 := by omega
          clear hkk
          obtain ⟨sd, hsd, hsdl⟩ : ∃ sd : ByteArray, strOfNums [48 + (1 + (kk : Int))] = sd ∧ ∃ c : UInt8, c.toNat = 48 + (kk + 1) ∧ sd.data.toList = [c] := by
            refine ⟨_, rfl, UInt8.ofNat (48 + (kk + 1)), ?_, ?_⟩
            · rw [UInt8.toNat_ofNat']; omega
            · show [UInt8.ofNat (48 + (1 + (kk : Int))).toNat] = [UInt8.ofNat (48 + (kk + 1))]
              rw [show (48 + (1 + (kk : Int))).toNat = 48 + (kk + 1) by omega]
          have hcv : (convert 57 9 (.slice (some ⟨wi.heap.size, 0, none⟩) 1 1)).run Tryd.prog (wi.alloc (.cells #[.int .u8 (48 + (1 + (kk : Int)))] 5)) = .ok (.string sd) (wi.alloc (.cells #[.int .u8 (48 + (1 + (kk : Int)))] 5)) := by
            rw [← hsd]
            exact Kd.C_string Tryd.underlying57 Tryd.underlying5 Tryd.underlying9 (byte_C wi _)
          have hsz1 : sd.size = 1 := by obtain ⟨c, _, hl⟩ := hsdl; rw [Pb.size_list hl]; rfl
          have HSD := Aside0.mk hsdl
          clear hsd hsdl
          obtain ⟨t4, ht4⟩ : ∃ t, (⟨#[47, 47]⟩ : ByteArray) ++ a ++ (⟨#[47]⟩ : ByteArray) ++ b ++ (⟨#[91]⟩ : ByteArray) ++ sd ++ (⟨#[93]⟩ : ByteArray) = t := ⟨_, rfl⟩
          obtain ⟨t5, ht5⟩ : ∃ t, (⟨#[47, 47]⟩ : ByteArray) ++ a ++ (⟨#[47]⟩ : ByteArray) ++ b = t := ⟨_, rfl⟩
          obtain ⟨ly, hly⟩ : ∃ x, stepsAns f [⟨true, a, 0⟩, ⟨false, b, ((kk + 1 : Nat) : Int)⟩] [-1] = x := ⟨_, rfl⟩
          obtain ⟨lz, hlz⟩ : ∃ x, stepsAns f [⟨true, a, 0⟩, ⟨false, b, 0⟩] [-1] = x := ⟨_, rfl⟩
          have hf4 : Pe.findP f t4 = (ly, 0, 0) := by
            obtain ⟨c, hc, hcl⟩ := HSD.out
            have htl : t4.data.toList = [47, 47] ++ (a.data.toList ++ ([47] ++ (b.data.toList ++ [91, c, 93]))) := by rw [← ht4]; simp [hcl]
            have hbz : b.data.toList.length = 1 := by rw [← hb1]; simp
            have hz : t4.size ≤ 65536 := by rw [Pb.size_list htl]; simp [hbz]; omega
            rw [Pe.findP_small f t4 _ hz (Pb.path_kidn t4 a b (kk + 1) ⟨by omega, by omega⟩ c hc htl HPA.out HLA.out ha1 (by omega) hb1 HLB.out), hly]
          have hf5 : Pe.findP f t5 = (lz, 0, 0) := by
            have htl : t5.data.toList = [47, 47] ++ (a.data.toList ++ ([47] ++ (b.data.toList ++ []))) := by rw [← ht5]; simp
            have hbz : b.data.toList.length = 1 := by rw [← hb1]; simp
            have hz : t5.size ≤ 65536 := by rw [Pb.size_list htl]; simp [hbz]; omega
            rw [Pe.findP_small f t5 _ hz (Pb.path_kid0 t5 a b htl HPA.out HLA.out ha1 (by omega) hb1 HLB.out), hlz]
          have hnl := Pd.num_less f HR.out ⟨true, a, 0⟩ ⟨false, b, ((kk + 1 : Nat) : Int)⟩ ⟨false, b, 0⟩ rfl rfl rfl rfl
          rw [hly, hlz] at hnl
          have hyl : ly.length ≤ f.length := by rw [← hly]; exact Pg.steps_le f _ _
          have hzl_ : lz.length ≤ f.length := by rw [← hlz]; exact Pg.steps_le f _ _
          have HNL := Aside0.mk hnl
          have HF5 := Aside0.mk hf5
          have HT4 := Aside0.mk ht4
          have HT5 := Aside0.mk ht5
          have HBW := HYO.out.trans (HBI.out.mono HYO.out.size)
          have hala := (Below.refl wi.heap.size wi).alloc (Nat.le_refl _) (.cells #[.int .u8 (48 + (1 + (kk : Int)))] 5)
          have HBA := Aside0.mk (HBW.alloc HBW.size (.cells #[.int .u8 (48 + (1 + (kk : Int)))] 5))
          have BK := Aside0.mk ((hala.block gf (lt_of_some BKI.out)).trans BKI.out)
          have HDA := Aside0.mk ((hala.block D (lt_of_some HDI.out)).trans HDI.out)
          have hDg : D ≠ gf := fun e => by have h1 := BKI.out; rw [← e, HDI.out] at h1; cases h1
          have hDg8 : D ≠ g8 := fun e => by have h1 := bx HBI.out O8Y.out O8Y.out.lt; unfold Boxed at h1; rw [← e, HDI.out] at h1; cases h1
          have hwoD : w.heap.size ≤ D := by have h1 := HDL.out; have h2 := HBO.out.size; omega
          have a0 : True := trivial
          have a1 : True := trivial
          clear hnl ht4 ht5 hly hlz HBW hala HBI BKI HDI hf5 HYO HSD
          have HFC := Aside0.mk (HFP.out t4 (wi.alloc (.cells #[.int .u8 (48 + (1 + (kk : Int)))] 5)) HBA.out)
          rw [hf4] at HFC
          dsimp only at HFC
          go_upto_region 42 with (first | (go_at_call 21; rw [HT4.out]; refine HFC.out.mono ?_; rintro e_ wf_ ⟨vf_, rfl, R, hbb⟩; obtain ⟨Af_, cf_, rfl⟩ := Kd.R_slice R; have RN := Aside0.mk R; have HN := Aside0.mk hbb; have BKn := (hbb.block gf (lt_of_some BK.out)).trans BK.out; have k0 := (blk_cell BKn 0).trans rfl; have k1 := (blk_cell BKn 1).trans rfl; have z0 := blk_frozen BKn 0; have z1 := blk_frozen BKn 1; have BX := Aside0.mk BKn; have HDn := Aside0.mk ((hbb.block D (lt_of_some HDA.out)).trans HDA.out); clear R hbb BKn a0 a1))
          obtain ⟨BY, HY⟩ := Wk.boxed (w := wo) (a := .int .i64 0) (b := .int .i64 0) BX.out (HBA.out.trans (HN.out.mono HBA.out.size)) HG.out
          have RF0 := Kd.R_set (Kd.R_set RN.out BX.out (by decide) 0 (.int .i64 0)) (blk_put BX.out 0 _ rfl) (by decide) 1 (.int .i64 0)
          have RD0 := (Below.heap_setCell (wf_.setCell ⟨gf, 0, none⟩ (.int .i64 0)) ⟨gf, 1, none⟩ (.int .i64 0) D hDg).trans ((Below.heap_setCell wf_ ⟨gf, 0, none⟩ (.int .i64 0) D hDg).trans HDn.out)
          generalize (wf_.setCell ⟨gf, 0, none⟩ (.int .i64 0)).setCell ⟨gf, 1, none⟩ (.int .i64 0) = y5 at BY HY RF0 RD0 ⊢
          have HD5 := Aside0.mk RD0
          clear RD0 HDn HDA
          have HB5 := Aside0.mk HY
          have BK2 := Aside0.mk BY
          have RF := Aside0.mk (Kd.R_reads' RF0).2
          clear BX HN BY HY RF0 k0 k1 z0 z1 HFC RN BK
          have BK := BK2
          clear BK2
          have a0 := (blk_cell BK.out 0).trans rfl
          have a1 := (blk_cell BK.out 1).trans rfl
          have RY := RF
          clear RF hf4
          have c5 := (bx HB5.out O5.out O5.out.lt).cell
          have c6 := (bx HB5.out O6.out O6.out.lt).cell
          have HF5C := HFP.out t5 y5 HB5.out
          rw [HF5.out] at HF5C
          dsimp only at HF5C
          have HFC5 := Aside0.mk HF5C
          clear HF5C HF5 HBA
          go_upto_region 43 with (first | (go_at_call 21; rw [HT5.out]; refine HFC5.out.mono ?_; rintro e_ w6 ⟨v6, rfl, R, hbb⟩; obtain ⟨Az, cz, rfl⟩ := Kd.R_slice R; have RN := Aside0.mk R; have HN := Aside0.mk hbb; clear R hbb a0 a1 c5 c6) | ((with_reducible refine gate_dst (N := 24) rfl ?_); (try (refine gate_guard (by rfl) ?_; dsimp only)); refine box_event ?hg (N := 24) ?hd (cs := #[.int .i64 0, .int .i64 0]) (t := 25) ?hr ?_; (case hd => rfl); (case hg => rfl); (case hr => first | (go_simp; done) | (go_simp; rfl)); intro gh hg0 x7 hbox hb0; have GE := Aside0.mk (Nat.le_of_eq hg0.symm); have BX := Aside0.mk hbox; have HX := Aside0.mk hb0; have k0 := (blk_cell hbox 0).trans rfl; have k1 := (blk_cell hbox 1).trans rfl; have z0 := blk_frozen hbox 0; have z1 := blk_frozen hbox 1; clear hg0 hbox hb0))
          obtain ⟨BY, HY⟩ := Wk.boxed (a := .int .i64 0) (b := .int .i64 0) BX.out HX.out GE.out
          generalize (x7.setCell ⟨gh, 0, none⟩ (.int .i64 0)).setCell ⟨gh, 1, none⟩ (.int .i64 0) = y7 at BY HY ⊢
          have hN7 := HN.out.trans (HY.mono HN.out.size)
          have HB7 := Aside0.mk (HB5.out.trans (hN7.mono HB5.out.size))
          have BK7 := (hN7.block gf (lt_of_some BK.out)).trans BK.out
          have HD7 := Aside0.mk ((hN7.block D (lt_of_some HD5.out)).trans HD5.out)
          have RZ := Aside0.mk (Kd.R_reads' (Kd.R_below RN.out HY)).2
          have RYC := Aside0.mk (And.intro RY.out.1 (Kd.C_below RY.out.2 hN7))
          have a0 := (blk_cell BK7 0).trans rfl
          have a1 := (blk_cell BK7 1).trans rfl
          have b0 := (blk_cell BY 0).trans rfl
          have b1 := (blk_cell BY 1).trans rfl
          clear BX HX GE RN HN HY BY hN7 BK7 BK HB5 HD5 RY k0 k1 z0 z1
          go_wp2
          go_loopw [25, 26] (fun v25 v26 wr => ∃ (at_ i : Nat), v25 = .int .i64 (at_ : Int) ∧ v26 = .int .i64 (i : Int) ∧ Aside0 (i ≤ ly.length ∧ at_ ≤ lz.length) ∧ Aside0 (∀ j, j < at_ → ∀ x, lz[j]? = some x → ∀ v, ly[i]? = some v → x < v) ∧ Aside0 (Below y7.heap.size y7 wr))
            (fun _ v26 _ => ly.length - (intOf v26).toNat)
          case atStart => exact ⟨0, 0, rfl, rfl, ⟨Nat.zero_le _, Nat.zero_le _⟩, ⟨fun j hj => by omega⟩, ⟨Below.refl _ _⟩⟩
          case round =>
            clear a0 a1 b0 b1
            obtain ⟨at_, i, rfl, rfl, HLE, HAT, HBR⟩ := hrel
            by_cases hi : i < ly.length
            · obtain ⟨v, hv⟩ : ∃ v, ly[i] = v := ⟨_, rfl⟩
              have hvs : ly[i]? = some v := by rw [List.getElem?_eq_getElem hi, hv]
              have hvm : v ∈ lz := HNL.out.2.2 v (by rw [← hv]; exact List.getElem_mem hi)
              have HST2 := Aside0.mk (fun (k : Nat) (hk : ∀ j, j < k → ∀ x, lz[j]? = some x → x < v) => Pg.stand lz HNL.out.2.1 v hvm k hk)
              have hat := fun j hj x hx => HAT.out j hj x hx v hvs
              have HA0 := Aside0.mk hat
              have HVS := Aside0.mk hvs
              have hyi : rd ly (i : Int) = v := by unfold rd; rw [Int.toNat_natCast, List.getD_eq_getElem?_getD, hvs]; rfl
              have HYI := Aside0.mk hyi
              have j0 : decide ((i : Int) < (ly.length : Int)) = true := decide_eq_true (by omega)
              have j1 : decide (i < ly.length) = true := decide_eq_true hi
              have hale := HLE.out.2
              clear hv hvs hvm hat hyi HAT
              go_wp2
              go_loopw [25] (fun v25 wq => ∃ k : Nat, v25 = .int .i64 (k : Int) ∧ Aside0 (k ≤ lz.length) ∧ Aside0 (∀ j, j < k → ∀ x, lz[j]? = some x → x < v) ∧ Aside0 (Below y7.heap.size y7 wq))
                (fun v25 _ => lz.length - (intOf v25).toNat)
              case atStart => exact ⟨at_, rfl, ⟨hale⟩, HA0, HBR⟩
              case round =>
                clear HA0 HBR
                obtain ⟨k, rfl, HKL, HKA, HBQ⟩ := hrel
                obtain ⟨p, hp1, hp2, hp3⟩ := HST2.out k HKA.out
                have hkl : k < lz.length := by omega
                obtain ⟨x, hx⟩ : ∃ x, lz[k] = x := ⟨_, rfl⟩
                have hxs : lz[k]? = some x := by rw [List.getElem?_eq_getElem hkl, hx]
                have hzk : rd lz (k : Int) = x := by unfold rd; rw [Int.toNat_natCast, List.getD_eq_getElem?_getD, hxs]; rfl
                have hxv : ¬ x < v → x = v := fun hn => by
                  have hso := List.pairwise_iff_getElem.1 HNL.out.2.1
                  by_cases hpk : p = k
                  · subst hpk
                    rw [hxs] at hp3
                    exact Option.some.inj hp3
                  · have h1 := hso k p hkl hp2 (by omega)
                    have h2 : lz[p] = v := Option.some.inj ((List.getElem?_eq_getElem hp2).symm.trans hp3)
                    rw [hx, h2] at h1
                    exact absurd h1 hn
                obtain ⟨az, haz, x0⟩ := Kd.at_int (Kd.C_below RZ.out.2 HBQ.out) (k : Int) (by omega) (by omega)
                obtain ⟨ay, hay, y0⟩ := Kd.at_int (Kd.C_below RYC.out.2 HBQ.out) (i : Int) (by omega) (by omega)
                subst haz
                subst hay
                rw [hzk, Int.toNat_natCast] at x0
                rw [HYI.out, Int.toNat_natCast] at y0
                have HXS := Aside0.mk hxs
                have HXV := Aside0.mk hxv
                have k0 : decide ((k : Int) < (lz.length : Int)) = true := decide_eq_true (by omega)
                have k1 : decide (k < lz.length) = true := decide_eq_true hkl
                have k2 : ((k : Int) == (lz.length : Int)) = false := beq_eq_false_iff_ne.mpr (by omega)
                have k3 : ¬ k = lz.length := by omega
                have hbd := (Below.refl wr.heap.size wr).drew
                have HBQ2 := Aside0.mk (HBQ.out.trans (hbd.mono HBQ.out.size))
                clear hx hxs hzk hxv hp1 hp2 hp3 hbd
                by_cases hlt2 : x < v
                · have d0 : decide (x < v) = true := decide_eq_true hlt2
                  go_wp2
                  go_region_held3 (fun w' => w'.cell? (az.add k) = some (.int .i64 x) ∧ w'.cell? (ay.add i) = some (.int .i64 v)) (first | go_keep | (go_simp; done) | (simp; done)) (fail)
                  go_wp2
                  go_roundw
                  case rel => exact ⟨k + 1, by first | rfl | (simp; done), ⟨by omega⟩, ⟨fun j hj y hy => by
                    by_cases hjk : j < k
                    · exact HKA.out j hjk y hy
                    · obtain rfl : j = k := by omega
                      rw [HXS.out] at hy
                      obtain rfl := Option.some.inj hy
                      exact hlt2⟩, HBQ2⟩
                  case measure => simp [intOf]; omega
                · have d0 : decide (x < v) = false := decide_eq_false hlt2
                  obtain rfl := HXV.out hlt2
                  have d1 : (x != x) = false := by simp
                  have HN2_ := Aside0.mk (fun (y : Int) (hy : ly[i + 1]? = some y) => show x < y from by
                    have hso := List.pairwise_iff_getElem.1 HNL.out.1
                    obtain ⟨hi1, e1⟩ := List.getElem?_eq_some_iff.1 hy
                    have h1 := hso i (i + 1) hi hi1 (by omega)
                    rw [e1] at h1
                    have h2 : ly[i] = x := Option.some.inj ((List.getElem?_eq_getElem hi).symm.trans HVS.out)
                    rw [h2] at h1
                    exact h1)
                  have HBQ3 := Aside0.mk HBQ2.out.drew
                  clear hlt2 HXV
                  go_wp2
                  go_region_held3 (fun w' => w'.cell? (az.add k) = some (.int .i64 x) ∧ w'.cell? (ay.add i) = some (.int .i64 x)) (first | go_keep | (go_simp; done) | (simp; done)) (fail)
                  go_wp2
                  go_region_held3 (fun w' => w'.cell? (az.add k) = some (.int .i64 x) ∧ w'.cell? (ay.add i) = some (.int .i64 x)) (first | go_keep | (go_simp; done) | (simp; done)) (fail)
                  go_wp2
                  go_roundw
                  case rel => exact ⟨k, i + 1, by first | rfl | (simp; done), by first | rfl | (simp; done), ⟨by omega, HKL.out⟩, ⟨fun j hj y hy v' hv' => by
                    have h1 := HKA.out j hj y hy
                    have h2 := HN2_.out v' hv'
                    omega⟩, HBQ3⟩
                  case measure => simp [intOf]; omega
            · obtain rfl : i = ly.length := by have := HLE.out.1; omega
              have d8 := bx HBR.out (bx HB7.out O8.out O8.out.lt) (bx HB7.out O8.out O8.out.lt).lt
              have D8 := Aside0.mk d8
              have d8c := d8.cell
              have d8f := d8.frozen
              have HDR := Aside0.mk ((HBR.out.block D (lt_of_some HD7.out)).trans HD7.out)
              have HBF := Aside0.mk (HBO.out.trans ((HB7.out.trans (HBR.out.mono HB7.out.size)).mono HBO.out.size))
              clear d8
              go_wp2
              exact fin1 rfl D8.out HBF.out B8LE.out HDR.out hwoD hDg8 HQM.out
end Go.Proofs.YtkebableanenkaaDoor.LawPaths
