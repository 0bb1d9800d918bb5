/- The walk of the law ForestParses: it answers true, and what lay ahead of the call lies as it lay. Conditions: internal/bytealg's variable MaxLen holds some number. -/
import Derived.Test.YtkebableanenkaaDoorParseX
import Derived.Test.YtkebableanenkaaDoorFreeN
import Derived.Test.YtkebableanenkaaDoorLineX
import Derived.Test.YtkebableanenkaaDoorQallx10
import Derived.Test.YtkebableanenkaaDoorSam
namespace Go.Proofs.YtkebableanenkaaDoor.LawParses
open Go.RowKit Go.Proofs.YtkebableanenkaaDoor.Qall Go.Proofs.YtkebableanenkaaDoor.Ln Go.Proofs.YtkebableanenkaaDoor.Ps Go.Proofs.YtkebableanenkaaDoor.Free Go.Proofs.YtkebableanenkaaDoorW.PrintWords Go.Proofs.YtkebableanenkaaDoorW.PrintLast Go.Proofs.YtkebableanenkaaDoorW.PrintMore
set_option linter.unusedSimpArgs false
set_option linter.unusedVariables false
theorem boxed {w x : World} {g : Nat} {t : TypeId} {a b : Value} {c0 c1 : Value} (hx : x.heap[g]? = some (.cells #[c0, c1] t (0, 0))) (hb : Below w.heap.size w x) (hg : w.heap.size ≤ g) :
    ((x.setCell ⟨g, 0, none⟩ a).setCell ⟨g, 1, none⟩ b).heap[g]? = some (.cells #[a, b] t (0, 0)) ∧ Below w.heap.size w ((x.setCell ⟨g, 0, none⟩ a).setCell ⟨g, 1, none⟩ b) :=
  ⟨blk_put (blk_put hx 0 a rfl) 1 b rfl, (hb.setCell (p := ⟨g, 0, none⟩) hg a).setCell (p := ⟨g, 1, none⟩) hg b⟩
theorem go_len (t : ByteArray) : ∀ k at_ f way, Inv f way → (parseGo t k at_ f way).1.length ≤ 1048576
  | 0, _, f, _, h => h.cap
  | k + 1, at_, f, way, h => by
    rw [parseGo]
    split
    · split
      · simp
      · rename_i r hr
        refine go_len t k _ r.1 r.2 ?_
        unfold stepAns at hr
        split at hr
        · exact h.put hr
        · cases hr
    · exact h.cap
theorem ans_len (t : ByteArray) : (parseAns t).1.length ≤ 1048576 := by
  unfold parseAns
  split
  · simp
  · exact go_len t _ 0 [] [] Inv.nil
def lit : ByteArray := ⟨#[97, 32, 48, 32, 50, 10, 32, 32, 98, 32, 49, 32, 49, 10]⟩
theorem lit_len : (parseAns lit).1.length = 2 := by decide +kernel
theorem lit_kid : (rd_T37 (parseAns lit).1 ((0 : Nat) : Int)).f3 = 1 := by decide +kernel
theorem same_self (a b : Int) : dowellaw12_same.f a b a b = some true := by unfold dowellaw12_same.f; rw [if_pos rfl]; simp
set_option maxRecDepth 100000 in
set_option maxHeartbeats 4000000 in
theorem Parses_walk (text other : ByteArray) (w : World) (hm : Mx w) :
    Calls Tryd.prog 3 #[.string text, .string other] w fun e w' => e = .returned (.bool true) ∧ Below w.heap.size w w' := by
  obtain ⟨KT, hKT⟩ := refParse_ev text
  obtain ⟨KO, hKO⟩ := refParse_ev other
  have hkt := hKT KT (Nat.le_refl _)
  have hko := hKO KO (Nat.le_refl _)
  have lt := ans_len text
  have lo := ans_len other
  obtain ⟨ST, hST⟩ := Lend.spans_self (parseAns text).1 (by omega)
  obtain ⟨SO, hSO⟩ := Lend.spans_self (parseAns other).1 (by omega)
  have hct := fun W h => parse_calls text W h
  have hco := fun W h => parse_calls other W h
  have hcl := fun W h => parse_calls lit W h
  have ll := lit_len
  have lk := lit_kid
  obtain ⟨⟨ft, at1, co1⟩, ha⟩ : ∃ x, parseAns text = x := ⟨_, rfl⟩
  obtain ⟨⟨fo, at2, co2⟩, hb⟩ : ∃ x, parseAns other = x := ⟨_, rfl⟩
  obtain ⟨⟨fl, at3, co3⟩, hl⟩ : ∃ x, parseAns lit = x := ⟨_, rfl⟩
  rw [ha] at hkt lt hST hct
  rw [hb] at hko lo hSO hco
  rw [hl] at hcl ll lk
  dsimp only at hkt hko lt lo hST hSO hct hco hcl ll lk
  have HKT := Aside0.mk hkt
  have HKO := Aside0.mk hko
  have HST := Aside0.mk hST
  have HSO := Aside0.mk hSO
  have HCT := Aside0.mk hct
  have HCO := Aside0.mk hco
  have HCL := Aside0.mk hcl
  have LL := Aside0.mk ll
  have LK := Aside0.mk lk
  have HMX := Aside0.mk hm
  have ls1 := same_self at1 co1
  have ls2 := same_self at2 co2
  have LT := Aside0.mk (show ft.length ≤ 2097152 by omega)
  have LO := Aside0.mk (show fo.length ≤ 2097152 by omega)
  clear hkt hko hST hSO hct hco hcl ll lk ha hb hl hm hKT hKO lt lo
  go_enter Tryd.func3, Tryd.ntmps3
  have HW0 := Aside0.mk (Below.refl w.heap.size w)
  go_upto_region 2 with (first | (go_at_call 10; refine (HCT.out w (HMX.out.step HW0.out)).mono ?_; rintro e w1 ⟨v, rfl, R, hb⟩; obtain ⟨A1, c1, rfl⟩ := Kd.R_slice R; have RN := Aside0.mk R; have HN := Aside0.mk hb; clear R hb) | ((with_reducible refine gate_dst (N := 6) rfl ?_); (try (refine gate_guard (by rfl) ?_; dsimp only)); refine box_event ?hg (N := 6) ?hd (cs := #[.int .i64 0, .int .i64 0]) (t := 25) ?hr ?_; (case hd => rfl); (case hg => rfl); (case hr => first | (go_simp; done) | (go_simp; rfl)); intro g1 hg0 x1 hbox hb0; have GE := Aside0.mk (Nat.le_of_eq hg0.symm); have BX := Aside0.mk hbox; have HX := Aside0.mk hb0; have k0 := (blk_cell hbox 0).trans rfl; have k1 := (blk_cell hbox 1).trans rfl; have z0 := blk_frozen hbox 0; have z1 := blk_frozen hbox 1; clear hg0 hbox hb0))
  obtain ⟨BY, HY⟩ := boxed (a := .int .i64 at1) (b := .int .i64 co1) BX.out HX.out GE.out
  generalize (x1.setCell ⟨g1, 0, none⟩ (.int .i64 at1)).setCell ⟨g1, 1, none⟩ (.int .i64 co1) = y1 at BY HY ⊢
  have HS : Below w.heap.size w y1 := HN.out.trans (HY.mono HN.out.size)
  have BK1 := Aside0.mk BY
  have R1 := Aside0.mk (Kd.R_below RN.out HY)
  have hz1 := HW0.out.size
  replace HW0 := Aside0.mk (HW0.out.trans (HS.mono HW0.out.size))
  clear RN HN BX HX GE BY HY HS k0 k1 z0 z1
  go_upto_region 3 with (first | (go_at_call 10; refine (HCO.out y1 (HMX.out.step HW0.out)).mono ?_; rintro e w2 ⟨v, rfl, R, hb⟩; obtain ⟨A2, c2, rfl⟩ := Kd.R_slice R; have RN := Aside0.mk R; have HN := Aside0.mk hb; clear R hb) | ((with_reducible refine gate_dst (N := 8) rfl ?_); (try (refine gate_guard (by rfl) ?_; dsimp only)); refine box_event ?hg (N := 8) ?hd (cs := #[.int .i64 0, .int .i64 0]) (t := 25) ?hr ?_; (case hd => rfl); (case hg => rfl); (case hr => first | (go_simp; done) | (go_simp; rfl)); intro g2 hg0 x2 hbox hb0; have GE := Aside0.mk (Nat.le_of_eq hg0.symm); have BX := Aside0.mk hbox; have HX := Aside0.mk hb0; have k0 := (blk_cell hbox 0).trans rfl; have k1 := (blk_cell hbox 1).trans rfl; have z0 := blk_frozen hbox 0; have z1 := blk_frozen hbox 1; clear hg0 hbox hb0))
  obtain ⟨BY, HY⟩ := boxed (a := .int .i64 at2) (b := .int .i64 co2) BX.out HX.out GE.out
  generalize (x2.setCell ⟨g2, 0, none⟩ (.int .i64 at2)).setCell ⟨g2, 1, none⟩ (.int .i64 co2) = y2 at BY HY ⊢
  have HS : Below y1.heap.size y1 y2 := HN.out.trans (HY.mono HN.out.size)
  have BK2 := Aside0.mk BY
  have R2 := Aside0.mk (Kd.R_below RN.out HY)
  have P12 := Aside0.mk (Ap.of R1.out RN.out (Nat.le_refl _))
  replace BK1 := Aside0.mk ((HS.block g1 (lt_of_some BK1.out)).trans BK1.out)
  replace R1 := Aside0.mk (Kd.R_below R1.out HS)
  have hz2 := HW0.out.size
  replace HW0 := Aside0.mk (HW0.out.trans (HS.mono HW0.out.size))
  clear RN HN BX HX GE BY HY HS k0 k1 z0 z1
  go_upto_region 4 with (first | (go_at_call 10; refine (HCT.out y2 (HMX.out.step HW0.out)).mono ?_; rintro e w3 ⟨v, rfl, R, hb⟩; obtain ⟨A3, c3, rfl⟩ := Kd.R_slice R; have RN := Aside0.mk R; have HN := Aside0.mk hb; clear R hb) | ((with_reducible refine gate_dst (N := 10) rfl ?_); (try (refine gate_guard (by rfl) ?_; dsimp only)); refine box_event ?hg (N := 10) ?hd (cs := #[.int .i64 0, .int .i64 0]) (t := 25) ?hr ?_; (case hd => rfl); (case hg => rfl); (case hr => first | (go_simp; done) | (go_simp; rfl)); intro g3 hg0 x3 hbox hb0; have GE := Aside0.mk (Nat.le_of_eq hg0.symm); have BX := Aside0.mk hbox; have HX := Aside0.mk hb0; have k0 := (blk_cell hbox 0).trans rfl; have k1 := (blk_cell hbox 1).trans rfl; have z0 := blk_frozen hbox 0; have z1 := blk_frozen hbox 1; clear hg0 hbox hb0))
  obtain ⟨BY, HY⟩ := boxed (a := .int .i64 at1) (b := .int .i64 co1) BX.out HX.out GE.out
  generalize (x3.setCell ⟨g3, 0, none⟩ (.int .i64 at1)).setCell ⟨g3, 1, none⟩ (.int .i64 co1) = y3 at BY HY ⊢
  have HS : Below y2.heap.size y2 y3 := HN.out.trans (HY.mono HN.out.size)
  have BK3 := Aside0.mk BY
  have R3 := Aside0.mk (Kd.R_below RN.out HY)
  have P13 := Aside0.mk (Ap.of R1.out RN.out (Nat.le_refl _))
  replace BK1 := Aside0.mk ((HS.block g1 (lt_of_some BK1.out)).trans BK1.out)
  replace R1 := Aside0.mk (Kd.R_below R1.out HS)
  have P23 := Aside0.mk (Ap.of R2.out RN.out (Nat.le_refl _))
  replace BK2 := Aside0.mk ((HS.block g2 (lt_of_some BK2.out)).trans BK2.out)
  replace R2 := Aside0.mk (Kd.R_below R2.out HS)
  have hz3 := HW0.out.size
  replace HW0 := Aside0.mk (HW0.out.trans (HS.mono HW0.out.size))
  clear RN HN BX HX GE BY HY HS k0 k1 z0 z1
  go_upto_region 5 with (first | (go_at_call 11; refine (dowelref12_Parse.calls KT text ft at1 co1 y3 HKT.out).mono ?_; rintro e w4 ⟨v, rfl, R, hb⟩; obtain ⟨A4, c4, rfl⟩ := Kd.R_slice R; have RN := Aside0.mk R; have HN := Aside0.mk hb; clear R hb) | ((with_reducible refine gate_dst (N := 12) rfl ?_); (try (refine gate_guard (by rfl) ?_; dsimp only)); refine box_event ?hg (N := 12) ?hd (cs := #[.int .i64 0, .int .i64 0]) (t := 29) ?hr ?_; (case hd => rfl); (case hg => rfl); (case hr => first | (go_simp; done) | (go_simp; rfl)); intro g4 hg0 x4 hbox hb0; have GE := Aside0.mk (Nat.le_of_eq hg0.symm); have BX := Aside0.mk hbox; have HX := Aside0.mk hb0; have k0 := (blk_cell hbox 0).trans rfl; have k1 := (blk_cell hbox 1).trans rfl; have z0 := blk_frozen hbox 0; have z1 := blk_frozen hbox 1; clear hg0 hbox hb0))
  obtain ⟨BY, HY⟩ := boxed (a := .int .i64 at1) (b := .int .i64 co1) BX.out HX.out GE.out
  generalize (x4.setCell ⟨g4, 0, none⟩ (.int .i64 at1)).setCell ⟨g4, 1, none⟩ (.int .i64 co1) = y4 at BY HY ⊢
  have HS : Below y3.heap.size y3 y4 := HN.out.trans (HY.mono HN.out.size)
  have BK4 := Aside0.mk BY
  have R4 := Aside0.mk (Kd.R_below RN.out HY)
  replace BK1 := Aside0.mk ((HS.block g1 (lt_of_some BK1.out)).trans BK1.out)
  replace R1 := Aside0.mk (Kd.R_below R1.out HS)
  replace BK2 := Aside0.mk ((HS.block g2 (lt_of_some BK2.out)).trans BK2.out)
  replace R2 := Aside0.mk (Kd.R_below R2.out HS)
  replace BK3 := Aside0.mk ((HS.block g3 (lt_of_some BK3.out)).trans BK3.out)
  replace R3 := Aside0.mk (Kd.R_below R3.out HS)
  have hz4 := HW0.out.size
  replace HW0 := Aside0.mk (HW0.out.trans (HS.mono HW0.out.size))
  clear RN HN BX HX GE BY HY HS k0 k1 z0 z1
  go_upto_region 6 with (first | (go_at_call 11; refine (dowelref12_Parse.calls KO other fo at2 co2 y4 HKO.out).mono ?_; rintro e w5 ⟨v, rfl, R, hb⟩; obtain ⟨A5, c5, rfl⟩ := Kd.R_slice R; have RN := Aside0.mk R; have HN := Aside0.mk hb; clear R hb) | ((with_reducible refine gate_dst (N := 14) rfl ?_); (try (refine gate_guard (by rfl) ?_; dsimp only)); refine box_event ?hg (N := 14) ?hd (cs := #[.int .i64 0, .int .i64 0]) (t := 29) ?hr ?_; (case hd => rfl); (case hg => rfl); (case hr => first | (go_simp; done) | (go_simp; rfl)); intro g5 hg0 x5 hbox hb0; have GE := Aside0.mk (Nat.le_of_eq hg0.symm); have BX := Aside0.mk hbox; have HX := Aside0.mk hb0; have k0 := (blk_cell hbox 0).trans rfl; have k1 := (blk_cell hbox 1).trans rfl; have z0 := blk_frozen hbox 0; have z1 := blk_frozen hbox 1; clear hg0 hbox hb0))
  obtain ⟨BY, HY⟩ := boxed (a := .int .i64 at2) (b := .int .i64 co2) BX.out HX.out GE.out
  generalize (x5.setCell ⟨g5, 0, none⟩ (.int .i64 at2)).setCell ⟨g5, 1, none⟩ (.int .i64 co2) = y5 at BY HY ⊢
  have HS : Below y4.heap.size y4 y5 := HN.out.trans (HY.mono HN.out.size)
  have BK5 := Aside0.mk BY
  have R5 := Aside0.mk (Kd.R_below RN.out HY)
  replace BK1 := Aside0.mk ((HS.block g1 (lt_of_some BK1.out)).trans BK1.out)
  replace R1 := Aside0.mk (Kd.R_below R1.out HS)
  replace BK2 := Aside0.mk ((HS.block g2 (lt_of_some BK2.out)).trans BK2.out)
  replace R2 := Aside0.mk (Kd.R_below R2.out HS)
  replace BK3 := Aside0.mk ((HS.block g3 (lt_of_some BK3.out)).trans BK3.out)
  replace R3 := Aside0.mk (Kd.R_below R3.out HS)
  replace BK4 := Aside0.mk ((HS.block g4 (lt_of_some BK4.out)).trans BK4.out)
  replace R4 := Aside0.mk (Kd.R_below R4.out HS)
  have hz5 := HW0.out.size
  replace HW0 := Aside0.mk (HW0.out.trans (HS.mono HW0.out.size))
  clear RN HN BX HX GE BY HY HS k0 k1 z0 z1
  have hSA := fun (W : World) (hW : Below y5.heap.size y5 W) => dowelbook_Spans.calls ST A1 c1 ft A4 c4 ft true W (Kd.R_reads' (Kd.R_below R1.out hW)).2.2 (Kd.R_reads' R1.out).2.1 (Kd.R_reads' (Kd.R_below R4.out hW)).2.2 (Kd.R_reads' R4.out).2.1 HST.out
  have HSA := Aside0.mk hSA
  clear hSA
  have hSB := fun (W : World) (hW : Below y5.heap.size y5 W) => dowelbook_Spans.calls SO A2 c2 fo A5 c5 fo true W (Kd.R_reads' (Kd.R_below R2.out hW)).2.2 (Kd.R_reads' R2.out).2.1 (Kd.R_reads' (Kd.R_below R5.out hW)).2.2 (Kd.R_reads' R5.out).2.1 HSO.out
  have HSB := Aside0.mk hSB
  clear hSB
  have hSC_ := fun (W : World) (hW : Below y5.heap.size y5 W) => dowelbook_Spans.calls ST A3 c3 ft A4 c4 ft true W (Kd.R_reads' (Kd.R_below R3.out hW)).2.2 (Kd.R_reads' R3.out).2.1 (Kd.R_reads' (Kd.R_below R4.out hW)).2.2 (Kd.R_reads' R4.out).2.1 HST.out
  have HSC_ := Aside0.mk hSC_
  clear hSC_
  have hw5 := Below.refl y5.heap.size y5
  go_wp2_with fail
  go_at_call 12
  refine (HSA.out y5 hw5).mono ?_
  rintro e w6 ⟨rfl, hd⟩
  have hw6 : Below y5.heap.size y5 w6 := hw5.trans (hd.below.mono hw5.size)
  clear hd
  go_wp2_with fail
  go_at_call 12
  refine (HSB.out w6 hw6).mono ?_
  rintro e w7 ⟨rfl, hd⟩
  have hw7 : Below y5.heap.size y5 w7 := hw6.trans (hd.below.mono hw6.size)
  clear hd
  go_wp2_with fail
  go_at_call 12
  refine (HSC_.out w7 hw7).mono ?_
  rintro e w8 ⟨rfl, hd⟩
  have hw8 : Below y5.heap.size y5 w8 := hw7.trans (hd.below.mono hw7.size)
  have p0 := (blk_cell ((hw8.block g1 (lt_of_some BK1.out)).trans BK1.out) 0).trans rfl
  have p1 := (blk_cell ((hw8.block g1 (lt_of_some BK1.out)).trans BK1.out) 1).trans rfl
  have q0 := (blk_cell ((hw8.block g4 (lt_of_some BK4.out)).trans BK4.out) 0).trans rfl
  have q1 := (blk_cell ((hw8.block g4 (lt_of_some BK4.out)).trans BK4.out) 1).trans rfl
  clear hd
  go_wp2_with fail
  go_at_call 13
  refine (dowellaw12_same.calls at1 co1 at1 co1 true w8 ls1).mono ?_
  rintro e w9 ⟨rfl, hd⟩
  have hw9 : Below y5.heap.size y5 w9 := hw8.trans (hd.mono hw8.size)
  have r0 := (blk_cell ((hw9.block g2 (lt_of_some BK2.out)).trans BK2.out) 0).trans rfl
  have r1 := (blk_cell ((hw9.block g2 (lt_of_some BK2.out)).trans BK2.out) 1).trans rfl
  have s0 := (blk_cell ((hw9.block g5 (lt_of_some BK5.out)).trans BK5.out) 0).trans rfl
  have s1 := (blk_cell ((hw9.block g5 (lt_of_some BK5.out)).trans BK5.out) 1).trans rfl
  clear hd p0 p1 q0 q1
  go_wp2_with fail
  go_at_call 13
  refine (dowellaw12_same.calls at2 co2 at2 co2 true w9 ls2).mono ?_
  rintro e w10 ⟨rfl, hd⟩
  have hw10 : Below y5.heap.size y5 w10 := hw9.trans (hd.mono hw9.size)
  clear hd r0 r1 s0 s1
  have f3 := freeSpans3 w.heap.size w10.heap.size (w10.alloc (.cells #[.slice A1 ft.length c1, .slice A2 fo.length c2, .slice A3 ft.length c3] 22)) (heap_new _ _) (Kd.R_alloc (Kd.R_lower (Kd.R_below R1.out hw10) (Nat.le_refl _)) _) (Kd.R_alloc (Kd.R_lower (Kd.R_below R2.out hw10) hz2) _) (Kd.R_alloc (Kd.R_lower (Kd.R_below R3.out hw10) hz3) _) P12.out P13.out P23.out LT.out LO.out LT.out (by have := HW0.out.size; have := hw10.size; simp; omega)
  have F3 := Aside0.mk f3
  have HWA := Aside0.mk (HW0.out.trans (hw10.mono HW0.out.size))
  clear f3 R1 R2 R3 R4 R5 BK1 BK2 BK3 BK4 BK5 hw6 hw7 hw8 hw9 hw10 HCT HCO HKT HKO HST HSO HW0
  go_wp2_with fail
  go_at_call 14
  refine F3.out.mono ?_
  rintro e w11 ⟨rfl, hb⟩
  have HWB := Aside0.mk ((HWA.out.alloc HWA.out.size (.cells #[.slice A1 ft.length c1, .slice A2 fo.length c2, .slice A3 ft.length c3] 22)).trans hb)
  clear hb
  go_upto_region 11 with (first | (go_at_call 10; refine (HCL.out w11 (HMX.out.step HWB.out)).mono ?_; rintro e w12 ⟨v, rfl, R, hb⟩; obtain ⟨A6, c6, rfl⟩ := Kd.R_slice R; have RN := Aside0.mk R; have HN := Aside0.mk hb; clear R hb) | ((with_reducible refine gate_dst (N := 16) rfl ?_); (try (refine gate_guard (by rfl) ?_; dsimp only)); refine box_event ?hg (N := 16) ?hd (cs := #[.int .i64 0, .int .i64 0]) (t := 25) ?hr ?_; (case hd => rfl); (case hg => rfl); (case hr => first | (go_simp; done) | (go_simp; rfl)); intro g6 hg0 x6 hbox hb0; have GE := Aside0.mk (Nat.le_of_eq hg0.symm); have BX := Aside0.mk hbox; have HX := Aside0.mk hb0; have k0 := (blk_cell hbox 0).trans rfl; have k1 := (blk_cell hbox 1).trans rfl; have z0 := blk_frozen hbox 0; have z1 := blk_frozen hbox 1; clear hg0 hbox hb0))
  obtain ⟨BY, HY⟩ := boxed (a := .int .i64 at3) (b := .int .i64 co3) BX.out HX.out GE.out
  generalize (x6.setCell ⟨g6, 0, none⟩ (.int .i64 at3)).setCell ⟨g6, 1, none⟩ (.int .i64 co3) = y6 at BY HY ⊢
  have R6 := Kd.R_below RN.out HY
  obtain ⟨g7, c7, e7, _, _, _⟩ := Kd.R_form R6 (by rw [LL.out]; decide)
  injection e7 with e7 _ _
  subst e7
  have hk3 := (cells_S R6 0 (by rw [LL.out]; decide)).2.2.2.1
  rw [LK.out] at hk3
  have HWC := HWB.out.trans ((HN.out.trans (HY.mono HN.out.size)).mono HWB.out.size)
  have hll := LL.out
  clear RN HN BX HX GE BY HY k0 k1 z0 z1 R6 LL LK
  simp only [hll] at *
  go_wp2
  go_ret
  exact ⟨rfl, HWC⟩
end Go.Proofs.YtkebableanenkaaDoor.LawParses
