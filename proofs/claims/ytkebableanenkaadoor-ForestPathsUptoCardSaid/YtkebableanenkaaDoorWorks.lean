/- dowellaw12.works answers true. Conditions: internal/bytealg's variable MaxLen holds some number, the table of powers of ten lies. -/
import Derived.Test.YtkebableanenkaaDoorParse2
import Derived.Test.YtkebableanenkaaDoorText2
import Derived.Test.YtkebableanenkaaDoorFind2
import Derived.Test.YtkebableanenkaaDoorPth
import Derived.Test.YtkebableanenkaaDoorIts
namespace Go.Proofs.YtkebableanenkaaDoor.Wk
open Go.RowKit Go.Proofs.YtkebableanenkaaDoor.Qall Go.Proofs.YtkebableanenkaaDoor.Fo Go.Proofs.YtkebableanenkaaDoor.Chk Go.Proofs.YtkebableanenkaaDoor.Tx Go.Proofs.YtkebableanenkaaDoor.Ln Go.Proofs.YtkebableanenkaaDoor.Ps Go.Proofs.YtkebableanenkaaDoor.Fi Go.Proofs.YtkebableanenkaaDoorW.PrintWords Go.Proofs.YtkebableanenkaaDoorW.PrintLast Go.Proofs.YtkebableanenkaaDoorW.PrintMore
set_option linter.unusedSimpArgs false
set_option linter.unusedVariables false
theorem boxed {w x : World} {g : Nat} {t : TypeId} {a b : Value} {c0 c1 : Value} (hx : x.heap[g]? = some (.cells #[c0, c1] t (0, 0))) (hb : Below w.heap.size w x) (hg : w.heap.size ≤ g) :
    ((x.setCell ⟨g, 0, none⟩ a).setCell ⟨g, 1, none⟩ b).heap[g]? = some (.cells #[a, b] t (0, 0)) ∧ Below w.heap.size w ((x.setCell ⟨g, 0, none⟩ a).setCell ⟨g, 1, none⟩ b) :=
  ⟨blk_put (blk_put hx 0 a rfl) 1 b rfl, (hb.setCell (p := ⟨g, 0, none⟩) hg a).setCell (p := ⟨g, 1, none⟩) hg b⟩
def litW : ByteArray := ⟨#[97, 32, 48, 32, 52, 10, 32, 32, 98, 32, 48, 32, 49, 10, 32, 32, 98, 32, 50, 32, 52, 10, 32, 32, 32, 32, 99, 32, 50, 32, 50, 10, 98, 32, 53, 32, 53, 10]⟩
def pathW : ByteArray := ⟨#[47, 47, 98]⟩
def fw : List S37 := [⟨⟨#[97]⟩, 0, 4, 2⟩, ⟨⟨#[98]⟩, 0, 1, 0⟩, ⟨⟨#[98]⟩, 2, 4, 1⟩, ⟨⟨#[99]⟩, 2, 2, 0⟩, ⟨⟨#[98]⟩, 5, 5, 0⟩]
theorem parse_w : parseAns litW = (fw, 0, 0) := by kernel_rfl
theorem path_w : forest_path.f 20 pathW = some ([⟨true, ⟨#[98]⟩, 0⟩], 0, 0) := by kernel_rfl
theorem chk_w : chkAns fw 65536 = 0 := by decide +kernel
theorem chk5_w : chkAns fw 5 = 0 := by decide +kernel
theorem chk4_w : chkAns fw 4 = 6 := by decide +kernel
theorem find_w : findAns fw pathW ([⟨true, ⟨#[98]⟩, 0⟩], 0, 0) = ([1, 2, 4], 0, 0) := by decide +kernel
theorem walk_w : Fo.walkAns fw = [0, 1, 1, 2, 0] := by decide +kernel
theorem itoa_dig (n : Nat) (h : n < 10) : Lib.itoa (n : Int) = [UInt8.ofNat (48 + n)] := by
  unfold Lib.itoa
  rw [if_neg (by omega), Int.toNat_natCast, Lib.decDigits, dif_pos h]
theorem total_w : total fw [0, 1, 1, 2, 0] = [97, 32, 48, 32, 52, 10, 32, 32, 98, 32, 48, 32, 49, 10, 32, 32, 98, 32, 50, 32, 52, 10, 32, 32, 32, 32, 99, 32, 50, 32, 50, 10, 98, 32, 53, 32, 53, 10] := by
  have h0 := itoa_dig 0 (by omega)
  have h1 := itoa_dig 1 (by omega)
  have h2 := itoa_dig 2 (by omega)
  have h4 := itoa_dig 4 (by omega)
  have h5 := itoa_dig 5 (by omega)
  have e0 : rd_T37 fw ((0 : Nat) : Int) = ⟨⟨#[97]⟩, ((0 : Nat) : Int), ((4 : Nat) : Int), 2⟩ := rfl
  have e1 : rd_T37 fw ((1 : Nat) : Int) = ⟨⟨#[98]⟩, ((0 : Nat) : Int), ((1 : Nat) : Int), 0⟩ := rfl
  have e2 : rd_T37 fw ((2 : Nat) : Int) = ⟨⟨#[98]⟩, ((2 : Nat) : Int), ((4 : Nat) : Int), 1⟩ := rfl
  have e3 : rd_T37 fw ((3 : Nat) : Int) = ⟨⟨#[99]⟩, ((2 : Nat) : Int), ((2 : Nat) : Int), 0⟩ := rfl
  have e4 : rd_T37 fw ((4 : Nat) : Int) = ⟨⟨#[98]⟩, ((5 : Nat) : Int), ((5 : Nat) : Int), 0⟩ := rfl
  show lnAt fw _ 0 ++ (lnAt fw _ 1 ++ (lnAt fw _ 2 ++ (lnAt fw _ 3 ++ (lnAt fw _ 4 ++ [])))) = _
  unfold lnAt ln lnB
  rw [e0, e1, e2, e3, e4]
  dsimp only
  rw [h0, h1, h2, h4, h5]
  rfl
theorem txt_w : txtAns fw = (litW, 0) := by
  unfold txtAns
  rw [if_pos chk_w, walk_w, total_w]
  rfl
theorem ints3_C (W : World) (g : Nat) (hg : W.heap[g]? = some (.cells #[.int .i64 1, .int .i64 2, .int .i64 4] 3 (0, 0))) : Kd.C (Kd.int .i64) W (some ⟨g, 0, none⟩) ([1, 2, 4] : List Int).length [1, 2, 4] := by
  have h : Kd.R (Kd.int .i64) 3 W 0 (fun _ => True) (.slice (some ⟨g, 0, none⟩) 3 3) [1, 2, 4] := by
    refine ⟨fun k hk => trivial, [.int .i64 1, .int .i64 2, .int .i64 4], ⟨rfl, .inr ⟨g, 3, _, rfl, Nat.zero_le _, hg, Nat.le_refl _, by unfold maxLen; decide, rfl, rfl⟩⟩, ⟨rfl, fun j p hp => ?_⟩⟩
    obtain ⟨hlt, rfl⟩ := List.getElem?_eq_some_iff.1 hp
    obtain rfl | rfl | rfl : j = 0 ∨ j = 1 ∨ j = 2 := by simp at hlt; omega
    · rfl
    · rfl
    · rfl
  exact (Kd.R_reads' h).2.2
theorem ints_w : dowelbook_Ints.f 10 [1, 2, 4] [1, 2, 4] = some true := by kernel_rfl
theorem eqF (d : Nat) (w : World) (x0 y0 x1 y1 : Int) :
    (Op.equalIn (d + 2) 25 (.agg #[.int .i64 x0, .int .i64 x1]) (.agg #[.int .i64 y0, .int .i64 y1])).run Tryd.prog w = .ok (x0 == y0 && (x1 == y1)) w := by
  refine eqA_of Tryd.underlying25 (by kernel_rfl) ?_
  refine eqf_cons (by rfl) (by go_simp; rfl) (by go_simp; rfl) (by go_simp) ?_
  exact eqf_last (by rfl) (by go_simp; rfl) (by go_simp; rfl) (by go_simp)
attribute [local go_sem high] eqF
set_option maxRecDepth 100000 in
set_option maxHeartbeats 4000000 in
theorem works_calls (w : World) (hm : Mx w) (htab : Tab w) : Calls Tryd.prog 19 #[] w fun e w' => e = .returned (.bool true) ∧ Below w.heap.size w w' := by
  have hpr := parse_calls litW w hm
  rw [parse_w] at hpr
  have HPR := Aside0.mk hpr
  have HMX := Aside0.mk hm
  have HTAB := Aside0.mk htab
  have htx := fun (A : Option Addr) (c : Nat) (W : World) (hC : Kd.C k37 W A fw.length fw) (h : fw.length ≤ c) (hT : Tab W) => text_calls fw (by decide) 1 (by decide +kernel) (by decide) (by decide +kernel) (by decide +kernel) A c W hC h hT
  rw [txt_w] at htx
  have HTX := Aside0.mk htx
  have hfi := fun (A : Option Addr) (c : Nat) (W : World) (hC : Kd.C k37 W A fw.length fw) (h : fw.length ≤ c) => find_calls fw (by decide) 1 (by decide +kernel) (by decide) pathW 20 _ _ _ path_w (by decide) A c W hC h
  rw [find_w] at hfi
  have HFI := Aside0.mk hfi
  have hc5 := fun (A : Option Addr) (c : Nat) (W : World) (hC : Kd.C k37 W A fw.length fw) (h : fw.length ≤ c) => check_calls fw (by decide) 5 1 (by decide +kernel) (by decide) A c W hC h
  rw [chk5_w] at hc5
  have HC5 := Aside0.mk hc5
  have hc4 := fun (A : Option Addr) (c : Nat) (W : World) (hC : Kd.C k37 W A fw.length fw) (h : fw.length ≤ c) => check_calls fw (by decide) 4 1 (by decide +kernel) (by decide) A c W hC h
  rw [chk4_w] at hc4
  have HC4 := Aside0.mk hc4
  have hlw : (litW.toList == ([97, 32, 48, 32, 52, 10, 32, 32, 98, 32, 48, 32, 49, 10, 32, 32, 98, 32, 50, 32, 52, 10, 32, 32, 32, 32, 99, 32, 50, 32, 50, 10, 98, 32, 53, 32, 53, 10] : List UInt8)) = true := by rw [show litW.toList = [97, 32, 48, 32, 52, 10, 32, 32, 98, 32, 48, 32, 49, 10, 32, 32, 98, 32, 50, 32, 52, 10, 32, 32, 32, 32, 99, 32, 50, 32, 50, 10, 98, 32, 53, 32, 53, 10] by kernel_rfl]; simp
  clear hpr hm htab htx hfi hc5 hc4
  go_enter Tryd.func19, Tryd.ntmps19
  go_wp2_with fail
  go_at_call 10
  refine HPR.out.mono ?_
  rintro e_ w1 ⟨v1, rfl, hR1, hb1⟩
  obtain ⟨A1, c1, rfl⟩ := Kd.R_slice hR1
  go_upto_region 2 with ((with_reducible refine gate_dst (N := 2) rfl ?_); (try (refine gate_guard (by rfl) ?_; dsimp only)); refine box_event ?hg (N := 2) ?hd (cs := #[.int .i64 0, .int .i64 0]) (t := 25) ?hr ?_; (case hd => rfl); (case hg => rfl); (case hr => first | (go_simp; done) | (go_simp; rfl)); intro g1 hg0 x1 hbox hb0; have GE := Aside0.mk (Nat.le_of_eq hg0.symm); have BX := Aside0.mk hbox; have HX := Aside0.mk hb0; have k0 := (blk_cell hbox 0).trans rfl; have k1 := (blk_cell hbox 1).trans rfl; have z0 := blk_frozen hbox 0; have z1 := blk_frozen hbox 1; clear hg0 hbox hb0)
  obtain ⟨BY, HY⟩ := boxed (a := .int .i64 0) (b := .int .i64 0) BX.out HX.out GE.out
  generalize (x1.setCell ⟨g1, 0, none⟩ (.int .i64 0)).setCell ⟨g1, 1, none⟩ (.int .i64 0) = y1 at BY HY ⊢
  have HW := hb1.trans (HY.mono hb1.size)
  have hC := (Kd.R_reads' (Kd.R_below hR1 HY)).2
  have BK1 := Aside0.mk BY
  clear hb1 hR1 BX HX GE BY HY k0 k1 z0 z1
  go_wp2_with fail
  go_at_call 16
  refine (HTX.out A1 c1 y1 hC.2 hC.1 (Tab.step HTAB.out HW)).mono ?_
  rintro e_ w2 ⟨rfl, hb2⟩
  have HW2 := HW.trans (hb2.mono HW.size)
  have hC2 := Kd.C_below hC.2 hb2
  have BK2 := Aside0.mk ((hb2.block g1 (Ps.lt_of_some BK1.out)).trans BK1.out)
  have hle := hC.1
  clear hb2 HW hC BK1
  go_wp2_with fail
  go_at_call 21
  refine (HFI.out A1 c1 w2 hC2 hle).mono ?_
  rintro e_ w3 ⟨v3, rfl, hR3, hb3⟩
  obtain ⟨A3, c3, rfl⟩ := Kd.R_slice hR3
  go_upto_region 4 with ((with_reducible refine gate_dst (N := 6) rfl ?_); (try (refine gate_guard (by rfl) ?_; dsimp only)); refine box_event ?hg (N := 6) ?hd (cs := #[.int .i64 0, .int .i64 0]) (t := 25) ?hr ?_; (case hd => rfl); (case hg => rfl); (case hr => first | (go_simp; done) | (go_simp; rfl)); intro g2 hg0 x2 hbox hb0; have GE := Aside0.mk (Nat.le_of_eq hg0.symm); have BX := Aside0.mk hbox; have HX := Aside0.mk hb0; have k0 := (blk_cell hbox 0).trans rfl; have k1 := (blk_cell hbox 1).trans rfl; have z0 := blk_frozen hbox 0; have z1 := blk_frozen hbox 1; clear hg0 hbox hb0)
  obtain ⟨BY, HY⟩ := boxed (a := .int .i64 0) (b := .int .i64 0) BX.out HX.out GE.out
  generalize (x2.setCell ⟨g2, 0, none⟩ (.int .i64 0)).setCell ⟨g2, 1, none⟩ (.int .i64 0) = y2 at BY HY ⊢
  have HW3 := HW2.trans ((hb3.trans (HY.mono hb3.size)).mono HW2.size)
  have hC3 := Kd.C_below (Kd.C_below hC2 hb3) HY
  have BK3 := (HY.block g1 (Ps.lt_of_some ((hb3.block g1 (Ps.lt_of_some BK2.out)).trans BK2.out))).trans ((hb3.block g1 (Ps.lt_of_some BK2.out)).trans BK2.out)
  have hI := (Kd.R_reads' (Kd.R_below hR3 HY)).2
  have a0 := (blk_cell BK3 0).trans rfl
  have a1 := (blk_cell BK3 1).trans rfl
  have b0 := (blk_cell BY 0).trans rfl
  have b1 := (blk_cell BY 1).trans rfl
  clear hb3 hR3 BX HX GE BY HY k0 k1 z0 z1 HW2 hC2 BK2 BK3
  go_wp2_with fail
  go_at_call 22
  have hal := (Below.refl y2.heap.size y2).alloc (Nat.le_refl _) (.cells #[.int .i64 1, .int .i64 2, .int .i64 4] 3)
  refine (dowelbook_Ints.calls 10 A3 c3 [1, 2, 4] (some ⟨y2.heap.size, 0, none⟩) 3 [1, 2, 4] true _ (Kd.C_below hI.2 hal) hI.1 (ints3_C _ _ (Array.getElem?_push_size)) (by decide) ints_w).mono ?_
  rintro e_ w5 ⟨rfl, hd5⟩
  have hb5 : Below y2.heap.size y2 w5 := hal.trans (hd5.below.mono hal.size)
  have HW5 := HW3.trans (hb5.mono HW3.size)
  have hC5 := Kd.C_below hC3 hb5
  clear hd5 hal hI hb5 HW3 hC3 a0 a1 b0 b1
  go_wp2_with fail
  go_at_call 20
  refine (HC5.out A1 c1 w5 hC5 hle).mono ?_
  rintro e_ w6 ⟨rfl, hb6⟩
  have HW6 := HW5.trans (hb6.mono HW5.size)
  have hC6 := Kd.C_below hC5 hb6
  clear HW5 hC5 hb6
  go_wp2_with fail
  go_at_call 20
  refine (HC4.out A1 c1 w6 hC6 hle).mono ?_
  rintro e_ w7 ⟨rfl, hb7⟩
  have HW7 := HW6.trans (hb7.mono HW6.size)
  clear HW6 hC6 hb7
  go_wp2
  go_ret
  exact ⟨rfl, HW7⟩
end Go.Proofs.YtkebableanenkaaDoor.Wk
