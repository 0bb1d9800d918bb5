/- The walk of the law ForestTexts: it answers true, and what lay ahead of the call lies as it lay. Conditions: a list of at most 2^20 nodes, names of at most 2^20 bytes. -/
import Derived.Test.YtkebableanenkaaDoorTextX
namespace Go.Proofs.YtkebableanenkaaDoor.LawTexts
open Go.RowKit Go.Proofs.YtkebableanenkaaDoor.Qall Go.Proofs.YtkebableanenkaaDoor.Chk Go.Proofs.YtkebableanenkaaDoor.Tx Go.Proofs.YtkebableanenkaaDoor.Free Go.Proofs.YtkebableanenkaaDoorW.PrintWords Go.Proofs.YtkebableanenkaaDoorW.PrintLast Go.Proofs.YtkebableanenkaaDoorW.PrintMore
set_option linter.unusedSimpArgs false
set_option linter.unusedVariables false
def zz : ByteArray := ⟨#[122, 122]⟩
def nz (c : S37) : S37 := ⟨zz, c.f1, c.f2, c.f3⟩
/-- The list when k names are written over. -/
def mid (f : List S37) (k : Nat) : List S37 := (f.take k).map nz ++ f.drop k
theorem mid_length (f : List S37) (k : Nat) : (mid f k).length = f.length := by simp [mid]; omega
theorem mid_zero (f : List S37) : mid f 0 = f := by simp [mid]
theorem mid_all (f : List S37) : mid f f.length = f.map nz := by simp [mid]
theorem set_mid {α : Type} : ∀ (a : List α) (x y : α) (b : List α), (a ++ x :: b).set a.length y = a ++ y :: b
  | [], _, _, _ => rfl
  | z :: a, x, y, b => by rw [List.cons_append, List.length_cons, List.set_cons_succ, set_mid a x y b, List.cons_append]
theorem mid_step (f : List S37) (k : Nat) (hk : k < f.length) : (Lend.cellsOf (mid f k ++ Lend.lent)).set (k * 4) (.string zz) = Lend.cellsOf (mid f (k + 1) ++ Lend.lent) := by
  have e1 : mid f k ++ Lend.lent = (f.take k).map nz ++ f[k] :: (f.drop (k + 1) ++ Lend.lent) := by
    unfold mid
    rw [List.drop_eq_getElem_cons hk, List.append_assoc, List.cons_append]
  have e2 : mid f (k + 1) ++ Lend.lent = (f.take k).map nz ++ nz f[k] :: (f.drop (k + 1) ++ Lend.lent) := by
    unfold mid
    rw [List.take_add_one, List.getElem?_eq_getElem hk, List.map_append, List.append_assoc, List.append_assoc]
    rfl
  rw [e1, e2, Lend.cellsOf_append, Lend.cellsOf_append]
  have hl : (Lend.cellsOf ((f.take k).map nz)).length = k * 4 := by rw [Lend.cellsOf_length, List.length_map, List.length_take]; omega
  have h2 := set_mid (Lend.cellsOf ((f.take k).map nz)) (.string f[k].f0) (.string zz) ([.int .i64 f[k].f1, .int .i64 f[k].f2, .int .i64 f[k].f3] ++ Lend.cellsOf (f.drop (k + 1) ++ Lend.lent))
  rw [hl] at h2
  exact h2
theorem gtrans {a w w' : World} {row : Option Nat} (h : a.grownBy w row) (k : w.grownBy w' row) : a.grownBy w' row :=
  ⟨k.os.trans h.os, k.tape.trans h.tape, k.output.trans h.output, Nat.le_trans h.size k.size, fun i hi hr => (k.block i (Nat.lt_of_lt_of_le hi h.size) hr).trans (h.block i hi hr)⟩
theorem grown_set (W : World) (b i : Nat) (v : Value) : W.grownBy (W.setCell ⟨b, i, none⟩ v) (some b) :=
  ⟨rfl, rfl, rfl, (KeepsWalks.setCell W _ v).size, fun k _ hk => Below.heap_setCell _ _ _ k (fun e => hk (by rw [e]))⟩
/-- The list that the law writes itself. -/
def duo : List S37 := [⟨⟨#[97]⟩, 0, 2, 1⟩, ⟨⟨#[98]⟩, 1, 1, 0⟩]
theorem duo_C (W : World) (g : Nat) (hg : W.heap[g]? = some (.cells #[.string ⟨#[97]⟩, .int .i64 0, .int .i64 2, .int .i64 1, .string ⟨#[98]⟩, .int .i64 1, .int .i64 1, .int .i64 0] 37 (0, 0))) : Kd.C k37 W (some ⟨g, 0, none⟩) duo.length duo :=
  (Kd.R_reads' (Lend.R_of W 0 (fun _ => True) g 2 _ duo hg (Nat.zero_le _) trivial (Nat.le_refl _) (by unfold maxLen; decide) rfl rfl)).2.2
theorem itoa_dig (n : Nat) (h : n < 10) : Lib.itoa (n : Int) = [UInt8.ofNat (48 + n)] := by
  unfold Lib.itoa
  rw [if_neg (by omega), Int.toNat_natCast, Lib.decDigits, dif_pos h]
theorem duo_chk : chkAns duo 65536 = 0 := by decide +kernel
theorem duo_walk : Fo.walkAns duo = [0, 1] := by decide +kernel
theorem duo_total : total duo [0, 1] = [97, 32, 48, 32, 50, 10, 32, 32, 98, 32, 49, 32, 49, 10] := by
  have h0 := itoa_dig 0 (by omega)
  have h1 := itoa_dig 1 (by omega)
  have h2 := itoa_dig 2 (by omega)
  have e0 : rd_T37 duo ((0 : Nat) : Int) = ⟨⟨#[97]⟩, ((0 : Nat) : Int), ((2 : Nat) : Int), 1⟩ := rfl
  have e1 : rd_T37 duo ((1 : Nat) : Int) = ⟨⟨#[98]⟩, ((1 : Nat) : Int), ((1 : Nat) : Int), 0⟩ := rfl
  show lnAt duo [0, 1] 0 ++ (lnAt duo [0, 1] 1 ++ []) = _
  unfold lnAt ln lnB
  rw [e0, e1]
  dsimp only
  rw [h0, h1, h2]
  rfl
theorem duo_ans : txtAns duo = (⟨#[97, 32, 48, 32, 50, 10, 32, 32, 98, 32, 49, 32, 49, 10]⟩, 0) := by
  unfold txtAns
  rw [if_pos duo_chk, duo_walk, duo_total]
  rfl
set_option maxRecDepth 100000 in
set_option maxHeartbeats 4000000 in
theorem Texts_walk (f : List S37) (hn : f.length ≤ 1048576) (hM : ∀ x ∈ f, x.f0.size ≤ 1048576) (hbd : ∀ c ∈ f, c.f3 ≤ 9223372036854775807)
    (hw1 : ∀ x ∈ f, -9223372036854775808 ≤ x.f1 ∧ x.f1 ≤ 9223372036854775807) (hw2 : ∀ x ∈ f, -9223372036854775808 ≤ x.f2 ∧ x.f2 ≤ 9223372036854775807)
    (Af : Option Addr) (cf : Nat) (w : World) (hCf : Kd.C k37 w Af f.length f) (hcf : f.length ≤ cf) (htab : Tab w) :
    Calls Tryd.prog 4 #[.slice Af f.length cf] w fun e w' => e = .returned (.bool true) ∧ Below w.heap.size w w' := by
  obtain ⟨K0, hK0⟩ := refText_ev f hn hbd 1048576 hM (by decide)
  have hk := hK0 K0 (Nat.le_refl _)
  have hc := fun (A : Option Addr) (c : Nat) (W : World) (hC : Kd.C k37 W A f.length f) (h : f.length ≤ c) (hT : Tab W) => text_calls f (by omega) 1048576 hM (by decide) hw1 hw2 A c W hC h hT
  obtain ⟨⟨t1, t2⟩, ha⟩ : ∃ x, txtAns f = x := ⟨_, rfl⟩
  rw [ha] at hk hc
  have HK0 := Aside0.mk hk
  have HCH := Aside0.mk hc
  obtain ⟨f2, hf2⟩ : ∃ f2, f.map nz = f2 := ⟨_, rfl⟩
  have hl2 : f2.length = f.length := by rw [← hf2, List.length_map]
  have hm2 : ∀ x ∈ f2, ∃ c ∈ f, x = nz c := fun x hx => by rw [← hf2] at hx; obtain ⟨c, hc, rfl⟩ := List.mem_map.1 hx; exact ⟨c, hc, rfl⟩
  have hM2 : ∀ x ∈ f2, x.f0.size ≤ 1048576 := fun x hx => by obtain ⟨c, hc, rfl⟩ := hm2 x hx; show (2 : Nat) ≤ 1048576; decide
  obtain ⟨K2, hK2⟩ := refText_ev f2 (by omega) (fun x hx => by obtain ⟨c, hc, rfl⟩ := hm2 x hx; exact hbd c hc) 1048576 hM2 (by decide)
  have hk2 := hK2 K2 (Nat.le_refl _)
  have hc2 := fun (A : Option Addr) (c : Nat) (W : World) (hC : Kd.C k37 W A f2.length f2) (h : f2.length ≤ c) (hT : Tab W) => text_calls f2 (by omega) 1048576 hM2 (by decide) (fun x hx => by obtain ⟨c, hc, rfl⟩ := hm2 x hx; exact hw1 c hc) (fun x hx => by obtain ⟨c, hc, rfl⟩ := hm2 x hx; exact hw2 c hc) A c W hC h hT
  have hr2 := fun (A : Option Addr) (c : Nat) (W : World) (hC : Kd.C k37 W A f2.length f2) (h : f2.length ≤ c) => dowelref12_Text.calls K2 A c f2 (txtAns f2).1 (txtAns f2).2 W hC h hk2
  have hd2 := fun (A : Option Addr) (c : Nat) (W : World) (hC : Kd.C k37 W A f2.length f2) => Lend.lend f2 A c W hC (by omega)
  obtain ⟨⟨s1, s2⟩, ha2⟩ : ∃ x, txtAns f2 = x := ⟨_, rfl⟩
  rw [ha2, hl2] at hc2
  rw [ha2, hl2] at hr2
  rw [hl2] at hd2
  have HCH2 := Aside0.mk hc2
  have HRF2 := Aside0.mk hr2
  have HLD2 := Aside0.mk hd2
  have hdu := fun (g : Nat) (W : World) (hg : W.heap[g]? = some (.cells #[.string ⟨#[97]⟩, .int .i64 0, .int .i64 2, .int .i64 1, .string ⟨#[98]⟩, .int .i64 1, .int .i64 1, .int .i64 0] 37 (0, 0))) (hT : Tab W) => text_calls duo (by decide) 1 (by decide +kernel) (by decide) (by decide +kernel) (by decide +kernel) (some ⟨g, 0, none⟩) 2 W (duo_C W g hg) (Nat.le_refl _) hT
  rw [duo_ans] at hdu
  have HDU := Aside0.mk hdu
  have HTAB := Aside0.mk htab
  have HF2 := Aside0.mk hf2
  clear ha hk hc hK0 hdu hM hbd hw1 hw2 hm2 hM2 hK2 hk2 hc2 hr2 hd2 ha2 htab hf2
  have hnb : decide (1048585 < f.length) = false := by simpa using (by omega : ¬ 1048585 < f.length)
  go_enter Tryd.func4, Tryd.ntmps4
  have B_w := Below.refl w.heap.size w
  go_wp2_with fail
  go_at_call 15
  refine (Lend.lend f Af cf w hCf (by omega)).mono ?_
  rintro e w1 ⟨g, cap, cur, hg, rfl, hcap, hmax, hcur, hcs, htake, hb1⟩
  have h1 : Below w.heap.size w w1 := hb1
  replace B_w := B_w.trans (h1.mono B_w.size)
  have B_w1 := Below.refl w1.heap.size w1
  have hglt : g < w1.heap.size := (Array.getElem?_eq_some_iff.1 hcur).1
  have OWNC := fun (W : World) (hW : Below w1.heap.size w1 W) => (Kd.R_reads' (own_R W w.heap.size g cap cur f ((hW.block g hglt).trans hcur) hg hcap hmax hcs htake)).2.2
  have hcap2 : f.length ≤ cap := by omega
  have HKEPT := fun (W : World) (hW : Below w1.heap.size w1 W) (hW0 : Below w.heap.size w W) => Lend.kept f (by omega) Af cf g cap cur W (Kd.C_below hCf hW0) hcf ((hW.block g hglt).trans hcur) hcap hmax hcs htake
  have HOC := Aside0.mk OWNC
  have HK := Aside0.mk HKEPT
  have HCUR := Aside0.mk hcur
  have HCS := Aside0.mk hcs
  have HTK := Aside0.mk htake
  clear OWNC HKEPT hcs htake hcur
  go_wp2_with fail
  go_at_call 16
  refine (HCH.out (some ⟨g, 0, none⟩) cap w1 (HOC.out _ B_w1) hcap2 (Tab.step HTAB.out B_w)).mono ?_
  rintro e w2 ⟨rfl, hb2⟩
  have h2 : Below w1.heap.size w1 w2 := hb2
  replace B_w := B_w.trans (h2.mono B_w.size)
  replace B_w1 := B_w1.trans (h2.mono B_w1.size)
  have B_w2 := Below.refl w2.heap.size w2
  go_wp2_with fail
  go_at_call 17
  refine (dowelref12_Text.calls K0 Af cf f t1 t2 w2 (Kd.C_below hCf B_w) hcf HK0.out).mono ?_
  rintro e w3 ⟨rfl, hb3⟩
  have h3 : Below w2.heap.size w2 w3 := hb3
  replace B_w := B_w.trans (h3.mono B_w.size)
  replace B_w1 := B_w1.trans (h3.mono B_w1.size)
  replace B_w2 := B_w2.trans (h3.mono B_w2.size)
  have B_w3 := Below.refl w3.heap.size w3
  go_wp2_with fail
  go_at_call 18
  refine (HK.out w3 B_w1 B_w).mono ?_
  rintro e w4 ⟨rfl, hb4⟩
  have h4 : Below w3.heap.size w3 w4 := hb4
  replace B_w := B_w.trans (h4.mono B_w.size)
  replace B_w1 := B_w1.trans (h4.mono B_w1.size)
  replace B_w2 := B_w2.trans (h4.mono B_w2.size)
  replace B_w3 := B_w3.trans (h4.mono B_w3.size)
  have B_w4 := Below.refl w4.heap.size w4
  go_wp2
  have HCUR4 := Aside0.mk ((B_w1.block g hglt).trans HCUR.out)
  have hz4 := B_w1.size
  clear B_w1 B_w2 B_w3 HOC HK HCH
  go_loopw [8] (fun i wr => ∃ (k : Nat) (cur' : Array Value), k ≤ f.length ∧ i = .int .i64 k ∧ Aside0 (wr.heap[g]? = some (.cells cur' 37 (0, 0))) ∧ Aside0 (cur'.size = cap * 4) ∧ Aside0 (cur'.toList.take ((f.length + 2) * 4) = Lend.cellsOf (mid f k ++ Lend.lent)) ∧ w4.grownBy wr (some g))
    (fun i _ => f.length - (intOf i).toNat)
  case atStart => exact ⟨0, cur, Nat.zero_le _, rfl, HCUR4, HCS, ⟨by rw [mid_zero]; exact HTK.out⟩, World.grownBy.refl _ _⟩
  case round =>
    obtain ⟨k, cur', hk, rfl, HG, HZ, HM, hgr⟩ := hrel
    by_cases hlt : k < f.length
    · obtain ⟨u, hu⟩ : ∃ u, wr.cell? ⟨g, k * 4, none⟩ = some u := by
        have hi : k * 4 < cur'.size := by rw [HZ.out]; omega
        exact ⟨cur'[k * 4], by simp [World.cell?, HG.out, hi]⟩
      have hfz : wr.frozen? ⟨g, k * 4, none⟩ = false := by simp [World.frozen?, HG.out]
      have hg2 := gtrans hgr (grown_set wr g (k * 4) (.string zz))
      have hM2 : (cur'.setIfInBounds (k * 4) (.string zz)).toList.take ((f.length + 2) * 4) = Lend.cellsOf (mid f (k + 1) ++ Lend.lent) := by
        rw [Array.toList_setIfInBounds, List.take_set, HM.out, mid_step f k hlt]
      have HM2 := Aside0.mk hM2
      clear hM2
      go_wp2
      go_roundw
      case rel => exact ⟨k + 1, cur'.setIfInBounds (k * 4) (.string zz), by omega, by simp, ⟨heap_setCell_same _ _ _ _ _ _ HG.out⟩, ⟨by rw [Array.size_setIfInBounds]; exact HZ.out⟩, HM2, hg2⟩
      case measure => simp [intOf]; omega
    · obtain rfl : k = f.length := by omega
      have B_x := B_w.grown hgr (by have := B_w.size; omega) (fun k' e => by cases e; omega)
      have hszr := hgr.size
      have hgr2 : g < wr.heap.size := by omega
      have OWN2 := fun (W : World) (hW : Below wr.heap.size wr W) => by
        have h := (Kd.R_reads' (own_R W w.heap.size g cap cur' f2 ((hW.block g hgr2).trans HG.out) hg (by omega) hmax HZ.out (by rw [← HF2.out, List.length_map, ← mid_all]; exact HM.out))).2.2
        exact h
      have HOC2 := Aside0.mk OWN2
      clear OWN2 HG HZ HM hgr HCUR4 HCUR HTK HCS HF2 B_w
      have hcap3 : f.length ≤ cap := by omega
      have B_wr := Below.refl wr.heap.size wr
      go_wp2_with fail
      go_at_call 16
      refine (HCH2.out (some ⟨g, 0, none⟩) cap wr (by have := HOC2.out _ B_wr; rw [hl2] at this; exact this) hcap3 (Tab.step HTAB.out B_x)).mono ?_
      rintro e w5 ⟨rfl, hb5⟩
      have h5 : Below wr.heap.size wr w5 := hb5
      replace B_x := B_x.trans (h5.mono B_x.size)
      replace B_wr := B_wr.trans (h5.mono B_wr.size)
      have B_w5 := Below.refl w5.heap.size w5
      go_wp2_with fail
      go_at_call 15
      refine (HLD2.out (some ⟨g, 0, none⟩) cap w5 (by have := HOC2.out _ B_wr; rw [hl2] at this; exact this)).mono ?_
      rintro e w6 ⟨g2, cap2, cur2, hg2, rfl, hcap4, hmax2, hcur2, hcs2, htake2, hb6⟩
      have h6 : Below w5.heap.size w5 w6 := hb6
      replace B_x := B_x.trans (h6.mono B_x.size)
      replace B_wr := B_wr.trans (h6.mono B_wr.size)
      replace B_w5 := B_w5.trans (h6.mono B_w5.size)
      have B_w6 := Below.refl w6.heap.size w6
      have hC2 := (Kd.R_reads' (own_R w6 w5.heap.size g2 cap2 cur2 f2 hcur2 hg2 (by omega) hmax2 hcs2 (by rw [hl2]; exact htake2))).2.2
      rw [hl2] at hC2
      go_wp2_with fail
      go_at_call 17
      refine (HRF2.out (some ⟨g2, 0, none⟩) cap2 w6 hC2 (by omega)).mono ?_
      rintro e w7 ⟨rfl, hb7⟩
      have h7 : Below w6.heap.size w6 w7 := hb7
      replace B_x := B_x.trans (h7.mono B_x.size)
      replace B_wr := B_wr.trans (h7.mono B_wr.size)
      replace B_w5 := B_w5.trans (h7.mono B_w5.size)
      replace B_w6 := B_w6.trans (h7.mono B_w6.size)
      have B_w7 := Below.refl w7.heap.size w7
      go_wp2_with fail
      go_at_call 16
      refine (HDU.out w7.heap.size (w7.alloc (.cells #[.string ⟨#[97]⟩, .int .i64 0, .int .i64 2, .int .i64 1, .string ⟨#[98]⟩, .int .i64 1, .int .i64 1, .int .i64 0] 37)) (heap_new _ _) (Tab.step (Tab.step HTAB.out B_x) ((Below.refl w7.heap.size w7).alloc (Nat.le_refl _) _))).mono ?_
      rintro e w8 ⟨rfl, hb8⟩
      have h8 : Below w7.heap.size w7 w8 := ((Below.refl w7.heap.size w7).alloc (Nat.le_refl _) (.cells #[.string ⟨#[97]⟩, .int .i64 0, .int .i64 2, .int .i64 1, .string ⟨#[98]⟩, .int .i64 1, .int .i64 1, .int .i64 0] 37)).trans (hb8.mono (by simp))
      replace B_x := B_x.trans (h8.mono B_x.size)
      replace B_wr := B_wr.trans (h8.mono B_wr.size)
      replace B_w5 := B_w5.trans (h8.mono B_w5.size)
      replace B_w6 := B_w6.trans (h8.mono B_w6.size)
      replace B_w7 := B_w7.trans (h8.mono B_w7.size)
      have B_w8 := Below.refl w8.heap.size w8
      go_wp2
      go_ret
      exact ⟨rfl, B_x⟩
end Go.Proofs.YtkebableanenkaaDoor.LawTexts
