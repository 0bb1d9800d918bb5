/- The walk of PlaceShows: it answers true, and what lay ahead of the call lies as it lay. Conditions: a text of at most 2^30 bytes. -/
import Derived.Test.YtkjckdgknbfaiaaShowsA
import Derived.LoopTactic
import Derived.BigRegion
namespace Go.Proofs.Ytkjckdgknbfaiaa.Shows
set_option linter.unusedSimpArgs false
set_option linter.unusedVariables false
open Go.RowKit Go.Shelf Go.Proofs.Ytkjckdgknbfaiaa.Qall Go.Proofs.Ytkjckdgknbfaiaa.Iter
open Go.Proofs.YtkjckdgknbfaiaaW.PrintWords Go.Proofs.YtkjckdgknbfaiaaW.PrintLast Go.Proofs.YtkjckdgknbfaiaaW.PrintMore
attribute [local go_sem] Oper.semAt_some
theorem bx {B : Nat} {w W : World} {t : TypeId} {v : Value} (hB : Below w.heap.size w W) (h : Boxed w B t v) : Boxed W B t v := (hB.block _ h.lt).trans h
theorem at_act {P : Program} {c : Code} {Q : Exit → Act → World → Prop} {tm : Array Value} {w : World} (h : ∀ T, tm = T → c.wp P Q { tmps := T, defers := [] } w) : c.wp P Q { tmps := tm, defers := [] } w := h _ rfl
def mk (D : Nat) : Deferred := { target := .collected D, args := #[] }
/-- Marks with nothing collected are taken, one behind the other. -/
theorem leaves_all {F : Fence} {n : Nat} {P : Program} {fn : Func} {tm : Array Value} {R : Ending → World → Prop} (J : World → Prop) : ∀ (Ds : List Nat) (W : World), (∀ D ∈ Ds, W.heap[D]? = some (.deferred (some []))) → Ds.Nodup → J W →
    (∀ X D, D ∈ Ds → X.heap[D]? = some (.deferred (some [])) → J X → J (X.putObj D (.deferred none))) → (∀ X, J X → ∃ v, (results fn tm).run P X = .ok v X ∧ R (.returned v) X) → LeavesInM F n P fn tm R (Ds.map mk) .returning W
  | [], W, _, _, hJ, _, hE => hE W hJ
  | D :: Ds, W, hD, hN, hJ, hp, hE => by
    have hk := hD D (List.mem_cons_self ..)
    have hN' := List.nodup_cons.1 hN
    refine ⟨by simp, .inl ⟨D, _, rfl, run_takeDeferred hk, ?_⟩⟩
    refine leaves_all J Ds _ (fun E hE' => ?_) hN'.2 (hp W D (List.mem_cons_self ..) hk hJ) (fun X E hE' => hp X E (List.mem_cons_of_mem _ hE')) hE
    rw [World.putObj_heap_other (fun e => hN'.1 (by rw [← e]; exact hE'))]
    exact hD E (List.mem_cons_of_mem _ hE')
/-- The end, ahead of the range. -/
theorem fin0 {tm : Array Value} {g : Nat} (h6 : tm[6]? = some (.pointer (some ⟨g, 0, none⟩))) {w W : World} (hb : Boxed W g 4 (.bool false)) (hB : Below w.heap.size w W) (hg : w.heap.size ≤ g) {QM : Exit → Act → World → Prop}
    (hQ : bodyPostM Fence.wide 12 Try.prog Try.f13 (fun e w' => e = .returned (.bool true) ∧ Below w.heap.size w w') = QM) : QM .ret { tmps := tm, defers := [] } (W.setCell ⟨g, 0, none⟩ (.bool true)) := by
  rw [← hQ]
  refine leaves_all (fun X => Boxed X g 4 (.bool true) ∧ Below w.heap.size w X) [] _ (fun D hD => by cases hD) List.nodup_nil ⟨hb.set _, hB.setCell (p := ⟨g, 0, none⟩) hg _⟩ (fun X D hD => by cases hD) (fun X hJ => ⟨.bool true, ?_, rfl, hJ.2⟩)
  have h1 := hJ.1.cell
  simp [results, Try.f13, go_sem, h6, h1]
/-- The end, behind the range. -/
theorem fin1 {tm : Array Value} {g D : Nat} (h6 : tm[6]? = some (.pointer (some ⟨g, 0, none⟩))) {w W : World} (hb : Boxed W g 4 (.bool false)) (hB : Below w.heap.size w W) (hg : w.heap.size ≤ g) (hD : W.heap[D]? = some (.deferred (some []))) (hDl : w.heap.size ≤ D) (hDg : D ≠ g) {QM : Exit → Act → World → Prop}
    (hQ : bodyPostM Fence.wide 12 Try.prog Try.f13 (fun e w' => e = .returned (.bool true) ∧ Below w.heap.size w w') = QM) : QM .ret { tmps := tm, defers := [{ target := .collected D, args := #[] }] } (W.setCell ⟨g, 0, none⟩ (.bool true)) := by
  rw [← hQ]
  refine leaves_all (fun X => Boxed X g 4 (.bool true) ∧ Below w.heap.size w X) [D] _ (fun E hE => ?_) (by simp) ⟨hb.set _, hB.setCell (p := ⟨g, 0, none⟩) hg _⟩ (fun X E hE hk hJ => ?_) (fun X hJ => ⟨.bool true, ?_, rfl, hJ.2⟩)
  · obtain rfl : E = D := by simpa using hE
    exact (Below.heap_setCell W ⟨g, 0, none⟩ _ E hDg).trans hD
  · obtain rfl : E = D := by simpa using hE
    refine ⟨hJ.1.kept (grownBy_putObj' X E _) (fun e => hDg (by injection e with e; exact e.symm)), hJ.2.grown (grownBy_putObj' X E _) hJ.2.size (fun k e => by injection e with e; omega)⟩
  · have h1 := hJ.1.cell
    simp [results, Try.f13, go_sem, h6, h1]
/-- The end, behind the range and a region that draws. -/
theorem fin1d {tm : Array Value} {g D : Nat} (h6 : tm[6]? = some (.pointer (some ⟨g, 0, none⟩))) {w W : World} (hb : Boxed W g 4 (.bool false)) (hB : Below w.heap.size w W) (hg : w.heap.size ≤ g) (hD : W.heap[D]? = some (.deferred (some []))) (hDl : w.heap.size ≤ D) (hDg : D ≠ g) {QM : Exit → Act → World → Prop}
    (hQ : bodyPostM Fence.wide 12 Try.prog Try.f13 (fun e w' => e = .returned (.bool true) ∧ Below w.heap.size w w') = QM) : QM .ret { tmps := tm, defers := [{ target := .collected D, args := #[] }] } (W.setCell ⟨g, 0, none⟩ (.bool true)).drew := by
  rw [← hQ]
  refine leaves_all (fun X => Boxed X g 4 (.bool true) ∧ Below w.heap.size w X) [D] _ (fun E hE => ?_) (by simp) ⟨(show Boxed (W.setCell ⟨g, 0, none⟩ (.bool true)).drew g 4 (.bool true) from hb.set _), (hB.setCell (p := ⟨g, 0, none⟩) hg (.bool true)).drew⟩ (fun X E hE hk hJ => ?_) (fun X hJ => ⟨.bool true, ?_, rfl, hJ.2⟩)
  · obtain rfl : E = D := by simpa using hE
    exact (Below.heap_setCell W ⟨g, 0, none⟩ _ E hDg).trans hD
  · obtain rfl : E = D := by simpa using hE
    refine ⟨hJ.1.kept (grownBy_putObj' X E _) (fun e => hDg (by injection e with e; exact e.symm)), hJ.2.grown (grownBy_putObj' X E _) hJ.2.size (fun k e => by injection e with e; omega)⟩
  · have h1 := hJ.1.cell
    simp [results, Try.f13, go_sem, h6, h1]
def frame (g6 g12 : Nat) (u : Nat → Value) : Array Value := #[u 0, u 1, u 2, u 3, u 4, u 5, .pointer (some ⟨g6, 0, none⟩), u 7, u 8, u 9, u 10, u 11, .pointer (some ⟨g12, 0, none⟩), u 13, u 14, u 15, u 16, u 17, u 18, u 19, u 20, u 21, u 22, u 23, u 24, u 25, u 26, u 27, u 28, u 29, u 30, u 31, u 32, u 33, u 34, u 35, u 36, u 37, u 38, u 39, u 40, u 41, u 42, u 43, u 44, u 45, u 46, u 47, u 48, u 49, u 50, u 51, u 52, u 53, u 54, u 55, u 56, u 57, u 58, u 59, u 60, u 61, u 62, u 63, u 64, u 65, u 66, u 67, u 68, u 69, u 70, u 71, u 72, u 73, u 74, u 75, u 76, u 77, u 78, u 79, u 80, u 81, u 82, u 83, u 84, u 85, u 86, u 87, u 88, u 89, u 90, u 91, u 92, u 93, u 94, u 95, u 96, u 97, u 98, u 99, u 100, u 101, u 102, u 103, u 104, u 105, u 106, u 107, u 108, u 109, u 110, u 111, u 112, u 113, u 114, u 115, u 116, u 117, u 118, u 119, u 120, u 121, u 122, u 123, u 124, u 125, u 126, u 127, u 128, u 129, u 130, u 131, u 132, u 133, u 134, u 135, u 136, u 137, u 138, u 139, u 140, u 141, u 142, u 143, u 144, u 145, u 146, u 147, u 148, u 149, u 150, u 151, u 152, u 153, u 154, u 155, u 156, u 157, u 158, u 159, u 160, u 161, u 162, u 163, u 164, u 165, u 166, u 167, u 168, u 169, u 170, u 171, u 172, u 173, u 174, u 175, u 176, u 177, u 178, u 179, u 180, u 181, u 182, u 183, u 184, u 185, u 186, u 187, u 188, u 189, u 190, u 191, u 192, u 193, u 194, u 195, u 196, u 197, u 198, u 199, u 200, u 201, u 202, u 203, u 204, u 205, u 206, u 207, u 208, u 209, u 210, u 211, u 212, u 213]
theorem by_at (s : ByteArray) (j : Nat) (h : j < s.size) : s[j].toNat = by_ s.data.toList j := by
  have h2 : j < s.data.size := h
  show s.data[j].toNat = (s.data.toList.getD j 0).toNat
  rw [List.getD_eq_getElem?_getD, Array.getElem?_toList, Array.getElem?_eq_getElem h2]
  rfl
theorem by_mem (l : List UInt8) (j : Nat) (h : j < l.length) : ∃ b ∈ l, by_ l j = b.toNat := ⟨l[j], List.getElem_mem h, by unfold by_; rw [List.getD_eq_getElem?_getD, List.getElem?_eq_getElem h]; rfl⟩
theorem encs_four : ∀ cs : List Nat, (encs cs).length ≤ 4 * cs.length
  | [] => Nat.le_refl _
  | c :: cs => by
    have h1 := encs_four cs
    have h2 : (encN c).length ≤ 4 := by
      unfold encN
      repeat' split
      all_goals simp
    rw [encs, List.length_append, List.length_cons]; omega
set_option maxRecDepth 100000 in
set_option maxHeartbeats 8000000 in
theorem Shows_walk (s : ByteArray) (hs : s.size ≤ 1073741824) (at_ wd : Int) (w : World) :
    Calls Try.prog 13 #[.string s, .int .i64 at_, .int .i64 wd] w fun e w' => e = .returned (.bool true) ∧ Below w.heap.size w w' := by
  obtain ⟨K, hw⟩ := Tiles.works_at
  have HWK := Aside0.mk (fun W => dowellaw02_works.calls K true W (hw K (Nat.le_refl _)))
  obtain ⟨x, er, hex⟩ : ∃ x er, excAns s at_ wd = (x, er) := ⟨_, _, rfl⟩
  have HEX := Aside0.mk (fun W => place_Excerpt.calls s at_ wd x er W (by rw [exc_eq s hs, hex]))
  clear hw
  refine (callsIn_wide (n := 12)).1 ?_
  refine callsIn_of_wp_marks Try.func13 rfl trivial ?_ rfl
  refine wpIn_wide.2 ?_
  simp only [Try.ntmps13, List.size_toArray, List.length_cons, List.length_nil, Nat.reduceAdd, Nat.reduceSub, Array.replicate_succ, Array.replicate_zero, List.push_toArray, List.append_toArray, List.nil_append, List.cons_append]
  obtain ⟨QM, hQM⟩ : ∃ QM, bodyPostM Fence.wide 12 Try.prog Try.f13 (fun e w' => e = .returned (.bool true) ∧ Below w.heap.size w w') = QM := ⟨_, rfl⟩
  rw [hQM]
  have HQM := Aside0.mk hQM
  clear hQM
  go_wp2_with fail
  have b6 := Boxed.new w 4 (.bool false)
  have hb0 := (Below.refl w.heap.size w).alloc (Nat.le_refl _) (.cells #[.bool false] 4)
  generalize w.alloc (.cells #[.bool false] 4) = w0 at b6 hb0 ⊢
  obtain ⟨g6, hg6⟩ : ∃ x, w.heap.size = x := ⟨_, rfl⟩
  have G6 := Aside0.mk (Nat.le_of_eq hg6)
  rw [hg6] at b6 ⊢
  clear hg6
  go_at_call 26
  refine (HWK.out w0).mono ?_
  rintro e_ w1 ⟨rfl, hb1⟩
  have B61 := Aside0.mk (bx hb1 b6)
  have HB1 := Aside0.mk (hb0.trans (hb1.mono hb0.size))
  clear hb1 hb0 b6
  go_wp2_with fail
  go_at_call 24
  refine (HEX.out w1).mono ?_
  rintro e_ w2 ⟨rfl, hb2⟩
  have b62 := bx hb2 B61.out
  have B62 := Aside0.mk b62
  have c6 := b62.cell
  have e6 := b62.frozen
  have HB2 := Aside0.mk (HB1.out.trans (hb2.mono HB1.out.size))
  clear hb2 B61 HB1 b62 HEX HWK
  by_cases hbad : at_ < 0 ∨ (s.size : Int) < at_ ∨ wd < 8 ∨ 200 < wd
  · have hx : x = ⟨#[]⟩ ∧ er = 5 := by
      unfold excAns at hex
      rw [if_pos hbad] at hex
      exact ⟨(Prod.mk.inj hex).1.symm, (Prod.mk.inj hex).2.symm⟩
    obtain ⟨rfl, rfl⟩ := hx
    by_cases h0 : at_ < 0
    · have p1 : decide (0 ≤ at_) = false := decide_eq_false (by omega)
      clear hbad hex h0
      go_wp2
      exact fin0 rfl B62.out HB2.out G6.out HQM.out
    have p1 : decide (0 ≤ at_) = true := decide_eq_true (by omega)
    by_cases h1 : (s.size : Int) < at_
    · have p2 : decide (at_ ≤ (s.size : Int)) = false := decide_eq_false (by omega)
      clear hbad hex h0 h1
      go_wp2
      exact fin0 rfl B62.out HB2.out G6.out HQM.out
    have p2 : decide (at_ ≤ (s.size : Int)) = true := decide_eq_true (by omega)
    by_cases h2 : wd < 8
    · have p3 : decide (8 ≤ wd) = false := decide_eq_false (by omega)
      clear hbad hex h0 h1 h2
      go_wp2
      exact fin0 rfl B62.out HB2.out G6.out HQM.out
    have p3 : decide (8 ≤ wd) = true := decide_eq_true (by omega)
    have p4 : decide (wd ≤ 200) = false := decide_eq_false (by omega)
    clear hbad hex h0 h1 h2
    go_wp2
    exact fin0 rfl B62.out HB2.out G6.out HQM.out
  obtain ⟨a, rfl⟩ : ∃ a : Nat, at_ = a := ⟨at_.toNat, by omega⟩
  have ha : a ≤ s.size := by omega
  obtain ⟨x', hx', ⟨S⟩⟩ := shown_of s hs a ha wd (by omega) (by omega)
  rw [hx'] at hex
  obtain ⟨rfl, rfl⟩ := Prod.mk.inj hex
  clear hex hx'
  have h8 : 8 ≤ wd := by omega
  have h200 : wd ≤ 200 := by omega
  have p2 : decide ((a : Int) ≤ (s.size : Int)) = true := decide_eq_true (by omega)
  have p2' : decide (a ≤ s.size) = true := decide_eq_true ha
  have p3 : decide (8 ≤ wd) = true := decide_eq_true h8
  have p4 : decide (wd ≤ 200) = true := decide_eq_true h200
  have hxs : x'.size = S.P.length + S.m + 3 := by
    rw [size_list, S.eq]
    simp
    omega
  obtain ⟨n, hn⟩ : ∃ n, S.P.length = n := ⟨_, rfl⟩
  obtain ⟨m, hm⟩ : ∃ m, S.m = m := ⟨_, rfl⟩
  have hmw := S.hm
  rw [hn, hm] at hxs
  rw [hm] at hmw
  have hbyP : ∀ j, j < n → by_ x'.data.toList j = by_ S.P j ∧ by_ S.P j ≠ 10 := fun j hj => by
    obtain ⟨b, hb, e⟩ := by_mem S.P j (by omega)
    have := S.big b hb
    refine ⟨?_, by omega⟩
    rw [S.eq]
    unfold by_
    rw [List.getD_eq_getElem?_getD, List.getD_eq_getElem?_getD, List.getElem?_append_left (by omega)]
  have hbyN : by_ x'.data.toList n = 10 := by
    rw [S.eq, ← hn]
    unfold by_
    rw [List.getD_eq_getElem?_getD, List.getElem?_append_right (Nat.le_refl _), Nat.sub_self]
    rfl
  clear hbad
  have hx1 : n + 1 ≤ x'.size := by omega
  have hx2 : x'.size ≤ 4611686018427387904 := by
    have h1 := encs_four S.cs
    have h2 := S.hn
    rw [← S.hcs] at h1
    omega
  go_wp2
  go_loop [10] (fun v10 => ∃ k : Nat, v10 = .int .i64 (k : Int) ∧ Aside0 (k ≤ n)) (fun v10 => n - (intOf v10).toNat)
  case atStart => exact ⟨0, rfl, ⟨Nat.zero_le _⟩⟩
  case round =>
    obtain ⟨k, rfl, HK⟩ := hrel
    by_cases hlt : k < n
    · have hkx : k < x'.size := by omega
      have q1 : (((x'[k]'hkx).toNat : Int) != 10) = true := by
        rw [by_at x' k hkx, (hbyP k hlt).1]
        have := (hbyP k hlt).2
        exact bne_iff_ne.2 (by omega)
      have i1 : decide ((k : Int) < (x'.size : Int)) = true := decide_eq_true (by omega)
      go_wp2
      go_round
      case rel => exact ⟨k + 1, by first | rfl | (simp; done), ⟨by omega⟩⟩
      case measure => simp [intOf]; omega
    · obtain rfl : k = n := by have := HK.out; omega
      have hkx : k < x'.size := by omega
      have q1 : (((x'[k]'hkx).toNat : Int) != 10) = false := by
        rw [by_at x' k hkx, hbyN]
        rfl
      have i1 : decide ((k : Int) < (x'.size : Int)) = true := decide_eq_true (by omega)
      have i2 : ¬ (k : Int) ≥ (x'.size : Int) := by omega
      go_upto_region 14 with fail
      obtain ⟨fs, hfs⟩ : ∃ z, x'.extract 0 k = z := ⟨_, rfl⟩
      have hfsl : fs.data.toList = S.P := by
        rw [← hfs, data_extract, S.eq, List.drop_zero, Nat.sub_zero, ← hn, List.take_left]
      rw [hfs]
      have i8 : IntKind.i64.wrap ((k : Int) + 1) = ((k + 1 : Nat) : Int) := by rw [i64_w]; unfold wrap64; omega
      have i3 : k + 1 ≤ x'.size := by omega
      have i4 : ((k + 1 : Nat) : Int) ≤ (x'.size : Int) := by omega
      clear hkx q1 i1 i2 hlt HK
      go_upto_region 15 with fail
      obtain ⟨ss, hss⟩ : ∃ z, x'.extract (k + 1) (k + m + 3) = z := ⟨_, rfl⟩
      have hssl : ss.data.toList = List.replicate m 32 ++ [94, 10] := by
        rw [← hss, data_extract, S.eq, ← hn, ← hm]
        rw [show S.P ++ 10 :: (List.replicate S.m 32 ++ [94, 10]) = (S.P ++ [10]) ++ (List.replicate S.m 32 ++ [94, 10]) by simp, show S.P.length + 1 = (S.P ++ [10]).length by simp, List.drop_left, List.take_of_length_le (by simp; omega)]
      rw [hss]
      have hssz : ss.size = m + 2 := by rw [size_list, hssl]; simp
      have hfsz : fs.size = k := by rw [size_list, hfsl, hn]
      have hfsz2 : fs.size ≤ 4611686018427387904 := by omega
      obtain ⟨hcnt, hall⟩ := shown_count S fs hfsl hfsz2
      have HALL := Aside0.mk hall
      have HSSL := Aside0.mk hssl
      have HFSL := Aside0.mk hfsl
      clear hss hfs hbyP hbyN hssl hfsl hall i3 i4 i8
      go_upto_region 16 with fail
      have b12 := Boxed.new w2 3 (.int .i64 0)
      have b63 := B62.out.alloc (.cells #[.int .i64 0] 3)
      have hb3 := HB2.out.alloc HB2.out.size (.cells #[.int .i64 0] 3)
      have hs3 : (w2.alloc (.cells #[.int .i64 0] 3)).heap.size = w2.heap.size + 1 := World.size_alloc ..
      have h62 := B62.out.lt
      generalize w2.alloc (.cells #[.int .i64 0] 3) = w3 at b12 b63 hb3 hs3 ⊢
      obtain ⟨g12, hg12⟩ : ∃ x, w2.heap.size = x := ⟨_, rfl⟩
      have G12 := Aside0.mk (show w.heap.size ≤ g12 by rw [← hg12]; exact HB2.out.size)
      have hne12 : g6 ≠ g12 := by omega
      rw [hg12] at b12 hs3 ⊢
      clear hg12 h62 B62 HB2 c6 e6
      go_wp2_with fail
      go_at_call 15
      refine (callsIn_wide.1 (Runes_in Fence.wide 1 trivial rfl fs w3)).mono ?_
      rintro e_ w4 ⟨rfl, rfl⟩
      have eqf : ∀ (b : Nat) (W : World), (binOp .eql 28 (.func (.func 28) #[] #[.pointer (some ⟨b, 0, none⟩)]) .nilFunc).run Try.prog W = .ok (.bool false) W := fun _ _ => by kernel_rfl
      have b12 := b12.alloc (.cells #[.string fs] 9)
      have b64 := b63.alloc (.cells #[.string fs] 9)
      have bX := Boxed.new w3 9 (.string fs)
      have hb4 := hb3.alloc hb3.size (.cells #[.string fs] 9)
      rw [hs3] at bX ⊢
      have hs4 : (w3.alloc (.cells #[.string fs] 9)).heap.size = g12 + 1 + 1 := by rw [World.size_alloc, hs3]
      generalize w3.alloc (.cells #[.string fs] 9) = w4 at b12 b64 bX hb4 hs4 ⊢
      clear b63 hb3 hs3
      go_wp2_with fail
      have h6lt : g6 < w4.heap.size := b64.lt
      refine at_act (fun T hT => ?_)
      have HT := Aside0.mk hT
      clear hT eqf
      refine (wpIn_wide (n := 12)).1 ?_
      refine wpIn_rangeFunc_ownG rfl (by omega) (gf := 28) (lb := #[.pointer (some ⟨g12 + 1, 0, none⟩)]) (by rw [← HT.out]; rfl) trivial (enters_of Try.func28 (by kernel_rfl) rfl)
        (runes_stops Fence.wide _ trivial rfl (by omega) (g12 + 1) fs hfsz2 w4 (by omega) bX.cell) walksK_t walksK_b (Below.refl _ _) (fun _ => rfl)
        (fun pre W => Boxed W g6 4 (.bool false) ∧ Boxed W g12 3 (.int .i64 (pre.length : Int)) ∧ Below w.heap.size w W)
        (fun _ pre _ => ∃ r ∈ pre, r.c < 32)
        (fun pre A B row hs hg hr => ⟨(Own.from (boxed_own _ _ (fun _ => _)) _) pre A B row hs.1 hg hr, (Own.from (boxed_own _ _ (fun pre : List Rn => .int .i64 (pre.length : Int))) _) pre A B row hs.2.1 hg hr, (ownFrom_below (β := List Rn) (Nat.le_refl _) (by have := hb4.size; omega)) pre A B row hs.2.2 hg hr⟩)
        (fun c => ownFrom_pure _ _)
        ⟨b64, b12, hb4⟩
        (fun x => { tmps := ((T.setIfInBounds 83 (.int .i64 (x.pos : Int))).setIfInBounds 84 (.int .i32 (x.c : Int))).setIfInBounds 15 (.int .i32 (x.c : Int)), defers := [] }) ?assign ?body ?done ?stop
      case assign =>
        intro l x W K hK
        have hT := HT.out
        subst hT
        dsimp only at hK ⊢
        gi_wp2
        exact hK
      case stop =>
        rintro D c pre W hD hp ⟨r, hr, hr32⟩ hK
        have := HALL.out r (hp.subset hr)
        omega
      case body =>
        rintro l pre ⟨p, c, hp, hc2⟩ W ⟨cR, cN, cB⟩ hlt
        obtain ⟨u, hu⟩ : ∃ u, T = frame g6 g12 u := ⟨fun i => T.toList.getD i undef, by rw [← HT.out]; kernel_rfl⟩
        rw [hu]
        unfold frame
        simp only [List.setIfInBounds_toArray, List.set_cons_zero, List.set_cons_succ]
        have dR := cR.cell
        have eR := cR.frozen
        have dN := cN.cell
        have eN := cN.frozen
        have hlen : pre.length < 4611686018427387904 := by have := Tiles.runes_le fs hfsz2; omega
        have hl : (((pre ++ [(⟨p, c, hp, hc2⟩ : Rn)]).length : Nat) : Int) = (pre.length : Int) + 1 := by simp
        clear hu hmw hcnt
        by_cases h32 : c < 32
        · have f1 : (c : Int) < 32 := by omega
          gi_wp2
          exact ⟨(KeepsOthers.setCell _ _ _).from _, ⟨_, List.mem_append_right _ (List.mem_singleton.2 rfl), h32⟩⟩
        · have f1 : ¬ (c : Int) < 32 := by omega
          gi_wp2
          refine ⟨(KeepsOthers.setCell _ _ _).from _, (KeepsOthers.setCell _ _ _).walks, cR.other (by omega) _, ?_, cB.setCell (p := ⟨g12, 0, none⟩) G12.out _⟩
          first | exact cN.set _ | (rw [hl]; exact cN.set _)
      case done =>
        rintro D xs W hD rfl ⟨cR, cN, cB⟩ hK
        have hT := HT.out
        subst hT
        obtain ⟨q, hq⟩ : ∃ q, (runes fs hfsz2).length = q := ⟨_, rfl⟩
        rw [hq] at cN hcnt
        have d12 := cN.cell
        have HDK := Aside0.mk hK
        have HDL := Aside0.mk (show w4.heap.size ≤ D from hD)
        have d6 := cR.cell
        have e6 := cR.frozen
        have hbs : ∀ j (h : j < ss.size), ss[j].toNat = by_ (List.replicate m 32 ++ [94, 10]) j := fun j h => by rw [by_at ss j h, HSSL.out]
        have hb0 : ∀ j, j < m → by_ (List.replicate m 32 ++ [94, 10]) j = 32 := fun j h => by
          unfold by_
          rw [List.getD_eq_getElem?_getD, List.getElem?_append_left (by simpa using h), List.getElem?_replicate, if_pos h]
          rfl
        have hb1 : by_ (List.replicate m 32 ++ [94, 10]) m = 94 := by
          unfold by_
          rw [List.getD_eq_getElem?_getD, List.getElem?_append_right (by simp)]
          simp
        have hb2 : by_ (List.replicate m 32 ++ [94, 10]) (m + 1) = 10 := by
          unfold by_
          rw [List.getD_eq_getElem?_getD, List.getElem?_append_right (by simp)]
          simp
        have i1 : m + 1 < ss.size := by omega
        have i2 : m < ss.size := by omega
        have g1 : ((m + 1 : Nat) : Int) < (ss.size : Int) := by omega
        have g2 : ((m : Nat) : Int) < (ss.size : Int) := by omega
        have w1 : IntKind.i64.wrap ((ss.size : Int) - 1) = ((m + 1 : Nat) : Int) := by rw [i64_w]; unfold wrap64; omega
        have w2 : IntKind.i64.wrap ((ss.size : Int) - 2) = ((m : Nat) : Int) := by rw [i64_w]; unfold wrap64; omega
        have q1 : (((ss[m + 1]'i1).toNat : Int) != 10) = false := by rw [hbs _ i1, hb2]; rfl
        have q2 : (((ss[m]'i2).toNat : Int) != 94) = false := by rw [hbs _ i2, hb1]; rfl
        have r1 : decide (wd < (q : Int)) = false := decide_eq_false (by omega)
        have r2 : decide ((ss.size : Int) < 2) = false := decide_eq_false (by omega)
        have r3 : decide (wd < (m : Int)) = false := decide_eq_false (by omega)
        have HSZ := Aside0.mk hssz
        have HB := Aside0.mk cB
        have B6 := Aside0.mk cR
        clear hssz cB cR cN hD hK hcnt hmw
        have FIN := Aside0.mk (show w.heap.size ≤ D ∧ D ≠ g6 by have := HDL.out; have := hb4.size; omega)
        clear hb4 h6lt hs4 HALL b12 b64 bX
        go_wp2
        go_loop [16] (fun v16 => ∃ j : Nat, v16 = .int .i64 (j : Int) ∧ Aside0 (j ≤ m)) (fun v16 => m - (intOf v16).toNat)
        case atStart => exact ⟨0, rfl, ⟨Nat.zero_le _⟩⟩
        case round =>
          obtain ⟨j, rfl, HJ⟩ := hrel
          by_cases hj : j < m
          · have hjx : j < ss.size := by omega
            have qj : (((ss[j]'hjx).toNat : Int) != 32) = false := by rw [hbs _ hjx, hb0 j hj]; rfl
            have ij : decide ((j : Int) < (m : Int)) = true := decide_eq_true (by omega)
            have gj : (j : Int) < (ss.size : Int) := by omega
            have i8 : IntKind.i64.wrap ((j : Int) + 1) = ((j + 1 : Nat) : Int) := by rw [i64_w]; unfold wrap64; omega
            go_wp2
            go_round
            case rel => exact ⟨j + 1, by first | rfl | (simp; done), ⟨by omega⟩⟩
            case measure => simp [intOf]; omega
          · obtain rfl : j = m := by have := HJ.out; omega
            clear hbs hb0 hb1 hb2 q1 q2 r1 r2 r3 i1 i2 g1 g2 w1 hj HJ d12
            by_cases he : a = s.size
            · have z1 : ((a : Int) == (s.size : Int)) = true := beq_iff_eq.2 (by omega)
              go_wp2
              exact fin1 rfl B6.out HB.out G6.out HDK.out FIN.out.1 FIN.out.2 HQM.out
            have hax : a < s.size := by omega
            have z1 : ((a : Int) == (s.size : Int)) = false := beq_eq_false_iff_ne.2 (by omega)
            have z2 : (a : Int) < (s.size : Int) := by omega
            by_cases c1 : (s[a]'hax).toNat < 97
            · have z3 : decide (((s[a]'hax).toNat : Int) < 97) = true := decide_eq_true (by omega)
              go_wp2
              exact fin1 rfl B6.out HB.out G6.out HDK.out FIN.out.1 FIN.out.2 HQM.out
            have z3 : decide (((s[a]'hax).toNat : Int) < 97) = false := decide_eq_false (by omega)
            by_cases c2 : 122 < (s[a]'hax).toNat
            · have z4 : decide (122 < ((s[a]'hax).toNat : Int)) = true := decide_eq_true (by omega)
              go_wp2
              exact fin1 rfl B6.out HB.out G6.out HDK.out FIN.out.1 FIN.out.2 HQM.out
            have z4 : decide (122 < ((s[a]'hax).toNat : Int)) = false := decide_eq_false (by omega)
            have HA1 := Aside0.mk (show 97 ≤ by_ s.data.toList a ∧ by_ s.data.toList a ≤ 122 by rw [← by_at s a hax]; omega)
            obtain ⟨r1, r2, r3, r4, hsp⟩ : ∃ r1 r2 r3 r4, spotAns s (a : Int) = (r1, r2, r3, r4) := ⟨_, _, _, _, rfl⟩
            have hspf : place_Spot.f 1 s (a : Int) = some (r1, r2, r3, r4) := by rw [spot_eq s hs _ 1 (by omega), hsp]
            have hrow := row_of s a ha
            rw [hsp] at hrow
            dsimp only at hrow
            have hrl : r1 ≤ 9223372036854775807 := by
              have := cnt_le s.data.toList a
              have e1 : (spotAns s (a : Int)).1 = (cnt s.data.toList a : Int) + 1 := by unfold spotAns; rw [if_neg (by omega)]; rfl
              rw [hsp] at e1
              dsimp only at e1
              omega
            have hrf : place_Row.f (s.size + 1) s r1 = some (lineOf s a, 0) := by rw [rowf_eq s hs r1 hrl (s.size + 1) (by omega), hrow]
            have HSP := Aside0.mk (fun W => place_Spot.calls 1 s (a : Int) r1 r2 r3 r4 W hspf)
            have HRF := Aside0.mk (fun W => place_Row.calls (s.size + 1) s r1 (lineOf s a) 0 W hrf)
            clear c1 c2 he hsp hspf hrow hrl hrf
            go_wp2_with fail
            go_at_call 22
            refine (HSP.out W).mono ?_
            rintro e_ w5 ⟨rfl, hb5⟩
            have hA : Below W.heap.size W (w5.alloc (.cells #[.int .i64 r1, .int .i64 r2, .int .i64 r3] 23)) := hb5.alloc hb5.size _
            go_wp2_with fail
            go_at_call 20
            refine (HRF.out _).mono ?_
            rintro e_ w6 ⟨rfl, hb6⟩
            have hZ := hA.trans (hb6.below.mono hA.size)
            clear d6 e6
            have B6z := Aside0.mk (bx hZ B6.out)
            have HBz := Aside0.mk (HB.out.trans (hZ.mono HB.out.size))
            have hDl : D < W.heap.size := (Array.getElem?_eq_some_iff.1 HDK.out).1
            have HDz := Aside0.mk ((hZ.block D hDl).trans HDK.out)
            have c6z := B6z.out.cell
            have e6z := B6z.out.frozen
            obtain ⟨ln, hln⟩ : ∃ z, lineOf s a = z := ⟨_, rfl⟩
            have LNSZ : Aside0 (ln.size ≤ 4611686018427387904) := ⟨by rw [← hln]; have := (lineOf_size s a ha).2.1; omega⟩
            have HPL := Aside0.mk (fun hp => by have := S.hp hax HA1.out.1 HA1.out.2; rw [hln] at this; exact this hp)
            rw [hln]
            clear hA hb5 hb6 hZ hDl HSP HRF hln B6 HB HDK
            go_wp2
            go_loop [21] (fun v21 => ∃ j : Nat, v21 = .int .i64 (j : Int) ∧ Aside0 (j ≤ ln.size) ∧ Aside0 (∀ i, i < j → 97 ≤ by_ ln.data.toList i ∧ by_ ln.data.toList i ≤ 122)) (fun v21 => ln.size - (intOf v21).toNat)
            case atStart => exact ⟨0, rfl, ⟨Nat.zero_le _⟩, ⟨fun i h => absurd h (Nat.not_lt_zero i)⟩⟩
            case round =>
              obtain ⟨v, rfl, HV, HW⟩ := hrel
              by_cases hv : v < ln.size
              · have iv : decide ((v : Int) < (ln.size : Int)) = true := decide_eq_true (by omega)
                have gv : (v : Int) < (ln.size : Int) := by omega
                by_cases d1 : (ln[v]'hv).toNat < 97
                · have x1 : decide (((ln[v]'hv).toNat : Int) < 97) = true := decide_eq_true (by omega)
                  clear HPL
                  go_wp2
                  exact fin1 rfl B6z.out HBz.out G6.out HDz.out FIN.out.1 FIN.out.2 HQM.out
                have x1 : decide (((ln[v]'hv).toNat : Int) < 97) = false := decide_eq_false (by omega)
                by_cases d2 : 122 < (ln[v]'hv).toNat
                · have x2 : decide (122 < ((ln[v]'hv).toNat : Int)) = true := decide_eq_true (by omega)
                  clear HPL
                  go_wp2
                  exact fin1 rfl B6z.out HBz.out G6.out HDz.out FIN.out.1 FIN.out.2 HQM.out
                have x2 : decide (122 < ((ln[v]'hv).toNat : Int)) = false := decide_eq_false (by omega)
                have HW2 : Aside0 (∀ i, i < v + 1 → 97 ≤ by_ ln.data.toList i ∧ by_ ln.data.toList i ≤ 122) := ⟨fun i hi => by
                  by_cases e : i = v
                  · subst e
                    rw [← by_at ln i hv]
                    omega
                  · exact HW.out i (by omega)⟩
                have i8 : IntKind.i64.wrap ((v : Int) + 1) = ((v + 1 : Nat) : Int) := by
                  have hl : ln.size ≤ 4611686018427387904 := LNSZ.out
                  rw [i64_w]; unfold wrap64; omega
                clear HW d1 d2 HPL
                go_wp2
                go_round
                case rel => exact ⟨v + 1, by first | rfl | (simp; done), ⟨by omega⟩, HW2⟩
                case measure => simp [intOf]; omega
              · obtain rfl : v = ln.size := by have := HV.out; omega
                obtain ⟨y1, y2⟩ := HPL.out (fun i hi => HW.out i hi)
                rw [hm] at y1 y2
                rw [hn] at y1
                have hfm : j < fs.size := by omega
                have gm : (j : Int) < (fs.size : Int) := by omega
                have e1 : (fs[j]'hfm).toNat = by_ S.P j := by rw [by_at fs j hfm, HFSL.out]
                have e2 := by_at s a hax
                clear HPL HW HV hv
                have HFZ := Aside0.mk hfsz
                clear hfsz hn
                obtain ⟨bx_, hbx⟩ : ∃ z : Int, ((fs[j]'hfm).toNat : Int) = z := ⟨_, rfl⟩
                obtain ⟨by2, hby⟩ : ∃ z : Int, ((s[a]'hax).toNat : Int) = z := ⟨_, rfl⟩
                have HE1 := Aside0.mk e1
                have HE2 := Aside0.mk e2
                clear e1 e2
                have w3 : IntKind.i64.wrap (wd - 1) = wd - 1 := by rw [i64_w]; unfold wrap64; omega
                have iv : decide ((ln.size : Int) < (ln.size : Int)) = false := decide_eq_false (by omega)
                have im : decide ((j : Int) < (fs.size : Int)) = true := decide_eq_true gm
                by_cases f1 : bx_ = by2
                · have t1 : (bx_ == by2) = true := beq_iff_eq.2 f1
                  clear y2 HE1 HE2 f1
                  go_wp2
                  go_big_region
                  go_wp2
                  exact fin1d rfl B6z.out HBz.out G6.out HDz.out FIN.out.1 FIN.out.2 HQM.out
                have t1 : (bx_ == by2) = false := beq_eq_false_iff_ne.2 f1
                have y2' : (bx_ = 60 ∧ j = 0) ∨ (bx_ = 62 ∧ (j : Int) = wd - 1) := by
                  have g1 := HE1.out
                  have g2 := HE2.out
                  rcases y2 with y2 | ⟨y2, y3⟩ | ⟨y2, y3⟩
                  · exact absurd (by omega) f1
                  · exact .inl ⟨by omega, y3⟩
                  · exact .inr ⟨by omega, y3⟩
                clear y2 HE1 HE2
                rcases y2' with ⟨y2, y3⟩ | ⟨y2, y3⟩
                · have t2 : (bx_ == 60) = true := beq_iff_eq.2 y2
                  have t3 : ((j : Int) == 0) = true := beq_iff_eq.2 (by omega)
                  clear y2 y3 f1
                  go_wp2
                  go_big_region
                  go_wp2
                  exact fin1d rfl B6z.out HBz.out G6.out HDz.out FIN.out.1 FIN.out.2 HQM.out
                · have t2 : (bx_ == 60) = false := beq_eq_false_iff_ne.2 (by omega)
                  have t3 : (bx_ == 62) = true := beq_iff_eq.2 y2
                  have t4 : ((j : Int) == wd - 1) = true := beq_iff_eq.2 y3
                  clear y2 y3 f1
                  go_wp2
                  go_big_region
                  go_wp2
                  exact fin1d rfl B6z.out HBz.out G6.out HDz.out FIN.out.1 FIN.out.2 HQM.out
end Go.Proofs.Ytkjckdgknbfaiaa.Shows
