/- The walk of the law ForestKids: it answers true, and what lay ahead of the call lies as it lay. Conditions: a list of at most 2^20 nodes. -/
import Derived.Test.YtkebableanenkaaFreeN
import Derived.Test.YtkebableanenkaaCut
namespace Go.Proofs.Ytkebableanenkaa.LawKids
open Go.RowKit Go.Proofs.Ytkebableanenkaa.Qall Go.Proofs.Ytkebableanenkaa.Fo Go.Proofs.Ytkebableanenkaa.Free Go.Proofs.YtkebableanenkaaW.PrintWords Go.Proofs.YtkebableanenkaaW.PrintLast Go.Proofs.YtkebableanenkaaW.PrintMore
set_option linter.unusedSimpArgs false
set_option linter.unusedVariables false
theorem wrap_of {i : Int} (h0 : -9223372036854775808 ≤ i) (h1 : i ≤ 9223372036854775807) : wrap64 i = i := by
  unfold wrap64
  omega
theorem ints_l0 (l : List Int) (hn : l.length ≤ 2097152) : ∀ d i, i + d = l.length → ∃ k, dowelbook_Ints.l0 k l l (i : Int) = some true
  | 0, i, h => ⟨1, by rw [dowelbook_Ints.l0, if_neg (by omega)]⟩
  | d + 1, i, h => by
    obtain ⟨k, hk⟩ := ints_l0 l hn d (i + 1) (by omega)
    refine ⟨k + 1, ?_⟩
    rw [dowelbook_Ints.l0, if_pos (by omega), if_pos (by omega), if_pos (by omega), if_pos rfl, wrap_of (by omega) (by omega)]
    exact hk
theorem ints_self (l : List Int) (hn : l.length ≤ 2097152) : ∃ k, dowelbook_Ints.f k l l = some true := by
  obtain ⟨k, hk⟩ := ints_l0 l hn l.length 0 (by omega)
  refine ⟨k, ?_⟩
  unfold dowelbook_Ints.f
  rw [if_pos rfl]
  exact hk
theorem ev_at {α : Type} {g : Nat → Option α} {r : α} (h : Ev g r) : ∃ k, g k = some r := by
  obtain ⟨K, h⟩ : ∃ K, ∀ k, K ≤ k → g k = some r := h
  exact ⟨K, h K (Nat.le_refl _)⟩
theorem kidsAns_le (f : List S34) (i : Int) : (kidsAns f i).length ≤ f.length := by
  have hl : (ex (K f)).length = f.length := by rw [ex_length, K_length]
  unfold kidsAns
  split
  · cases h : rt f.length (ex (K f)) 0 with
    | none => simp
    | some l => have := rt_len _ _ _ l (ex_wf _) h; simp only [Option.getD_some]; omega
  · split
    · rename_i h1 h2
      split
      · simp
      · rename_i m hm
        obtain ⟨x, hx, _, _, hxn, _⟩ := kids_some f i.toNat (by omega) m hm
        rw [hx, kd_length]
        simpa using hxn
    · simp
theorem cutAns_le (f : List S34) (i : Int) : (cutAns f i).length ≤ f.length := by
  unfold cutAns
  split
  · split
    · simp
    · simp only [List.length_drop, List.length_take]; omega
  · simp
/-- The list that the law writes itself. -/
def twin : List S34 := [⟨⟨#[97]⟩, 0, 0, 0⟩, ⟨⟨#[97]⟩, 0, 0, 0⟩]
theorem twin_C (W : World) (g : Nat) (hg : W.heap[g]? = some (.cells #[.string ⟨#[97]⟩, .int .i64 0, .int .i64 0, .int .i64 0, .string ⟨#[97]⟩, .int .i64 0, .int .i64 0, .int .i64 0] 34 (0, 0))) : Kd.C k34 W (some ⟨g, 0, none⟩) twin.length twin :=
  (Kd.R_reads' (Lend.R_of W 0 (fun _ => True) g 2 _ twin hg (Nat.zero_le _) trivial (Nat.le_refl _) (by unfold maxLen; decide) rfl rfl)).2.2
theorem ints_C (W : World) (g : Nat) (hg : W.heap[g]? = some (.cells #[.int .i64 0, .int .i64 1] 3 (0, 0))) : Kd.C (Kd.int .i64) W (some ⟨g, 0, none⟩) ([0, 1] : List Int).length [0, 1] := by
  have h : Kd.R (Kd.int .i64) 3 W 0 (fun _ => True) (.slice (some ⟨g, 0, none⟩) 2 2) [0, 1] := by
    refine ⟨fun k hk => trivial, [.int .i64 0, .int .i64 1], ⟨rfl, .inr ⟨g, 2, _, rfl, Nat.zero_le _, hg, Nat.le_refl _, by unfold maxLen; decide, rfl, rfl⟩⟩, ⟨rfl, fun j p hp => ?_⟩⟩
    obtain ⟨hlt, rfl⟩ := List.getElem?_eq_some_iff.1 hp
    obtain rfl | rfl : j = 0 ∨ j = 1 := by simp at hlt; omega
    · rfl
    · rfl
  exact (Kd.R_reads' h).2.2
theorem twin_kids : kidsAns twin (-1) = [0, 1] := by decide +kernel
set_option maxRecDepth 100000 in
set_option maxHeartbeats 4000000 in
theorem Kids_walk (f : List S34) (hn : f.length ≤ 1048576) (hbd : ∀ c ∈ f, c.f3 ≤ 9223372036854775807) (Af : Option Addr) (cf : Nat) (i k : Int) (w : World) (hCf : Kd.C k34 w Af f.length f) (hcf : f.length ≤ cf) :
    Calls Try.prog 5 #[.slice Af f.length cf, .int .i64 i, .int .i64 k] w fun e w' => e = .returned (.bool true) ∧ Below w.heap.size w w' := by
  obtain ⟨Ki, HKi⟩ := ev_at (kids_ev f (by omega) i)
  obtain ⟨Kk, HKk⟩ := ev_at (kids_ev f (by omega) k)
  obtain ⟨Ri, HRi⟩ := ev_at (refKids_ev f (by omega) hbd i)
  obtain ⟨Rk, HRk⟩ := ev_at (refKids_ev f (by omega) hbd k)
  obtain ⟨Ci, HCi⟩ := ev_at (refCut_ev f (by omega) hbd i)
  obtain ⟨Ck, HCk⟩ := ev_at (refCut_ev f (by omega) hbd k)
  have lki := kidsAns_le f i
  have lkk := kidsAns_le f k
  have lci := cutAns_le f i
  have lck := cutAns_le f k
  obtain ⟨Ii, HIi⟩ := ints_self (kidsAns f i) (by omega)
  obtain ⟨Ik, HIk⟩ := ints_self (kidsAns f k) (by omega)
  obtain ⟨Si, HSi⟩ := Lend.spans_self (cutAns f i) (by omega)
  obtain ⟨Sk, HSk⟩ := Lend.spans_self (cutAns f k) (by omega)
  obtain ⟨KT, HKT⟩ := ev_at (kids_ev twin (by decide) (-1))
  obtain ⟨KI, HKI⟩ := ints_self [0, 1] (by decide)
  rw [twin_kids] at HKT
  obtain ⟨ki, hki⟩ : ∃ x, kidsAns f i = x := ⟨_, rfl⟩
  obtain ⟨kk, hkk⟩ : ∃ x, kidsAns f k = x := ⟨_, rfl⟩
  obtain ⟨ci, hci⟩ : ∃ x, cutAns f i = x := ⟨_, rfl⟩
  obtain ⟨ck, hck⟩ : ∃ x, cutAns f k = x := ⟨_, rfl⟩
  rw [hki] at HKi HRi lki HIi
  rw [hkk] at HKk HRk lkk HIk
  rw [hci] at HCi lci HSi
  rw [hck] at HCk lck HSk
  replace lki : ki.length ≤ 2097152 := by omega
  replace lkk : kk.length ≤ 2097152 := by omega
  replace lci : ci.length ≤ 2097152 := by omega
  replace lck : ck.length ≤ 2097152 := by omega
  replace HKi := Aside0.mk HKi
  replace HKk := Aside0.mk HKk
  replace HRi := Aside0.mk HRi
  replace HRk := Aside0.mk HRk
  replace HCi := Aside0.mk HCi
  replace HCk := Aside0.mk HCk
  replace HIi := Aside0.mk HIi
  replace HIk := Aside0.mk HIk
  replace HSi := Aside0.mk HSi
  replace HSk := Aside0.mk HSk
  replace HKT := Aside0.mk HKT
  replace HKI := Aside0.mk HKI
  have Hci := Aside0.mk hci
  have Hck := Aside0.mk hck
  clear hki hkk hci hck hbd
  have hnb : decide (1048585 < f.length) = false := by simpa using (by omega : ¬ 1048585 < f.length)
  go_enter Try.func5, Try.ntmps5
  have B_w := Below.refl w.heap.size w
  go_wp2_with fail
  go_at_call 9
  refine (Lend.lend f Af cf w hCf (by omega)).mono ?_
  rintro e w1 ⟨g, cap, cur, hg, rfl, hcap, hmax, hcur, hcs, htake, hb1⟩
  have h1 : Below w.heap.size w w1 := hb1
  replace B_w := B_w.trans (h1.mono B_w.size)
  have B_w1 := Below.refl w1.heap.size w1
  have hglt : g < w1.heap.size := (Array.getElem?_eq_some_iff.1 hcur).1
  have OWN := fun (W : World) (hW : Below w1.heap.size w1 W) => own_R W w.heap.size g cap cur f ((hW.block g hglt).trans hcur) hg hcap hmax hcs htake
  have OWNC := fun (W : World) (hW : Below w1.heap.size w1 W) => (Kd.R_reads' (OWN W hW)).2.2
  have hcap2 : f.length ≤ cap := by omega
  have HKEPT := fun (W : World) (hW : Below w1.heap.size w1 W) (hW0 : Below w.heap.size w W) => Lend.kept f (by omega) Af cf g cap cur W (Kd.C_below hCf hW0) hcf ((hW.block g hglt).trans hcur) hcap hmax hcs htake
  have HO := Aside0.mk OWN
  have HOC := Aside0.mk OWNC
  have HK := Aside0.mk HKEPT
  clear OWN OWNC HKEPT hcs htake hcur
  go_wp2_with fail
  go_at_call 13
  refine (forest_Kids.calls Ki (some ⟨g, 0, none⟩) cap f i ki w1 (HOC.out _ B_w1) hcap2 HKi.out).mono ?_
  rintro e w2 ⟨v2, rfl, R2, hb2⟩
  have h2 : Below w1.heap.size w1 w2 := hb2
  replace B_w := B_w.trans (h2.mono B_w.size)
  replace B_w1 := B_w1.trans (h2.mono B_w1.size)
  have B_w2 := Below.refl w2.heap.size w2
  obtain ⟨A2, c2, rfl⟩ := Kd.R_slice R2
  have Q2 := (Kd.R_reads' R2).2
  go_wp2_with fail
  go_at_call 13
  refine (forest_Kids.calls Kk (some ⟨g, 0, none⟩) cap f k kk w2 (HOC.out _ B_w1) hcap2 HKk.out).mono ?_
  rintro e w3 ⟨v3, rfl, R3, hb3⟩
  have h3 : Below w2.heap.size w2 w3 := hb3
  replace B_w := B_w.trans (h3.mono B_w.size)
  replace B_w1 := B_w1.trans (h3.mono B_w1.size)
  replace B_w2 := B_w2.trans (h3.mono B_w2.size)
  have B_w3 := Below.refl w3.heap.size w3
  obtain ⟨A3, c3, rfl⟩ := Kd.R_slice R3
  have Q3 := (Kd.R_reads' R3).2
  go_wp2_with fail
  go_at_call 13
  refine (forest_Kids.calls Ki (some ⟨g, 0, none⟩) cap f i ki w3 (HOC.out _ B_w1) hcap2 HKi.out).mono ?_
  rintro e w4 ⟨v4, rfl, R4, hb4⟩
  have h4 : Below w3.heap.size w3 w4 := hb4
  replace B_w := B_w.trans (h4.mono B_w.size)
  replace B_w1 := B_w1.trans (h4.mono B_w1.size)
  replace B_w2 := B_w2.trans (h4.mono B_w2.size)
  replace B_w3 := B_w3.trans (h4.mono B_w3.size)
  have B_w4 := Below.refl w4.heap.size w4
  obtain ⟨A4, c4, rfl⟩ := Kd.R_slice R4
  have Q4 := (Kd.R_reads' R4).2
  go_wp2_with fail
  go_at_call 14
  refine (dowelref12_Kids.calls Ri Af cf f i ki w4 (Kd.C_below hCf B_w) hcf HRi.out).mono ?_
  rintro e w5 ⟨v5, rfl, R5, hb5⟩
  have h5 : Below w4.heap.size w4 w5 := hb5
  replace B_w := B_w.trans (h5.mono B_w.size)
  replace B_w1 := B_w1.trans (h5.mono B_w1.size)
  replace B_w2 := B_w2.trans (h5.mono B_w2.size)
  replace B_w3 := B_w3.trans (h5.mono B_w3.size)
  replace B_w4 := B_w4.trans (h5.mono B_w4.size)
  have B_w5 := Below.refl w5.heap.size w5
  obtain ⟨A5, c5, rfl⟩ := Kd.R_slice R5
  have Q5 := (Kd.R_reads' R5).2
  go_wp2_with fail
  go_at_call 15
  refine (dowelbook_Ints.calls Ii A2 c2 ki A5 c5 ki true w5 (Kd.C_below Q2.2 B_w2) Q2.1 (Kd.C_below Q5.2 B_w5) Q5.1 HIi.out).mono ?_
  rintro e w6 ⟨rfl, hd⟩
  have hb6 := hd.below
  clear hd
  have h6 : Below w5.heap.size w5 w6 := hb6
  replace B_w := B_w.trans (h6.mono B_w.size)
  replace B_w1 := B_w1.trans (h6.mono B_w1.size)
  replace B_w2 := B_w2.trans (h6.mono B_w2.size)
  replace B_w3 := B_w3.trans (h6.mono B_w3.size)
  replace B_w4 := B_w4.trans (h6.mono B_w4.size)
  replace B_w5 := B_w5.trans (h6.mono B_w5.size)
  have B_w6 := Below.refl w6.heap.size w6
  go_wp2_with fail
  go_at_call 14
  refine (dowelref12_Kids.calls Rk Af cf f k kk w6 (Kd.C_below hCf B_w) hcf HRk.out).mono ?_
  rintro e w7 ⟨v7, rfl, R7, hb7⟩
  have h7 : Below w6.heap.size w6 w7 := hb7
  replace B_w := B_w.trans (h7.mono B_w.size)
  replace B_w1 := B_w1.trans (h7.mono B_w1.size)
  replace B_w2 := B_w2.trans (h7.mono B_w2.size)
  replace B_w3 := B_w3.trans (h7.mono B_w3.size)
  replace B_w4 := B_w4.trans (h7.mono B_w4.size)
  replace B_w5 := B_w5.trans (h7.mono B_w5.size)
  replace B_w6 := B_w6.trans (h7.mono B_w6.size)
  have B_w7 := Below.refl w7.heap.size w7
  obtain ⟨A7, c7, rfl⟩ := Kd.R_slice R7
  have Q7 := (Kd.R_reads' R7).2
  go_wp2_with fail
  go_at_call 15
  refine (dowelbook_Ints.calls Ik A3 c3 kk A7 c7 kk true w7 (Kd.C_below Q3.2 B_w3) Q3.1 (Kd.C_below Q7.2 B_w7) Q7.1 HIk.out).mono ?_
  rintro e w8 ⟨rfl, hd⟩
  have hb8 := hd.below
  clear hd
  have h8 : Below w7.heap.size w7 w8 := hb8
  replace B_w := B_w.trans (h8.mono B_w.size)
  replace B_w1 := B_w1.trans (h8.mono B_w1.size)
  replace B_w2 := B_w2.trans (h8.mono B_w2.size)
  replace B_w3 := B_w3.trans (h8.mono B_w3.size)
  replace B_w4 := B_w4.trans (h8.mono B_w4.size)
  replace B_w5 := B_w5.trans (h8.mono B_w5.size)
  replace B_w6 := B_w6.trans (h8.mono B_w6.size)
  replace B_w7 := B_w7.trans (h8.mono B_w7.size)
  have B_w8 := Below.refl w8.heap.size w8
  go_wp2_with fail
  go_at_call 15
  refine (dowelbook_Ints.calls Ii A4 c4 ki A5 c5 ki true w8 (Kd.C_below Q4.2 B_w4) Q4.1 (Kd.C_below Q5.2 B_w5) Q5.1 HIi.out).mono ?_
  rintro e w9 ⟨rfl, hd⟩
  have hb9 := hd.below
  clear hd
  have h9 : Below w8.heap.size w8 w9 := hb9
  replace B_w := B_w.trans (h9.mono B_w.size)
  replace B_w1 := B_w1.trans (h9.mono B_w1.size)
  replace B_w2 := B_w2.trans (h9.mono B_w2.size)
  replace B_w3 := B_w3.trans (h9.mono B_w3.size)
  replace B_w4 := B_w4.trans (h9.mono B_w4.size)
  replace B_w5 := B_w5.trans (h9.mono B_w5.size)
  replace B_w6 := B_w6.trans (h9.mono B_w6.size)
  replace B_w7 := B_w7.trans (h9.mono B_w7.size)
  replace B_w8 := B_w8.trans (h9.mono B_w8.size)
  have B_w9 := Below.refl w9.heap.size w9
  go_wp2_with fail
  go_at_call 11
  refine (HK.out w9 B_w1 B_w).mono ?_
  rintro e w10 ⟨rfl, hb10⟩
  have h10 : Below w9.heap.size w9 w10 := hb10
  replace B_w := B_w.trans (h10.mono B_w.size)
  replace B_w1 := B_w1.trans (h10.mono B_w1.size)
  replace B_w2 := B_w2.trans (h10.mono B_w2.size)
  replace B_w3 := B_w3.trans (h10.mono B_w3.size)
  replace B_w4 := B_w4.trans (h10.mono B_w4.size)
  replace B_w5 := B_w5.trans (h10.mono B_w5.size)
  replace B_w6 := B_w6.trans (h10.mono B_w6.size)
  replace B_w7 := B_w7.trans (h10.mono B_w7.size)
  replace B_w8 := B_w8.trans (h10.mono B_w8.size)
  replace B_w9 := B_w9.trans (h10.mono B_w9.size)
  have B_w10 := Below.refl w10.heap.size w10
  have b12 : w1.heap.size ≤ w2.heap.size := h2.size
  have b23 : w2.heap.size ≤ w3.heap.size := h3.size
  have b13 : w1.heap.size ≤ w3.heap.size := by omega
  have b10 := B_w1.size
  have b01 := h1.size
  have f3 := freeInts3 w1.heap.size w10.heap.size (w10.alloc (.cells #[.slice A2 ki.length c2, .slice A3 kk.length c3, .slice A4 ki.length c4] 24)) (heap_new _ _) (Kd.R_alloc (Kd.R_lower (Kd.R_below R2 B_w2) (Nat.le_refl _)) _) (Kd.R_alloc (Kd.R_lower (Kd.R_below R3 B_w3) b12) _) (Kd.R_alloc (Kd.R_lower (Kd.R_below R4 B_w4) b13) _) (Ap.of R2 R3 (Nat.le_refl _)) (Ap.of R2 R4 b23) (Ap.of R3 R4 (Nat.le_refl _)) lki lkk lki (by simp; omega)
  go_wp2_with fail
  go_at_call 16
  refine (f3).mono ?_
  rintro e w11 ⟨rfl, hb11⟩
  have a11 := ((Below.refl w10.heap.size w10).alloc (Nat.le_refl _) (.cells #[.slice A2 ki.length c2, .slice A3 kk.length c3, .slice A4 ki.length c4] 24))
  replace B_w := (B_w.trans (a11.mono B_w.size)).trans (hb11.mono (by omega))
  replace B_w1 := (B_w1.trans (a11.mono B_w1.size)).trans (hb11.mono (by omega))
  clear B_w2
  clear B_w3
  clear B_w4
  clear B_w5
  clear B_w6
  clear B_w7
  clear B_w8
  clear B_w9
  clear B_w10
  have B_w11 := Below.refl w11.heap.size w11
  clear f3 R2 R3 R4 R5 R7 Q2 Q3 Q4 Q5 Q7
  have e111 : w1.heap.size ≤ w11.heap.size := B_w1.size
  have e011 : w.heap.size ≤ w11.heap.size := B_w.size
  go_wp2_with fail
  go_at_call 17
  refine (cut_calls f (by omega) (some ⟨g, 0, none⟩) cap i w11 (HOC.out _ B_w1) hcap2).mono ?_
  rintro e w12 ⟨v12, rfl, R12, hb12⟩
  have h12 : Below w11.heap.size w11 w12 := hb12
  replace B_w := B_w.trans (h12.mono B_w.size)
  replace B_w1 := B_w1.trans (h12.mono B_w1.size)
  replace B_w11 := B_w11.trans (h12.mono B_w11.size)
  have B_w12 := Below.refl w12.heap.size w12
  rw [Hci.out] at R12
  obtain ⟨A12, c12, rfl⟩ := Kd.R_slice R12
  have Q12 := (Kd.R_reads' R12).2
  go_wp2_with fail
  go_at_call 17
  refine (cut_calls f (by omega) (some ⟨g, 0, none⟩) cap k w12 (HOC.out _ B_w1) hcap2).mono ?_
  rintro e w13 ⟨v13, rfl, R13, hb13⟩
  have h13 : Below w12.heap.size w12 w13 := hb13
  replace B_w := B_w.trans (h13.mono B_w.size)
  replace B_w1 := B_w1.trans (h13.mono B_w1.size)
  replace B_w11 := B_w11.trans (h13.mono B_w11.size)
  replace B_w12 := B_w12.trans (h13.mono B_w12.size)
  have B_w13 := Below.refl w13.heap.size w13
  rw [Hck.out] at R13
  obtain ⟨A13, c13, rfl⟩ := Kd.R_slice R13
  have Q13 := (Kd.R_reads' R13).2
  go_wp2_with fail
  go_at_call 17
  refine (cut_calls f (by omega) (some ⟨g, 0, none⟩) cap i w13 (HOC.out _ B_w1) hcap2).mono ?_
  rintro e w14 ⟨v14, rfl, R14, hb14⟩
  have h14 : Below w13.heap.size w13 w14 := hb14
  replace B_w := B_w.trans (h14.mono B_w.size)
  replace B_w1 := B_w1.trans (h14.mono B_w1.size)
  replace B_w11 := B_w11.trans (h14.mono B_w11.size)
  replace B_w12 := B_w12.trans (h14.mono B_w12.size)
  replace B_w13 := B_w13.trans (h14.mono B_w13.size)
  have B_w14 := Below.refl w14.heap.size w14
  rw [Hci.out] at R14
  obtain ⟨A14, c14, rfl⟩ := Kd.R_slice R14
  have Q14 := (Kd.R_reads' R14).2
  go_wp2_with fail
  go_at_call 18
  refine (dowelref12_Cut.calls Ci Af cf f i ci w14 (Kd.C_below hCf B_w) hcf HCi.out).mono ?_
  rintro e w15 ⟨v15, rfl, R15, hb15⟩
  have h15 : Below w14.heap.size w14 w15 := hb15
  replace B_w := B_w.trans (h15.mono B_w.size)
  replace B_w1 := B_w1.trans (h15.mono B_w1.size)
  replace B_w11 := B_w11.trans (h15.mono B_w11.size)
  replace B_w12 := B_w12.trans (h15.mono B_w12.size)
  replace B_w13 := B_w13.trans (h15.mono B_w13.size)
  replace B_w14 := B_w14.trans (h15.mono B_w14.size)
  have B_w15 := Below.refl w15.heap.size w15
  obtain ⟨A15, c15, rfl⟩ := Kd.R_slice R15
  have Q15 := (Kd.R_reads' R15).2
  go_wp2_with fail
  go_at_call 19
  refine (dowelbook_Spans.calls Si A12 c12 ci A15 c15 ci true w15 (Kd.C_below Q12.2 B_w12) Q12.1 (Kd.C_below Q15.2 B_w15) Q15.1 HSi.out).mono ?_
  rintro e w16 ⟨rfl, hd⟩
  have hb16 := hd.below
  clear hd
  have h16 : Below w15.heap.size w15 w16 := hb16
  replace B_w := B_w.trans (h16.mono B_w.size)
  replace B_w1 := B_w1.trans (h16.mono B_w1.size)
  replace B_w11 := B_w11.trans (h16.mono B_w11.size)
  replace B_w12 := B_w12.trans (h16.mono B_w12.size)
  replace B_w13 := B_w13.trans (h16.mono B_w13.size)
  replace B_w14 := B_w14.trans (h16.mono B_w14.size)
  replace B_w15 := B_w15.trans (h16.mono B_w15.size)
  have B_w16 := Below.refl w16.heap.size w16
  go_wp2_with fail
  go_at_call 18
  refine (dowelref12_Cut.calls Ck Af cf f k ck w16 (Kd.C_below hCf B_w) hcf HCk.out).mono ?_
  rintro e w17 ⟨v17, rfl, R17, hb17⟩
  have h17 : Below w16.heap.size w16 w17 := hb17
  replace B_w := B_w.trans (h17.mono B_w.size)
  replace B_w1 := B_w1.trans (h17.mono B_w1.size)
  replace B_w11 := B_w11.trans (h17.mono B_w11.size)
  replace B_w12 := B_w12.trans (h17.mono B_w12.size)
  replace B_w13 := B_w13.trans (h17.mono B_w13.size)
  replace B_w14 := B_w14.trans (h17.mono B_w14.size)
  replace B_w15 := B_w15.trans (h17.mono B_w15.size)
  replace B_w16 := B_w16.trans (h17.mono B_w16.size)
  have B_w17 := Below.refl w17.heap.size w17
  obtain ⟨A17, c17, rfl⟩ := Kd.R_slice R17
  have Q17 := (Kd.R_reads' R17).2
  go_wp2_with fail
  go_at_call 19
  refine (dowelbook_Spans.calls Sk A13 c13 ck A17 c17 ck true w17 (Kd.C_below Q13.2 B_w13) Q13.1 (Kd.C_below Q17.2 B_w17) Q17.1 HSk.out).mono ?_
  rintro e w18 ⟨rfl, hd⟩
  have hb18 := hd.below
  clear hd
  have h18 : Below w17.heap.size w17 w18 := hb18
  replace B_w := B_w.trans (h18.mono B_w.size)
  replace B_w1 := B_w1.trans (h18.mono B_w1.size)
  replace B_w11 := B_w11.trans (h18.mono B_w11.size)
  replace B_w12 := B_w12.trans (h18.mono B_w12.size)
  replace B_w13 := B_w13.trans (h18.mono B_w13.size)
  replace B_w14 := B_w14.trans (h18.mono B_w14.size)
  replace B_w15 := B_w15.trans (h18.mono B_w15.size)
  replace B_w16 := B_w16.trans (h18.mono B_w16.size)
  replace B_w17 := B_w17.trans (h18.mono B_w17.size)
  have B_w18 := Below.refl w18.heap.size w18
  go_wp2_with fail
  go_at_call 19
  refine (dowelbook_Spans.calls Si A14 c14 ci A15 c15 ci true w18 (Kd.C_below Q14.2 B_w14) Q14.1 (Kd.C_below Q15.2 B_w15) Q15.1 HSi.out).mono ?_
  rintro e w19 ⟨rfl, hd⟩
  have hb19 := hd.below
  clear hd
  have h19 : Below w18.heap.size w18 w19 := hb19
  replace B_w := B_w.trans (h19.mono B_w.size)
  replace B_w1 := B_w1.trans (h19.mono B_w1.size)
  replace B_w11 := B_w11.trans (h19.mono B_w11.size)
  replace B_w12 := B_w12.trans (h19.mono B_w12.size)
  replace B_w13 := B_w13.trans (h19.mono B_w13.size)
  replace B_w14 := B_w14.trans (h19.mono B_w14.size)
  replace B_w15 := B_w15.trans (h19.mono B_w15.size)
  replace B_w16 := B_w16.trans (h19.mono B_w16.size)
  replace B_w17 := B_w17.trans (h19.mono B_w17.size)
  replace B_w18 := B_w18.trans (h19.mono B_w18.size)
  have B_w19 := Below.refl w19.heap.size w19
  have OW := HO.out w19 B_w1
  have b1 := B_w1.size
  have b11 := B_w1.size
  have n12 := h12.size
  have n13 := h13.size
  have n14 := h14.size
  have OW1 := HO.out w1 (Below.refl _ _)
  have b011 : w.heap.size ≤ w11.heap.size := by omega
  have b111 : w1.heap.size ≤ w11.heap.size := e111
  have f4 := freeSpans4 w.heap.size w19.heap.size (w19.alloc (.cells #[.slice A12 ci.length c12, .slice A13 ck.length c13, .slice A14 ci.length c14, .slice (some ⟨g, 0, none⟩) f.length cap] 23)) (heap_new _ _) (Kd.R_alloc (Kd.R_lower (Kd.R_below R12 B_w12) b011) _) (Kd.R_alloc (Kd.R_lower (Kd.R_below R13 B_w13) (by omega)) _) (Kd.R_alloc (Kd.R_lower (Kd.R_below R14 B_w14) (by omega)) _) (Kd.R_alloc OW _) (Ap.of R12 R13 (Nat.le_refl _)) (Ap.of R12 R14 (by omega)) (Ap.of OW1 R12 b111).symm (Ap.of R13 R14 (Nat.le_refl _)) (Ap.of OW1 R13 (by omega)).symm (Ap.of OW1 R14 (by omega)).symm lci lck lci (by omega) (by simp; omega)
  go_wp2_with fail
  go_at_call 20
  refine (f4).mono ?_
  rintro e w20 ⟨rfl, hb20⟩
  have a20 := ((Below.refl w19.heap.size w19).alloc (Nat.le_refl _) (.cells #[.slice A12 ci.length c12, .slice A13 ck.length c13, .slice A14 ci.length c14, .slice (some ⟨g, 0, none⟩) f.length cap] 23))
  replace B_w := (B_w.trans (a20.mono B_w.size)).trans (hb20.mono (by omega))
  clear B_w1
  clear B_w11
  clear B_w12
  clear B_w13
  clear B_w14
  clear B_w15
  clear B_w16
  clear B_w17
  clear B_w18
  clear B_w19
  have B_w20 := Below.refl w20.heap.size w20
  clear f4 OW OW1 R12 R13 R14 R15 R17 Q12 Q13 Q14 Q15 Q17
  go_wp2_with fail
  go_at_call 13
  refine (forest_Kids.calls KT (some ⟨w20.heap.size, 0, none⟩) 2 twin (-1) [0, 1] (w20.alloc (.cells #[.string ⟨#[97]⟩, .int .i64 0, .int .i64 0, .int .i64 0, .string ⟨#[97]⟩, .int .i64 0, .int .i64 0, .int .i64 0] 34)) (twin_C _ _ (heap_new _ _)) (by decide) HKT.out).mono ?_
  rintro e w21 ⟨v21, rfl, R21, hb21⟩
  have h21 : Below w20.heap.size w20 w21 := ((Below.refl w20.heap.size w20).alloc (Nat.le_refl _) (.cells #[.string ⟨#[97]⟩, .int .i64 0, .int .i64 0, .int .i64 0, .string ⟨#[97]⟩, .int .i64 0, .int .i64 0, .int .i64 0] 34)).trans (hb21.mono (by simp))
  replace B_w := B_w.trans (h21.mono B_w.size)
  replace B_w20 := B_w20.trans (h21.mono B_w20.size)
  have B_w21 := Below.refl w21.heap.size w21
  obtain ⟨A21, c21, rfl⟩ := Kd.R_slice R21
  have Q21 := (Kd.R_reads' R21).2
  go_wp2_with fail
  go_at_call 15
  refine (dowelbook_Ints.calls KI A21 c21 [0, 1] (some ⟨w21.heap.size, 0, none⟩) 2 [0, 1] true (w21.alloc (.cells #[.int .i64 0, .int .i64 1] 3)) (Kd.C_alloc Q21.2 _) Q21.1 (ints_C _ _ (heap_new _ _)) (by decide) HKI.out).mono ?_
  rintro e w22 ⟨rfl, hd⟩
  have hb22 := hd.below
  clear hd
  have h22 : Below w21.heap.size w21 w22 := ((Below.refl w21.heap.size w21).alloc (Nat.le_refl _) (.cells #[.int .i64 0, .int .i64 1] 3)).trans (hb22.mono (by simp))
  replace B_w := B_w.trans (h22.mono B_w.size)
  replace B_w20 := B_w20.trans (h22.mono B_w20.size)
  replace B_w21 := B_w21.trans (h22.mono B_w21.size)
  have B_w22 := Below.refl w22.heap.size w22
  go_wp2
  go_ret
  exact ⟨rfl, B_w⟩
end Go.Proofs.Ytkebableanenkaa.LawKids
