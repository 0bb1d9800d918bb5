/- The walk of the law ReportBack: it answers true, and what lay ahead of the call lies as it lay. Conditions: a list of at most 2^20 nodes, names of at most 2^20 bytes; what forest.Parse and strconv.Itoa ask. -/
import Derived.Test.YtloflodbcdlmpaaDoorRepV2
import Derived.Test.YtloflodbcdlmpaaDoorBallx1
import Derived.Deep.QuietTactic
import Derived.BigQuiet
namespace Go.Proofs.YtloflodbcdlmpaaDoor.LawBk
open Go.RowKit Go.Proofs.YtloflodbcdlmpaaDoor.Qall Go.Proofs.YtloflodbcdlmpaaDoor.Rp Go.Proofs.YtloflodbcdlmpaaDoorW.PrintWords Go.Proofs.YtloflodbcdlmpaaDoorW.PrintLast Go.Proofs.YtloflodbcdlmpaaDoorW.PrintMore
set_option linter.unusedSimpArgs false
set_option linter.unusedVariables false
theorem lent_ev (k e : Int) (l : ByteArray) (f : List SO) (hf : few f = true) : dowellaw28_lent.f k e l f = some (k, e, l, f) := by
  unfold dowellaw28_lent.f dowelbook_LendSpans.f
  rw [if_pos hf, Option.bind_some]
/-- What has no text. -/
theorem out_err (k e : Int) (l : ByteArray) (f : List SO) (s : ByteArray) (er : Int) (h : outAns k e l f = (s, er)) (he : er ≠ 0) : s = ⟨#[]⟩ ∧ ((er = 6 ∧ rgt k e l f = false) ∨ (er = 2 ∧ k = 1 ∧ l = ⟨#[]⟩ ∧ Chk.chkAns f e = 0)) := by
  unfold outAns at h
  by_cases hr : rgt k e l f = true
  · rw [if_pos hr] at h
    have hsm : ∀ x : ByteArray, x.size ≤ 4194000 → f = [] → ¬ (k = 1) → False := fun x _ hf hk => by
      subst hf
      rw [txt_nil, if_pos rfl] at h
      by_cases hz : (headB k e l ++ (⟨#[]⟩ : ByteArray)).size ≤ 4194304
      · rw [if_pos hz] at h
        injection h with _ h
        exact he h.symm
      · have hh : (headB k e l).size ≤ 200 := by
          unfold headB headL
          rw [size_mk]
          rcases rgt_cases k e l [] hr with ⟨rfl, rfl, rfl, _⟩ | ⟨h1, _⟩ | ⟨rfl, hn, _, h1, h2⟩
          · decide
          · exact absurd h1 hk
          · have hle := itoa_le e h1 h2
            have hll : l.data.toList.length = l.size := data_length l
            have hl64 : l.size ≤ 64 := (of_decide_eq_true hn).2.1
            rw [if_neg (by decide), if_pos rfl]
            simp only [List.length_append, List.length_cons, List.length_nil, thr]
            omega
        rw [ByteArray.size_append] at hz
        have : (⟨#[]⟩ : ByteArray).size = 0 := rfl
        omega
    rcases rgt_cases k e l f hr with ⟨h1, _, _, hf⟩ | ⟨h1, h2, h3⟩ | ⟨h1, _, hf, _⟩
    · exact (hsm ⟨#[]⟩ (Nat.zero_le _) hf (by omega)).elim
    · by_cases ht : (Tx.txtAns f).2 = 0
      · rw [if_pos ht] at h
        split at h
        · injection h with _ h; exact absurd h.symm he
        · injection h with h5 h6; exact ⟨h5.symm, .inr ⟨h6.symm, h1, h2, h3⟩⟩
      · rw [if_neg ht] at h
        injection h with h5 h6
        have hc := ((chk_at f e).1 h3).1
        unfold Tx.txtAns at ht h6
        rw [if_pos hc] at ht h6
        split at ht
        · exact absurd rfl ht
        · rename_i hz
          rw [if_neg hz] at h6
          exact ⟨h5.symm, .inr ⟨h6.symm, h1, h2, h3⟩⟩
    · exact (hsm ⟨#[]⟩ (Nat.zero_le _) hf (by omega)).elim
  · rw [if_neg hr] at h
    injection h with h1 h2
    exact ⟨h1.symm, .inl ⟨h2.symm, Bool.eq_false_iff.2 hr⟩⟩
def dowellaw28_ReportBack.T7 : Bool × List (List Nat × List Nat) := (true, [([], []), ([0], [0]), ([1], [1]), ([2], [2]), ([3], [3]), ([4, 3], [3, 4]), ([5, 3], [3, 5]), ([3, 6], [3, 6]), ([7, 3], [7]), ([8], [8]), ([9, 8], [8, 9]), ([10, 8], [8, 10]), ([8, 11], [8, 11]), ([12, 8], [12]), ([13], [13]), ([14, 13], [13, 14]), ([15, 13], [13, 15]), ([16, 13], [13, 16]), ([13, 17], [13, 17]), ([18, 13], [18]), ([19], [19]), ([20, 19], [19, 20]), ([21, 19], [19, 21]), ([22, 19, 19], [19, 22]), ([23], [23]), ([24, 23], [23, 24]), ([25, 23], [23, 25]), ([23, 26, 19], [19, 23, 26]), ([27, 23, 19], [19, 27]), ([28], [28]), ([29, 28], [28, 29]), ([30, 28], [28, 30]), ([28, 31, 19], [19, 28, 31]), ([32, 28, 19], [19, 32]), ([33], [33]), ([34, 33], [33, 34]), ([35, 33], [33, 35]), ([33, 36, 19], [19, 33, 36]), ([37, 33, 19], [19, 37]), ([38], [38]), ([39, 38], [38, 39]), ([40, 38, 38], [38, 40]), ([38], [38]), ([42, 38], [38, 42]), ([41, 43, 41, 38], [38, 41, 43]), ([44, 38], [38, 44]), ([38, 45, 19], [19, 38, 45]), ([19, 46], [19, 46]), ([47, 44, 0, 1, 2, 3, 4, 5, 6, 7, 8, 9, 10, 11, 12, 13, 14, 15, 16, 17, 18, 19, 20, 21, 22, 23, 24, 25, 26, 27, 28, 29, 30, 31, 32, 33, 34, 35, 36, 37, 38, 39, 40, 41, 42, 43, 44, 45, 46, 47], [47])])
def dowellaw28_ReportBack.B7 : List Nat := [0, 1, 3, 7, 15, 31, 63, 127, 255, 511, 1023, 2047, 4095, 8191, 16383, 32767, 65535, 131071, 262143, 524287, 1048575, 2097151, 4194303, 8388607, 16777215, 33554431, 67108863, 134217727, 268435455, 536870911, 1073741823, 2147483647, 4294967295, 8589934591, 17179869183, 34359738367, 68719476735, 137438953471, 274877906943, 549755813887, 1099511627775, 2199023255551, 549755813887, 4947802324991, 17592186044415, 35184372088831, 70368744177663, 140737488355327, 281474976710655]
theorem dowellaw28_ReportBack.tab7 : rtab .any (opsOf Tryd.f6 7) = dowellaw28_ReportBack.T7 := by kernel_rfl
theorem dowellaw28_ReportBack.bits7 : waitsOk dowellaw28_ReportBack.T7.2 dowellaw28_ReportBack.B7 = true := by kernel_rfl
attribute [local go_sem high] eqA34
set_option maxRecDepth 100000 in
set_option maxHeartbeats 16000000 in
theorem Back_walk (a0_0 a0_1 : Int) (a0_2 : ByteArray) (l0_3 : List SO) (hn : l0_3.length ≤ 1048576) (hl : a0_2.size ≤ 4194304) (hm1 : ∀ x ∈ l0_3, x.f0.size ≤ 1048576)
    (q1 : ∀ x ∈ l0_3, -9223372036854775808 ≤ x.f1 ∧ x.f1 ≤ 9223372036854775807) (q2 : ∀ x ∈ l0_3, -9223372036854775808 ≤ x.f2 ∧ x.f2 ≤ 9223372036854775807) (q3 : ∀ x ∈ l0_3, x.f3 ≤ 9223372036854775807)
    (A0_3 : Option Addr) (c0_3 : Nat) (w : World) (hC : Kd.C k60 w A0_3 l0_3.length l0_3) (hc : l0_3.length ≤ c0_3) (hm : Ln.Mx w) (htab : Tab w) :
    Calls Tryd.prog 6 #[.agg #[.int .i64 a0_0, .int .i64 a0_1, .string a0_2, .slice A0_3 l0_3.length c0_3]] w fun e w' => e = .returned (.bool true) ∧ Below w.heap.size w w' := by
  have hfew := few_mk l0_3 (by omega) (fun x hx => by have := hm1 x hx; omega) q1 q2
  have HTM := Aside0.mk (show TM w from ⟨htab, hm⟩)
  have HR0_3 := Aside0.mk hC
  have HC0_3 := Aside0.mk hc
  have HWK := Aside0.mk (fun (W : World) (hT : TM W) => dowellaw28_works.calls 1048579 true W (works_ev 1048579 (by omega)) rfl hT)
  obtain ⟨⟨s, er⟩, hse⟩ : ∃ x, outAns a0_0 a0_1 a0_2 l0_3 = x := ⟨_, rfl⟩
  have HTX := Aside0.mk (fun (A : Option Addr) (c : Nat) (W : World) (hC : Kd.C k60 W A l0_3.length l0_3) (h : l0_3.length ≤ c) (hT : TM W) => report_Text.calls a0_0 a0_1 a0_2 A c l0_3 s er W hC h (by rw [text_ev a0_0 a0_1 a0_2 l0_3 hl hfew, hse]) hT)
  have HLT := Aside0.mk (fun (W : World) (hC : Kd.C k60 W A0_3 l0_3.length l0_3) => dowellaw28_lent.calls a0_0 a0_1 a0_2 A0_3 c0_3 l0_3 _ _ _ _ W hC hc (lent_ev a0_0 a0_1 a0_2 l0_3 hfew))
  have HER := Aside0.mk (out_err a0_0 a0_1 a0_2 l0_3 s er hse)
  have HBA := Aside0.mk (fun (h : er = 0) => back a0_0 a0_1 a0_2 l0_3 q3 s (by rw [hse, h]))
  have HFW := Aside0.mk hfew
  have hnb : decide ((1048585 : Int) < (l0_3.length : Int)) = false := decide_eq_false (by omega)
  have hnb2 : decide (1048585 < l0_3.length) = false := decide_eq_false (by omega)
  have HN := Aside0.mk hn
  clear hC hc hm htab hse hfew hm1 q1 q2 q3 hl hn
  go_enter Tryd.func6, Tryd.ntmps6
  go_wp2_with (((with_reducible refine gate_dst (N := 1) rfl ?_); (try (refine gate_guard (by rfl) ?_; dsimp only)); refine box_event ?hg (N := 1) ?hd (cs := #[.int .i64 a0_0, .int .i64 a0_1, .string a0_2, .slice A0_3 l0_3.length c0_3]) (t := 24) ?hr ?_; (case hd => rfl); (case hg => rfl); (case hr => first | (go_simp; done) | (go_simp; rfl)); intro gb167 hg0 w1 hbox hb0; have GEa := Aside0.mk (Nat.le_of_eq hg0.symm); have BXa := Aside0.mk hbox; have HXa := Aside0.mk hb0; clear hg0 hbox hb0))
  have GE167 := GEa
  have HB1 := Aside0.mk HXa.out
  have k0 := (blk_cell BXa.out 0).trans rfl
  have k1 := (blk_cell BXa.out 1).trans rfl
  have k2 := (blk_cell BXa.out 2).trans rfl
  have k3 := (blk_cell BXa.out 3).trans rfl
  have zk0 := blk_frozen BXa.out 0
  have zk1 := blk_frozen BXa.out 1
  have zk2 := blk_frozen BXa.out 2
  have zk3 := blk_frozen BXa.out 3
  go_at_call 21
  refine (HWK.out w1 (TM.step HTM.out HB1.out)).mono ?_
  rintro e_ w2 ⟨rfl, hb2⟩
  have BK2 := Aside0.mk ((hb2.block gb167 (Ps.lt_of_some BXa.out)).trans BXa.out)
  have HB2 := Aside0.mk (HB1.out.trans (hb2.mono HB1.out.size))
  clear k0 zk0 k1 zk1 k2 zk2 k3 zk3
  clear hb2 HB1 BXa HXa HWK
  have k0 := (blk_cell BK2.out 0).trans rfl
  have k1 := (blk_cell BK2.out 1).trans rfl
  have k2 := (blk_cell BK2.out 2).trans rfl
  have k3 := (blk_cell BK2.out 3).trans rfl
  have zk0 := blk_frozen BK2.out 0
  have zk1 := blk_frozen BK2.out 1
  have zk2 := blk_frozen BK2.out 2
  have zk3 := blk_frozen BK2.out 3
  go_wp2_with fail
  go_at_call 10
  refine (HLT.out w2 (Kd.C_below HR0_3.out HB2.out)).mono ?_
  rintro e_ w3 ⟨v3, rfl, hR3, hb3⟩
  obtain ⟨A3, c3, rfl⟩ := Kd.R_slice hR3
  have hC3 := (Kd.R_reads' hR3).2
  have HC3 := Aside0.mk hC3
  have BK3 := Aside0.mk ((hb3.block gb167 (Ps.lt_of_some BK2.out)).trans BK2.out)
  have HB3 := Aside0.mk (HB2.out.trans (hb3.mono HB2.out.size))
  clear k0 zk0 k1 zk1 k2 zk2 k3 zk3
  clear hb3 hR3 hC3 HB2 BK2 HLT
  have k0 := (blk_cell BK3.out 0).trans rfl
  have k1 := (blk_cell BK3.out 1).trans rfl
  have k2 := (blk_cell BK3.out 2).trans rfl
  have k3 := (blk_cell BK3.out 3).trans rfl
  have zk0 := blk_frozen BK3.out 0
  have zk1 := blk_frozen BK3.out 1
  have zk2 := blk_frozen BK3.out 2
  have zk3 := blk_frozen BK3.out 3
  go_wp2_with fail
  go_at_call 11
  refine (HTX.out A3 c3 w3 HC3.out.2 HC3.out.1 (TM.step HTM.out HB3.out)).mono ?_
  rintro e_ w4 ⟨rfl, hb4⟩
  have BK167 := Aside0.mk ((hb4.block gb167 (Ps.lt_of_some BK3.out)).trans BK3.out)
  have HB := Aside0.mk (HB3.out.trans (hb4.mono HB3.out.size))
  clear k0 zk0 k1 zk1 k2 zk2 k3 zk3
  clear hb4 HB3 BK3 HTX HC3
  have k0 := (blk_cell BK167.out 0).trans rfl
  have k1 := (blk_cell BK167.out 1).trans rfl
  have k2 := (blk_cell BK167.out 2).trans rfl
  have k3 := (blk_cell BK167.out 3).trans rfl
  have zk0 := blk_frozen BK167.out 0
  have zk1 := blk_frozen BK167.out 1
  have zk2 := blk_frozen BK167.out 2
  have zk3 := blk_frozen BK167.out 3
  by_cases he : er ≠ 0
  · obtain ⟨rfl, hcase⟩ := HER.out he
    have p1 : (er != 0) = true := bne_iff_ne.mpr he
    have p2 : (er == 0) = false := beq_eq_false_iff_ne.mpr he
    clear HER HBA
    by_cases hk1 : a0_0 = 1 ∧ a0_2 = ⟨#[]⟩ ∧ 0 ≤ a0_1 ∧ a0_1 ≤ 65536
    · obtain ⟨hk, hl0, g0, g1⟩ := hk1
      obtain ⟨t191, hck⟩ : ∃ x, Chk.chkAns l0_3 a0_1 = x := ⟨_, rfl⟩
      have A77 := Aside0.mk (show forest_Check.f l0_3 a0_1 = some t191 by unfold forest_Check.f; rw [if_pos HFW.out, hck])
      have A76 := Aside0.mk (show dowelbook_LendSpans.f l0_3 = some l0_3 by unfold dowelbook_LendSpans.f; rw [if_pos HFW.out])
      have hfin : (er = 6 ∧ t191 ≠ 0) ∨ (er = 2 ∧ t191 = 0) := by
        rcases hcase with ⟨h1, h2⟩ | ⟨h1, _, _, h2⟩
        · refine .inl ⟨h1, fun h => ?_⟩
          rw [rgt_mk a0_0 a0_1 a0_2 l0_3 (.inr (.inl ⟨hk, hl0, by rw [hck, h]⟩))] at h2
          cases h2
        · exact .inr ⟨h1, by rw [← hck]; exact h2⟩
      have HFI := Aside0.mk hfin
      have c1 : (a0_0 == 0) = false := beq_eq_false_iff_ne.2 (by omega)
      have c2 : (a0_0 == 1) = true := beq_iff_eq.2 hk
      have c3 : (a0_2.toList == ([] : List UInt8)) = true := beq_iff_eq.2 ((tl_nil _).2 (by rw [hl0]; rfl))
      have c4 : a0_2.toList = ([] : List UInt8) := (tl_nil _).2 (by rw [hl0]; rfl)
      have c5 : decide ((0 : Int) ≤ a0_1) = true := decide_eq_true g0
      have c6 : decide (a0_1 ≤ (65536 : Int)) = true := decide_eq_true g1
      clear hcase hck hfin hk hl0 g0 g1
      go_wp2_with fail
      have n1_ := Aside0.mk (blk_drew BK167.out)
      have n2_ := Aside0.mk (below_drew1 HB.out)
      clear BK167 HB
      have BK167 := n1_
      have HB := n2_
      clear n1_ n2_
      refine start_ (n := 49) (S := fun w' => w'.cell? ⟨gb167, 0, none⟩ = some (.int .i64 a0_0) ∧ w'.cell? ⟨gb167, 1, none⟩ = some (.int .i64 a0_1) ∧ w'.cell? ⟨gb167, 2, none⟩ = some (.string a0_2) ∧ w'.cell? ⟨gb167, 3, none⟩ = some (.slice A0_3 l0_3.length c0_3)) (ds := []) #[false, false, false, false, false, false, false, false, false, false, false, false, false, false, false, false, false, false, false, false, false, false, false, false, false, false, false, false, false, false, false, false, false, false, false, false, false, false, false, false, false, false, false, false, false, false, false, false, false] (by kernel_rfl) rfl rfl ⟨(blk_cell BK167.out 0).trans rfl, (blk_cell BK167.out 1).trans rfl, (blk_cell BK167.out 2).trans rfl, (blk_cell BK167.out 3).trans rfl⟩ (fun hHeld => ?_); refine with_tabW dowellaw28_ReportBack.tab7 dowellaw28_ReportBack.bits7 (fun HT_ HW_ => ?_)
      generalize w4.drew = w393 at BK167 HB hHeld ⊢
      refine pure_ (i := 0) (N := some 22) (v := ?_) (a' := ?_) #[true, false, false, false, false, false, false, false, false, false, false, false, false, false, false, false, false, false, false, false, false, false, false, false, false, false, false, false, false, false, false, false, false, false, false, false, false, false, false, false, false, false, false, false, false, false, false, false, false] rfl rfl (any_of HT_.out (by kernel_rfl)) (fun _ _ _ h => h) (Or.inl ⟨by rfl, ?_⟩) ?_ ?_
      rotate_left
      · intro w'
        go_simp
        first | with_reducible rfl | (rw [if_neg (by intro hl_; simp only [ByteArray.size_append, ByteArray.size_extract] at *; omega)])
      rotate_left
      · simp only [Act.put, List.setIfInBounds_toArray, List.set_cons_zero, List.set_cons_succ, i64_w, i32_w]
        rfl
      refine take_ (i := 1) (N := some 23) (v := ?_) (a' := ?_) #[true, true, false, false, false, false, false, false, false, false, false, false, false, false, false, false, false, false, false, false, false, false, false, false, false, false, false, false, false, false, false, false, false, false, false, false, false, false, false, false, false, false, false, false, false, false, false, false, false] rfl rfl (take_ofW HT_.out HW_.out (by kernel_rfl)) (fun _ _ _ h => h) (Or.inl ⟨by rfl, ?_⟩) hHeld ?_ ?_
      rotate_left
      · rintro w' ⟨s0, s1, s2, s3⟩
        go_simp
        first | with_reducible rfl | (rw [if_neg (by intro hl_; simp only [ByteArray.size_append, ByteArray.size_extract] at *; omega)])
      rotate_left
      · simp only [Act.put, List.setIfInBounds_toArray, List.set_cons_zero, List.set_cons_succ, i64_w, i32_w]
        rfl
      refine pure_ (i := 2) (N := some 24) (v := ?_) (a' := ?_) #[true, true, true, false, false, false, false, false, false, false, false, false, false, false, false, false, false, false, false, false, false, false, false, false, false, false, false, false, false, false, false, false, false, false, false, false, false, false, false, false, false, false, false, false, false, false, false, false, false] rfl rfl (any_of HT_.out (by kernel_rfl)) (fun _ _ _ h => h) (Or.inl ⟨by rfl, ?_⟩) ?_ ?_
      rotate_left
      · intro w'
        go_simp
        first | with_reducible rfl | (rw [if_neg (by intro hl_; simp only [ByteArray.size_append, ByteArray.size_extract] at *; omega)])
      rotate_left
      · simp only [Act.put, List.setIfInBounds_toArray, List.set_cons_zero, List.set_cons_succ, i64_w, i32_w]
        rfl
      refine pure_ (i := 3) (N := some 25) (v := ?_) (a' := ?_) #[true, true, true, true, false, false, false, false, false, false, false, false, false, false, false, false, false, false, false, false, false, false, false, false, false, false, false, false, false, false, false, false, false, false, false, false, false, false, false, false, false, false, false, false, false, false, false, false, false] rfl rfl (any_of HT_.out (by kernel_rfl)) (fun _ _ _ h => h) (Or.inl ⟨by rfl, ?_⟩) ?_ ?_
      rotate_left
      · intro w'
        go_simp
        first | with_reducible rfl | (rw [if_neg (by intro hl_; simp only [ByteArray.size_append, ByteArray.size_extract] at *; omega)])
      rotate_left
      · simp only [Act.put, List.setIfInBounds_toArray, List.set_cons_zero, List.set_cons_succ, i64_w, i32_w]
        rfl
      refine pure_ (i := 4) (N := some 26) (v := undef) (a' := ?_) #[true, true, true, true, true, false, false, false, false, false, false, false, false, false, false, false, false, false, false, false, false, false, false, false, false, false, false, false, false, false, false, false, false, false, false, false, false, false, false, false, false, false, false, false, false, false, false, false, false] rfl rfl (any_of HT_.out (by kernel_rfl)) (fun _ _ _ h => h) (Or.inr ⟨by rfl, rfl⟩) ?_ ?_
      rotate_left
      · simp only [Act.put, List.setIfInBounds_toArray, List.set_cons_zero, List.set_cons_succ, i64_w, i32_w]
        rfl
      refine pure_ (i := 5) (N := some 27) (v := undef) (a' := ?_) #[true, true, true, true, true, true, false, false, false, false, false, false, false, false, false, false, false, false, false, false, false, false, false, false, false, false, false, false, false, false, false, false, false, false, false, false, false, false, false, false, false, false, false, false, false, false, false, false, false] rfl rfl (any_of HT_.out (by kernel_rfl)) (fun _ _ _ h => h) (Or.inr ⟨by rfl, rfl⟩) ?_ ?_
      rotate_left
      · simp only [Act.put, List.setIfInBounds_toArray, List.set_cons_zero, List.set_cons_succ, i64_w, i32_w]
        rfl
      refine pure_ (i := 6) (N := some 28) (v := undef) (a' := ?_) #[true, true, true, true, true, true, true, false, false, false, false, false, false, false, false, false, false, false, false, false, false, false, false, false, false, false, false, false, false, false, false, false, false, false, false, false, false, false, false, false, false, false, false, false, false, false, false, false, false] rfl rfl (any_of HT_.out (by kernel_rfl)) (fun _ _ _ h => h) (Or.inr ⟨by rfl, rfl⟩) ?_ ?_
      rotate_left
      · simp only [Act.put, List.setIfInBounds_toArray, List.set_cons_zero, List.set_cons_succ, i64_w, i32_w]
        rfl
      refine pure_ (i := 7) (N := some 29) (v := ?_) (a' := ?_) #[true, true, true, true, true, true, true, true, false, false, false, false, false, false, false, false, false, false, false, false, false, false, false, false, false, false, false, false, false, false, false, false, false, false, false, false, false, false, false, false, false, false, false, false, false, false, false, false, false] rfl rfl (any_of HT_.out (by kernel_rfl)) (fun _ _ _ h => h) (Or.inl ⟨by rfl, ?_⟩) ?_ ?_
      rotate_left
      · intro w'
        go_simp
        first | with_reducible rfl | (rw [if_neg (by intro hl_; simp only [ByteArray.size_append, ByteArray.size_extract] at *; omega)])
      rotate_left
      · simp only [Act.put, List.setIfInBounds_toArray, List.set_cons_zero, List.set_cons_succ, i64_w, i32_w]
        rfl
      refine pure_ (i := 8) (N := some 30) (v := ?_) (a' := ?_) #[true, true, true, true, true, true, true, true, true, false, false, false, false, false, false, false, false, false, false, false, false, false, false, false, false, false, false, false, false, false, false, false, false, false, false, false, false, false, false, false, false, false, false, false, false, false, false, false, false] rfl rfl (any_of HT_.out (by kernel_rfl)) (fun _ _ _ h => h) (Or.inl ⟨by rfl, ?_⟩) ?_ ?_
      rotate_left
      · intro w'
        go_simp
        first | with_reducible rfl | (rw [if_neg (by intro hl_; simp only [ByteArray.size_append, ByteArray.size_extract] at *; omega)])
      rotate_left
      · simp only [Act.put, List.setIfInBounds_toArray, List.set_cons_zero, List.set_cons_succ, i64_w, i32_w]
        rfl
      refine pure_ (i := 9) (N := some 31) (v := undef) (a' := ?_) #[true, true, true, true, true, true, true, true, true, true, false, false, false, false, false, false, false, false, false, false, false, false, false, false, false, false, false, false, false, false, false, false, false, false, false, false, false, false, false, false, false, false, false, false, false, false, false, false, false] rfl rfl (any_of HT_.out (by kernel_rfl)) (fun _ _ _ h => h) (Or.inr ⟨by rfl, rfl⟩) ?_ ?_
      rotate_left
      · simp only [Act.put, List.setIfInBounds_toArray, List.set_cons_zero, List.set_cons_succ, i64_w, i32_w]
        rfl
      refine pure_ (i := 10) (N := some 32) (v := undef) (a' := ?_) #[true, true, true, true, true, true, true, true, true, true, true, false, false, false, false, false, false, false, false, false, false, false, false, false, false, false, false, false, false, false, false, false, false, false, false, false, false, false, false, false, false, false, false, false, false, false, false, false, false] rfl rfl (any_of HT_.out (by kernel_rfl)) (fun _ _ _ h => h) (Or.inr ⟨by rfl, rfl⟩) ?_ ?_
      rotate_left
      · simp only [Act.put, List.setIfInBounds_toArray, List.set_cons_zero, List.set_cons_succ, i64_w, i32_w]
        rfl
      refine pure_ (i := 11) (N := some 33) (v := undef) (a' := ?_) #[true, true, true, true, true, true, true, true, true, true, true, true, false, false, false, false, false, false, false, false, false, false, false, false, false, false, false, false, false, false, false, false, false, false, false, false, false, false, false, false, false, false, false, false, false, false, false, false, false] rfl rfl (any_of HT_.out (by kernel_rfl)) (fun _ _ _ h => h) (Or.inr ⟨by rfl, rfl⟩) ?_ ?_
      rotate_left
      · simp only [Act.put, List.setIfInBounds_toArray, List.set_cons_zero, List.set_cons_succ, i64_w, i32_w]
        rfl
      refine pure_ (i := 12) (N := some 34) (v := ?_) (a' := ?_) #[true, true, true, true, true, true, true, true, true, true, true, true, true, false, false, false, false, false, false, false, false, false, false, false, false, false, false, false, false, false, false, false, false, false, false, false, false, false, false, false, false, false, false, false, false, false, false, false, false] rfl rfl (any_of HT_.out (by kernel_rfl)) (fun _ _ _ h => h) (Or.inl ⟨by rfl, ?_⟩) ?_ ?_
      rotate_left
      · intro w'
        go_simp
        first | with_reducible rfl | (rw [if_neg (by intro hl_; simp only [ByteArray.size_append, ByteArray.size_extract] at *; omega)])
      rotate_left
      · simp only [Act.put, List.setIfInBounds_toArray, List.set_cons_zero, List.set_cons_succ, i64_w, i32_w]
        rfl
      refine pure_ (i := 13) (N := some 35) (v := ?_) (a' := ?_) #[true, true, true, true, true, true, true, true, true, true, true, true, true, true, false, false, false, false, false, false, false, false, false, false, false, false, false, false, false, false, false, false, false, false, false, false, false, false, false, false, false, false, false, false, false, false, false, false, false] rfl rfl (any_of HT_.out (by kernel_rfl)) (fun _ _ _ h => h) (Or.inl ⟨by rfl, ?_⟩) ?_ ?_
      rotate_left
      · intro w'
        go_simp
        first | with_reducible rfl | (rw [if_neg (by intro hl_; simp only [ByteArray.size_append, ByteArray.size_extract] at *; omega)])
      rotate_left
      · simp only [Act.put, List.setIfInBounds_toArray, List.set_cons_zero, List.set_cons_succ, i64_w, i32_w]
        rfl
      refine pure_ (i := 14) (N := some 36) (v := undef) (a' := ?_) #[true, true, true, true, true, true, true, true, true, true, true, true, true, true, true, false, false, false, false, false, false, false, false, false, false, false, false, false, false, false, false, false, false, false, false, false, false, false, false, false, false, false, false, false, false, false, false, false, false] rfl rfl (any_of HT_.out (by kernel_rfl)) (fun _ _ _ h => h) (Or.inr ⟨by rfl, rfl⟩) ?_ ?_
      rotate_left
      · simp only [Act.put, List.setIfInBounds_toArray, List.set_cons_zero, List.set_cons_succ, i64_w, i32_w]
        rfl
      refine pure_ (i := 15) (N := some 37) (v := undef) (a' := ?_) #[true, true, true, true, true, true, true, true, true, true, true, true, true, true, true, true, false, false, false, false, false, false, false, false, false, false, false, false, false, false, false, false, false, false, false, false, false, false, false, false, false, false, false, false, false, false, false, false, false] rfl rfl (any_of HT_.out (by kernel_rfl)) (fun _ _ _ h => h) (Or.inr ⟨by rfl, rfl⟩) ?_ ?_
      rotate_left
      · simp only [Act.put, List.setIfInBounds_toArray, List.set_cons_zero, List.set_cons_succ, i64_w, i32_w]
        rfl
      refine pure_ (i := 16) (N := some 38) (v := undef) (a' := ?_) #[true, true, true, true, true, true, true, true, true, true, true, true, true, true, true, true, true, false, false, false, false, false, false, false, false, false, false, false, false, false, false, false, false, false, false, false, false, false, false, false, false, false, false, false, false, false, false, false, false] rfl rfl (any_of HT_.out (by kernel_rfl)) (fun _ _ _ h => h) (Or.inr ⟨by rfl, rfl⟩) ?_ ?_
      rotate_left
      · simp only [Act.put, List.setIfInBounds_toArray, List.set_cons_zero, List.set_cons_succ, i64_w, i32_w]
        rfl
      refine pure_ (i := 17) (N := some 39) (v := undef) (a' := ?_) #[true, true, true, true, true, true, true, true, true, true, true, true, true, true, true, true, true, true, false, false, false, false, false, false, false, false, false, false, false, false, false, false, false, false, false, false, false, false, false, false, false, false, false, false, false, false, false, false, false] rfl rfl (any_of HT_.out (by kernel_rfl)) (fun _ _ _ h => h) (Or.inr ⟨by rfl, rfl⟩) ?_ ?_
      rotate_left
      · simp only [Act.put, List.setIfInBounds_toArray, List.set_cons_zero, List.set_cons_succ, i64_w, i32_w]
        rfl
      refine pure_ (i := 18) (N := some 40) (v := ?_) (a' := ?_) #[true, true, true, true, true, true, true, true, true, true, true, true, true, true, true, true, true, true, true, false, false, false, false, false, false, false, false, false, false, false, false, false, false, false, false, false, false, false, false, false, false, false, false, false, false, false, false, false, false] rfl rfl (any_of HT_.out (by kernel_rfl)) (fun _ _ _ h => h) (Or.inl ⟨by rfl, ?_⟩) ?_ ?_
      rotate_left
      · intro w'
        go_simp
        first | with_reducible rfl | (rw [if_neg (by intro hl_; simp only [ByteArray.size_append, ByteArray.size_extract] at *; omega)])
      rotate_left
      · simp only [Act.put, List.setIfInBounds_toArray, List.set_cons_zero, List.set_cons_succ, i64_w, i32_w]
        rfl
      refine pure_ (i := 19) (N := some 41) (v := ?_) (a' := ?_) #[true, true, true, true, true, true, true, true, true, true, true, true, true, true, true, true, true, true, true, true, false, false, false, false, false, false, false, false, false, false, false, false, false, false, false, false, false, false, false, false, false, false, false, false, false, false, false, false, false] rfl rfl (any_of HT_.out (by kernel_rfl)) (fun _ _ _ h => h) (Or.inl ⟨by rfl, ?_⟩) ?_ ?_
      rotate_left
      · intro w'
        go_simp
        first | with_reducible rfl | (rw [if_neg (by intro hl_; simp only [ByteArray.size_append, ByteArray.size_extract] at *; omega)])
      rotate_left
      · simp only [Act.put, List.setIfInBounds_toArray, List.set_cons_zero, List.set_cons_succ, i64_w, i32_w]
        rfl
      refine pure_ (i := 20) (N := some 42) (v := ?_) (a' := ?_) #[true, true, true, true, true, true, true, true, true, true, true, true, true, true, true, true, true, true, true, true, true, false, false, false, false, false, false, false, false, false, false, false, false, false, false, false, false, false, false, false, false, false, false, false, false, false, false, false, false] rfl rfl (any_of HT_.out (by kernel_rfl)) (fun _ _ _ h => h) (Or.inl ⟨by rfl, ?_⟩) ?_ ?_
      rotate_left
      · intro w'
        go_simp
        first | with_reducible rfl | (rw [if_neg (by intro hl_; simp only [ByteArray.size_append, ByteArray.size_extract] at *; omega)])
      rotate_left
      · simp only [Act.put, List.setIfInBounds_toArray, List.set_cons_zero, List.set_cons_succ, i64_w, i32_w]
        rfl
      refine take_ (i := 21) (N := some 43) (v := ?_) (a' := ?_) #[true, true, true, true, true, true, true, true, true, true, true, true, true, true, true, true, true, true, true, true, true, true, false, false, false, false, false, false, false, false, false, false, false, false, false, false, false, false, false, false, false, false, false, false, false, false, false, false, false] rfl rfl (take_ofW HT_.out HW_.out (by kernel_rfl)) (fun _ _ _ h => h) (Or.inl ⟨by rfl, ?_⟩) hHeld ?_ ?_
      rotate_left
      · rintro w' ⟨s0, s1, s2, s3⟩
        go_simp
        first | with_reducible rfl | (rw [if_neg (by intro hl_; simp only [ByteArray.size_append, ByteArray.size_extract] at *; omega)])
      rotate_left
      · simp only [Act.put, List.setIfInBounds_toArray, List.set_cons_zero, List.set_cons_succ, i64_w, i32_w]
        rfl
      refine pure_ (i := 22) (N := some 44) (v := ?_) (a' := ?_) #[true, true, true, true, true, true, true, true, true, true, true, true, true, true, true, true, true, true, true, true, true, true, true, false, false, false, false, false, false, false, false, false, false, false, false, false, false, false, false, false, false, false, false, false, false, false, false, false, false] rfl rfl (any_of HT_.out (by kernel_rfl)) (fun _ _ _ h => h) (Or.inl ⟨by rfl, ?_⟩) ?_ ?_
      rotate_left
      · intro w'
        go_simp
        first | with_reducible rfl | (rw [if_neg (by intro hl_; simp only [ByteArray.size_append, ByteArray.size_extract] at *; omega)])
      rotate_left
      · simp only [Act.put, List.setIfInBounds_toArray, List.set_cons_zero, List.set_cons_succ, i64_w, i32_w]
        rfl
      refine pure_ (i := 23) (N := some 45) (v := ?_) (a' := ?_) #[true, true, true, true, true, true, true, true, true, true, true, true, true, true, true, true, true, true, true, true, true, true, true, true, false, false, false, false, false, false, false, false, false, false, false, false, false, false, false, false, false, false, false, false, false, false, false, false, false] rfl rfl (any_of HT_.out (by kernel_rfl)) (fun _ _ _ h => h) (Or.inl ⟨by rfl, ?_⟩) ?_ ?_
      rotate_left
      · intro w'
        go_simp
        first | with_reducible rfl | (rw [if_neg (by intro hl_; simp only [ByteArray.size_append, ByteArray.size_extract] at *; omega)])
      rotate_left
      · simp only [Act.put, List.setIfInBounds_toArray, List.set_cons_zero, List.set_cons_succ, i64_w, i32_w]
        rfl
      refine pure_ (i := 24) (N := some 46) (v := ?_) (a' := ?_) #[true, true, true, true, true, true, true, true, true, true, true, true, true, true, true, true, true, true, true, true, true, true, true, true, true, false, false, false, false, false, false, false, false, false, false, false, false, false, false, false, false, false, false, false, false, false, false, false, false] rfl rfl (any_of HT_.out (by kernel_rfl)) (fun _ _ _ h => h) (Or.inl ⟨by rfl, ?_⟩) ?_ ?_
      rotate_left
      · intro w'
        go_simp
        first | with_reducible rfl | (rw [if_neg (by intro hl_; simp only [ByteArray.size_append, ByteArray.size_extract] at *; omega)])
      rotate_left
      · simp only [Act.put, List.setIfInBounds_toArray, List.set_cons_zero, List.set_cons_succ, i64_w, i32_w]
        rfl
      refine take_ (i := 25) (N := some 47) (v := ?_) (a' := ?_) #[true, true, true, true, true, true, true, true, true, true, true, true, true, true, true, true, true, true, true, true, true, true, true, true, true, true, false, false, false, false, false, false, false, false, false, false, false, false, false, false, false, false, false, false, false, false, false, false, false] rfl rfl (take_ofW HT_.out HW_.out (by kernel_rfl)) (fun _ _ _ h => h) (Or.inl ⟨by rfl, ?_⟩) hHeld ?_ ?_
      rotate_left
      · rintro w' ⟨s0, s1, s2, s3⟩
        go_simp
        first | with_reducible rfl | (rw [if_neg (by intro hl_; simp only [ByteArray.size_append, ByteArray.size_extract] at *; omega)])
      rotate_left
      · simp only [Act.put, List.setIfInBounds_toArray, List.set_cons_zero, List.set_cons_succ, i64_w, i32_w]
        rfl
      refine pure_ (i := 26) (N := some 48) (v := ?_) (a' := ?_) #[true, true, true, true, true, true, true, true, true, true, true, true, true, true, true, true, true, true, true, true, true, true, true, true, true, true, true, false, false, false, false, false, false, false, false, false, false, false, false, false, false, false, false, false, false, false, false, false, false] rfl rfl (any_of HT_.out (by kernel_rfl)) (fun _ _ _ h => h) (Or.inl ⟨by rfl, ?_⟩) ?_ ?_
      rotate_left
      · intro w'
        go_simp
        first | with_reducible rfl | (rw [if_neg (by intro hl_; simp only [ByteArray.size_append, ByteArray.size_extract] at *; omega)])
      rotate_left
      · simp only [Act.put, List.setIfInBounds_toArray, List.set_cons_zero, List.set_cons_succ, i64_w, i32_w]
        rfl
      refine pure_ (i := 27) (N := some 49) (v := ?_) (a' := ?_) #[true, true, true, true, true, true, true, true, true, true, true, true, true, true, true, true, true, true, true, true, true, true, true, true, true, true, true, true, false, false, false, false, false, false, false, false, false, false, false, false, false, false, false, false, false, false, false, false, false] rfl rfl (any_of HT_.out (by kernel_rfl)) (fun _ _ _ h => h) (Or.inl ⟨by rfl, ?_⟩) ?_ ?_
      rotate_left
      · intro w'
        go_simp
        first | with_reducible rfl | (rw [if_neg (by intro hl_; simp only [ByteArray.size_append, ByteArray.size_extract] at *; omega)])
      rotate_left
      · simp only [Act.put, List.setIfInBounds_toArray, List.set_cons_zero, List.set_cons_succ, i64_w, i32_w]
        rfl
      refine pure_ (i := 28) (N := some 50) (v := ?_) (a' := ?_) #[true, true, true, true, true, true, true, true, true, true, true, true, true, true, true, true, true, true, true, true, true, true, true, true, true, true, true, true, true, false, false, false, false, false, false, false, false, false, false, false, false, false, false, false, false, false, false, false, false] rfl rfl (any_of HT_.out (by kernel_rfl)) (fun _ _ _ h => h) (Or.inl ⟨by rfl, ?_⟩) ?_ ?_
      rotate_left
      · intro w'
        go_simp
        first | with_reducible rfl | (rw [if_neg (by intro hl_; simp only [ByteArray.size_append, ByteArray.size_extract] at *; omega)])
      rotate_left
      · simp only [Act.put, List.setIfInBounds_toArray, List.set_cons_zero, List.set_cons_succ, i64_w, i32_w]
        rfl
      refine pure_ (i := 29) (N := some 51) (v := ?_) (a' := ?_) #[true, true, true, true, true, true, true, true, true, true, true, true, true, true, true, true, true, true, true, true, true, true, true, true, true, true, true, true, true, true, false, false, false, false, false, false, false, false, false, false, false, false, false, false, false, false, false, false, false] rfl rfl (any_of HT_.out (by kernel_rfl)) (fun _ _ _ h => h) (Or.inl ⟨by rfl, ?_⟩) ?_ ?_
      rotate_left
      · intro w'
        go_simp
        first | with_reducible rfl | (rw [if_neg (by intro hl_; simp only [ByteArray.size_append, ByteArray.size_extract] at *; omega)])
      rotate_left
      · simp only [Act.put, List.setIfInBounds_toArray, List.set_cons_zero, List.set_cons_succ, i64_w, i32_w]
        rfl
      refine take_ (i := 30) (N := some 52) (v := ?_) (a' := ?_) #[true, true, true, true, true, true, true, true, true, true, true, true, true, true, true, true, true, true, true, true, true, true, true, true, true, true, true, true, true, true, true, false, false, false, false, false, false, false, false, false, false, false, false, false, false, false, false, false, false] rfl rfl (take_ofW HT_.out HW_.out (by kernel_rfl)) (fun _ _ _ h => h) (Or.inl ⟨by rfl, ?_⟩) hHeld ?_ ?_
      rotate_left
      · rintro w' ⟨s0, s1, s2, s3⟩
        go_simp
        first | with_reducible rfl | (rw [if_neg (by intro hl_; simp only [ByteArray.size_append, ByteArray.size_extract] at *; omega)])
      rotate_left
      · simp only [Act.put, List.setIfInBounds_toArray, List.set_cons_zero, List.set_cons_succ, i64_w, i32_w]
        rfl
      refine pure_ (i := 31) (N := some 53) (v := ?_) (a' := ?_) #[true, true, true, true, true, true, true, true, true, true, true, true, true, true, true, true, true, true, true, true, true, true, true, true, true, true, true, true, true, true, true, true, false, false, false, false, false, false, false, false, false, false, false, false, false, false, false, false, false] rfl rfl (any_of HT_.out (by kernel_rfl)) (fun _ _ _ h => h) (Or.inl ⟨by rfl, ?_⟩) ?_ ?_
      rotate_left
      · intro w'
        go_simp
        first | with_reducible rfl | (rw [if_neg (by intro hl_; simp only [ByteArray.size_append, ByteArray.size_extract] at *; omega)])
      rotate_left
      · simp only [Act.put, List.setIfInBounds_toArray, List.set_cons_zero, List.set_cons_succ, i64_w, i32_w]
        rfl
      refine pure_ (i := 32) (N := some 54) (v := ?_) (a' := ?_) #[true, true, true, true, true, true, true, true, true, true, true, true, true, true, true, true, true, true, true, true, true, true, true, true, true, true, true, true, true, true, true, true, true, false, false, false, false, false, false, false, false, false, false, false, false, false, false, false, false] rfl rfl (any_of HT_.out (by kernel_rfl)) (fun _ _ _ h => h) (Or.inl ⟨by rfl, ?_⟩) ?_ ?_
      rotate_left
      · intro w'
        go_simp
        first | with_reducible rfl | (rw [if_neg (by intro hl_; simp only [ByteArray.size_append, ByteArray.size_extract] at *; omega)])
      rotate_left
      · simp only [Act.put, List.setIfInBounds_toArray, List.set_cons_zero, List.set_cons_succ, i64_w, i32_w]
        rfl
      refine pure_ (i := 33) (N := some 55) (v := ?_) (a' := ?_) #[true, true, true, true, true, true, true, true, true, true, true, true, true, true, true, true, true, true, true, true, true, true, true, true, true, true, true, true, true, true, true, true, true, true, false, false, false, false, false, false, false, false, false, false, false, false, false, false, false] rfl rfl (any_of HT_.out (by kernel_rfl)) (fun _ _ _ h => h) (Or.inl ⟨by rfl, ?_⟩) ?_ ?_
      rotate_left
      · intro w'
        go_simp
        first | with_reducible rfl | (rw [if_neg (by intro hl_; simp only [ByteArray.size_append, ByteArray.size_extract] at *; omega)])
      rotate_left
      · simp only [Act.put, List.setIfInBounds_toArray, List.set_cons_zero, List.set_cons_succ, i64_w, i32_w]
        rfl
      refine pure_ (i := 34) (N := some 56) (v := ?_) (a' := ?_) #[true, true, true, true, true, true, true, true, true, true, true, true, true, true, true, true, true, true, true, true, true, true, true, true, true, true, true, true, true, true, true, true, true, true, true, false, false, false, false, false, false, false, false, false, false, false, false, false, false] rfl rfl (any_of HT_.out (by kernel_rfl)) (fun _ _ _ h => h) (Or.inl ⟨by rfl, ?_⟩) ?_ ?_
      rotate_left
      · intro w'
        go_simp
        first | with_reducible rfl | (rw [if_neg (by intro hl_; simp only [ByteArray.size_append, ByteArray.size_extract] at *; omega)])
      rotate_left
      · simp only [Act.put, List.setIfInBounds_toArray, List.set_cons_zero, List.set_cons_succ, i64_w, i32_w]
        rfl
      refine take_ (i := 35) (N := some 57) (v := ?_) (a' := ?_) #[true, true, true, true, true, true, true, true, true, true, true, true, true, true, true, true, true, true, true, true, true, true, true, true, true, true, true, true, true, true, true, true, true, true, true, true, false, false, false, false, false, false, false, false, false, false, false, false, false] rfl rfl (take_ofW HT_.out HW_.out (by kernel_rfl)) (fun _ _ _ h => h) (Or.inl ⟨by rfl, ?_⟩) hHeld ?_ ?_
      rotate_left
      · rintro w' ⟨s0, s1, s2, s3⟩
        go_simp
        first | with_reducible rfl | (rw [if_neg (by intro hl_; simp only [ByteArray.size_append, ByteArray.size_extract] at *; omega)])
      rotate_left
      · simp only [Act.put, List.setIfInBounds_toArray, List.set_cons_zero, List.set_cons_succ, i64_w, i32_w]
        rfl
      refine pure_ (i := 36) (N := some 58) (v := ?_) (a' := ?_) #[true, true, true, true, true, true, true, true, true, true, true, true, true, true, true, true, true, true, true, true, true, true, true, true, true, true, true, true, true, true, true, true, true, true, true, true, true, false, false, false, false, false, false, false, false, false, false, false, false] rfl rfl (any_of HT_.out (by kernel_rfl)) (fun _ _ _ h => h) (Or.inl ⟨by rfl, ?_⟩) ?_ ?_
      rotate_left
      · intro w'
        go_simp
        first | with_reducible rfl | (rw [if_neg (by intro hl_; simp only [ByteArray.size_append, ByteArray.size_extract] at *; omega)])
      rotate_left
      · simp only [Act.put, List.setIfInBounds_toArray, List.set_cons_zero, List.set_cons_succ, i64_w, i32_w]
        rfl
      refine pure_ (i := 37) (N := some 59) (v := ?_) (a' := ?_) #[true, true, true, true, true, true, true, true, true, true, true, true, true, true, true, true, true, true, true, true, true, true, true, true, true, true, true, true, true, true, true, true, true, true, true, true, true, true, false, false, false, false, false, false, false, false, false, false, false] rfl rfl (any_of HT_.out (by kernel_rfl)) (fun _ _ _ h => h) (Or.inl ⟨by rfl, ?_⟩) ?_ ?_
      rotate_left
      · intro w'
        go_simp
        first | with_reducible rfl | (rw [if_neg (by intro hl_; simp only [ByteArray.size_append, ByteArray.size_extract] at *; omega)])
      rotate_left
      · simp only [Act.put, List.setIfInBounds_toArray, List.set_cons_zero, List.set_cons_succ, i64_w, i32_w]
        rfl
      refine pure_ (i := 38) (N := some 60) (v := ?_) (a' := ?_) #[true, true, true, true, true, true, true, true, true, true, true, true, true, true, true, true, true, true, true, true, true, true, true, true, true, true, true, true, true, true, true, true, true, true, true, true, true, true, true, false, false, false, false, false, false, false, false, false, false] rfl rfl (any_of HT_.out (by kernel_rfl)) (fun _ _ _ h => h) (Or.inl ⟨by rfl, ?_⟩) ?_ ?_
      rotate_left
      · intro w'
        go_simp
        first | with_reducible rfl | (rw [if_neg (by intro hl_; simp only [ByteArray.size_append, ByteArray.size_extract] at *; omega)])
      rotate_left
      · simp only [Act.put, List.setIfInBounds_toArray, List.set_cons_zero, List.set_cons_succ, i64_w, i32_w]
        rfl
      refine pure_ (i := 39) (N := some 61) (v := ?_) (a' := ?_) #[true, true, true, true, true, true, true, true, true, true, true, true, true, true, true, true, true, true, true, true, true, true, true, true, true, true, true, true, true, true, true, true, true, true, true, true, true, true, true, true, false, false, false, false, false, false, false, false, false] rfl rfl (any_of HT_.out (by kernel_rfl)) (fun _ _ _ h => h) (Or.inl ⟨by rfl, ?_⟩) ?_ ?_
      rotate_left
      · intro w'
        go_simp
        first | with_reducible rfl | (rw [if_neg (by intro hl_; simp only [ByteArray.size_append, ByteArray.size_extract] at *; omega)])
      rotate_left
      · simp only [Act.put, List.setIfInBounds_toArray, List.set_cons_zero, List.set_cons_succ, i64_w, i32_w]
        rfl
      refine pure_ (i := 42) (N := some 64) (v := ?_) (a' := ?_) #[true, true, true, true, true, true, true, true, true, true, true, true, true, true, true, true, true, true, true, true, true, true, true, true, true, true, true, true, true, true, true, true, true, true, true, true, true, true, true, true, false, false, true, false, false, false, false, false, false] rfl rfl (any_of HT_.out (by kernel_rfl)) (fun _ _ _ h => h) (Or.inl ⟨by rfl, ?_⟩) ?_ ?_
      rotate_left
      · intro w'
        go_simp
        first | with_reducible rfl | (rw [if_neg (by intro hl_; simp only [ByteArray.size_append, ByteArray.size_extract] at *; omega)])
      rotate_left
      · simp only [Act.put, List.setIfInBounds_toArray, List.set_cons_zero, List.set_cons_succ, i64_w, i32_w]
        rfl
      refine take_ (i := 40) (N := some 62) (v := ?_) (a' := ?_) #[true, true, true, true, true, true, true, true, true, true, true, true, true, true, true, true, true, true, true, true, true, true, true, true, true, true, true, true, true, true, true, true, true, true, true, true, true, true, true, true, true, false, true, false, false, false, false, false, false] rfl rfl (take_ofW HT_.out HW_.out (by kernel_rfl)) (fun _ _ _ h => h) (Or.inl ⟨by rfl, ?_⟩) hHeld ?_ ?_
      rotate_left
      · rintro w' ⟨s0, s1, s2, s3⟩
        go_simp
        first | with_reducible rfl | (rw [if_neg (by intro hl_; simp only [ByteArray.size_append, ByteArray.size_extract] at *; omega)])
      rotate_left
      · simp only [Act.put, List.setIfInBounds_toArray, List.set_cons_zero, List.set_cons_succ, i64_w, i32_w]
        rfl
      refine take_ (i := 43) (N := some 65) (v := ?_) (a' := ?_) #[true, true, true, true, true, true, true, true, true, true, true, true, true, true, true, true, true, true, true, true, true, true, true, true, true, true, true, true, true, true, true, true, true, true, true, true, true, true, true, true, true, false, true, true, false, false, false, false, false] rfl rfl (take_ofW HT_.out HW_.out (by kernel_rfl)) (fun _ _ _ h => h) (Or.inl ⟨by rfl, ?_⟩) hHeld ?_ ?_
      rotate_left
      · rintro w' ⟨s0, s1, s2, s3⟩
        go_simp
        first | with_reducible rfl | (rw [if_neg (by intro hl_; simp only [ByteArray.size_append, ByteArray.size_extract] at *; omega)])
      rotate_left
      · simp only [Act.put, List.setIfInBounds_toArray, List.set_cons_zero, List.set_cons_succ, i64_w, i32_w]
        rfl
      refine one_ (i := 41) (N := some 63) #[true, true, true, true, true, true, true, true, true, true, true, true, true, true, true, true, true, true, true, true, true, true, true, true, true, true, true, true, true, true, true, true, true, true, true, true, true, true, true, true, true, true, true, true, false, false, false, false, false] rfl rfl (one_of HT_.out (by kernel_rfl)) (by decide) (fun K hK => ?_)
      refine goes_ Tryd.func23 (by kernel_rfl) rfl #[.slice A0_3 l0_3.length c0_3] (by rfl) rfl rfl (by (try simp only [List.map_toArray, List.map_cons, List.map_nil]); first | done | rfl | (simp only [List.length_drop, List.length_take]; rfl)) ?_
      with_reducible refine (dowelbook_LendSpans.calls _ _ l0_3 l0_3 _ ?side1 ?side2 A76.out).mono ?_
      (case side1 => repeat (first | exact (Kd.C_below HR0_3.out HB.out) | (with_reducible refine Kd.C_alloc ?_ _) | (with_reducible refine Kd.C_drewN ?_ _) | (with_reducible refine Kd.C_drew ?_)))
      (case side2 => exact HC0_3.out)
      rintro e w394 ⟨v197, rfl, ho0, hb⟩
      refine ⟨_, rfl, ?_⟩
      have n1_ := Aside0.mk (Kd.R_lower ho0 (below_size (by repeat (first | (with_reducible first | exact HB.out | apply below_alloc | apply pw_below_drewN | apply below_drew1 | refine below_set ?_ GE167.out) | exact HB.out))))
      have n2_ := Aside0.mk (blk_below (g := gb167) (o := .cells #[.int .i64 a0_0, .int .i64 a0_1, .string a0_2, .slice A0_3 l0_3.length c0_3] 24 (0, 0)) (by (with_reducible repeat (first | refine blk_drewN ?_ _ | refine blk_drew ?_ | refine blk_alloc ?_ _)); exact BK167.out) hb)
      have n3_ := Aside0.mk (below_step (by repeat (first | (with_reducible first | exact HB.out | apply below_alloc | apply pw_below_drewN | apply below_drew1 | refine below_set ?_ GE167.out) | exact HB.out)) hb)
      clear BK167
      clear HB
      have HO198 := n1_
      have BK167 := n2_
      have HB := n3_
      clear n1_ n2_ n3_
      (try clear hb)
      (try clear hb2)
      (try clear hk)
      (try clear hi)
      (try clear ho0)
      obtain ⟨Ao395, co395, eo395⟩ := Kd.R_slice HO198.out
      (first | subst eo395 | (injection eo395 with f1_ f2_ f3_; have f4_ := f1_.symm; have f5_ := f3_.symm; clear f1_ f2_ f3_; subst f4_; subst f5_))
      refine hK.out _ _ ⟨(blk_cell BK167.out 0).trans rfl, (blk_cell BK167.out 1).trans rfl, (blk_cell BK167.out 2).trans rfl, (blk_cell BK167.out 3).trans rfl⟩ (fun hHeld => ?_)
      clear hK K
      refine norm_ (a' := ?_) ?_ ?_
      rotate_left
      · show Act.put _ (some 63) _ = _
        simp only [Act.put, List.setIfInBounds_toArray, List.set_cons_zero, List.set_cons_succ, i64_w, i32_w]
        rfl
      refine one_ (i := 44) (N := some 66) #[true, true, true, true, true, true, true, true, true, true, true, true, true, true, true, true, true, true, true, true, true, true, true, true, true, true, true, true, true, true, true, true, true, true, true, true, true, true, true, true, true, true, true, true, true, false, false, false, false] rfl rfl (one_of HT_.out (by kernel_rfl)) (by decide) (fun K hK => ?_)
      refine goes_ Tryd.func22 (by kernel_rfl) rfl #[.slice Ao395 l0_3.length co395, .int .i64 a0_1] (by rfl) rfl rfl (by (try simp only [List.map_toArray, List.map_cons, List.map_nil]); first | done | rfl | (simp only [List.length_drop, List.length_take]; rfl)) ?_
      with_reducible refine (forest_Check.calls _ _ l0_3 a0_1 t191 _ ?side1 ?side2 A77.out).mono ?_
      (case side1 => repeat (first | exact (Kd.R_reads' HO198.out).2.2 | (with_reducible refine Kd.C_alloc ?_ _) | (with_reducible refine Kd.C_drewN ?_ _) | (with_reducible refine Kd.C_drew ?_)))
      (case side2 => exact (Kd.R_reads' HO198.out).2.1)
      rintro e w396 ⟨rfl, hb⟩
      refine ⟨_, rfl, ?_⟩
      have n1_ := Aside0.mk (Kd.R_below (by (with_reducible repeat (first | apply Kd.R_alloc | apply Kd.R_drewN | apply Kd.R_drew)); exact HO198.out) hb)
      have n2_ := Aside0.mk (blk_below (g := gb167) (o := .cells #[.int .i64 a0_0, .int .i64 a0_1, .string a0_2, .slice A0_3 l0_3.length c0_3] 24 (0, 0)) (by (with_reducible repeat (first | refine blk_drewN ?_ _ | refine blk_drew ?_ | refine blk_alloc ?_ _)); exact BK167.out) hb)
      have n3_ := Aside0.mk (below_step (by repeat (first | (with_reducible first | exact HB.out | apply below_alloc | apply pw_below_drewN | apply below_drew1 | refine below_set ?_ GE167.out) | exact HB.out)) hb)
      clear HO198
      clear BK167
      clear HB
      have HO198 := n1_
      have BK167 := n2_
      have HB := n3_
      clear n1_ n2_ n3_
      (try clear hb)
      (try clear hb2)
      (try clear hk)
      (try clear hi)
      refine hK.out _ _ ⟨(blk_cell BK167.out 0).trans rfl, (blk_cell BK167.out 1).trans rfl, (blk_cell BK167.out 2).trans rfl, (blk_cell BK167.out 3).trans rfl⟩ (fun hHeld => ?_)
      clear hK K
      refine norm_ (a' := ?_) ?_ ?_
      rotate_left
      · show Act.put _ (some 66) _ = _
        simp only [Act.put, List.setIfInBounds_toArray, List.set_cons_zero, List.set_cons_succ, i64_w, i32_w]
        rfl
      refine pure_ (i := 45) (N := some 67) (v := ?_) (a' := ?_) #[true, true, true, true, true, true, true, true, true, true, true, true, true, true, true, true, true, true, true, true, true, true, true, true, true, true, true, true, true, true, true, true, true, true, true, true, true, true, true, true, true, true, true, true, true, true, false, false, false] rfl rfl (any_of HT_.out (by kernel_rfl)) (fun _ _ _ h => h) (Or.inl ⟨by rfl, ?_⟩) ?_ ?_
      rotate_left
      · intro w'
        go_simp
        first | with_reducible rfl | (rw [if_neg (by intro hl_; simp only [ByteArray.size_append, ByteArray.size_extract] at *; omega)])
      rotate_left
      · simp only [Act.put, List.setIfInBounds_toArray, List.set_cons_zero, List.set_cons_succ, i64_w, i32_w]
        rfl
      refine pure_ (i := 46) (N := some 68) (v := ?_) (a' := ?_) #[true, true, true, true, true, true, true, true, true, true, true, true, true, true, true, true, true, true, true, true, true, true, true, true, true, true, true, true, true, true, true, true, true, true, true, true, true, true, true, true, true, true, true, true, true, true, true, false, false] rfl rfl (any_of HT_.out (by kernel_rfl)) (fun _ _ _ h => h) (Or.inl ⟨by rfl, ?_⟩) ?_ ?_
      rotate_left
      · intro w'
        go_simp
        first | with_reducible rfl | (rw [if_neg (by intro hl_; simp only [ByteArray.size_append, ByteArray.size_extract] at *; omega)])
      rotate_left
      · simp only [Act.put, List.setIfInBounds_toArray, List.set_cons_zero, List.set_cons_succ, i64_w, i32_w]
        rfl
      refine pure_ (i := 47) (N := some 69) (v := ?_) (a' := ?_) #[true, true, true, true, true, true, true, true, true, true, true, true, true, true, true, true, true, true, true, true, true, true, true, true, true, true, true, true, true, true, true, true, true, true, true, true, true, true, true, true, true, true, true, true, true, true, true, true, false] rfl rfl (any_of HT_.out (by kernel_rfl)) (fun _ _ _ h => h) (Or.inl ⟨by rfl, ?_⟩) ?_ ?_
      rotate_left
      · intro w'
        go_simp
        first | with_reducible rfl | (rw [if_neg (by intro hl_; simp only [ByteArray.size_append, ByteArray.size_extract] at *; omega)])
      rotate_left
      · simp only [Act.put, List.setIfInBounds_toArray, List.set_cons_zero, List.set_cons_succ, i64_w, i32_w]
        rfl
      refine pure_ (i := 48) (N := some 5) (v := ?_) (a' := ?_) #[true, true, true, true, true, true, true, true, true, true, true, true, true, true, true, true, true, true, true, true, true, true, true, true, true, true, true, true, true, true, true, true, true, true, true, true, true, true, true, true, true, true, true, true, true, true, true, true, true] rfl rfl (any_of HT_.out (by kernel_rfl)) (fun _ _ _ h => h) (Or.inl ⟨by rfl, ?_⟩) ?_ ?_
      rotate_left
      · intro w'
        go_simp
        first | with_reducible rfl | (rw [if_neg (by intro hl_; simp only [ByteArray.size_append, ByteArray.size_extract] at *; omega)])
      rotate_left
      · simp only [Act.put, List.setIfInBounds_toArray, List.set_cons_zero, List.set_cons_succ, i64_w, i32_w]
        rfl
      refine done_ (done_of HT_.out (by kernel_rfl)) ?_
      rcases HFI.out with ⟨rfl, hne⟩ | ⟨rfl, rfl⟩
      · have d1 : (t191 == 0) = false := beq_eq_false_iff_ne.2 hne
        clear hne
        go_wp2
        go_ret
        exact ⟨by first | rfl | (simp; done) | (simp [*]; done), HB.out⟩
      · go_wp2
        go_ret
        exact ⟨by first | rfl | (simp; done) | (simp [*]; done), HB.out⟩
    · obtain ⟨rfl, hrg⟩ : er = 6 ∧ rgt a0_0 a0_1 a0_2 l0_3 = false := by
        rcases hcase with h | ⟨_, h1, h2, h3⟩
        · exact h
        · obtain ⟨_, h4, h5, _⟩ := (chk_at l0_3 a0_1).1 h3
          exact absurd ⟨h1, h2, h4, h5⟩ hk1
      clear hcase he
      by_cases hk : a0_0 = 0
      · subst hk
        have c1 : ((0 : Int) == 1) = false := rfl
        clear hk1
        by_cases h1 : a0_1 = 0
        · subst h1
          by_cases h2 : a0_2 = ⟨#[]⟩
          · subst h2
            have h3 : l0_3.length ≠ 0 := fun h => by
              rw [rgt_mk 0 0 ⟨#[]⟩ l0_3 (.inl ⟨rfl, rfl, rfl, List.length_eq_zero_iff.1 h⟩)] at hrg
              cases hrg
            have c4 : ((l0_3.length : Int) == 0) = false := beq_eq_false_iff_ne.2 (by omega)
            have c5 : (l0_3.length == 0) = false := beq_eq_false_iff_ne.2 h3
            clear hrg h3
            go_wp2_with fail
            go_quiet (fail)
            go_wp2
            go_ret
            exact ⟨by first | rfl | (simp; done) | (simp [*]; done), pw_below_drewN HB.out _⟩
          · have c3 : (a0_2.toList == ([] : List UInt8)) = false := beq_eq_false_iff_ne.2 (fun h => h2 (empty_of ((tl_nil _).1 h)))
            have c3b : a0_2.toList.isEmpty = false := by cases hh : a0_2.toList with | nil => exact absurd (empty_of ((tl_nil _).1 hh)) h2 | cons x y => rfl
            have c3c : ¬ a0_2.toList = ([] : List UInt8) := fun h => h2 (empty_of ((tl_nil _).1 h))
            clear h2
            clear hrg
            go_wp2_with fail
            go_quiet (fail)
            go_wp2
            go_ret
            exact ⟨by first | rfl | (simp; done) | (simp [*]; done), pw_below_drewN HB.out _⟩
        · have c2 : (a0_1 == 0) = false := beq_eq_false_iff_ne.2 h1
          clear hrg
          go_wp2_with fail
          go_quiet (fail)
          go_wp2
          go_ret
          exact ⟨by first | rfl | (simp; done) | (simp [*]; done), pw_below_drewN HB.out _⟩
      · have c1 : (a0_0 == 0) = false := beq_eq_false_iff_ne.2 hk
        by_cases h1 : a0_0 = 1
        · subst h1
          by_cases h2 : a0_2 = ⟨#[]⟩
          · subst h2
            by_cases h3 : 0 ≤ a0_1
            · have c3 : decide ((0 : Int) ≤ a0_1) = true := decide_eq_true h3
              have h4 : ¬ a0_1 ≤ 65536 := fun h => hk1 ⟨rfl, rfl, h3, h⟩
              have c4 : decide (a0_1 ≤ (65536 : Int)) = false := decide_eq_false h4
              clear hrg hk1 h3 h4
              go_wp2_with fail
              go_quiet (fail)
              go_wp2
              go_ret
              exact ⟨by first | rfl | (simp; done) | (simp [*]; done), pw_below_drewN HB.out _⟩
            · have c3 : decide ((0 : Int) ≤ a0_1) = false := decide_eq_false h3
              clear hrg hk1 h3
              go_wp2_with fail
              go_quiet (fail)
              go_wp2
              go_ret
              exact ⟨by first | rfl | (simp; done) | (simp [*]; done), pw_below_drewN HB.out _⟩
          · have c3 : (a0_2.toList == ([] : List UInt8)) = false := beq_eq_false_iff_ne.2 (fun h => h2 (empty_of ((tl_nil _).1 h)))
            have c3b : a0_2.toList.isEmpty = false := by cases hh : a0_2.toList with | nil => exact absurd (empty_of ((tl_nil _).1 hh)) h2 | cons x y => rfl
            have c3c : ¬ a0_2.toList = ([] : List UInt8) := fun h => h2 (empty_of ((tl_nil _).1 h))
            clear h2
            clear hrg hk1
            go_wp2_with fail
            go_quiet (fail)
            go_wp2
            go_ret
            exact ⟨by first | rfl | (simp; done) | (simp [*]; done), pw_below_drewN HB.out _⟩
        · have c2 : (a0_0 == 1) = false := beq_eq_false_iff_ne.2 h1
          clear hrg hk1 h1 hk
          go_wp2_with fail
          go_quiet (fail)
          go_wp2
          go_ret
          exact ⟨by first | rfl | (simp; done) | (simp [*]; done), pw_below_drewN HB.out _⟩
  · obtain rfl : er = 0 := by omega
    have hpa := HBA.out rfl
    have HPC := Aside0.mk (fun (W : World) (hT : TM W) => report_Parse.calls 1048579 s a0_0 a0_1 a0_2 l0_3 0 0 W (by rw [parse_ev s 1048579 (by omega), hpa]; rfl) hT)
    have HOC := Aside0.mk (fun (A1 : Option Addr) (c1 : Nat) (W : World) (h1 : Kd.C k60 W A0_3 l0_3.length l0_3) (h2 : Kd.C k60 W A1 l0_3.length l0_3) (h3 : l0_3.length ≤ c1) => dowelbook_Outcomes.calls 1048579 a0_0 a0_1 a0_2 A0_3 c0_3 l0_3 a0_0 a0_1 a0_2 A1 c1 l0_3 true W h1 HC0_3.out h2 h3 (by rw [outcomes_ev a0_0 a0_1 a0_2 l0_3 a0_0 a0_1 a0_2 l0_3 (by have := HN.out; omega) 1048579 (by have := HN.out; omega)]; simp))
    clear he hpa HER HBA
    go_wp2_with fail
    go_at_call 16
    refine (HPC.out w4 (TM.step HTM.out HB.out)).mono ?_
    rintro e_ w5 ⟨v5, rfl, hR5, hb5⟩
    obtain ⟨A5, c5, rfl⟩ := Kd.R_slice hR5
    have HC5 := Aside0.mk (Kd.R_reads' hR5).2
    have BK5 := Aside0.mk ((hb5.block gb167 (Ps.lt_of_some BK167.out)).trans BK167.out)
    have HB5 := Aside0.mk (HB.out.trans (hb5.mono HB.out.size))
    clear k0 zk0 k1 zk1 k2 zk2 k3 zk3
    clear hb5 hR5 HB BK167 HPC
    have k0 := (blk_cell BK5.out 0).trans rfl
    have k1 := (blk_cell BK5.out 1).trans rfl
    have k2 := (blk_cell BK5.out 2).trans rfl
    have k3 := (blk_cell BK5.out 3).trans rfl
    have zk0 := blk_frozen BK5.out 0
    have zk1 := blk_frozen BK5.out 1
    have zk2 := blk_frozen BK5.out 2
    have zk3 := blk_frozen BK5.out 3
    have hlt5 := Ps.lt_of_some BK5.out
    have hne1 : gb167 ≠ w5.heap.size := by omega
    have hne2 : w5.heap.size ≠ gb167 := by omega
    have hne3 : gb167 ≠ w5.heap.size + 1 := by omega
    have hne4 : w5.heap.size + 1 ≠ gb167 := by omega
    go_wp2_with fail
    go_at_call 19
    have hal := ((Below.refl w5.heap.size w5).alloc (Nat.le_refl _) (.cells #[.int .i64 a0_0, .int .i64 a0_1, .string a0_2, .slice A5 l0_3.length c5] 24)).alloc (by simp) (.cells #[.int .i64 0, .int .i64 0] 34)
    refine (HOC.out A5 c5 _ (Kd.C_below HR0_3.out (HB5.out.trans (hal.mono HB5.out.size))) (Kd.C_below HC5.out.2 hal) HC5.out.1).mono ?_
    rintro e_ w6 ⟨rfl, hb6⟩
    have HB6 := Aside0.mk ((HB5.out.trans (hal.mono HB5.out.size)).trans (hb6.mono (HB5.out.trans (hal.mono HB5.out.size)).size))
    clear hb6 hal
    go_wp2
    go_ret
    exact ⟨by first | rfl | (simp; done) | (simp [*]; done), HB6.out⟩
end Go.Proofs.YtloflodbcdlmpaaDoor.LawBk
