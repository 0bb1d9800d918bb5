/- The walk of the law ForestRead: it answers true, and what lay ahead of the call lies as it lay. Conditions: what works asks. -/
import Derived.Test.YtkebableanenkaaDoorReadE
import Derived.Test.YtkebableanenkaaDoorWorks
namespace Go.Proofs.YtkebableanenkaaDoor.LawRead
open Go.RowKit Go.Proofs.YtkebableanenkaaDoor.Qall Go.Proofs.YtkebableanenkaaDoor.Chk Go.Proofs.YtkebableanenkaaDoor.Tx Go.Proofs.YtkebableanenkaaDoor.Ln Go.Proofs.YtkebableanenkaaDoor.Ps Go.Proofs.YtkebableanenkaaDoor.Free Go.Proofs.YtkebableanenkaaDoorW.PrintWords Go.Proofs.YtkebableanenkaaDoorW.PrintLast Go.Proofs.YtkebableanenkaaDoorW.PrintMore
set_option linter.unusedSimpArgs false
set_option linter.unusedVariables false
theorem read_empty (t : ByteArray) (f : List S37) (a c : Int) (h : parseAns t = (f, a, c)) (hz : t.size = 0) : f = [] := by
  unfold parseAns at h
  rw [if_neg (by omega), parseGo_end (by omega)] at h
  exact (Prod.mk.inj h).1.symm
attribute [local go_sem high] Wk.eqF
set_option maxRecDepth 100000 in
set_option maxHeartbeats 4000000 in
theorem Read_walk (t : ByteArray) (cut : Int) (w : World) (hm : Mx w) (htab : Tab w) :
    Calls Tryd.prog 6 #[.string t, .int .i64 cut] w fun e w' => e = .returned (.bool true) ∧ Below w.heap.size w w' := by
  have HWK := Aside0.mk (Wk.works_calls w hm htab)
  have hpc := fun W h => parse_calls t W h
  obtain ⟨⟨f, a, c⟩, hans⟩ : ∃ x, parseAns t = x := ⟨_, rfl⟩
  have hft := Rdd.read_fault t f a c hans
  have hrr := fun (ha : a = 0) (hc : c = 0) => Rdc.read_right t f (by rw [hans, ha, hc])
  have hrb := fun (ha : a = 0) (hc : c = 0) => Rde.read_bounds t f (by rw [hans, ha, hc])
  have hrc := fun (ha : a = 0) (hc : c = 0) (k : Nat) (hk : k ≤ t.size) => Rdd.read_cut t f k hk (by rw [hans, ha, hc])
  rw [hans] at hpc
  dsimp only at hpc
  have HPC := Aside0.mk hpc
  have HFT := Aside0.mk hft
  have HRR := Aside0.mk hrr
  have HRB := Aside0.mk hrb
  have HRC := Aside0.mk hrc
  have HMX := Aside0.mk hm
  have HEM := Aside0.mk (read_empty t f a c hans)
  have HTAB := Aside0.mk htab
  clear hpc hft hrr hrb hrc hm htab hans
  go_enter Tryd.func6, Tryd.ntmps6
  go_wp2_with fail
  go_at_call 19
  refine HWK.out.mono ?_
  rintro e_ w1 ⟨rfl, hb1⟩
  have HB1 := Aside0.mk hb1
  clear hb1 HWK
  go_upto_region 4 with (first | (go_at_call 10; refine (HPC.out w1 (HMX.out.step HB1.out)).mono ?_; rintro e_ w2 ⟨v2, rfl, R, hb⟩; obtain ⟨A2, c2, rfl⟩ := Kd.R_slice R; have RN := Aside0.mk R; have HN := Aside0.mk hb; clear R hb) | ((with_reducible refine gate_dst (N := 6) rfl ?_); (try (refine gate_guard (by rfl) ?_; dsimp only)); refine box_event ?hg (N := 6) ?hd (cs := #[.int .i64 0, .int .i64 0]) (t := 25) ?hr ?_; (case hd => rfl); (case hg => rfl); (case hr => first | (go_simp; done) | (go_simp; rfl)); intro g1 hg0 x1 hbox hb0; have GE := Aside0.mk (Nat.le_of_eq hg0.symm); have BX := Aside0.mk hbox; have HX := Aside0.mk hb0; have k0 := (blk_cell hbox 0).trans rfl; have k1 := (blk_cell hbox 1).trans rfl; have z0 := blk_frozen hbox 0; have z1 := blk_frozen hbox 1; clear hg0 hbox hb0))
  obtain ⟨BY, HY⟩ := Wk.boxed (a := .int .i64 a) (b := .int .i64 c) BX.out HX.out GE.out
  generalize (x1.setCell ⟨g1, 0, none⟩ (.int .i64 a)).setCell ⟨g1, 1, none⟩ (.int .i64 c) = y1 at BY HY ⊢
  have HB2 := Aside0.mk (HB1.out.trans ((HN.out.trans (HY.mono HN.out.size)).mono HB1.out.size))
  have hR2 := Kd.R_below RN.out HY
  have HC2 := Aside0.mk (Kd.R_reads' hR2).2
  have a0 := (blk_cell BY 0).trans rfl
  have a1 := (blk_cell BY 1).trans rfl
  have BK := Aside0.mk BY
  have HG := Aside0.mk (Nat.le_trans HB1.out.size (Nat.le_trans HN.out.size GE.out))
  clear BX HX GE RN HN HY BY hR2 k0 k1 z0 z1 HB1
  by_cases hac : a = 0 ∧ c = 0
  · obtain ⟨rfl, rfl⟩ := hac
    have HRD := Aside0.mk (HRC.out rfl rfl)
    have HC := Aside0.mk (HRR.out rfl rfl).1
    have HT := Aside0.mk (HRR.out rfl rfl).2
    obtain ⟨hts, hn, hM, hw1, hw2⟩ := HRB.out rfl rfl
    have htx := fun (A : Option Addr) (cc : Nat) (W : World) (hC : Kd.C k37 W A f.length f) (h : f.length ≤ cc) (hT : Tab W) => text_calls f (by omega) 4194304 hM (by decide) (fun x hx => by have := hw1 x hx; omega) (fun x hx => by have := hw2 x hx; omega) A cc W hC h hT
    have hck := fun (A : Option Addr) (cc : Nat) (W : World) (hC : Kd.C k37 W A f.length f) (h : f.length ≤ cc) => check_calls f (by omega) 65536 4194304 hM (by decide) A cc W hC h
    rw [HT.out] at htx
    rw [HC.out] at hck
    dsimp only at htx
    have HTX := Aside0.mk htx
    have HCK := Aside0.mk hck
    clear htx hck hM hw1 hw2 HFT HRR HRB HRC HC HT
    go_wp2_with fail
    go_at_call 16
    refine (HTX.out A2 c2 y1 HC2.out.2 HC2.out.1 (Tab.step HTAB.out HB2.out)).mono ?_
    rintro e_ w3 ⟨rfl, hb3⟩
    have HB3 := Aside0.mk hb3
    clear hb3 HTX
    go_wp2_with fail
    go_at_call 20
    refine (HCK.out A2 c2 w3 (Kd.C_below HC2.out.2 HB3.out) HC2.out.1).mono ?_
    rintro e_ w4 ⟨rfl, hb4⟩
    have HD := Aside0.mk (HB3.out.trans (hb4.mono HB3.out.size))
    have HB4 := Aside0.mk (HB2.out.trans (HD.out.mono HB2.out.size))
    clear hb4 HB3 HCK
    by_cases hz : t.size = 0
    · obtain rfl := HEM.out hz
      have hzi : (t.size : Int) = 0 := by omega
      have hzd : decide ((t.size : Int) = 0) = true := decide_eq_true hzi
      go_wp2
      go_ret
      exact ⟨by first | rfl | (simp; done), HB4.out⟩
    · have hzi : ((t.size : Int) == 0) = false := beq_eq_false_iff_ne.mpr (by omega)
      go_upto_region 12 with fail
      obtain ⟨k, hk, hkl⟩ : ∃ k : Nat, wrap64 ((IntKind.u64.wrap cut).tmod t.size) = (k : Int) ∧ k < t.size := by
        have h0 : 0 ≤ IntKind.u64.wrap cut := by
          have hq := Int.emod_nonneg cut (show (18446744073709551616 : Int) ≠ 0 by decide)
          show 0 ≤ (cut % 18446744073709551616 : Int)
          exact hq
        have h1 := Int.tmod_nonneg (t.size : Int) h0
        have h2 := Int.tmod_lt_of_pos (IntKind.u64.wrap cut) (show (0 : Int) < t.size by omega)
        refine ⟨((IntKind.u64.wrap cut).tmod t.size).toNat, ?_, by omega⟩
        rw [Ln.wrap_of (by omega) (by omega)]
        omega
      rw [hk]
      have hce : (t.extract 0 k).size = k := Rdd.size_of t k (by omega)
      have hcut := HRD.out k (by omega)
      have HPK := Aside0.mk (fun W h => parse_calls (t.extract 0 k) W h)
      have HHT := Aside0.mk hts
      have hkt : k ≤ t.size := by omega
      clear hk HRD hzi hce
      by_cases hB : Rdd.Beg t k
      · obtain ⟨H, hH, hHl⟩ := hcut.1 hB
        have hpk := HPK.out
        rw [hH] at hpk
        dsimp only at hpk
        have HP2 := Aside0.mk hpk
        clear hpk HPK hcut hH
        go_wp2_with fail
        go_at_call 10
        refine (HP2.out w4 (HMX.out.step HB4.out)).mono ?_
        rintro e_ w5 ⟨v5, rfl, R5, hb5⟩
        obtain ⟨A5, c5, rfl⟩ := Kd.R_slice R5
        have BK5 := ((HD.out.trans (hb5.mono HD.out.size)).block g1 (Fi.lt_of_some BK.out)).trans BK.out
        have HB5 := Aside0.mk (HB4.out.trans (hb5.mono HB4.out.size))
        have k0 := (blk_cell BK5 0).trans rfl
        have k1 := (blk_cell BK5 1).trans rfl
        have z0 := blk_frozen BK5 0
        have z1 := blk_frozen BK5 1
        have BX := Aside0.mk BK5
        clear BK5 hb5 R5 a0 a1 HP2
        go_upto_region 13 with fail
        obtain ⟨BY, HY⟩ := Wk.boxed (a := .int .i64 0) (b := .int .i64 0) BX.out HB5.out HG.out
        generalize (w5.setCell ⟨g1, 0, none⟩ (.int .i64 0)).setCell ⟨g1, 1, none⟩ (.int .i64 0) = y2 at BY HY ⊢
        have a0 := (blk_cell BY 0).trans rfl
        have a1 := (blk_cell BY 1).trans rfl
        have HY2 := Aside0.mk HY
        clear BX BY HY k0 k1 z0 z1
        cases k with
        | zero =>
          have d0 : decide (H.length ≤ f.length) = true := decide_eq_true hHl
          have d1 : decide ((H.length : Int) ≤ (f.length : Int)) = true := decide_eq_true (by omega)
          go_wp2
          go_ret
          exact ⟨by first | rfl | (simp; done) | (simp [*]; done), HY2.out⟩
        | succ k =>
          have hwr : wrap64 (((k + 1 : Nat) : Int) - 1) = (k : Int) := by rw [show (((k + 1 : Nat) : Int) - 1) = (k : Int) by omega]; exact Ln.wrap_of (by omega) (by omega)
          have hwr2 : wrap64 ((k : Int) + 1 - 1) = (k : Int) := by rw [show ((k : Int) + 1 - 1) = (k : Int) by omega]; exact Ln.wrap_of (by omega) (by omega)
          have hmt : k < t.size := by omega
          have hby : (((t[k]'hmt).toNat : Int) != 10) = false := by
            rcases hB with h0 | h0
            · omega
            · have h1 : t.data.toList[k]? = some 10 := h0
              rw [Array.getElem?_toList] at h1
              have e : (t[k]'hmt) = 10 := (Array.getElem?_eq_some_iff.1 h1).2
              rw [e]
              rfl
          have d0 : decide (H.length ≤ f.length) = true := decide_eq_true hHl
          have d1 : decide ((H.length : Int) ≤ (f.length : Int)) = true := decide_eq_true (by omega)
          clear hB
          go_wp2
          go_ret
          exact ⟨by first | rfl | (simp; done) | (simp [*]; done), HY2.out⟩
      · obtain ⟨av, hH⟩ := hcut.2 hB
        have hpk := HPK.out
        rw [hH] at hpk
        dsimp only at hpk
        have HP2 := Aside0.mk hpk
        clear hpk HPK hcut hH
        go_wp2_with fail
        go_at_call 10
        refine (HP2.out w4 (HMX.out.step HB4.out)).mono ?_
        rintro e_ w5 ⟨v5, rfl, R5, hb5⟩
        obtain ⟨A5, c5, rfl⟩ := Kd.R_slice R5
        have BK5 := ((HD.out.trans (hb5.mono HD.out.size)).block g1 (Fi.lt_of_some BK.out)).trans BK.out
        have HB5 := Aside0.mk (HB4.out.trans (hb5.mono HB4.out.size))
        have k0 := (blk_cell BK5 0).trans rfl
        have k1 := (blk_cell BK5 1).trans rfl
        have z0 := blk_frozen BK5 0
        have z1 := blk_frozen BK5 1
        have BX := Aside0.mk BK5
        clear BK5 hb5 R5 a0 a1 HP2
        go_upto_region 13 with fail
        obtain ⟨BY, HY⟩ := Wk.boxed (a := .int .i64 av) (b := .int .i64 120) BX.out HB5.out HG.out
        generalize (w5.setCell ⟨g1, 0, none⟩ (.int .i64 av)).setCell ⟨g1, 1, none⟩ (.int .i64 120) = y2 at BY HY ⊢
        have a0 := (blk_cell BY 0).trans rfl
        have a1 := (blk_cell BY 1).trans rfl
        have HY2 := Aside0.mk HY
        clear BX BY HY k0 k1 z0 z1
        cases k with
        | zero => exact absurd (Or.inl rfl) hB
        | succ k =>
          have hwr : wrap64 (((k + 1 : Nat) : Int) - 1) = (k : Int) := by rw [show (((k + 1 : Nat) : Int) - 1) = (k : Int) by omega]; exact Ln.wrap_of (by omega) (by omega)
          have hwr2 : wrap64 ((k : Int) + 1 - 1) = (k : Int) := by rw [show ((k : Int) + 1 - 1) = (k : Int) by omega]; exact Ln.wrap_of (by omega) (by omega)
          have hmt : k < t.size := by omega
          have hby : (((t[k]'hmt).toNat : Int) != 10) = true := by
            refine bne_iff_ne.mpr (fun h => hB (Or.inr ?_))
            show t.data.toList[k]? = some 10
            rw [Array.getElem?_toList]
            refine Array.getElem?_eq_some_iff.2 ⟨hmt, ?_⟩
            have h2 : (t[k]'hmt).toNat = 10 := by omega
            exact UInt8.toNat_inj.1 h2
          clear hB
          go_wp2
          go_ret
          exact ⟨by first | rfl | (simp; done) | (simp [*]; done), HY2.out⟩
  · obtain ⟨rfl, h2, h3, m, rfl, h5, h6, h7⟩ := HFT.out.resolve_left hac
    have HB6 := Aside0.mk h6
    have HC3 := Aside0.mk h3
    clear h6 h3 HFT HRR HRB HRC
    have q1 : (c != 0) = true := bne_iff_ne.mpr h2
    have q2 : (c == 0) = false := beq_eq_false_iff_ne.mpr h2
    clear hac
    obtain ⟨big, hbig⟩ : ∃ b, decide (4194304 < (t.size : Int)) = b := ⟨_, rfl⟩
    have q3 : (c == 1) = big := by
      rw [← hbig]
      by_cases hb : 4194304 < t.size
      · rw [HC3.out.2 hb, decide_eq_true (by omega)]; rfl
      · rw [decide_eq_false (by omega)]; exact beq_eq_false_iff_ne.mpr (fun e => hb (HC3.out.1 e))
    have q4 : (big == big) = true := by cases big <;> rfl
    have hbig2 : decide (4194304 < t.size) = big := by rw [← hbig]; exact decide_eq_decide.mpr (by omega)
    have hm0 : decide ((0 : Int) ≤ (m : Int)) = true := decide_eq_true (by omega)
    have hm1 : decide ((m : Int) ≤ (t.size : Int)) = true := decide_eq_true (by omega)
    cases m with
    | zero =>
      go_wp2
      go_ret
      exact ⟨rfl, HB2.out⟩
    | succ m =>
      have hwr : wrap64 (((m + 1 : Nat) : Int) - 1) = (m : Int) := by rw [show (((m + 1 : Nat) : Int) - 1) = (m : Int) by omega]; exact Ln.wrap_of (by omega) (by omega)
      have hwr2 : wrap64 ((m : Int) + 1 - 1) = (m : Int) := by rw [show ((m : Int) + 1 - 1) = (m : Int) by omega]; exact Ln.wrap_of (by omega) (by omega)
      have hmt : m < t.size := by omega
      have hby : (((t[m]'hmt).toNat : Int) == 10) = true := by
        rcases HB6.out with h0 | h0
        · omega
        · have h1 : t.data.toList[m]? = some 10 := h0
          rw [Array.getElem?_toList] at h1
          have e : (t[m]'hmt) = 10 := (Array.getElem?_eq_some_iff.1 h1).2
          rw [e]
          rfl
      go_wp2
      go_ret
      exact ⟨by first | rfl | (simp [hby]; done), HB2.out⟩
end Go.Proofs.YtkebableanenkaaDoor.LawRead
