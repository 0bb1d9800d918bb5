/- The walk of the law ForestBack: it answers true, and what lay ahead of the call lies as it lay. Conditions: a list of at most 2^20 nodes, names of at most 2^20 bytes; what works asks. -/
import Derived.Test.YtkebableanenkaaDoorBackB
import Derived.Test.YtkebableanenkaaDoorWorks
namespace Go.Proofs.YtkebableanenkaaDoor.LawBack
open Go.RowKit Go.Proofs.YtkebableanenkaaDoor.Qall Go.Proofs.YtkebableanenkaaDoor.Chk Go.Proofs.YtkebableanenkaaDoor.Tx Go.Proofs.YtkebableanenkaaDoor.Ln Go.Proofs.YtkebableanenkaaDoor.Ps Go.Proofs.YtkebableanenkaaDoor.Free Go.Proofs.YtkebableanenkaaDoorW.PrintWords Go.Proofs.YtkebableanenkaaDoorW.PrintLast Go.Proofs.YtkebableanenkaaDoorW.PrintMore
set_option linter.unusedSimpArgs false
set_option linter.unusedVariables false
theorem txt_cases (f : List S37) (s : ByteArray) (e : Int) (h : txtAns f = (s, e)) (he : e ≠ 0) : s = ⟨#[]⟩ ∧ (e = chkAns f 65536 ∨ chkAns f 65536 = 0 ∧ e = 2) := by
  unfold txtAns at h
  split at h
  · rename_i hc
    split at h
    · injection h with _ h2; exact absurd h2.symm he
    · injection h with h1 h2; exact ⟨h1.symm, .inr ⟨hc, h2.symm⟩⟩
  · injection h with h1 h2; exact ⟨h1.symm, .inl h2.symm⟩
attribute [local go_sem high] Wk.eqF
set_option maxRecDepth 100000 in
set_option maxHeartbeats 4000000 in
theorem Back_walk (f : List S37) (hn : f.length ≤ 1048576) (hM : ∀ x ∈ f, x.f0.size ≤ 1048576) (hbd : ∀ c ∈ f, c.f3 ≤ 9223372036854775807)
    (hw1 : ∀ x ∈ f, -9223372036854775808 ≤ x.f1 ∧ x.f1 ≤ 9223372036854775807) (hw2 : ∀ x ∈ f, -9223372036854775808 ≤ x.f2 ∧ x.f2 ≤ 9223372036854775807)
    (Af : Option Addr) (cf : Nat) (w : World) (hCf : Kd.C k37 w Af f.length f) (hcf : f.length ≤ cf) (hm : Mx w) (htab : Tab w) :
    Calls Tryd.prog 5 #[.slice Af f.length cf] w fun e w' => e = .returned (.bool true) ∧ Below w.heap.size w w' := by
  have HWK := Aside0.mk (Wk.works_calls w hm htab)
  have hck := fun (A : Option Addr) (c : Nat) (W : World) (hC : Kd.C k37 W A f.length f) (h : f.length ≤ c) => check_calls f (by omega) 65536 1048576 hM (by decide) A c W hC h
  have htx := fun (A : Option Addr) (c : Nat) (W : World) (hC : Kd.C k37 W A f.length f) (h : f.length ≤ c) (hT : Tab W) => text_calls f (by omega) 1048576 hM (by decide) hw1 hw2 A c W hC h hT
  obtain ⟨⟨s, e⟩, hse⟩ : ∃ x, txtAns f = x := ⟨_, rfl⟩
  have hpt := fun (he : e = 0) => Bk.parse_text f hbd s (by rw [hse, he])
  have hcs := txt_cases f s e hse
  obtain ⟨ck, hcke⟩ : ∃ x, chkAns f 65536 = x := ⟨_, rfl⟩
  rw [hcke] at hck hcs hpt
  rw [hse] at htx
  dsimp only at htx
  have HCK := Aside0.mk hck
  have HTX := Aside0.mk htx
  have HPT := Aside0.mk hpt
  have HCS := Aside0.mk hcs
  have HC := Aside0.mk hCf
  have HMX := Aside0.mk hm
  have HTAB := Aside0.mk htab
  obtain ⟨KS, hKS⟩ := Lend.spans_self f (by omega)
  have HKS := Aside0.mk hKS
  have hnb : decide (1048585 < (f.length : Int)) = false := decide_eq_false (by omega)
  have hnb2 : decide (1048585 < f.length) = false := decide_eq_false (by omega)
  clear hck htx hpt hcs hm htab hCf hcke hse hM hbd hw1 hw2 hKS
  go_enter Tryd.func5, Tryd.ntmps5
  go_wp2_with fail
  go_at_call 19
  refine HWK.out.mono ?_
  rintro e_ w1 ⟨rfl, hb1⟩
  go_wp2_with fail
  go_at_call 15
  refine (Lend.lend f Af cf w1 (Kd.C_below HC.out hb1) (by omega)).mono ?_
  rintro e_ w2 ⟨g, cap, cur, hg, rfl, hcap, hmax, hcur, hcs, htake, hb2⟩
  have hCo := (Kd.R_reads' (own_R w2 w1.heap.size g cap cur f hcur hg (by omega) hmax hcs htake)).2.2
  have HB2 := hb1.trans (hb2.mono hb1.size)
  have hcap2 : f.length ≤ cap := by omega
  clear hcur hcs htake hb2 hb1
  go_wp2_with fail
  go_at_call 16
  refine (HTX.out (some ⟨g, 0, none⟩) cap w2 hCo hcap2 (Tab.step HTAB.out HB2)).mono ?_
  rintro e_ w3 ⟨rfl, hb3⟩
  have HB3 := HB2.trans (hb3.mono HB2.size)
  clear hb3 HB2 hCo
  go_wp2_with fail
  go_at_call 15
  refine (Lend.lend f Af cf w3 (Kd.C_below HC.out HB3) (by omega)).mono ?_
  rintro e_ w4 ⟨g2, cap3, cur2, hg2, rfl, hcap4, hmax2, hcur2, hcs2, htake2, hb4⟩
  have hCo := (Kd.R_reads' (own_R w4 w3.heap.size g2 cap3 cur2 f hcur2 hg2 (by omega) hmax2 hcs2 htake2)).2.2
  have HB4 := HB3.trans (hb4.mono HB3.size)
  have hcap5 : f.length ≤ cap3 := by omega
  clear hcur2 hcs2 htake2 hb4 HB3
  go_wp2_with fail
  go_at_call 20
  refine (HCK.out (some ⟨g2, 0, none⟩) cap3 w4 hCo hcap5).mono ?_
  rintro e_ w5 ⟨rfl, hb5⟩
  have HB5 := Aside0.mk (HB4.trans (hb5.mono HB4.size))
  clear hb5 HB4 hCo
  by_cases he : e ≠ 0
  · obtain ⟨rfl, hcase⟩ := HCS.out he
    have q1 : (e != 0) = true := bne_iff_ne.mpr he
    have q2 : (e == 0) = false := beq_eq_false_iff_ne.mpr he
    by_cases hec : e = ck
    · have q3 : (e == ck) = true := beq_iff_eq.mpr hec
      clear hcase he HCS HPT
      subst hec
      go_wp2
      go_ret
      exact ⟨by first | rfl | (simp; done) | (simp [*]; done), HB5.out⟩
    · obtain ⟨rfl, rfl⟩ : ck = 0 ∧ e = 2 := hcase.elim (fun h => absurd h hec) id
      have q3 : ((2 : Int) == 0) = false := rfl
      clear hcase he HCS HPT hec
      go_wp2
      go_ret
      exact ⟨by first | rfl | (simp; done) | (simp [*]; done), HB5.out⟩
  · obtain rfl : e = 0 := by omega
    obtain ⟨rfl, hpa⟩ := HPT.out rfl
    have hpc := parse_calls s w5 (HMX.out.step HB5.out)
    rw [hpa] at hpc
    have HPC := Aside0.mk hpc
    clear he hpc hpa HCS HPT
    go_wp2_with fail
    go_at_call 10
    refine HPC.out.mono ?_
    rintro e_ w6 ⟨v6, rfl, hR6, hb6⟩
    obtain ⟨A6, c6, rfl⟩ := Kd.R_slice hR6
    go_upto_region 10 with ((with_reducible refine gate_dst (N := 7) rfl ?_); (try (refine gate_guard (by rfl) ?_; dsimp only)); refine box_event ?hg (N := 7) ?hd (cs := #[.int .i64 0, .int .i64 0]) (t := 25) ?hr ?_; (case hd => rfl); (case hg => rfl); (case hr => first | (go_simp; done) | (go_simp; rfl)); intro g1 hg0 x1 hbox hb0; have GE := Aside0.mk (Nat.le_of_eq hg0.symm); have BX := Aside0.mk hbox; have HX := Aside0.mk hb0; have k0 := (blk_cell hbox 0).trans rfl; have k1 := (blk_cell hbox 1).trans rfl; have z0 := blk_frozen hbox 0; have z1 := blk_frozen hbox 1; clear hg0 hbox hb0)
    obtain ⟨BY, HY⟩ := Wk.boxed (a := .int .i64 0) (b := .int .i64 0) BX.out HX.out GE.out
    generalize (x1.setCell ⟨g1, 0, none⟩ (.int .i64 0)).setCell ⟨g1, 1, none⟩ (.int .i64 0) = y1 at BY HY ⊢
    have HB6 := HB5.out.trans ((hb6.trans (HY.mono hb6.size)).mono HB5.out.size)
    have hC6 := (Kd.R_reads' (Kd.R_below hR6 HY)).2
    have a0 := (blk_cell BY 0).trans rfl
    have a1 := (blk_cell BY 1).trans rfl
    have hsp := dowelbook_Spans.calls KS Af cf f A6 c6 f true y1 (Kd.C_below HC.out HB6) hcf hC6.2 hC6.1 HKS.out
    have HSP := Aside0.mk hsp
    have HBF := Aside0.mk HB6
    clear hsp hC6 HB6 BY HY BX HX GE hR6 hb6 k0 k1 z0 z1
    go_wp2_with fail
    go_at_call 12
    refine HSP.out.mono ?_
    rintro e_ w7 ⟨rfl, hd7⟩
    have HB7 := HBF.out.trans (hd7.below.mono HBF.out.size)
    clear hd7 HSP HBF
    go_wp2
    go_ret
    exact ⟨rfl, HB7⟩
end Go.Proofs.YtkebableanenkaaDoor.LawBack
