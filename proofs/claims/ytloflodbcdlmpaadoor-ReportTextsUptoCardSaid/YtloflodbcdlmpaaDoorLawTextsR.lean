/- The walk of the law ReportTexts: it answers true, and what lay ahead of the call lies as it lay. Conditions: a list of at most 2^20 nodes, names and a label of at most 2^20 bytes; what strconv.Itoa asks. -/
import Derived.Test.YtloflodbcdlmpaaDoorTxC
import Derived.Test.YtloflodbcdlmpaaDoorLentC
import Derived.Test.YtloflodbcdlmpaaDoorLendY
namespace Go.Proofs.YtloflodbcdlmpaaDoor.LawTx
open Go.RowKit Go.Proofs.YtloflodbcdlmpaaDoor.Qall Go.Proofs.YtloflodbcdlmpaaDoor.Rp Go.Proofs.YtloflodbcdlmpaaDoorW.PrintWords Go.Proofs.YtloflodbcdlmpaaDoorW.PrintLast Go.Proofs.YtloflodbcdlmpaaDoorW.PrintMore
set_option linter.unusedSimpArgs false
set_option linter.unusedVariables false
theorem itoa_three : Lib.itoa 3 = [51] := by
  unfold Lib.itoa
  rw [if_neg (by omega), show (3 : Int).toNat = 3 from rfl, Lib.decDigits, dif_pos (by omega)]
  rfl
theorem lit_ans : outAns 2 3 ⟨#[108]⟩ [] = (⟨#[116, 104, 114, 111, 119, 110, 32, 108, 32, 51, 10]⟩, 0) := by
  have hr : rgt 2 3 ⟨#[108]⟩ [] = true := by decide +kernel
  have hh : headB 2 3 ⟨#[108]⟩ = ⟨#[116, 104, 114, 111, 119, 110, 32, 108, 32, 51, 10]⟩ := by
    unfold headB headL
    rw [if_neg (by decide), if_pos rfl, itoa_three]
    rfl
  unfold outAns
  rw [if_pos hr, txt_nil, if_pos rfl, hh, if_pos (by decide)]
  rfl
theorem lt_of {W : World} {g : Nat} {o : Obj} (h : W.heap[g]? = some o) : g < W.heap.size := (Array.getElem?_eq_some_iff.1 h).1
theorem few_mk (f : List SO) (h1 : f.length ≤ 2097152) (h2 : ∀ x ∈ f, x.f0.size ≤ 1073741824) (h3 : ∀ x ∈ f, -9223372036854775808 ≤ x.f1 ∧ x.f1 ≤ 9223372036854775807) (h4 : ∀ x ∈ f, -9223372036854775808 ≤ x.f2 ∧ x.f2 ≤ 9223372036854775807) : few f = true := (few_iff f).2 ⟨h1, h2, h3, h4⟩
set_option maxRecDepth 100000 in
set_option maxHeartbeats 8000000 in
theorem Texts_walk (k e : Int) (l : ByteArray) (f : List SO) (hn : f.length ≤ 1048576) (hl : l.size ≤ 1048576) (hm1 : ∀ x ∈ f, x.f0.size ≤ 1048576)
    (q1 : ∀ x ∈ f, -9223372036854775808 ≤ x.f1 ∧ x.f1 ≤ 9223372036854775807) (q2 : ∀ x ∈ f, -9223372036854775808 ≤ x.f2 ∧ x.f2 ≤ 9223372036854775807) (q3 : ∀ x ∈ f, x.f3 ≤ 9223372036854775807)
    (A : Option Addr) (c : Nat) (w : World) (hC : Kd.C k60 w A f.length f) (hc : f.length ≤ c) (htab : Tab w) :
    Calls Tryd.prog 3 #[.agg #[.int .i64 k, .int .i64 e, .string l, .slice A f.length c]] w fun e' w' => e' = .returned (.bool true) ∧ Below w.heap.size w w' := by
  have hfew := few_mk f (by omega) (fun x hx => by have := hm1 x hx; omega) q1 q2
  have HTM := Aside0.mk (show TM w from htab)
  have HC := Aside0.mk hC
  obtain ⟨⟨s, er⟩, hse⟩ : ∃ x, outAns k e l f = x := ⟨_, rfl⟩
  obtain ⟨KR, hKR⟩ := rtext_ev k e l f hl hn q3 hm1
  rw [hse] at hKR
  have HTX := Aside0.mk (fun (A' : Option Addr) (c' : Nat) (W : World) (hC : Kd.C k60 W A' f.length f) (h : f.length ≤ c') (hT : TM W) => report_Text.calls k e l A' c' f s er W hC h (by rw [text_ev k e l f (by omega) hfew, hse]) hT)
  have HRX := Aside0.mk (fun (W : World) (hC : Kd.C k60 W A f.length f) => dowelref28_Text.calls KR k e l A c f s er W hC hc hKR)
  have HLT := Aside0.mk (fun (W : World) (hC : Kd.C k60 W A f.length f) => lent_calls k e l f (by omega) A c W hC hc)
  have HKP := Aside0.mk (fun (g cap : Nat) (cur : Array Value) (W : World) (hC : Kd.C k60 W A f.length f) => Lend.kept f (by omega) A c g cap cur W hC hc)
  have HLI := Aside0.mk (fun (W : World) (hT : TM W) => report_Text.calls 2 3 ⟨#[108]⟩ none 0 [] _ _ W (Kd.R_reads' (Kd.R_nil k60 60 W 0 (fun _ => True))).2.2 (Nat.le_refl _) (by rw [text_ev 2 3 ⟨#[108]⟩ [] (by decide) (by decide), lit_ans]) hT)
  have hnb : decide ((1048585 : Int) < (f.length : Int)) = false := decide_eq_false (by omega)
  have hnb2 : decide (1048585 < f.length) = false := decide_eq_false (by omega)
  have HN := Aside0.mk hn
  clear hC hc htab hse hKR hfew hm1 q1 q2 q3 hl hn
  go_enter Tryd.func3, Tryd.ntmps3
  go_wp2_with (((with_reducible refine gate_dst (N := 1) rfl ?_); (try (refine gate_guard (by rfl) ?_; dsimp only)); refine box_event ?hg (N := 1) ?hd (cs := #[.int .i64 k, .int .i64 e, .string l, .slice A f.length c]) (t := 24) ?hr ?_; (case hd => rfl); (case hg => rfl); (case hr => first | (go_simp; done) | (go_simp; rfl)); intro go hg0 w1 hbox hb0; have GEa := Aside0.mk (Nat.le_of_eq hg0.symm); have BXa := Aside0.mk hbox; have HXa := Aside0.mk hb0; have k0 := (blk_cell hbox 0).trans rfl; have k1 := (blk_cell hbox 1).trans rfl; have k2 := (blk_cell hbox 2).trans rfl; have k3 := (blk_cell hbox 3).trans rfl; have zk0 := blk_frozen hbox 0; have zk1 := blk_frozen hbox 1; have zk2 := blk_frozen hbox 2; have zk3 := blk_frozen hbox 3; clear hg0 hbox hb0))
  have HB1 := Aside0.mk HXa.out
  go_at_call 10
  refine (HLT.out w1 (Kd.C_below HC.out HB1.out)).mono ?_
  rintro e_ w2 ⟨g, cap, cur, hg, rfl, hcap, hmax, hcur, hcs, htake, hb2⟩
  have HCU := Aside0.mk hcur
  have HCP := Aside0.mk hcap
  have HMX := Aside0.mk hmax
  have HCS := Aside0.mk hcs
  have HTK := Aside0.mk htake
  have BK2 := Aside0.mk ((hb2.block go (lt_of BXa.out)).trans BXa.out)
  have HB2 := Aside0.mk (HB1.out.trans (hb2.mono HB1.out.size))
  clear k0 zk0 k1 zk1 k2 zk2 k3 zk3
  clear hg hcur hcap hmax hcs htake hb2 HB1 BXa HXa HLT
  have k0 := (blk_cell BK2.out 0).trans rfl
  have k1 := (blk_cell BK2.out 1).trans rfl
  have k2 := (blk_cell BK2.out 2).trans rfl
  have k3 := (blk_cell BK2.out 3).trans rfl
  have zk0 := blk_frozen BK2.out 0
  have zk1 := blk_frozen BK2.out 1
  have zk2 := blk_frozen BK2.out 2
  have zk3 := blk_frozen BK2.out 3
  go_upto_region 4 with (((with_reducible refine gate_dst (N := 3) rfl ?_); (try (refine gate_guard (by rfl) ?_; dsimp only)); refine box_event ?hg (N := 3) ?hd (cs := #[.int .i64 0, .int .i64 0, .string ⟨#[]⟩, .slice none 0 0]) (t := 24) ?hr ?_; (case hd => rfl); (case hg => rfl); (case hr => first | (go_simp; done) | (go_simp; rfl)); intro gp hg0 w3 hbox hb0; have GEp := Aside0.mk (Nat.le_of_eq hg0.symm); have BXp := Aside0.mk hbox; have HXp := Aside0.mk hb0; have m0 := (blk_cell hbox 0).trans rfl; have m1 := (blk_cell hbox 1).trans rfl; have m2 := (blk_cell hbox 2).trans rfl; have m3 := (blk_cell hbox 3).trans rfl; have zm0 := blk_frozen hbox 0; have zm1 := blk_frozen hbox 1; have zm2 := blk_frozen hbox 2; have zm3 := blk_frozen hbox 3; clear hg0 hbox hb0))
  clear m0 zm0 m1 zm1 m2 zm2 m3 zm3
  obtain ⟨BP, HP⟩ : ((((w3.setCell ⟨gp, 0, none⟩ (.int .i64 k)).setCell ⟨gp, 1, none⟩ (.int .i64 e)).setCell ⟨gp, 2, none⟩ (.string l)).setCell ⟨gp, 3, none⟩ (.slice (some ⟨g, 0, none⟩) f.length cap)).heap[gp]? = some (.cells #[.int .i64 k, .int .i64 e, .string l, .slice (some ⟨g, 0, none⟩) f.length cap] 24 (0, 0)) ∧ Below w2.heap.size w2 ((((w3.setCell ⟨gp, 0, none⟩ (.int .i64 k)).setCell ⟨gp, 1, none⟩ (.int .i64 e)).setCell ⟨gp, 2, none⟩ (.string l)).setCell ⟨gp, 3, none⟩ (.slice (some ⟨g, 0, none⟩) f.length cap)) :=
    ⟨put4 BXp.out, (((HXp.out.setCell (p := ⟨gp, 0, none⟩) GEp.out _).setCell (p := ⟨gp, 1, none⟩) GEp.out _).setCell (p := ⟨gp, 2, none⟩) GEp.out _).setCell (p := ⟨gp, 3, none⟩) GEp.out _⟩
  generalize (((w3.setCell ⟨gp, 0, none⟩ (.int .i64 k)).setCell ⟨gp, 1, none⟩ (.int .i64 e)).setCell ⟨gp, 2, none⟩ (.string l)).setCell ⟨gp, 3, none⟩ (.slice (some ⟨g, 0, none⟩) f.length cap) = y3 at BP HP ⊢
  have BKp3 := Aside0.mk BP
  have BKo3 := Aside0.mk ((HP.block go (lt_of BK2.out)).trans BK2.out)
  have BKg3 := Aside0.mk ((HP.block g (lt_of HCU.out)).trans HCU.out)
  have HB3 := Aside0.mk (HB2.out.trans (HP.mono HB2.out.size))
  clear k0 zk0 k1 zk1 k2 zk2 k3 zk3
  clear BP HP BK2 HCU HB2 BXp HXp GEp
  have k0 := (blk_cell BKo3.out 0).trans rfl
  have k1 := (blk_cell BKo3.out 1).trans rfl
  have k2 := (blk_cell BKo3.out 2).trans rfl
  have k3 := (blk_cell BKo3.out 3).trans rfl
  have zk0 := blk_frozen BKo3.out 0
  have zk1 := blk_frozen BKo3.out 1
  have zk2 := blk_frozen BKo3.out 2
  have zk3 := blk_frozen BKo3.out 3
  have m0 := (blk_cell BKp3.out 0).trans rfl
  have m1 := (blk_cell BKp3.out 1).trans rfl
  have m2 := (blk_cell BKp3.out 2).trans rfl
  have m3 := (blk_cell BKp3.out 3).trans rfl
  have zm0 := blk_frozen BKp3.out 0
  have zm1 := blk_frozen BKp3.out 1
  have zm2 := blk_frozen BKp3.out 2
  have zm3 := blk_frozen BKp3.out 3
  go_wp2_with fail
  go_at_call 11
  refine (HTX.out (some ⟨g, 0, none⟩) cap y3 (Kd.R_reads' (Free.own_R y3 0 g cap cur f BKg3.out (Nat.zero_le _) HCP.out HMX.out HCS.out HTK.out)).2.2 (by have := HCP.out; omega) (TM.step HTM.out HB3.out)).mono ?_
  rintro e_ w4 ⟨rfl, hb4⟩
  have BKo4 := Aside0.mk ((hb4.block go (lt_of BKo3.out)).trans BKo3.out)
  have BKp4 := Aside0.mk ((hb4.block gp (lt_of BKp3.out)).trans BKp3.out)
  have BKg4 := Aside0.mk ((hb4.block g (lt_of BKg3.out)).trans BKg3.out)
  have HB4 := Aside0.mk (HB3.out.trans (hb4.mono HB3.out.size))
  clear k0 zk0 k1 zk1 k2 zk2 k3 zk3
  clear m0 zm0 m1 zm1 m2 zm2 m3 zm3
  clear hb4 BKo3 BKp3 BKg3 HB3
  have k0 := (blk_cell BKo4.out 0).trans rfl
  have k1 := (blk_cell BKo4.out 1).trans rfl
  have k2 := (blk_cell BKo4.out 2).trans rfl
  have k3 := (blk_cell BKo4.out 3).trans rfl
  have zk0 := blk_frozen BKo4.out 0
  have zk1 := blk_frozen BKo4.out 1
  have zk2 := blk_frozen BKo4.out 2
  have zk3 := blk_frozen BKo4.out 3
  have m0 := (blk_cell BKp4.out 0).trans rfl
  have m1 := (blk_cell BKp4.out 1).trans rfl
  have m2 := (blk_cell BKp4.out 2).trans rfl
  have m3 := (blk_cell BKp4.out 3).trans rfl
  have zm0 := blk_frozen BKp4.out 0
  have zm1 := blk_frozen BKp4.out 1
  have zm2 := blk_frozen BKp4.out 2
  have zm3 := blk_frozen BKp4.out 3

  go_wp2_with fail
  go_at_call 12
  refine (HRX.out w4 (Kd.C_below HC.out HB4.out)).mono ?_
  rintro e_ w5 ⟨rfl, hb5⟩
  have BKo5 := Aside0.mk ((hb5.block go (lt_of BKo4.out)).trans BKo4.out)
  have BKp5 := Aside0.mk ((hb5.block gp (lt_of BKp4.out)).trans BKp4.out)
  have BKg5 := Aside0.mk ((hb5.block g (lt_of BKg4.out)).trans BKg4.out)
  have HB5 := Aside0.mk (HB4.out.trans (hb5.mono HB4.out.size))
  clear k0 zk0 k1 zk1 k2 zk2 k3 zk3
  clear m0 zm0 m1 zm1 m2 zm2 m3 zm3
  clear hb5 BKo4 BKp4 BKg4 HB4
  have k0 := (blk_cell BKo5.out 0).trans rfl
  have k1 := (blk_cell BKo5.out 1).trans rfl
  have k2 := (blk_cell BKo5.out 2).trans rfl
  have k3 := (blk_cell BKo5.out 3).trans rfl
  have zk0 := blk_frozen BKo5.out 0
  have zk1 := blk_frozen BKo5.out 1
  have zk2 := blk_frozen BKo5.out 2
  have zk3 := blk_frozen BKo5.out 3
  have m0 := (blk_cell BKp5.out 0).trans rfl
  have m1 := (blk_cell BKp5.out 1).trans rfl
  have m2 := (blk_cell BKp5.out 2).trans rfl
  have m3 := (blk_cell BKp5.out 3).trans rfl
  have zm0 := blk_frozen BKp5.out 0
  have zm1 := blk_frozen BKp5.out 1
  have zm2 := blk_frozen BKp5.out 2
  have zm3 := blk_frozen BKp5.out 3

  go_wp2_with fail
  go_at_call 13
  refine (HKP.out g cap cur w5 (Kd.C_below HC.out HB5.out) BKg5.out HCP.out HMX.out HCS.out HTK.out).mono ?_
  rintro e_ w6 ⟨rfl, hb6⟩
  have BKo6 := Aside0.mk ((hb6.block go (lt_of BKo5.out)).trans BKo5.out)
  have BKp6 := Aside0.mk ((hb6.block gp (lt_of BKp5.out)).trans BKp5.out)
  have BKg6 := Aside0.mk ((hb6.block g (lt_of BKg5.out)).trans BKg5.out)
  have HB6 := Aside0.mk (HB5.out.trans (hb6.mono HB5.out.size))
  clear k0 zk0 k1 zk1 k2 zk2 k3 zk3
  clear m0 zm0 m1 zm1 m2 zm2 m3 zm3
  clear hb6 BKo5 BKp5 BKg5 HB5
  have k0 := (blk_cell BKo6.out 0).trans rfl
  have k1 := (blk_cell BKo6.out 1).trans rfl
  have k2 := (blk_cell BKo6.out 2).trans rfl
  have k3 := (blk_cell BKo6.out 3).trans rfl
  have zk0 := blk_frozen BKo6.out 0
  have zk1 := blk_frozen BKo6.out 1
  have zk2 := blk_frozen BKo6.out 2
  have zk3 := blk_frozen BKo6.out 3
  have m0 := (blk_cell BKp6.out 0).trans rfl
  have m1 := (blk_cell BKp6.out 1).trans rfl
  have m2 := (blk_cell BKp6.out 2).trans rfl
  have m3 := (blk_cell BKp6.out 3).trans rfl
  have zm0 := blk_frozen BKp6.out 0
  have zm1 := blk_frozen BKp6.out 1
  have zm2 := blk_frozen BKp6.out 2
  have zm3 := blk_frozen BKp6.out 3

  go_wp2_with fail
  go_at_call 11
  refine (HLI.out w6 (TM.step HTM.out HB6.out)).mono ?_
  rintro e_ w7 ⟨rfl, hb7⟩
  have HB7 := Aside0.mk (HB6.out.trans (hb7.mono HB6.out.size))
  clear k0 zk0 k1 zk1 k2 zk2 k3 zk3
  clear m0 zm0 m1 zm1 m2 zm2 m3 zm3
  clear hb7
  have hlt : ((⟨#[116, 104, 114, 111, 119, 110, 32, 108, 32, 51, 10]⟩ : ByteArray).toList == [116, 104, 114, 111, 119, 110, 32, 108, 32, 51, 10]) = true := by rw [Lib.toList_data]; rfl
  go_wp2
  go_ret
  exact ⟨by first | rfl | (simp; done) | (simp [*]; done), HB7.out⟩
end Go.Proofs.YtloflodbcdlmpaaDoor.LawTx
