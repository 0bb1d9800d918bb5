/- The walk of the law ForestChecks: it answers true, and what lay ahead of the call lies as it lay. Conditions: a list of at most 2^20 nodes, names of at most 2^20 bytes. -/
import Derived.Test.YtkebableanenkaaCheck
import Derived.Test.YtkebableanenkaaLendD
namespace Go.Proofs.Ytkebableanenkaa.LawChecks
open Go.RowKit Go.Proofs.Ytkebableanenkaa.Qall Go.Proofs.Ytkebableanenkaa.Chk Go.Proofs.Ytkebableanenkaa.Free Go.Proofs.YtkebableanenkaaW.PrintWords Go.Proofs.YtkebableanenkaaW.PrintLast Go.Proofs.YtkebableanenkaaW.PrintMore
set_option linter.unusedSimpArgs false
set_option linter.unusedVariables false
/-- The list that the law writes itself. -/
def lone : List S34 := [⟨⟨#[97]⟩, 0, 0, 1⟩]
theorem lone_C (W : World) (g : Nat) (hg : W.heap[g]? = some (.cells #[.string ⟨#[97]⟩, .int .i64 0, .int .i64 0, .int .i64 1] 34 (0, 0))) : Kd.C k34 W (some ⟨g, 0, none⟩) lone.length lone :=
  (Kd.R_reads' (Lend.R_of W 0 (fun _ => True) g 1 _ lone hg (Nat.zero_le _) trivial (Nat.le_refl _) (by unfold maxLen; decide) rfl rfl)).2.2
theorem lone_chk : chkAns lone 0 = 6 := by decide +kernel
theorem nil_chk : chkAns [] 0 = 0 := by decide +kernel
set_option maxRecDepth 100000 in
set_option maxHeartbeats 4000000 in
theorem Checks_walk (f : List S34) (hn : f.length ≤ 1048576) (hM : ∀ x ∈ f, x.f0.size ≤ 1048576) (hbd : ∀ c ∈ f, c.f3 ≤ 9223372036854775807) (Af : Option Addr) (cf : Nat) (size : Int) (w : World) (hCf : Kd.C k34 w Af f.length f) (hcf : f.length ≤ cf) :
    Calls Try.prog 6 #[.slice Af f.length cf, .int .i64 size] w fun e w' => e = .returned (.bool true) ∧ Below w.heap.size w w' := by
  obtain ⟨K0, hK0⟩ := refCheck_ev f hn hbd size 1048576 hM (by decide)
  have hk := hK0 K0 (Nat.le_refl _)
  have hc := fun (A : Option Addr) (c : Nat) (W : World) (hC : Kd.C k34 W A f.length f) (h : f.length ≤ c) => check_calls f (by omega) size 1048576 hM (by decide) A c W hC h
  obtain ⟨a, ha⟩ : ∃ x, chkAns f size = x := ⟨_, rfl⟩
  rw [ha] at hk hc
  have HK0 := Aside0.mk hk
  have HCH := Aside0.mk hc
  have hnl := fun (W : World) => check_calls [] (by decide) 0 0 (by intro x hx; cases hx) (by decide) none 0 W (Kd.C_nil k34 W) (Nat.le_refl _)
  rw [nil_chk] at hnl
  have HNL := Aside0.mk hnl
  have hlo := fun (g : Nat) (W : World) (hg : W.heap[g]? = some (.cells #[.string ⟨#[97]⟩, .int .i64 0, .int .i64 0, .int .i64 1] 34 (0, 0))) => check_calls lone (by decide) 0 1 (by intro x hx; rw [List.mem_singleton.1 hx]; exact Nat.le_refl _) (by decide) (some ⟨g, 0, none⟩) 1 W (lone_C W g hg) (Nat.le_refl _)
  rw [lone_chk] at hlo
  have HLO := Aside0.mk hlo
  clear ha hk hc hK0 hnl hlo hM hbd
  have hnb : decide (1048585 < f.length) = false := by simpa using (by omega : ¬ 1048585 < f.length)
  go_enter Try.func6, Try.ntmps6
  have B_w := Below.refl w.heap.size w
  go_wp2_with fail
  go_at_call 9
  refine (Lend.lend f Af cf w hCf (by omega)).mono ?_
  rintro e w1 ⟨g, cap, cur, hg, rfl, hcap, hmax, hcur, hcs, htake, hb1⟩
  have h1 : Below w.heap.size w w1 := hb1
  replace B_w := B_w.trans (h1.mono B_w.size)
  have B_w1 := Below.refl w1.heap.size w1
  have hglt : g < w1.heap.size := (Array.getElem?_eq_some_iff.1 hcur).1
  have OWNC := fun (W : World) (hW : Below w1.heap.size w1 W) => (Kd.R_reads' (own_R W w.heap.size g cap cur f ((hW.block g hglt).trans hcur) hg hcap hmax hcs htake)).2.2
  have hcap2 : f.length ≤ cap := by omega
  have HKEPT := fun (W : World) (hW : Below w1.heap.size w1 W) (hW0 : Below w.heap.size w W) => Lend.kept f (by omega) Af cf g cap cur W (Kd.C_below hCf hW0) hcf ((hW.block g hglt).trans hcur) hcap hmax hcs htake
  have HOC := Aside0.mk OWNC
  have HK := Aside0.mk HKEPT
  clear OWNC HKEPT hcs htake hcur
  go_wp2_with fail
  go_at_call 21
  refine (HCH.out (some ⟨g, 0, none⟩) cap w1 (HOC.out _ B_w1) hcap2).mono ?_
  rintro e w2 ⟨rfl, hb2⟩
  have h2 : Below w1.heap.size w1 w2 := hb2
  replace B_w := B_w.trans (h2.mono B_w.size)
  replace B_w1 := B_w1.trans (h2.mono B_w1.size)
  have B_w2 := Below.refl w2.heap.size w2
  go_wp2_with fail
  go_at_call 22
  refine (dowelref12_Check.calls K0 Af cf f size a w2 (Kd.C_below hCf B_w) hcf HK0.out).mono ?_
  rintro e w3 ⟨rfl, hb3⟩
  have h3 : Below w2.heap.size w2 w3 := hb3
  replace B_w := B_w.trans (h3.mono B_w.size)
  replace B_w1 := B_w1.trans (h3.mono B_w1.size)
  replace B_w2 := B_w2.trans (h3.mono B_w2.size)
  have B_w3 := Below.refl w3.heap.size w3
  go_wp2_with fail
  go_at_call 11
  refine (HK.out w3 B_w1 B_w).mono ?_
  rintro e w4 ⟨rfl, hb4⟩
  have h4 : Below w3.heap.size w3 w4 := hb4
  replace B_w := B_w.trans (h4.mono B_w.size)
  replace B_w1 := B_w1.trans (h4.mono B_w1.size)
  replace B_w2 := B_w2.trans (h4.mono B_w2.size)
  replace B_w3 := B_w3.trans (h4.mono B_w3.size)
  have B_w4 := Below.refl w4.heap.size w4
  go_wp2_with fail
  go_at_call 21
  refine (HNL.out w4).mono ?_
  rintro e w5 ⟨rfl, hb5⟩
  have h5 : Below w4.heap.size w4 w5 := hb5
  replace B_w := B_w.trans (h5.mono B_w.size)
  replace B_w1 := B_w1.trans (h5.mono B_w1.size)
  replace B_w2 := B_w2.trans (h5.mono B_w2.size)
  replace B_w3 := B_w3.trans (h5.mono B_w3.size)
  replace B_w4 := B_w4.trans (h5.mono B_w4.size)
  have B_w5 := Below.refl w5.heap.size w5
  go_wp2_with fail
  go_at_call 21
  refine (HLO.out w5.heap.size (w5.alloc (.cells #[.string ⟨#[97]⟩, .int .i64 0, .int .i64 0, .int .i64 1] 34)) (heap_new _ _)).mono ?_
  rintro e w6 ⟨rfl, hb6⟩
  have h6 : Below w5.heap.size w5 w6 := ((Below.refl w5.heap.size w5).alloc (Nat.le_refl _) (.cells #[.string ⟨#[97]⟩, .int .i64 0, .int .i64 0, .int .i64 1] 34)).trans (hb6.mono (by simp))
  replace B_w := B_w.trans (h6.mono B_w.size)
  replace B_w1 := B_w1.trans (h6.mono B_w1.size)
  replace B_w2 := B_w2.trans (h6.mono B_w2.size)
  replace B_w3 := B_w3.trans (h6.mono B_w3.size)
  replace B_w4 := B_w4.trans (h6.mono B_w4.size)
  replace B_w5 := B_w5.trans (h6.mono B_w5.size)
  have B_w6 := Below.refl w6.heap.size w6
  go_wp2
  go_ret
  exact ⟨rfl, B_w⟩
end Go.Proofs.Ytkebableanenkaa.LawChecks
