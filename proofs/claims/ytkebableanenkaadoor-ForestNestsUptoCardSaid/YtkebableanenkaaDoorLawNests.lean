/- The walk of the law ForestNests: it answers true, and what lay ahead of the call lies as it lay. Conditions: a list of at most 2^20 nodes, names of at most 2^20 bytes; what works asks. -/
import Derived.Test.YtkebableanenkaaDoorNestA
import Derived.Test.YtkebableanenkaaDoorWorks
namespace Go.Proofs.YtkebableanenkaaDoor.LawNests
open Go.RowKit Go.Proofs.YtkebableanenkaaDoor.Qall Go.Proofs.YtkebableanenkaaDoor.Fo Go.Proofs.YtkebableanenkaaDoor.Chk Go.Proofs.YtkebableanenkaaDoor.Ln Go.Proofs.YtkebableanenkaaDoor.Fi Go.Proofs.YtkebableanenkaaDoor.Free Go.Proofs.YtkebableanenkaaDoor.Nsa Go.Proofs.YtkebableanenkaaDoorW.PrintWords Go.Proofs.YtkebableanenkaaDoorW.PrintLast Go.Proofs.YtkebableanenkaaDoorW.PrintMore
set_option linter.unusedSimpArgs false
set_option linter.unusedVariables false
theorem cut_len (f : List S37) (h : chkAns f 65536 = 0) (p : Nat) (hp : p < f.length) : (((p + (cutAns f (p : Int)).length : Nat)) : Int) = rd (elOf f) (p : Int) := by
  obtain ⟨m, h1, h2⟩ := el_some f h p hp
  have hx := (right_ex f h p hp).2
  rw [h2] at hx ⊢
  unfold cutAns
  rw [if_pos (by omega), Int.toNat_natCast, h1]
  simp only [List.length_drop, List.length_take]
  omega
theorem cutAns_le (f : List S37) (i : Int) : (cutAns f i).length ≤ f.length := by
  unfold cutAns
  split
  · split
    · simp
    · simp only [List.length_drop, List.length_take]; omega
  · simp
theorem u64_nonneg (a : Int) : 0 ≤ IntKind.u64.wrap a := by
  unfold IntKind.wrap
  simp [IntKind.bits, IntKind.signed]
  omega
theorem umod (a : Int) (n : Nat) (hn : 0 < n) (hn2 : n ≤ 1048576) : ∃ i : Nat, i < n ∧ wrap64 ((IntKind.u64.wrap a).tmod (n : Int)) = (i : Int) := by
  have h0 := u64_nonneg a
  rw [Int.tmod_eq_emod_of_nonneg h0]
  have h1 := Int.emod_nonneg (IntKind.u64.wrap a) (show (n : Int) ≠ 0 by omega)
  have h2 := Int.emod_lt_of_pos (IntKind.u64.wrap a) (show (0 : Int) < n by omega)
  refine ⟨((IntKind.u64.wrap a) % (n : Int)).toNat, by omega, ?_⟩
  unfold wrap64
  omega
set_option maxRecDepth 100000 in
set_option maxHeartbeats 4000000 in
theorem Nests_walk (f : List S37) (hn : f.length ≤ 1048576) (hM : ∀ x ∈ f, x.f0.size ≤ 1048576) (Af : Option Addr) (cf : Nat) (a b : Int) (w : World) (hCf : Kd.C k37 w Af f.length f) (hcf : f.length ≤ cf) (hm : Mx w) (htab : Tab w) :
    Calls Tryd.prog 8 #[.slice Af f.length cf, .int .i64 a, .int .i64 b] w fun e w' => e = .returned (.bool true) ∧ Below w.heap.size w w' := by
  have HWK := Aside0.mk (Wk.works_calls w hm htab)
  have hck := fun (A : Option Addr) (c : Nat) (W : World) (hC : Kd.C k37 W A f.length f) (h : f.length ≤ c) => check_calls f (by omega) 65536 1048576 hM (by decide) A c W hC h
  obtain ⟨ck, hcke⟩ : ∃ x, chkAns f 65536 = x := ⟨_, rfl⟩
  rw [hcke] at hck
  have HCK := Aside0.mk hck
  have HC := Aside0.mk hCf
  have hnb : decide (1048585 < (f.length : Int)) = false := decide_eq_false (by omega)
  have hnb2 : decide (1048585 < f.length) = false := decide_eq_false (by omega)
  clear hck hm htab hCf
  go_enter Tryd.func8, Tryd.ntmps8
  go_wp2_with fail
  go_at_call 19
  refine HWK.out.mono ?_
  rintro e_ w1 ⟨rfl, hb1⟩
  by_cases h0 : f.length = 0
  · have p0 : ((f.length : Int) == 0) = true := beq_iff_eq.mpr (by omega)
    have p1 : (f.length == 0) = true := beq_iff_eq.mpr h0
    have HB1 := Aside0.mk hb1
    clear hb1
    go_wp2
    go_ret
    exact ⟨rfl, HB1.out⟩
  have p0 : ((f.length : Int) == 0) = false := beq_eq_false_iff_ne.mpr (by omega)
  have p1 : (f.length == 0) = false := beq_eq_false_iff_ne.mpr h0
  have p2 : ¬ (f.length : Int) = 0 := by omega
  go_wp2_with fail
  go_at_call 15
  refine (Lend.lend f Af cf w1 (Kd.C_below HC.out hb1) (by omega)).mono ?_
  rintro e_ w2 ⟨g, cap, cur, hg, rfl, hcap, hmax, hcur, hcs, htake, hb2⟩
  have hCo := (Kd.R_reads' (own_R w2 w1.heap.size g cap cur f hcur hg (by omega) hmax hcs htake)).2.2
  have HB2 := hb1.trans (hb2.mono hb1.size)
  have hcap2 : f.length ≤ cap := by omega
  clear hcur hcs htake hb2 hb1
  go_wp2_with fail
  go_at_call 20
  refine (HCK.out (some ⟨g, 0, none⟩) cap w2 hCo hcap2).mono ?_
  rintro e_ w3 ⟨rfl, hb3⟩
  have HB3 := Aside0.mk (HB2.trans (hb3.mono HB2.size))
  clear hb3 HB2 hCo
  by_cases hc0 : ck ≠ 0
  · have q1 : (ck != 0) = true := bne_iff_ne.mpr hc0
    have q2 : (ck == 0) = false := beq_eq_false_iff_ne.mpr hc0
    clear hc0
    go_wp2
    go_ret
    exact ⟨rfl, HB3.out⟩
  obtain rfl : ck = 0 := by omega
  obtain ⟨i, hil, hie⟩ := umod a f.length (by omega) hn
  obtain ⟨k, hkl, hke⟩ := umod b f.length (by omega) hn
  go_upto_if 41 with (fail)
  simp only [hie, hke]
  clear hie hke
  go_cut [7, 8] (fun v7 v8 wc => v7 = .int .i64 ((min i k : Nat) : Int) ∧ v8 = .int .i64 ((max i k : Nat) : Int) ∧ Aside0 (wc = w3))
  case first =>
    by_cases hlt : k < i
    · have q0 : decide ((k : Int) < (i : Int)) = true := decide_eq_true (by omega)
      have q1 : decide (k < i) = true := decide_eq_true hlt
      have e1 : min i k = k := Nat.min_eq_right (by omega)
      have e2 : max i k = i := Nat.max_eq_left (by omega)
      have E1 := Aside0.mk e1
      have E2 := Aside0.mk e2
      clear e1 e2
      go_wp2
      go_meet
      case rel => exact ⟨by rw [E1.out], by rw [E2.out], ⟨rfl⟩⟩
    · have q0 : decide ((k : Int) < (i : Int)) = false := decide_eq_false (by omega)
      have q1 : decide (k < i) = false := decide_eq_false hlt
      have e1 : min i k = i := Nat.min_eq_left (by omega)
      have e2 : max i k = k := Nat.max_eq_right (by omega)
      have E1 := Aside0.mk e1
      have E2 := Aside0.mk e2
      clear e1 e2
      go_wp2
      go_meet
      case rel => exact ⟨by rw [E1.out], by rw [E2.out], ⟨rfl⟩⟩
  case rest =>
    obtain ⟨rfl, rfl, HW⟩ := hcut
    obtain rfl := HW.out
    clear HW
    obtain ⟨p, hp⟩ : ∃ p, min i k = p := ⟨_, rfl⟩
    obtain ⟨q, hq⟩ : ∃ q, max i k = q := ⟨_, rfl⟩
    rw [hp, hq]
    have hpq : p ≤ q := by omega
    have hql : q < f.length := by omega
    have hpl : p < f.length := by omega
    clear hp hq hil hkl
    have hns := nests f hcke p hpl
    have hcl := cut_len f hcke p hpl
    obtain ⟨x, hx⟩ : ∃ x, rd_T37 f (p : Int) = x := ⟨_, rfl⟩
    obtain ⟨y, hy⟩ : ∃ y, rd_T37 f (q : Int) = y := ⟨_, rfl⟩
    have hn1 : x.f1 ≤ x.f2 := by rw [← hx]; exact hns.1
    obtain ⟨e, hee⟩ : ∃ e, rd (elOf f) (p : Int) = e := ⟨_, rfl⟩
    have hn2 : p < q → ((q : Int) < e → x.f1 ≤ y.f1 ∧ y.f2 ≤ x.f2) ∧ (e ≤ (q : Int) → x.f2 ≤ y.f1) := fun h => by have := hns.2 q h hql; rw [hee] at this; rw [← hx, ← hy]; exact this
    rw [hee] at hcl
    have HN2 := Aside0.mk hn2
    have HX := Aside0.mk hx
    have HY := Aside0.mk hy
    clear hns hn2 hx hy hee hcke
    have i1 : (0 : Int) ≤ (p : Int) := by omega
    have i2 : (p : Int) < (f.length : Int) := by omega
    have i3 : (0 : Int) ≤ (q : Int) := by omega
    have i4 : (q : Int) < (f.length : Int) := by omega
    by_cases he : p = q
    · subst he
      obtain ⟨ad, hade, y0, y1, y2, _⟩ := at_T37 (Kd.C_below HC.out HB3.out) (p : Int) i1 i2
      subst hade
      rw [HX.out] at y0 y1 y2
      rw [Int.toNat_natCast] at y0 y1 y2
      have d1 : decide (x.f1 ≤ x.f2) = true := decide_eq_true hn1
      have hbd : Below wc.heap.size wc wc.drew := (Below.refl _ wc).drew
      have HB4 := Aside0.mk (HB3.out.trans (hbd.mono HB3.out.size))
      clear hbd hcl
      go_wp2
      go_region_held3 (fun w' => w'.cell? ⟨(ad.add (p * 4)).block, (ad.add (p * 4)).off + 1, none⟩ = some (.int .i64 x.f1) ∧ w'.cell? ⟨(ad.add (p * 4)).block, (ad.add (p * 4)).off + 2, none⟩ = some (.int .i64 x.f2)) (first | go_keep | (go_simp; done) | (simp; done)) (fail)
      go_wp2
      go_ret
      exact ⟨by first | rfl | (simp; done) | (simp [*]; done), HB4.out⟩
    · have hpq2 : p < q := by omega
      have e0 : ((p : Int) == (q : Int)) = false := beq_eq_false_iff_ne.mpr (by omega)
      have e1 : (p == q) = false := beq_eq_false_iff_ne.mpr he
      have hn3 := HN2.out hpq2
      go_wp2_with fail
      go_at_call 15
      refine (Lend.lend f Af cf wc (Kd.C_below HC.out HB3.out) (by omega)).mono ?_
      rintro e_ w4 ⟨g2, cap2, cur2, hg2, rfl, hcap4, hmax2, hcur2, hcs2, htake2, hb4⟩
      have hCo := (Kd.R_reads' (own_R w4 wc.heap.size g2 cap2 cur2 f hcur2 hg2 (by omega) hmax2 hcs2 htake2)).2.2
      have HB4 := Aside0.mk (HB3.out.trans (hb4.mono HB3.out.size))
      have hcap5 : f.length ≤ cap2 := by omega
      clear hcur2 hcs2 htake2 hb4 HB3
      go_wp2_with fail
      go_at_call 25
      refine (cut_calls f (by omega) (some ⟨g2, 0, none⟩) cap2 (p : Int) w4 hCo hcap5).mono ?_
      rintro e_ w5 ⟨v5, rfl, hR5, hb5⟩
      obtain ⟨A5, c5, rfl⟩ := Kd.R_slice hR5
      obtain ⟨m, hm⟩ : ∃ m, (cutAns f (p : Int)).length = m := ⟨_, rfl⟩
      rw [hm] at hcl ⊢
      have HB5 := Aside0.mk (HB4.out.trans (hb5.mono HB4.out.size))
      have hle : e ≤ (p : Int) + 1048576 + 1048576 := by
        have := cutAns_le f (p : Int)
        omega
      have hwr : IntKind.i64.wrap ((p : Int) + (m : Int)) = e := by rw [i64_w, ← hcl]; unfold wrap64; omega
      clear hR5 hb5 hCo HB4 hm hcl hle
      obtain ⟨ad, hade, y0, y1, y2, _⟩ := at_T37 (Kd.C_below HC.out HB5.out) (p : Int) i1 i2
      obtain ⟨ad2, hade2, z0, z1, z2, _⟩ := at_T37 (Kd.C_below HC.out HB5.out) (q : Int) i3 i4
      obtain rfl : ad = ad2 := Option.some.inj (hade.symm.trans hade2)
      subst hade
      rw [HX.out] at y0 y1 y2
      rw [HY.out] at z0 z1 z2
      rw [Int.toNat_natCast] at y0 y1 y2 z0 z1 z2
      have hbd : Below w5.heap.size w5 w5.drew := (Below.refl _ w5).drew
      have HB6 := Aside0.mk (HB5.out.trans (hbd.mono HB5.out.size))
      clear hbd hade2
      by_cases hqe : (q : Int) < e
      · have d0 : decide ((q : Int) < e) = true := decide_eq_true hqe
        have d1 : decide (x.f1 ≤ y.f1) = true := decide_eq_true (hn3.1 hqe).1
        have d2 : decide (y.f2 ≤ x.f2) = true := decide_eq_true (hn3.1 hqe).2
        clear hn3
        go_wp2
        go_region_held3 (fun w' => w'.cell? ⟨(ad.add (p * 4)).block, (ad.add (p * 4)).off + 1, none⟩ = some (.int .i64 x.f1) ∧ w'.cell? ⟨(ad.add (p * 4)).block, (ad.add (p * 4)).off + 2, none⟩ = some (.int .i64 x.f2) ∧ w'.cell? ⟨(ad.add (q * 4)).block, (ad.add (q * 4)).off + 1, none⟩ = some (.int .i64 y.f1) ∧ w'.cell? ⟨(ad.add (q * 4)).block, (ad.add (q * 4)).off + 2, none⟩ = some (.int .i64 y.f2)) (first | go_keep | (go_simp; done) | (simp; done)) (fail)
        go_wp2
        go_ret
        exact ⟨by first | rfl | (simp; done) | (simp [*]; done), HB6.out⟩
      · have d0 : decide ((q : Int) < e) = false := decide_eq_false hqe
        have d1 : decide (x.f2 ≤ y.f1) = true := decide_eq_true (hn3.2 (by omega))
        clear hn3
        go_wp2
        go_region_held3 (fun w' => w'.cell? ⟨(ad.add (p * 4)).block, (ad.add (p * 4)).off + 2, none⟩ = some (.int .i64 x.f2) ∧ w'.cell? ⟨(ad.add (q * 4)).block, (ad.add (q * 4)).off + 1, none⟩ = some (.int .i64 y.f1)) (first | go_keep | (go_simp; done) | (simp; done)) (fail)
        go_wp2
        go_ret
        exact ⟨by first | rfl | (simp; done) | (simp [*]; done), HB6.out⟩
end Go.Proofs.YtkebableanenkaaDoor.LawNests
