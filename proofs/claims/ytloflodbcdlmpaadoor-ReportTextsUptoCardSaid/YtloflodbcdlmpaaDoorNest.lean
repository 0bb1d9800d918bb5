/- forest.nested: what it tells, by the rooms that are open. Conditions: at most 2^21 nodes, as many ends as nodes. -/
import Derived.Test.YtloflodbcdlmpaaDoorForX
import Derived.Test.YtloflodbcdlmpaaDoorLendX
import Derived.Test.YtloflodbcdlmpaaDoorQallx4
import Derived.Deep.QuietTactic
import Derived.BigQuiet
import Derived.Deep.RegionLaw
namespace Go.Proofs.YtloflodbcdlmpaaDoor.Nest
open Go.RowKit Go.Proofs.YtloflodbcdlmpaaDoor.Qall Go.Proofs.YtloflodbcdlmpaaDoorW.PrintWords Go.Proofs.YtloflodbcdlmpaaDoorW.PrintLast Go.Proofs.YtloflodbcdlmpaaDoorW.PrintMore
set_option linter.unusedSimpArgs false
set_option linter.unusedVariables false
/-- A room: where it ends, up to where, from where. -/
abbrev Rm := Int × Int × Int
def kR : Kd Rm := Kd.pair (Kd.int .i64) (Kd.pair (Kd.int .i64) (Kd.int .i64))
def cellsR (x : Rm) : List Value := [.int .i64 x.1, .int .i64 x.2.1, .int .i64 x.2.2]
theorem kR_mkM (W : World) (base : Nat) (ok : Nat → Prop) (x : Rm) : kR.M W base ok x (cellsR x) := ⟨[.int .i64 x.1], [.int .i64 x.2.1, .int .i64 x.2.2], rfl, rfl, ⟨[.int .i64 x.2.1], [.int .i64 x.2.2], rfl, rfl, rfl⟩⟩
theorem kR_openM {W : World} {base : Nat} {ok : Nat → Prop} {x : Rm} {cs : List Value} (h : kR.M W base ok x cs) : cs = cellsR x := by
  obtain ⟨_, _, rfl, rfl, ⟨_, _, rfl, rfl, rfl⟩⟩ := h
  rfl
abbrev RR (W : World) (base : Nat) (v : Value) (xs : List Rm) : Prop := Kd.R kR 130 W base (fun _ => True) v xs
theorem R_one (W : World) (base g : Nat) (x : Rm) (hg : W.heap[g]? = some (.cells (cellsR x).toArray 130 (0, 0))) (hb : base ≤ g) : RR W base (.slice (some ⟨g, 0, none⟩) 1 1) [x] := by
  refine ⟨fun k hk => trivial, cellsR x, ⟨rfl, .inr ⟨g, 1, _, rfl, hb, hg, Nat.le_refl _, by unfold maxLen; decide, rfl, rfl⟩⟩, ⟨rfl, fun j p hp => ?_⟩⟩
  obtain ⟨hlt, rfl⟩ := List.getElem?_eq_some_iff.1 hp
  obtain rfl : j = 0 := by simpa using hlt
  exact kR_mkM W base _ x
/-- The rest of the nodes, from i on, under the rooms that are open (the innermost first). -/
def nst (own : ByteArray → Bool) (f : List S60) (l : List Int) : Nat → Nat → List Rm → Bool
  | 0, _, _ => true
  | d + 1, i, st => match st.dropWhile (fun r => decide (r.1 ≤ (i : Int))) with
    | [] => false
    | up :: r => if own (rd_T60 f (i : Int)).f0 = false then false else if (rd_T60 f (i : Int)).f1 < up.2.2 then false else if (rd_T60 f (i : Int)).f2 < (rd_T60 f (i : Int)).f1 then false else if (rd_T60 f (i : Int)).f2 > up.2.1 then false
      else nst own f l d (i + 1) ((rd l (i : Int), (rd_T60 f (i : Int)).f2, (rd_T60 f (i : Int)).f1) :: (up.1, up.2.1, (rd_T60 f (i : Int)).f2) :: r)
def slen : Value → Nat
  | .slice _ n _ => n
  | _ => 0
/-- At the bottom lies the room that holds all. -/
def Bot (n : Nat) (st : List Rm) : Prop := ∃ p b, st = p ++ [b] ∧ b.1 = (n : Int)
theorem Bot.ne {n : Nat} {st : List Rm} (h : Bot n st) : ∃ up r, st = up :: r := by
  obtain ⟨p, b, rfl, _⟩ := h
  cases p with
  | nil => exact ⟨_, _, rfl⟩
  | cons a p => exact ⟨_, _, rfl⟩
theorem Bot.pop {n : Nat} {up : Rm} {r : List Rm} (h : Bot n (up :: r)) {i : Nat} (hi : i < n) (hu : up.1 ≤ (i : Int)) : Bot n r := by
  obtain ⟨p, b, e, hb⟩ := h
  cases p with
  | nil => simp at e; obtain ⟨rfl, rfl⟩ := e; omega
  | cons a p => simp at e; obtain ⟨rfl, rfl⟩ := e; exact ⟨p, b, rfl, hb⟩
theorem Bot.push {n : Nat} {up : Rm} {r : List Rm} (h : Bot n (up :: r)) (x : Rm) (t : Int) : Bot n (x :: (up.1, up.2.1, t) :: r) := by
  obtain ⟨p, b, e, hb⟩ := h
  cases p with
  | nil => simp at e; obtain ⟨rfl, rfl⟩ := e; exact ⟨[x], _, rfl, hb⟩
  | cons a p => simp at e; obtain ⟨rfl, rfl⟩ := e; exact ⟨x :: (up.1, up.2.1, t) :: p, b, rfl, hb⟩
/-- The room on top, its cells. -/
theorem top_cells {W : World} {base g cap n : Nat} {r : List Rm} {up : Rm} (h : RR W base (.slice (some ⟨g, 0, none⟩) n cap) (r.reverse ++ [up])) (hn : n = r.length + 1) :
    W.cell? ⟨g, r.length * 3, none⟩ = some (.int .i64 up.1) ∧ W.cell? ⟨g, r.length * 3 + 1, none⟩ = some (.int .i64 up.2.1) ∧ W.cell? ⟨g, r.length * 3 + 2, none⟩ = some (.int .i64 up.2.2) ∧ ∀ j, W.frozen? ⟨g, r.length * 3 + j, none⟩ = false := by
  obtain ⟨c, _, hM, hcc, hf⟩ := Kd.R_elem h (0, 0, 0) (r.length : Int) (by omega) (by omega)
  have hc := kR_openM hM
  rw [Int.toNat_natCast, show kR.sz = 3 from rfl] at hcc hf
  have e : (r.reverse ++ [up]).getD (r.length : Int).toNat (0, 0, 0) = up := by
    rw [Int.toNat_natCast, List.getD_eq_getElem?_getD, List.getElem?_append_right (by simp)]
    simp
  rw [e] at hc
  refine ⟨?_, ?_, ?_, hf⟩
  · simpa using hcc 0 _ (by rw [hc]; rfl)
  · exact hcc 1 _ (by rw [hc]; rfl)
  · exact hcc 2 _ (by rw [hc]; rfl)
/-- The room on top is written: from where its next kid may begin. -/
theorem top_put {W : World} {base g cap n : Nat} {r : List Rm} {up : Rm} (h : RR W base (.slice (some ⟨g, 0, none⟩) n cap) (r.reverse ++ [up])) (hn : n = r.length + 1) (t : Int) :
    RR (W.setCell ⟨g, r.length * 3 + 2, none⟩ (.int .i64 t)) base (.slice (some ⟨g, 0, none⟩) n cap) (r.reverse ++ [(up.1, up.2.1, t)]) ∧ W.grownBy (W.setCell ⟨g, r.length * 3 + 2, none⟩ (.int .i64 t)) (some g) := by
  obtain ⟨c, hcl, hM, hcc, hf⟩ := Kd.R_elem h (0, 0, 0) (r.length : Int) (by omega) (by omega)
  have hc := kR_openM hM
  have e : (r.reverse ++ [up]).getD (r.length : Int).toNat (0, 0, 0) = up := by
    rw [Int.toNat_natCast, List.getD_eq_getElem?_getD, List.getElem?_append_right (by simp)]
    simp
  rw [e] at hc
  have := Kd.R_seg (okp := fun _ => False) h (r.length : Int) (by omega) (by omega) (c := c) (seg := [.int .i64 t]) (j := 2) hcl hcc (Nat.le_refl 3) (x' := (up.1, up.2.1, t)) (by
    rw [hc]
    exact kR_mkM W base _ (up.1, up.2.1, t)) (fun _ hk => hk.elim)
  rw [show kR.sz = 3 from rfl, Int.toNat_natCast] at this
  have e2 : (r.reverse ++ [up]).set r.length (up.1, up.2.1, t) = r.reverse ++ [(up.1, up.2.1, t)] := by
    rw [List.set_append_right _ _ (by simp)]
    simp
  rw [e2] at this
  exact this
theorem rd_mem (f : List S60) (i : Nat) (h : i < f.length) : rd_T60 f (i : Int) ∈ f := by
  unfold rd_T60
  rw [Int.toNat_natCast, List.getD_eq_getElem?_getD, List.getElem?_eq_getElem h]
  exact List.getElem_mem h
section
variable (own : ByteArray → Bool) (f : List S60) (l : List Int) (size : Int)
set_option maxRecDepth 100000 in
set_option maxHeartbeats 4000000 in
theorem nested_calls (ko : Nat) (hown : ∀ s, (∃ x ∈ f, x.f0 = s) → forest_own.f ko s = some (own s)) (hn : f.length ≤ 2097152) (Af : Option Addr) (cf : Nat) (Al : Option Addr) (cl : Nat) (hll : l.length = f.length) (w : World) (hCf : Kd.C k60 w Af f.length f) (hcf : f.length ≤ cf) (hCl : Kd.C (Kd.int .i64) w Al f.length l) (hcl : f.length ≤ cl) :
    Calls Tryd.prog 50 #[.slice Af f.length cf, .slice Al f.length cl, .int .i64 size] w fun e w' => e = .returned (.bool (nst own f l f.length 0 [((f.length : Int), size, 0)])) ∧ Below w.heap.size w w' := by
  have HOW := Aside0.mk hown
  obtain ⟨ans, hans⟩ : ∃ a, nst own f l f.length 0 [((f.length : Int), size, 0)] = a := ⟨_, rfl⟩
  rw [hans]
  have HANS := Aside0.mk hans
  clear hown hans
  go_enter Tryd.func50, Tryd.ntmps50
  go_wp2
  go_loopw [7, 18] (fun v i wr => ∃ (i' : Nat) (st : List Rm), i' ≤ f.length ∧ i = .int .i64 i' ∧ RR wr w.heap.size v st.reverse ∧ Bot f.length st ∧ Aside0 (st.length ≤ i' + 1) ∧ Aside0 (nst own f l (f.length - i') i' st = ans) ∧ Below w.heap.size w wr) (fun _ i _ => f.length - (intOf i).toNat)
  case atStart => exact ⟨0, [((f.length : Int), size, 0)], Nat.zero_le _, rfl, R_one _ _ _ _ (Array.getElem?_push_size) (Nat.le_refl _), ⟨[], _, rfl, rfl⟩, ⟨Nat.le_refl _⟩, HANS, (Below.refl _ _).alloc (Nat.le_refl _) _⟩
  case round =>
    obtain ⟨i, st, hi, rfl, hR, hBot, hlen, HN, hB⟩ := hrel
    by_cases hlt : i < f.length
    · obtain ⟨ad, rfl, x0, x1, x2, x3⟩ := at_T60 (Kd.C_below hCf hB) (i : Int) (by omega) (by omega)
      rw [Int.toNat_natCast] at x0 x1 x2 x3
      obtain ⟨d, hd⟩ : ∃ d, f.length - i = d + 1 := ⟨f.length - i - 1, by omega⟩
      have hN := HN.out
      rw [hd, nst] at hN
      have HNN := Aside0.mk hN
      clear hN HN
      obtain ⟨up0, r0, rfl⟩ := hBot.ne
      obtain ⟨g, cap, hv, hgb, hgl, hgc⟩ := Kd.R_form hR (by simp)
      subst hv
      rw [List.length_reverse, List.length_cons] at hR ⊢
      have hBk := hB.size
      have hlen0 := hlen.out
      have bx := heap_alloc_new wr (.cells #[.string (rd_T60 f (i : Int)).f0, .int .i64 (rd_T60 f (i : Int)).f1, .int .i64 (rd_T60 f (i : Int)).f2, .int .i64 (rd_T60 f (i : Int)).f3] 60)
      go_wp2
      go_loop [7] (fun v => ∃ (up : Rm) (r : List Rm), v = .slice (some ⟨g, 0, none⟩) (r.length + 1) cap ∧ RR wr w.heap.size (.slice (some ⟨g, 0, none⟩) (r.length + 1) cap) (r.reverse ++ [up]) ∧ Aside0 ((up :: r).dropWhile (fun r => decide (r.1 ≤ (i : Int))) = (up0 :: r0).dropWhile (fun r => decide (r.1 ≤ (i : Int)))) ∧ Bot f.length (up :: r) ∧ r.length ≤ r0.length) (fun v => slen v)
      case atStart => exact ⟨up0, r0, rfl, by simpa using hR, ⟨rfl⟩, hBot, Nat.le_refl _⟩
      case round =>
        obtain ⟨up, r, rfl, hR2, HD, hBot2, hrl⟩ := hrel
        have hrl2 : r.length ≤ 2097152 := by simp at hlen0; omega
        have hcc := (Kd.R_reads' hR2).2.1
        obtain ⟨t0, t1, t2, tf⟩ := top_cells hR2 rfl
        by_cases hpop : up.1 ≤ (i : Int)
        · obtain ⟨i0, hi0, _, _, _⟩ := info_parts (show (Tryd.prog.info? 130).map (fun i => (i.zero, i.size, i.bytes)) = some (some (.agg #[.int .i64 0, .int .i64 0, .int .i64 0]), 3, 24) by kernel_rfl)
          have hcut := cut_to (P := Tryd.prog) 131 130 .i64 Tryd.underlying131 hi0 (some ⟨g, 0, none⟩) (r.length + 1) cap (r.length : Int) (by omega) (by omega) hcc
          rw [Int.toNat_natCast] at hcut
          have hBot3 := hBot2.pop hlt hpop
          obtain ⟨up', r', rfl⟩ := hBot3.ne
          have hR3 : RR wr w.heap.size (.slice (some ⟨g, 0, none⟩) (r'.length + 1) cap) (r'.reverse ++ [up']) := by
            have h := Kd.R_take (m := r'.length + 1) hR2 (by simp)
            have e : ((up' :: r').reverse ++ [up]).take (r'.length + 1) = r'.reverse ++ [up'] := by
              rw [List.take_left' (by simp)]; simp
            rw [e] at h
            exact h
          have HD3 : Aside0 ((up' :: r').dropWhile (fun r => decide (r.1 ≤ (i : Int))) = (up0 :: r0).dropWhile (fun r => decide (r.1 ≤ (i : Int)))) := ⟨by rw [← HD.out]; conv => rhs; rw [List.dropWhile_cons_of_pos (by simpa using hpop)]⟩
          rw [List.length_cons] at hcut hrl2 t0 t1 t2 tf hrl
          rw [show ((r'.length + 1 : Nat) : Int) = (r'.length : Int) + 1 from rfl] at hcut
          rw [List.length_cons]
          go_wp2
          go_round
          case rel => exact ⟨up', r', rfl, hR3, HD3, hBot3, by omega⟩
          case measure => simp [slen]
        · have hpop2 : (i : Int) < up.1 := by omega
          have hN := HNN.out
          rw [← HD.out, List.dropWhile_cons_of_neg (by simpa using hpop)] at hN
          dsimp only at hN
          have HNN := Aside0.mk hN
          clear hN HD
          have hq := HOW.out (rd_T60 f (i : Int)).f0 ⟨rd_T60 f (i : Int), rd_mem f i hlt, rfl⟩
          have hR4 := Kd.R_alloc hR2 (.cells #[.string (rd_T60 f (i : Int)).f0, .int .i64 (rd_T60 f (i : Int)).f1, .int .i64 (rd_T60 f (i : Int)).f2, .int .i64 (rd_T60 f (i : Int)).f3] 60)
          have tf2 := tf 2
          obtain ⟨⟨nm, fr, tv, kd⟩, hx⟩ : ∃ x, rd_T60 f (i : Int) = x := ⟨_, rfl⟩
          rw [hx] at HNN x0 x1 x2 x3 hq hR4 ⊢
          clear hx hR hR2 bx tf
          dsimp only at HNN x0 x1 x2 x3 hq hR4 ⊢
          have hBa : Below w.heap.size w (wr.alloc (.cells #[.string nm, .int .i64 fr, .int .i64 tv, .int .i64 kd] 60)) := hB.alloc hB.size _
          cases ho : own nm with
          | false =>
            obtain rfl : false = ans := by have := HNN.out; rw [ho, if_pos rfl] at this; exact this
            rw [ho] at hq
            have hq2 := Aside0.mk hq
            clear ho hq HNN hR4
            go_wp2
            go_quiet ((go_at_call 82; exact Calls.quiet_of ((forest_own.calls ko nm false _ hq2.out).mono fun _ _ h => ⟨h.1, h.2.out⟩)))
            go_wp2
            go_ret
            exact ⟨rfl, pw_below_drewN hBa _⟩
          | true =>
            rw [ho] at hq
            have hq2 := Aside0.mk hq
            have HN2 := HNN.out
            rw [ho, if_neg (by simp)] at HN2
            clear ho hq HNN
            by_cases c1 : fr < up.2.2
            · rw [if_pos c1] at HN2
              subst HN2
              clear hR4
              go_wp2
              go_quiet ((go_at_call 82; exact Calls.quiet_of ((forest_own.calls ko nm true _ hq2.out).mono fun _ _ h => ⟨h.1, h.2.out⟩)))
              go_wp2
              go_ret
              exact ⟨rfl, pw_below_drewN hBa _⟩
            · rw [if_neg c1] at HN2
              have d1 : decide (fr < up.2.2) = false := decide_eq_false c1
              clear c1
              by_cases c2 : tv < fr
              · rw [if_pos c2] at HN2
                subst HN2
                clear hR4
                go_wp2
                go_quiet ((go_at_call 82; exact Calls.quiet_of ((forest_own.calls ko nm true _ hq2.out).mono fun _ _ h => ⟨h.1, h.2.out⟩)))
                go_wp2
                go_ret
                exact ⟨rfl, pw_below_drewN hBa _⟩
              · rw [if_neg c2] at HN2
                have d2 : decide (tv < fr) = false := decide_eq_false c2
                clear c2
                by_cases c3 : tv > up.2.1
                · rw [if_pos c3] at HN2
                  subst HN2
                  clear hR4
                  have c3' : up.2.1 < tv := c3
                  clear c3
                  go_wp2
                  go_quiet ((go_at_call 82; exact Calls.quiet_of ((forest_own.calls ko nm true _ hq2.out).mono fun _ _ h => ⟨h.1, h.2.out⟩)))
                  go_wp2
                  go_ret
                  exact ⟨rfl, pw_below_drewN hBa _⟩
                · rw [if_neg c3] at HN2
                  have HN3 := Aside0.mk HN2
                  have d3 : decide (up.2.1 < tv) = false := decide_eq_false c3
                  clear c3 HN2
                  obtain ⟨al, hal, xl⟩ := Kd.at_int hCl (i : Int) (by omega) (by omega)
                  rw [Int.toNat_natCast] at xl
                  have HF : Aside0 (∀ n, (fun W : World => RR W w.heap.size (.slice (some ⟨g, 0, none⟩) (r.length + 1) cap) (r.reverse ++ [(up.1, up.2.1, tv)]) ∧ W.cell? ⟨wr.heap.size, 1, none⟩ = some (.int .i64 fr) ∧ W.cell? ⟨wr.heap.size, 2, none⟩ = some (.int .i64 tv) ∧ W.cell? (al.add i) = some (.int .i64 (rd l (i : Int))) ∧ Below w.heap.size w W) (((wr.alloc (.cells #[.string nm, .int .i64 fr, .int .i64 tv, .int .i64 kd] 60)).drewN n).setCell ⟨g, r.length * 3 + 2, none⟩ (.int .i64 tv))) := ⟨fun n => by
                    have hB4 : Below w.heap.size w (((wr.alloc (.cells #[.string nm, .int .i64 fr, .int .i64 tv, .int .i64 kd] 60)).drewN n).setCell ⟨g, r.length * 3 + 2, none⟩ (.int .i64 tv)) := (pw_below_drewN hBa n).setCell (p := ⟨g, r.length * 3 + 2, none⟩) hgb _
                    have hne : ∀ k, (⟨g, r.length * 3 + 2, none⟩ : Addr) ≠ ⟨wr.heap.size, k, none⟩ := fun k e => by injection e with e1; omega
                    refine ⟨(top_put (Kd.R_drewN hR4 n) rfl tv).1, ?_, ?_, ?_, hB4⟩
                    · rw [World.cell?_setCell_other _ _ _ _ (hne 1)]; go_simp
                    · rw [World.cell?_setCell_other _ _ _ _ (hne 2)]; go_simp
                    · exact (hB4.cell (World.block_lt_of_cell? w _ xl)).trans xl⟩
                  clear hR4 xl
                  go_wp2
                  go_quiet ((go_at_call 82; exact Calls.quiet_of ((forest_own.calls ko nm true _ hq2.out).mono fun _ _ h => ⟨h.1, h.2.out⟩)))
                  go_wp2
                  have HF1 := HF.out nq
                  try dsimp only at HF1
                  generalize ((wr.alloc (.cells #[.string nm, .int .i64 fr, .int .i64 tv, .int .i64 kd] 60)).drewN nq).setCell ⟨g, r.length * 3 + 2, none⟩ (.int .i64 tv) = wC at HF1 ⊢
                  obtain ⟨hRC, b1, b2, bl, hBC⟩ := HF1
                  clear HF
                  subst hal
                  have hin : (Tryd.prog.info? 130).map (fun i => (i.zero, i.size, i.bytes)) = some (some (.agg #[.int .i64 0, .int .i64 0, .int .i64 0]), 3, 24) := by kernel_rfl
                  have hsz : w.heap.size ≤ wC.heap.size := hBC.size
                  go_region_law (first | (refine Kd.R_append_step kR (w0 := w) w.heap.size (by simp [Region.wanted]) (.tmp 76) (.tmp 86) 131 130 (.agg #[.int .i64 0, .int .i64 0, .int .i64 0]) 24 rfl Tryd.underlying131 hin rfl (by decide) (by omega) (.slice (some ⟨g, 0, none⟩) (r.length + 1) cap) (r.reverse ++ [(up.1, up.2.1, tv)]) (rd l (i : Int), tv, fr) [.int .i64 (rd l (i : Int)), .int .i64 tv, .int .i64 fr] (fun _ => True) (fun _ => False) rfl rfl (kR_mkM _ _ _ (rd l (i : Int), tv, fr)) (fun _ hk => hk.elim) (fun _ _ => trivial) (Kd.R_drew hRC) (below_drew hBC) (by simpa using hsz) (by simp; omega) ?_; intro v1 w1 hr1 hb1 _ _))
                  all_goals
                    go_wp2
                    exact ⟨⟨i + 1, (rd l (i : Int), tv, fr) :: (up.1, up.2.1, tv) :: r, by omega, by simp, by simpa using hr1, hBot2.push _ _, ⟨by have h := hlen.out; rw [List.length_cons] at h; rw [List.length_cons, List.length_cons]; omega⟩, ⟨by rw [show f.length - (i + 1) = d by omega]; exact HN3.out⟩, hb1⟩, by simp [intOf]; omega⟩
    · obtain rfl : f.length = i := by omega
      go_wp2
      go_ret
      exact ⟨by have := HN.out; rw [Nat.sub_self, nst] at this; rw [← this]; rfl, hB⟩
end
end Go.Proofs.YtloflodbcdlmpaaDoor.Nest
