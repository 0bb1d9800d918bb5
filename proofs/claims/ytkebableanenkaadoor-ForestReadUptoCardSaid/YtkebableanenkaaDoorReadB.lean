/- Of what is read: its levels are the lines', its counts are right, its text is what was read: the plain law. -/
import Derived.Test.YtkebableanenkaaDoorReadA
import Derived.Test.YtkebableanenkaaDoorBackB
namespace Go.Proofs.YtkebableanenkaaDoor.Rdb
open Go.RowKit Go.Proofs.YtkebableanenkaaDoor.Qall Go.Proofs.YtkebableanenkaaDoor.Fo Go.Proofs.YtkebableanenkaaDoor.Ln Go.Proofs.YtkebableanenkaaDoor.Ps Go.Proofs.YtkebableanenkaaDoor.Tx Go.Proofs.YtkebableanenkaaDoor.Bk Go.Proofs.YtkebableanenkaaDoorW.PrintWords Go.Proofs.YtkebableanenkaaDoorW.PrintLast Go.Proofs.YtkebableanenkaaDoorW.PrintMore
set_option linter.unusedSimpArgs false
set_option linter.unusedVariables false
theorem tw_split : ∀ l : List UInt8, (l.takeWhile (· != 10)).length < l.length → l = l.takeWhile (· != 10) ++ 10 :: l.drop ((l.takeWhile (· != 10)).length + 1)
  | [], h => by simp at h
  | b :: l, h => by
    by_cases hb : b = 10
    · subst hb
      rw [List.takeWhile_cons_of_neg (by decide)]
      rfl
    · rw [List.takeWhile_cons_of_pos (by simpa using hb)] at h ⊢
      rw [List.length_cons, List.drop_succ_cons, List.cons_append]
      congr 1
      exact tw_split l (by simpa using h)
theorem pop_app : ∀ (z s : List Nat), (∀ a ∈ z, a = 0) → (s = [] ∨ ∃ a s', s = (a + 1) :: s') → Fo.pop (z ++ s) = s
  | [], s, _, h => by
    rcases h with rfl | ⟨a, s', rfl⟩
    · rfl
    · rfl
  | a :: z, s, hz, h => by
    have := hz a (List.mem_cons_self ..)
    subst this
    exact pop_app z s (fun x hx => hz x (List.mem_cons_of_mem _ hx)) h
/-- What the reader holds. -/
structure Pre (F : List Bk.SC) (way : List Int) (W : List Nat) : Prop where
  hw : way = (W.map (fun x : Nat => (x : Int))).reverse
  lt : ∀ x ∈ W, x < F.length
  pw : W.Pairwise (fun a b => b < a)
  f3 : ∀ x, x < F.length → 0 ≤ (Bk.nd F x).f3 ∧ (Bk.nd F x).f3 ≤ (F.length : Int)
  cap : F.length ≤ 1048576
theorem Pre.put {F : List Bk.SC} {way : List Int} {W : List Nat} (h : Pre F way W) {d : Nat} {c : Bk.SC} (hc : c.f3 = 0) {F1 : List Bk.SC} {way1 : List Int} (hp : putAns F way d c = some (F1, way1)) :
    d ≤ W.length ∧ Pre F1 way1 (F.length :: W.drop (W.length - d)) ∧ F1.length = F.length + 1 ∧ Bk.nd F1 F.length = c ∧
      (∀ x, x < F.length → ((W.drop (W.length - d)).head? ≠ some x → (Bk.nd F1 x).f3 = (Bk.nd F x).f3) ∧ ((W.drop (W.length - d)).head? = some x → (Bk.nd F1 x).f3 = (Bk.nd F x).f3 + 1) ∧
        (Bk.nd F1 x).f0 = (Bk.nd F x).f0 ∧ (Bk.nd F1 x).f1 = (Bk.nd F x).f1 ∧ (Bk.nd F1 x).f2 = (Bk.nd F x).f2) := by
  obtain ⟨h1, h2, h3, h4, h5, rfl, rfl⟩ := putAns_some hp
  have hwl : way.length = W.length := by rw [h.hw]; simp
  have hkl := kidOf_length F way d
  obtain ⟨n, hn⟩ : ∃ n, W.length - d = n := ⟨_, rfl⟩
  rw [hn]
  have hdW : d = W.length - n := by omega
  have hnW : n ≤ W.length := by omega
  have hdl : d ≤ W.length := by omega
  have hup : 0 < d → ∃ p, (W.drop n).head? = some p ∧ rd way ((d : Int) - 1) = (p : Int) := fun hd0 => by
    have hnl : n < W.length := by omega
    refine ⟨W[n], by rw [List.drop_eq_getElem_cons hnl]; rfl, ?_⟩
    rw [h.hw, show ((d : Int) - 1) = ((d - 1 : Nat) : Int) by omega, way_rd W (d - 1) (by omega)]
    congr 2
    omega
  have hno : ¬ 0 < d → (W.drop n).head? = none := fun hd0 => by
    rw [List.drop_eq_nil_of_le (by omega)]
    rfl
  have hkid : ∀ x, x < F.length → ((W.drop n).head? ≠ some x → (Bk.nd (kidOf F way d ++ [c]) x).f3 = (Bk.nd F x).f3) ∧ ((W.drop n).head? = some x → (Bk.nd (kidOf F way d ++ [c]) x).f3 = (Bk.nd F x).f3 + 1) ∧
        (Bk.nd (kidOf F way d ++ [c]) x).f0 = (Bk.nd F x).f0 ∧ (Bk.nd (kidOf F way d ++ [c]) x).f1 = (Bk.nd F x).f1 ∧ (Bk.nd (kidOf F way d ++ [c]) x).f2 = (Bk.nd F x).f2 := fun x hx => by
    rw [nd_app _ _ x (by omega)]
    unfold kidOf
    split
    · rename_i hd0
      obtain ⟨p, hp, hr⟩ := hup hd0
      have hpl : p < F.length := h.lt p (List.mem_of_mem_drop (List.mem_of_mem_head? hp))
      have hf := h.f3 p hpl
      have hcap := h.cap
      rw [hr]
      refine ⟨fun hne => ?_, fun he => ?_, nd_kid2 F p x⟩
      · rw [nd_kid F p x hpl, if_neg (fun e => hne (by rw [hp, e]))]
      · have : p = x := Option.some.inj (hp.symm.trans he)
        subst this
        rw [nd_kid F p p hpl, if_pos rfl]
        exact Ln.wrap_of (by omega) (by omega)
    · rename_i hd0
      exact ⟨fun _ => rfl, fun he => (by rw [hno hd0] at he; cases he), rfl, rfl, rfl⟩
  have hnew : Bk.nd (kidOf F way d ++ [c]) F.length = c := by
    have := Bk.nd_new (kidOf F way d) c
    rwa [hkl] at this
  refine ⟨hdl, ⟨?_, ?_, ?_, ?_, ?_⟩, by rw [List.length_append, hkl]; rfl, hnew, hkid⟩
  · rw [h.hw, hdW, Bk.way_take W n hnW, List.map_cons, List.reverse_cons]
  · intro x hx
    rw [List.length_append, hkl, List.length_singleton]
    rcases List.mem_cons.1 hx with rfl | hx
    · exact Nat.lt_succ_self _
    · have := h.lt x (List.mem_of_mem_drop hx); omega
  · rw [List.pairwise_cons]
    exact ⟨fun x hx => h.lt x (List.mem_of_mem_drop hx), h.pw.drop⟩
  · intro x hx
    rw [List.length_append, hkl, List.length_singleton] at hx ⊢
    rcases Nat.lt_or_ge x F.length with hx1 | hx1
    · have hf := h.f3 x hx1
      obtain ⟨k1, k2, _⟩ := hkid x hx1
      by_cases he : (W.drop n).head? = some x
      · rw [k2 he]; omega
      · rw [k1 he]; omega
    · obtain rfl : x = F.length := by omega
      rw [hnew, hc]
      omega
  · rw [List.length_append, hkl, List.length_singleton]; omega
set_option maxHeartbeats 8000000 in
theorem read_go (t : ByteArray) (F : List Bk.SC) : ∀ (k at_ : Nat) (G : List Bk.SC) (way : List Int) (W : List Nat), parseGo t k at_ G way = (F, 0, 0) → t.size < k + at_ → at_ ≤ t.size → Pre G way W →
    ∃ ls : List Nat, G.length + ls.length = F.length ∧ mach (W.map (fun w => ((Bk.nd F w).f3 - (Bk.nd G w).f3).toNat)) ((K F).drop G.length) = some ls ∧ (∀ w ∈ W, (Bk.nd G w).f3 ≤ (Bk.nd F w).f3) ∧
      (∀ x, x < G.length → x ∉ W → (Bk.nd F x).f3 = (Bk.nd G x).f3) ∧ (∀ x, x < G.length → (Bk.nd F x).f0 = (Bk.nd G x).f0 ∧ (Bk.nd F x).f1 = (Bk.nd G x).f1 ∧ (Bk.nd F x).f2 = (Bk.nd G x).f2) ∧
      t.data.toList.drop at_ = txt F ls G.length
  | 0, at_, G, way, W, h, hk, hle, hp => by omega
  | k + 1, at_, G, way, W, h, hk, hle, hp => by
    have hlK : (K F).length = F.length := K_length F
    by_cases hlt : at_ < t.size
    · cases hs : stepAns t at_ G way with
      | none =>
        rw [parseGo_none hlt hs] at h
        injection h with _ h
        injection h with _ h
        exact absurd h (by decide)
      | some r =>
        obtain ⟨F1, way1⟩ := r
        rw [parseGo_some hlt hs] at h
        unfold stepAns lineAt nodeOf at hs
        split at hs
        · rename_i hok
          obtain ⟨hlf, hok⟩ := hok
          obtain ⟨d, hd, hbody, hnm, h1, h2⟩ := line_back2 _ hok
          rw [hd, Int.toNat_natCast] at hs
          obtain ⟨c, hc⟩ : ∃ c : Bk.SC, (⟨(lineAns (t.extract at_ (lfAt t at_))).2.1, (lineAns (t.extract at_ (lfAt t at_))).2.2.1, (lineAns (t.extract at_ (lfAt t at_))).2.2.2.1, 0⟩ : Bk.SC) = c := ⟨_, rfl⟩
          have hc0 : c.f3 = 0 := by rw [← hc]
          rw [hc] at hbody hs
          obtain ⟨q1, q2, q3, q4, q5⟩ := hp.put hc0 hs
          have hll := lf_le t at_ hle
          obtain ⟨ls, e1, e2, e3, e4, e5, e6⟩ := read_go t F k (lfAt t at_ + 1) F1 way1 _ h (by omega) (by omega) q2
          rw [q3] at e1 e2 e4 e5 e6
          obtain ⟨n, hn⟩ : ∃ n, W.length - d = n := ⟨_, rfl⟩
          rw [hn] at e2 e3 e4 q2 q5
          have hsp := List.take_append_drop n W
          have hpw := hp.pw
          rw [← hsp, List.pairwise_append] at hpw
          have hiF : G.length < F.length := by omega
          have hfi := e3 G.length (List.mem_cons_self ..)
          rw [q4, hc0] at hfi
          -- the closed ones lack nothing
          have hz : ∀ a ∈ (W.take n).map (fun w => ((Bk.nd F w).f3 - (Bk.nd G w).f3).toNat), a = 0 := fun a ha => by
            obtain ⟨w, hw, rfl⟩ := List.mem_map.1 ha
            have hwG := hp.lt w (List.mem_of_mem_take hw)
            have hwd : w ∉ W.drop n := fun e => by have := hpw.2.2 w hw w e; omega
            have h4 := e4 w (by omega) (fun e => by
              rcases List.mem_cons.1 e with e | e
              · omega
              · exact hwd e)
            rw [h4, (q5 w hwG).1 (fun e => hwd (List.mem_of_mem_head? e))]
            simp
          have hdr : ((W.drop n).map (fun w => ((Bk.nd F w).f3 - (Bk.nd G w).f3).toNat) = [] ∧ (W.drop n).map (fun w => ((Bk.nd F w).f3 - (Bk.nd F1 w).f3).toNat) = []) ∨
              ∃ a s', (W.drop n).map (fun w => ((Bk.nd F w).f3 - (Bk.nd G w).f3).toNat) = (a + 1) :: s' ∧ (W.drop n).map (fun w => ((Bk.nd F w).f3 - (Bk.nd F1 w).f3).toNat) = a :: s' := by
            cases hWd : W.drop n with
            | nil => exact .inl ⟨rfl, rfl⟩
            | cons p W2 =>
              right
              have hpm : p ∈ W := List.mem_of_mem_drop (by rw [hWd]; exact List.mem_cons_self ..)
              have hpG := hp.lt p hpm
              have hh : (W.drop n).head? = some p := by rw [hWd]; rfl
              have h5 := (q5 p hpG).2.1 hh
              have h6 := e3 p (List.mem_cons_of_mem _ (by rw [hWd]; exact List.mem_cons_self ..))
              refine ⟨((Bk.nd F p).f3 - (Bk.nd F1 p).f3).toNat, W2.map (fun w => ((Bk.nd F w).f3 - (Bk.nd G w).f3).toNat), ?_, ?_⟩
              · rw [List.map_cons]
                congr 1
                omega
              · rw [List.map_cons]
                congr 1
                refine List.map_congr_left fun w hw => ?_
                have hpw2 := hpw.2.1
                rw [hWd, List.pairwise_cons] at hpw2
                have hwp := hpw2.1 w hw
                rw [(q5 w (by omega)).1 (fun e => by rw [hh] at e; have := Option.some.inj e; omega)]
          have hrem : W.map (fun w => ((Bk.nd F w).f3 - (Bk.nd G w).f3).toNat) = (W.take n).map (fun w => ((Bk.nd F w).f3 - (Bk.nd G w).f3).toNat) ++ (W.drop n).map (fun w => ((Bk.nd F w).f3 - (Bk.nd G w).f3).toNat) := by
            rw [← List.map_append, hsp]
          have hpop : Fo.pop (W.map (fun w => ((Bk.nd F w).f3 - (Bk.nd G w).f3).toNat)) = (W.drop n).map (fun w => ((Bk.nd F w).f3 - (Bk.nd G w).f3).toNat) := by
            rw [hrem]
            refine pop_app _ _ hz ?_
            rcases hdr with ⟨h7, _⟩ | ⟨a, s', h7, _⟩
            · exact .inl h7
            · exact .inr ⟨a, s', h7⟩
          have hdec : dec ((W.drop n).map (fun w => ((Bk.nd F w).f3 - (Bk.nd G w).f3).toNat)) = (W.drop n).map (fun w => ((Bk.nd F w).f3 - (Bk.nd F1 w).f3).toNat) := by
            rcases hdr with ⟨h7, h8⟩ | ⟨a, s', h7, h8⟩
            · rw [h7, h8]; rfl
            · rw [h7, h8]; rfl
          refine ⟨d :: ls, by rw [List.length_cons]; omega, ?_, fun w hw => ?_, fun x hx hxn => ?_, fun x hx => ?_, ?_⟩
          · rw [K_at F G.length hiF, mach, if_neg (by omega), hpop, hdec]
            rw [List.map_cons, q4, hc0, Int.sub_zero] at e2
            rw [e2, Option.map_some, List.length_map, List.length_drop]
            congr 2
            omega
          · have hwG := hp.lt w hw
            obtain ⟨k1, k2, _⟩ := q5 w hwG
            by_cases hwd : w ∈ W.drop n
            · have := e3 w (List.mem_cons_of_mem _ hwd)
              by_cases he : (W.drop n).head? = some w
              · rw [k2 he] at this; omega
              · rw [k1 he] at this; exact this
            · have h4 := e4 w (by omega) (fun e => by
                rcases List.mem_cons.1 e with e | e
                · omega
                · exact hwd e)
              rw [h4, k1 (fun e => hwd (List.mem_of_mem_head? e))]
              exact Int.le_refl _
          · have hxd : x ∉ W.drop n := fun e => hxn (List.mem_of_mem_drop e)
            rw [e4 x (by omega) (fun e => by
              rcases List.mem_cons.1 e with e | e
              · omega
              · exact hxd e), (q5 x hx).1 (fun e => hxd (List.mem_of_mem_head? e))]
          · have h7 := e5 x (by omega)
            obtain ⟨_, _, k0, k1, k2⟩ := q5 x hx
            exact ⟨h7.1.trans k0, h7.2.1.trans k1, h7.2.2.trans k2⟩
          · have h7 := e5 G.length (by omega)
            rw [q4] at h7
            have hb : bodyOf (Bk.nd F G.length) d = bodyOf c d := by
              unfold bodyOf
              rw [h7.1, h7.2.1, h7.2.2]
            show _ = bodyOf (Bk.nd F G.length) d ++ 10 :: txt F ls (G.length + 1)
            rw [hb, ← e6, ← hbody, ext_list]
            have hlen : ((t.data.toList.drop at_).takeWhile (· != 10)).length = lfAt t at_ - at_ := by unfold lfAt; omega
            have hsz : (t.data.toList.drop at_).length = t.size - at_ := Ps.drop_len t at_
            have hts := tw_split (t.data.toList.drop at_) (by omega)
            rw [hlen, List.drop_drop] at hts
            have htk : (t.data.toList.drop at_).take (lfAt t at_ - at_) = (t.data.toList.drop at_).takeWhile (· != 10) := by
              conv => lhs; rw [hts]
              rw [← hlen, List.take_left]
            rw [htk, show lfAt t at_ + 1 = at_ + (lfAt t at_ - at_ + 1) by omega]
            exact hts
        · cases hs
    · rw [parseGo_end hlt] at h
      injection h with h _
      subst h
      refine ⟨[], rfl, ?_, fun _ _ => Int.le_refl _, fun _ _ _ => rfl, fun _ _ => ⟨rfl, rfl, rfl⟩, ?_⟩
      · rw [List.drop_eq_nil_of_le (by omega), mach, if_pos]
        rw [List.all_eq_true]
        intro a ha
        obtain ⟨w, _, rfl⟩ := List.mem_map.1 ha
        simp
      · rw [List.drop_eq_nil_of_le (by rw [Array.length_toList]; have : t.data.size = t.size := rfl; omega)]
        rfl
end Go.Proofs.YtkebableanenkaaDoor.Rdb
