/- What is read is right: the plain law. -/
import Derived.Test.YtkebableanenkaaDoorReadB
namespace Go.Proofs.YtkebableanenkaaDoor.Rdc
open Go.RowKit Go.Proofs.YtkebableanenkaaDoor.Qall Go.Proofs.YtkebableanenkaaDoor.Fo Go.Proofs.YtkebableanenkaaDoor.Chk Go.Proofs.YtkebableanenkaaDoor.Ln Go.Proofs.YtkebableanenkaaDoor.Ps Go.Proofs.YtkebableanenkaaDoor.Tx Go.Proofs.YtkebableanenkaaDoor.Nsa Go.Proofs.YtkebableanenkaaDoor.Bk Go.Proofs.YtkebableanenkaaDoorW.PrintWords Go.Proofs.YtkebableanenkaaDoorW.PrintLast Go.Proofs.YtkebableanenkaaDoorW.PrintMore
set_option linter.unusedSimpArgs false
set_option linter.unusedVariables false
theorem el_some2 (f : List Bk.SC) (hq : Q [] (ex (K f))) (a : Nat) (ha : a < f.length) : ∃ m, Fo.hd ((ex (K f)).drop a) = some m ∧ rd (Bk.elOf f) (a : Int) = ((a + m : Nat) : Int) := by
  have hl : (ex (K f)).length = f.length := by rw [ex_length, K_length]
  have hrd := abs_rd (-1) (ex (K f)) a (by omega)
  have hdr := drop_hd (ex (K f)) a (by omega)
  cases hh : Fo.hd ((ex (K f)).drop a) with
  | none =>
    exfalso
    rw [hh] at hdr
    have hm : (none : Option Nat) ∈ ex (K f) := List.mem_of_mem_drop (i := a) (by rw [hdr]; exact List.mem_cons_self ..)
    exact Q_all _ _ hq none hm rfl
  | some m => rw [hh] at hrd; exact ⟨m, rfl, hrd⟩
/-- The rooms of the open nodes. -/
def rooms (F : List Bk.SC) : Int → List Nat → List Nest.Rm
  | lo, [] => [((F.length : Int), 65536, lo)]
  | lo, w :: W => (rd (Bk.elOf F) (w : Int), (Bk.nd F w).f2, lo) :: rooms F (Bk.nd F w).f2 W
/-- What begins where the closed ones end. -/
def loA (F : List Bk.SC) (lo : Int) : Nat → List Nat → Int
  | 0, _ => lo
  | n + 1, [] => lo
  | n + 1, w :: W => loA F (Bk.nd F w).f2 n W
def hiA (F : List Bk.SC) : List Nat → Int
  | [] => 65536
  | w :: _ => (Bk.nd F w).f2
def lo1 (F : List Bk.SC) : List Nat → Int
  | [] => 0
  | w :: _ => (Bk.nd F w).f1
theorem rooms_form (F : List Bk.SC) (lo lo2 : Int) : ∀ W : List Nat, ∃ up r, rooms F lo W = up :: r ∧ up.2.2 = lo ∧ up.2.1 = hiA F W ∧ rooms F lo2 W = (up.1, up.2.1, lo2) :: r
  | [] => ⟨_, _, rfl, rfl, rfl, rfl⟩
  | w :: W => ⟨_, _, rfl, rfl, rfl, rfl⟩
theorem drop_rooms (F : List Bk.SC) (i : Nat) (hi : i < F.length) : ∀ (n : Nat) (W : List Nat) (lo : Int), n ≤ W.length → (∀ x ∈ W.take n, rd (Bk.elOf F) (x : Int) ≤ (i : Int)) → (∀ x, (W.drop n).head? = some x → (i : Int) < rd (Bk.elOf F) (x : Int)) →
    (rooms F lo W).dropWhile (fun r => decide (r.1 ≤ (i : Int))) = rooms F (loA F lo n W) (W.drop n)
  | 0, [], lo, _, _, _ => by
    show List.dropWhile _ [((F.length : Int), (65536 : Int), lo)] = _
    rw [List.dropWhile_cons_of_neg (by simp; omega)]
    rfl
  | 0, w :: W, lo, _, _, h => by
    have := h w rfl
    show List.dropWhile _ ((rd (Bk.elOf F) (w : Int), (Bk.nd F w).f2, lo) :: rooms F (Bk.nd F w).f2 W) = _
    rw [List.dropWhile_cons_of_neg (by simp; omega)]
    rfl
  | n + 1, [], lo, h, _, _ => by simp at h
  | n + 1, w :: W, lo, h, h1, h2 => by
    have := h1 w (by rw [List.take_succ_cons]; exact List.mem_cons_self ..)
    show List.dropWhile _ ((rd (Bk.elOf F) (w : Int), (Bk.nd F w).f2, lo) :: rooms F (Bk.nd F w).f2 W) = _
    rw [List.dropWhile_cons_of_pos (by simp; omega)]
    exact drop_rooms F i hi n W (Bk.nd F w).f2 (by simpa using h) (fun x hx => h1 x (by rw [List.take_succ_cons]; exact List.mem_cons_of_mem _ hx)) (fun x hx => h2 x hx)
theorem loA_at (F : List Bk.SC) : ∀ (n : Nat) (W : List Nat) (lo : Int) (h : n < W.length), loA F lo (n + 1) W = (Bk.nd F W[n]).f2
  | n, [], lo, h => by simp at h
  | 0, w :: W, lo, h => rfl
  | n + 1, w :: W, lo, h => by
    show loA F (Bk.nd F w).f2 (n + 1) W = _
    rw [loA_at F n W _ (by simpa using h)]
    rfl
theorem rd_step (f : List Bk.SC) (hq0 : Q [] (ex (K f))) (h20 : f.length ≤ 1048576) (hbd : ∀ c ∈ f, c.f3 ≤ 9223372036854775807) {F : List Bk.SC} {way : List Int} {i : Nat} {W st : List Nat} (h : Bk.St f F way i W st) (hi : i < f.length) {F' : List Bk.SC} {way' : List Int}
    (hput : putAns F way (Fo.pop st).length ⟨(Bk.nd f i).f0, (Bk.nd f i).f1, (Bk.nd f i).f2, 0⟩ = some (F', way')) :
    ∃ n, n ≤ W.length ∧ (Fo.pop st).length = W.length - n ∧ (∀ x ∈ W, x < i) ∧ (∀ x ∈ W.take n, rd (Bk.elOf f) (x : Int) ≤ (i : Int)) ∧ (∀ x, (W.drop n).head? = some x → (i : Int) < rd (Bk.elOf f) (x : Int)) ∧
      (Bk.nd f i).f1 ≤ (Bk.nd f i).f2 ∧ loOf F way (Fo.pop st).length ≤ (Bk.nd f i).f1 ∧ (Bk.nd f i).f2 ≤ hiOf F way (Fo.pop st).length ∧ Bk.St f F' way' (i + 1) (i :: W.drop n) ((Bk.nd f i).f3.toNat :: dec (Fo.pop st)) := by
  have hK := K_at f i hi
  have hq := h.q
  have hal := h.al
  rw [hK] at hq hal
  obtain ⟨hx0, hq2⟩ := (Q_step st (Bk.nd f i).f3 ((K f).drop (i + 1))).1 hq
  have hss := stk_step st (Bk.nd f i).f3 ((K f).drop (i + 1)) i hq
  obtain ⟨n, g1, g2, g3, g4, g5⟩ := Al.pop (ex_wf _) hq hal
  have hwl : way.length = W.length := by rw [h.hw]; simp
  have hlt := hal.lt
  obtain ⟨d, hd⟩ : ∃ d, (Fo.pop st).length = d := ⟨_, rfl⟩
  rw [hd] at g2 hput ⊢
  have hhead : ∀ p, (W.drop n).head? = some p → p < i ∧ (i : Int) < rd (Bk.elOf f) (p : Int) := fun p hp => by
    have hpi : p < i := hlt p (List.mem_of_mem_drop (List.mem_of_mem_head? hp))
    exact ⟨hpi, g5 p hp⟩
  have hup : 0 < d → ∃ p, (W.drop n).head? = some p ∧ rd way ((d : Int) - 1) = (p : Int) := fun hd0 => by
    have hnl : n < W.length := by omega
    refine ⟨W[n], by rw [List.drop_eq_getElem_cons hnl]; rfl, ?_⟩
    rw [h.hw, show ((d : Int) - 1) = ((d - 1 : Nat) : Int) by omega, way_rd W (d - 1) (by omega)]
    congr 2
    omega
  obtain ⟨p1, p2, p3, p4, p5, rfl, rfl⟩ := putAns_some hput
  have hkl := kidOf_length F way d
  have hFl := h.hl
  -- what the kid's count does to the others
  have hkid : ∀ x, x < i → ((W.drop n).head? ≠ some x → (Bk.nd (kidOf F way d ++ [⟨(Bk.nd f i).f0, (Bk.nd f i).f1, (Bk.nd f i).f2, 0⟩]) x).f3 = (Bk.nd F x).f3) ∧
      (Bk.nd (kidOf F way d ++ [⟨(Bk.nd f i).f0, (Bk.nd f i).f1, (Bk.nd f i).f2, 0⟩]) x).f0 = (Bk.nd F x).f0 ∧ (Bk.nd (kidOf F way d ++ [⟨(Bk.nd f i).f0, (Bk.nd f i).f1, (Bk.nd f i).f2, 0⟩]) x).f1 = (Bk.nd F x).f1 ∧ (Bk.nd (kidOf F way d ++ [⟨(Bk.nd f i).f0, (Bk.nd f i).f1, (Bk.nd f i).f2, 0⟩]) x).f2 = (Bk.nd F x).f2 := fun x hx => by
    rw [nd_app _ _ x (by omega)]
    unfold kidOf
    split
    · rename_i hd0
      obtain ⟨p, hp, hr⟩ := hup hd0
      have hpi := (hhead p hp).1
      rw [hr]
      refine ⟨fun hne => ?_, nd_kid2 F p x⟩
      rw [nd_kid F p x (by omega), if_neg (fun e => hne (by rw [hp, e]))]
    · exact ⟨fun _ => rfl, rfl, rfl, rfl⟩
  refine ⟨n, g1, g2, hlt, fun x hx => (g4 x hx).2, g5, p3, p4, p5, ?_⟩
  refine ⟨by rw [List.length_append, hkl, hFl]; rfl, hi, ?_, ?_, hq2, fun x hx hxn => ?_, fun x hx => ?_⟩
  · rw [h.hw, hFl, g2, way_take W n g1, List.map_cons, List.reverse_cons]
  · rw [hss]
    obtain ⟨m, e1, e2⟩ := el_some2 f hq0 i hi
    have hm : Fo.hd (ex ((Bk.nd f i).f3 :: (K f).drop (i + 1))) = some m := by rw [← hK, ex_drop]; exact e1
    have hnew : Bk.nd (kidOf F way d ++ [⟨(Bk.nd f i).f0, (Bk.nd f i).f1, (Bk.nd f i).f2, 0⟩]) i = ⟨(Bk.nd f i).f0, (Bk.nd f i).f1, (Bk.nd f i).f2, 0⟩ := by
      have := nd_new (kidOf F way d) ⟨(Bk.nd f i).f0, (Bk.nd f i).f1, (Bk.nd f i).f2, 0⟩
      rwa [hkl, hFl] at this
    refine ⟨by rw [hnew]; show (0 : Int) + _ = _; omega, by rw [hnew]; exact Int.le_refl _, by rw [hm]; exact e2, Nat.lt_succ_self _, fun x hx => hlt x (List.mem_of_mem_drop hx), ?_⟩
    rcases pop_cases st with e | ⟨l, s, e⟩
    · rw [e] at g3 ⊢
      cases hWd : W.drop n with
      | nil => rw [hWd] at g3; exact g3
      | cons p W2 => rw [hWd] at g3; simp [stk, Al] at g3
    · rw [e] at g3 ⊢
      cases hWd : W.drop n with
      | nil => rw [hWd] at g3; simp [stk, Al] at g3
      | cons p W2 =>
        rw [hWd] at g3
        obtain ⟨a1, a2, a3, a4, a5, a6⟩ := g3
        have hp : (W.drop n).head? = some p := by rw [hWd]; rfl
        have hd0 : 0 < d := by rw [← hd, e]; exact Nat.succ_pos _
        obtain ⟨p', hp', hr⟩ := hup hd0
        obtain rfl : p = p' := by rw [hp] at hp'; exact Option.some.inj hp'
        have hfp := hbd (Bk.nd f p) (by rw [rd_at f p (by omega)]; exact List.getElem_mem _)
        have hpk : (Bk.nd (kidOf F way d ++ [⟨(Bk.nd f i).f0, (Bk.nd f i).f1, (Bk.nd f i).f2, 0⟩]) p).f3 = (Bk.nd F p).f3 + 1 := by
          rw [nd_app _ _ p (by omega)]
          unfold kidOf
          rw [if_pos hd0, hr, nd_kid F p p (by omega), if_pos rfl]
          exact Ln.wrap_of (by omega) (by omega)
        refine ⟨by rw [hpk]; show _ + (l : Int) = _; omega, by rw [hpk]; omega, a3, by omega, a5, ?_⟩
        exact Al.keep (Nat.le_succ i) a6 (fun x hx => (hkid x (by have := a5 x hx; omega)).1 (by rw [hp]; intro e2; have := a5 x hx; have := Option.some.inj e2; omega))
  · rw [List.mem_cons] at hxn
    have hxi : x < i := by
      rcases Nat.lt_or_ge x i with h1 | h1
      · exact h1
      · exact absurd (show x = i by omega) (fun e => hxn (.inl e))
    have hxd : x ∉ W.drop n := fun e => hxn (.inr e)
    rw [(hkid x hxi).1 (fun e => hxd (List.mem_of_mem_head? e))]
    by_cases hxW : x ∈ W
    · have e := List.take_append_drop n W
      rw [← e] at hxW
      rcases List.mem_append.1 hxW with h1 | h1
      · exact (g4 x h1).1
      · exact absurd h1 hxd
    · exact h.cl x hxi hxW
  · rcases Nat.lt_or_ge x i with h1 | h1
    · obtain ⟨_, b1, b2, b3⟩ := hkid x h1
      have := h.sm x h1
      exact ⟨b1.trans this.1, b2.trans this.2.1, b3.trans this.2.2⟩
    · obtain rfl : x = i := by omega
      have := nd_new (kidOf F way d) ⟨(Bk.nd f x).f0, (Bk.nd f x).f1, (Bk.nd f x).f2, 0⟩
      rw [hkl, hFl] at this
      rw [this]
      exact ⟨rfl, rfl, rfl⟩
theorem al_rem {f F : List Bk.SC} {i : Nat} : ∀ {W st E : List Nat}, Al f F i W st E → st = W.map (fun w => ((Bk.nd f w).f3 - (Bk.nd F w).f3).toNat)
  | [], [], [], _ => rfl
  | w :: W, a :: st, e :: E, h => by
    rw [List.map_cons, ← al_rem h.2.2.2.2.2]
    have := h.1
    congr 1
    omega
theorem lo_eq (F G : List Bk.SC) (way : List Int) (W : List Nat) (hw : way = (W.map (fun x : Nat => (x : Int))).reverse) (hs : ∀ w ∈ W, (Bk.nd F w).f1 = (Bk.nd G w).f1 ∧ (Bk.nd F w).f2 = (Bk.nd G w).f2) (lo : Int)
    (hlo : lo = lo1 F W) (n : Nat) (hn : n ≤ W.length) : loA F lo n W = loOf G way (W.length - n) := by
  have hwl : way.length = W.length := by rw [hw]; simp
  unfold loOf
  cases n with
  | zero =>
    rw [if_neg (by omega)]
    unfold lo0
    cases W with
    | nil => exact hlo
    | cons w W =>
      have h1 := (hs w (List.mem_cons_self ..)).1
      rw [if_pos (by rw [List.length_cons]; omega)]
      have hr : rd way ((((w :: W).length - 0 : Nat) : Int) - 1) = (w : Int) := by
        rw [hw, show ((((w :: W).length - 0 : Nat) : Int) - 1) = (((w :: W).length - 1 : Nat) : Int) by rw [List.length_cons]; omega, way_rd (w :: W) ((w :: W).length - 1) (by rw [List.length_cons]; omega)]
        congr 1
        simp
      rw [hr]
      show lo = (Bk.nd G w).f1
      rw [hlo, ← h1]
      rfl
  | succ m =>
    rw [if_pos (by omega)]
    have hr : rd way ((W.length - (m + 1) : Nat) : Int) = ((W[m] : Nat) : Int) := by
      rw [hw, way_rd W (W.length - (m + 1)) (by omega)]
      congr 2
      omega
    rw [hr, loA_at F m W lo (by omega)]
    exact (hs _ (List.getElem_mem _)).2
theorem hi_eq (F G : List Bk.SC) (way : List Int) (W : List Nat) (hw : way = (W.map (fun x : Nat => (x : Int))).reverse) (hs : ∀ w ∈ W, (Bk.nd F w).f1 = (Bk.nd G w).f1 ∧ (Bk.nd F w).f2 = (Bk.nd G w).f2) (n : Nat) (hn : n ≤ W.length) :
    hiA F (W.drop n) = hiOf G way (W.length - n) := by
  unfold hiOf
  by_cases h : n < W.length
  · rw [if_pos (by omega), List.drop_eq_getElem_cons h]
    have hr : rd way (((W.length - n : Nat) : Int) - 1) = ((W[n] : Nat) : Int) := by
      rw [hw, show (((W.length - n : Nat) : Int) - 1) = ((W.length - n - 1 : Nat) : Int) by omega, way_rd W (W.length - n - 1) (by omega)]
      congr 2
      omega
    rw [hr]
    exact (hs _ (List.getElem_mem _)).2
  · rw [if_neg (by omega), List.drop_eq_nil_of_le (by omega)]
    rfl
theorem body_len (c : Bk.SC) (z : Nat) : (bodyOf c z).length = 2 * z + (bodyOf c 0).length := by
  unfold bodyOf
  simp only [List.length_append, Lib.repeatL_length]
  simp
  omega
theorem tw_stop (l r : List UInt8) (h : ∀ b ∈ l, (b != 10) = true) : (l ++ 10 :: r).takeWhile (· != 10) = l :=
  takeWhile_all l (10 :: r) h (fun b hb => by have := Option.some.inj hb; rw [← this]; rfl)
set_option maxHeartbeats 8000000 in
theorem go_right (t : ByteArray) (F : List Bk.SC) (hq0 : Q [] (ex (K F))) (h20 : F.length ≤ 1048576) (hbd : ∀ c ∈ F, c.f3 ≤ 9223372036854775807) :
    ∀ (k at_ : Nat) (G : List Bk.SC) (way : List Int) (W st : List Nat) (lo : Int), parseGo t k at_ G way = (F, 0, 0) → t.size < k + at_ → at_ ≤ t.size → Rdb.Pre G way W → Bk.St F G way G.length W st →
      (lo = lo1 F W) → Nest.nst Own.nameOk F (Bk.elOf F) (F.length - G.length) G.length (rooms F lo W) = true
  | 0, at_, G, way, W, st, lo, h, hk, hle, hp, hS, hlo => by omega
  | k + 1, at_, G, way, W, st, lo, h, hk, hle, hp, hS, hlo => by
    obtain ⟨ls, e1, e2, e3, e4, e5, e6⟩ := Rdb.read_go t F (k + 1) at_ G way W h hk hle hp
    rw [← al_rem hS.al] at e2
    by_cases hlt : at_ < t.size
    · cases hs : stepAns t at_ G way with
      | none =>
        rw [parseGo_none hlt hs] at h
        injection h with _ h
        injection h with _ h
        exact absurd h (by decide)
      | some r =>
        obtain ⟨F1, way1⟩ := r
        rw [parseGo_some hlt hs] at h
        unfold stepAns lineAt nodeOf at hs
        split at hs
        · rename_i hok
          obtain ⟨hlf, hok⟩ := hok
          obtain ⟨d, hd, hbody, hnm, h1, h2⟩ := Rdb.line_back2 _ hok
          rw [hd, Int.toNat_natCast] at hs
          obtain ⟨c, hc⟩ : ∃ c : Bk.SC, (⟨(lineAns (t.extract at_ (lfAt t at_))).2.1, (lineAns (t.extract at_ (lfAt t at_))).2.2.1, (lineAns (t.extract at_ (lfAt t at_))).2.2.2.1, 0⟩ : Bk.SC) = c := ⟨_, rfl⟩
          have hc0 : c.f3 = 0 := by rw [← hc]
          have hcn : Own.nameOk c.f0 = true := by rw [← hc]; exact hnm
          have hc1 : 0 ≤ c.f1 ∧ c.f1 ≤ 65536 := by rw [← hc]; exact h1
          have hc2 : 0 ≤ c.f2 ∧ c.f2 ≤ 65536 := by rw [← hc]; exact h2
          rw [hc] at hbody hs
          clear hc hnm h1 h2 hd hok
          obtain ⟨q1, q2, q3, q4, q5⟩ := hp.put hc0 hs
          have hll := lf_le t at_ hle
          obtain ⟨ls2, u1, u2, u3, u4, u5, u6⟩ := Rdb.read_go t F k (lfAt t at_ + 1) F1 way1 _ h (by omega) (by omega) q2
          have hiF : G.length < F.length := by omega
          have h7 := u5 G.length (by omega)
          rw [q4] at h7
          have hcF : (⟨(Bk.nd F G.length).f0, (Bk.nd F G.length).f1, (Bk.nd F G.length).f2, 0⟩ : Bk.SC) = c := sc_ext _ _ h7.1 h7.2.1 h7.2.2 hc0.symm
          obtain ⟨z, ls', hlz⟩ : ∃ z ls', ls = z :: ls' := by
            cases ls with
            | nil => exfalso; rw [List.length_nil] at e1; omega
            | cons z ls' => exact ⟨z, ls', rfl⟩
          subst hlz
          rw [K_at F G.length hiF, mach] at e2
          split at e2
          · cases e2
          obtain ⟨_, _, e⟩ := Option.map_eq_some_iff.1 e2
          injection e with hz _
          have hbe : ∀ z, bodyOf (Bk.nd F G.length) z = bodyOf c z := fun z => by
            unfold bodyOf
            rw [h7.1, h7.2.1, h7.2.2]
          have hdz : d = z := by
            have ht2 : t.data.toList.drop at_ = bodyOf (Bk.nd F G.length) z ++ 10 :: txt F ls' (G.length + 1) := e6
            rw [hbe z] at ht2
            have htw : (t.data.toList.drop at_).takeWhile (· != 10) = bodyOf c z := by
              rw [ht2]
              exact tw_stop _ _ (body_nolf c z hcn hc1 hc2)
            have hlen : lfAt t at_ = at_ + (bodyOf c z).length := by unfold lfAt; rw [htw]
            have hb2 := congrArg List.length hbody
            rw [ext_list, hlen, ht2, show at_ + (bodyOf c z).length - at_ = (bodyOf c z).length by omega, List.take_left] at hb2
            have := body_len c z
            have := body_len c d
            omega
          rw [hdz, ← hz, ← hcF] at hs
          obtain ⟨n, n1, n2, n3, n4, n5, n6, n7, n8, n9⟩ := rd_step F hq0 h20 hbd hS hiF hs
          have hWn : W.length - d = n := by rw [hdz, ← hz, n2]; omega
          rw [hWn] at q2
          rw [← q3] at n9
          have hsm : ∀ w ∈ W, (Bk.nd F w).f1 = (Bk.nd G w).f1 ∧ (Bk.nd F w).f2 = (Bk.nd G w).f2 := fun w hw => (e5 w (hp.lt w hw)).2
          rw [n2, ← lo_eq F G way W hp.hw hsm lo hlo n n1] at n7
          rw [n2, ← hi_eq F G way W hp.hw hsm n n1] at n8
          have ih := go_right t F hq0 h20 hbd k (lfAt t at_ + 1) F1 way1 (G.length :: W.drop n) _ (Bk.nd F G.length).f1 h (by omega) (by omega) q2 n9 rfl
          obtain ⟨up, r, r1, r2, r3, r4⟩ := rooms_form F (loA F lo n W) (Bk.nd F G.length).f2 (W.drop n)
          rw [q3] at ih
          rw [show F.length - G.length = (F.length - (G.length + 1)) + 1 by omega, Nest.nst, drop_rooms F G.length hiF n W lo n1 n4 n5, r1]
          show (if Own.nameOk (Bk.nd F G.length).f0 = false then false else if (Bk.nd F G.length).f1 < up.2.2 then false else if (Bk.nd F G.length).f2 < (Bk.nd F G.length).f1 then false else if (Bk.nd F G.length).f2 > up.2.1 then false else _) = true
          rw [if_neg (by rw [h7.1, hcn]; decide), if_neg (by rw [r2]; omega), if_neg (by omega), if_neg (by rw [r3]; omega), ← r4]
          exact ih
        · cases hs
    · rw [parseGo_end hlt] at h
      injection h with h _
      subst h
      rw [Nat.sub_self]
      rfl
theorem go_pre (t : ByteArray) (F : List Bk.SC) : ∀ (k at_ : Nat) (G : List Bk.SC) (way : List Int) (W : List Nat), parseGo t k at_ G way = (F, 0, 0) → t.size < k + at_ → at_ ≤ t.size → Rdb.Pre G way W → ∃ way' W', Rdb.Pre F way' W'
  | 0, at_, G, way, W, h, hk, hle, hp => by omega
  | k + 1, at_, G, way, W, h, hk, hle, hp => by
    by_cases hlt : at_ < t.size
    · cases hs : stepAns t at_ G way with
      | none =>
        rw [parseGo_none hlt hs] at h
        injection h with _ h
        injection h with _ h
        exact absurd h (by decide)
      | some r =>
        obtain ⟨F1, way1⟩ := r
        rw [parseGo_some hlt hs] at h
        unfold stepAns lineAt nodeOf at hs
        split at hs
        · rename_i hok
          have hll := lf_le t at_ hle
          have hlf := hok.1
          exact go_pre t F k (lfAt t at_ + 1) F1 way1 _ h (by omega) (by omega) (hp.put rfl hs).2.1
        · cases hs
    · rw [parseGo_end hlt] at h
      injection h with h _
      subst h
      exact ⟨_, _, hp⟩
theorem pre_nil : Rdb.Pre [] [] [] := ⟨rfl, fun x hx => (by cases hx), List.Pairwise.nil, fun x hx => absurd hx (Nat.not_lt_zero _), by simp⟩
/-- WHAT IS READ IS RIGHT, AND HAS THAT TEXT. -/
theorem read_right (t : ByteArray) (F : List Bk.SC) (h : parseAns t = (F, 0, 0)) : chkAns F 65536 = 0 ∧ txtAns F = (t, 0) := by
  unfold parseAns at h
  split at h
  · injection h with _ h
    injection h with _ h
    exact absurd h (by decide)
  · rename_i hsz
    obtain ⟨way', W', hP⟩ := go_pre t F _ 0 [] [] [] h (by omega) (by omega) pre_nil
    have h20 := hP.cap
    have hbd : ∀ c ∈ F, c.f3 ≤ 9223372036854775807 := fun c hc => by
      obtain ⟨x, hx, rfl⟩ := List.mem_iff_getElem.1 hc
      have := (hP.f3 x hx).2
      rw [rd_at F x hx] at this
      omega
    obtain ⟨ls, e1, e2, _, _, _, e6⟩ := Rdb.read_go t F _ 0 [] [] [] h (by omega) (by omega) pre_nil
    rw [List.length_nil, List.drop_zero, List.map_nil] at e2
    rw [List.drop_zero, List.length_nil] at e6
    have hm : (mach [] (K F)).isSome = true := by rw [e2]; rfl
    have hq : Q [] (ex (K F)) := (mach_iff (K F) []).1 hm
    have hn := go_right t F hq h20 hbd _ 0 [] [] [] [] 0 h (by omega) (by omega) pre_nil ⟨rfl, Nat.zero_le _, rfl, trivial, hq, (fun x hx => absurd hx (Nat.not_lt_zero _)), (fun x hx => absurd hx (Nat.not_lt_zero _))⟩ rfl
    have hc : chkAns F 65536 = 0 := by
      unfold chkAns
      rw [if_neg (by omega), if_neg (by omega), if_pos]
      unfold rightB
      rw [Bool.and_eq_true]
      exact ⟨hm, hn⟩
    refine ⟨hc, ?_⟩
    have hw : walkAns F = toI ls := by unfold walkAns; rw [e2]
    have ht := txt_total F ls ls.length 0 (by omega)
    have htot : total F (toI ls) = t.data.toList := by
      unfold total tx
      rw [toI_length, List.range_eq_range', ht, List.drop_zero, e6]
    have hts : t.data.toList.length = t.size := data_length t
    unfold txtAns
    rw [if_pos hc, hw, htot, if_pos (by omega)]
end Go.Proofs.YtkebableanenkaaDoor.Rdc
