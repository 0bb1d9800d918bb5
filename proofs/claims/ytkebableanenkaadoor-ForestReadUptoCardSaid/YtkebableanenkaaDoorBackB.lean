/- What is read of a right forest's text is the forest: the plain law. -/
import Derived.Test.YtkebableanenkaaDoorBackA
import Derived.Test.YtkebableanenkaaDoorNestA
import Derived.Test.YtkebableanenkaaDoorParse2
namespace Go.Proofs.YtkebableanenkaaDoor.Bk
open Go.RowKit Go.Proofs.YtkebableanenkaaDoor.Qall Go.Proofs.YtkebableanenkaaDoor.Fo Go.Proofs.YtkebableanenkaaDoor.Chk Go.Proofs.YtkebableanenkaaDoor.Ln Go.Proofs.YtkebableanenkaaDoor.Tx Go.Proofs.YtkebableanenkaaDoor.Ps Go.Proofs.YtkebableanenkaaDoor.Nsa Go.Proofs.YtkebableanenkaaDoorW.PrintWords Go.Proofs.YtkebableanenkaaDoorW.PrintLast Go.Proofs.YtkebableanenkaaDoorW.PrintMore
set_option linter.unusedSimpArgs false
set_option linter.unusedVariables false
abbrev SC := S37
abbrev nd (f : List SC) (i : Nat) : SC := rd_T37 f (i : Int)
abbrev elOf := @Fi.elOf
/-- Open nodes (the innermost first), how many kids each lacks, where each ends. -/
def Al (f F : List SC) (i : Nat) : List Nat → List Nat → List Nat → Prop
  | [], [], [] => True
  | w :: W, a :: st, e :: E => (nd F w).f3 + (a : Int) = (nd f w).f3 ∧ 0 ≤ (nd F w).f3 ∧ rd (elOf f) (w : Int) = (e : Int) ∧ w < i ∧ (∀ x ∈ W, x < w) ∧ Al f F i W st E
  | _, _, _ => False
theorem Al.len {f F : List SC} {i : Nat} : ∀ {W st E : List Nat}, Al f F i W st E → W.length = st.length
  | [], [], [], _ => rfl
  | w :: W, a :: st, e :: E, h => by rw [List.length_cons, List.length_cons, Al.len h.2.2.2.2.2]
theorem Al.lt {f F : List SC} {i : Nat} : ∀ {W st E : List Nat}, Al f F i W st E → ∀ x ∈ W, x < i
  | [], [], [], _, x, hx => by cases hx
  | w :: W, a :: st, e :: E, h, x, hx => by
    rcases List.mem_cons.1 hx with rfl | hx
    · exact h.2.2.2.1
    · exact Al.lt h.2.2.2.2.2 x hx
/-- Nodes that are not touched. -/
theorem Al.keep {f F F' : List SC} {i i' : Nat} (hi : i ≤ i') : ∀ {W st E : List Nat}, Al f F i W st E → (∀ x ∈ W, (nd F' x).f3 = (nd F x).f3) → Al f F' i' W st E
  | [], [], [], _, _ => trivial
  | w :: W, a :: st, e :: E, h, hk => by
    have hw := hk w (List.mem_cons_self ..)
    exact ⟨by rw [hw]; exact h.1, by rw [hw]; exact h.2.1, h.2.2.1, Nat.lt_of_lt_of_le h.2.2.2.1 hi, h.2.2.2.2.1, Al.keep hi h.2.2.2.2.2 (fun x hx => hk x (List.mem_cons_of_mem _ hx))⟩
/-- Those that lack nothing any more are closed. -/
theorem Al.pop {f F : List SC} {i : Nat} {es : List (Option Nat)} (hw : WF es) : ∀ {st W : List Nat}, Q st es → Al f F i W st (stk st es i) →
    ∃ n, n ≤ W.length ∧ (Fo.pop st).length = W.length - n ∧ Al f F i (W.drop n) (Fo.pop st) (stk (Fo.pop st) es i) ∧ (∀ x ∈ W.take n, (nd F x).f3 = (nd f x).f3 ∧ rd (elOf f) (x : Int) ≤ (i : Int)) ∧ (∀ x, (W.drop n).head? = some x → (i : Int) < rd (elOf f) (x : Int))
  | [], [], _, h => ⟨0, Nat.le_refl _, rfl, h, (fun x hx => by cases hx), (fun x hx => by cases hx)⟩
  | a :: st, [], _, h => by simp [stk, Al] at h
  | [], w :: W, _, h => by simp [stk, Al] at h
  | a :: st, w :: W, hq, h => by
    obtain ⟨m, e, hq2⟩ := hq
    cases a with
    | zero =>
      obtain rfl : 0 = m := by simpa [jump] using e
      rw [List.drop_zero] at hq2
      simp only [stk, jump, Option.getD_some, Nat.add_zero, List.drop_zero] at h
      obtain ⟨h1, h2, h3, h4, h5, h6⟩ := h
      obtain ⟨n, g1, g2, g3, g4, g5⟩ := Al.pop hw hq2 h6
      refine ⟨n + 1, by rw [List.length_cons]; omega, ?_, by rw [List.drop_succ_cons]; exact g3, fun x hx => ?_, by rw [List.drop_succ_cons]; exact g5⟩
      · show (Fo.pop st).length = _
        rw [List.length_cons]; omega
      · rw [List.take_succ_cons] at hx
        rcases List.mem_cons.1 hx with rfl | hx
        · exact ⟨by simpa using h1, by omega⟩
        · exact g4 x hx
    | succ a =>
      have hb := jump_bounds _ hw e
      refine ⟨0, Nat.zero_le _, ?_, h, (fun x hx => by simp at hx), fun x hx => ?_⟩
      · show ((a + 1) :: st).length = _
        rw [Nat.sub_zero]
        exact h.len.symm
      · rw [List.drop_zero] at hx
        obtain rfl : w = x := by simpa using hx
        have h3 := h.2.2.1
        rw [e, Option.getD_some] at h3
        omega
/-- The lines from node i on. -/
def txt (f : List SC) : List Nat → Nat → List UInt8
  | [], _ => []
  | z :: ls, i => bodyOf (nd f i) z ++ 10 :: txt f ls (i + 1)
theorem rd_at (f : List SC) (x : Nat) (h : x < f.length) : nd f x = f[x] := by
  show rd_T37 f (x : Int) = _
  unfold rd_T37
  rw [Int.toNat_natCast, List.getD_eq_getElem?_getD, List.getElem?_eq_getElem h]
  rfl
theorem nd_kid (F : List SC) (p x : Nat) (hp : p < F.length) : (nd (kid1 F (p : Int)) x).f3 = if x = p then wrap64 ((nd F p).f3 + 1) else (nd F x).f3 := by
  show (rd_T37 (kid1 F (p : Int)) (x : Int)).f3 = _
  unfold kid1 rd_T37
  simp only [List.getD_eq_getElem?_getD, List.getElem?_set, Int.toNat_natCast]
  by_cases h : x = p
  · subst h
    rw [if_pos rfl, if_pos hp, if_pos rfl]
    rfl
  · rw [if_neg (fun e => h e.symm), if_neg h]
    show _ = (rd_T37 F (x : Int)).f3
    unfold rd_T37
    rw [Int.toNat_natCast, List.getD_eq_getElem?_getD]
theorem nd_kid2 (F : List SC) (p x : Nat) : (nd (kid1 F (p : Int)) x).f0 = (nd F x).f0 ∧ (nd (kid1 F (p : Int)) x).f1 = (nd F x).f1 ∧ (nd (kid1 F (p : Int)) x).f2 = (nd F x).f2 := by
  show (rd_T37 (kid1 F (p : Int)) (x : Int)).f0 = (rd_T37 F (x : Int)).f0 ∧ _
  unfold kid1 nd rd_T37
  simp only [List.getD_eq_getElem?_getD, List.getElem?_set, Int.toNat_natCast]
  by_cases h : p = x
  · rw [if_pos h]
    by_cases h2 : p < F.length
    · rw [if_pos h2, h]; exact ⟨rfl, rfl, rfl⟩
    · rw [if_neg h2, ← h, List.getElem?_eq_none (by omega)]; exact ⟨rfl, rfl, rfl⟩
  · rw [if_neg h]; exact ⟨rfl, rfl, rfl⟩
theorem nd_app (f g : List SC) (x : Nat) (h : x < f.length) : nd (f ++ g) x = nd f x := by
  rw [rd_at _ x (by rw [List.length_append]; omega), rd_at f x h, List.getElem_append_left h]
theorem nd_new (f : List SC) (c : SC) : nd (f ++ [c]) f.length = c := by
  rw [rd_at _ _ (by simp), List.getElem_append_right (Nat.le_refl _)]
  simp
theorem eq_of_nd (f F : List SC) (hl : F.length = f.length) (h : ∀ x, x < f.length → nd F x = nd f x) : F = f := by
  apply List.ext_getElem hl
  intro x h1 h2
  rw [← rd_at F x h1, ← rd_at f x h2]
  exact h x h2
/-- What the reader holds ahead of node i. -/
structure St (f F : List SC) (way : List Int) (i : Nat) (W st : List Nat) : Prop where
  hl : F.length = i
  hil : i ≤ f.length
  hw : way = (W.map (fun x : Nat => (x : Int))).reverse
  al : Al f F i W st (stk st (ex ((K f).drop i)) i)
  q : Q st (ex ((K f).drop i))
  cl : ∀ x, x < i → x ∉ W → (nd F x).f3 = (nd f x).f3
  sm : ∀ x, x < i → (nd F x).f0 = (nd f x).f0 ∧ (nd F x).f1 = (nd f x).f1 ∧ (nd F x).f2 = (nd f x).f2
theorem way_rd (W : List Nat) (t : Nat) (h : t < W.length) : rd (W.map (fun x : Nat => (x : Int))).reverse (t : Int) = ((W[W.length - 1 - t]'(by omega) : Nat) : Int) := by
  have hl : (W.map (fun x : Nat => (x : Int))).reverse.length = W.length := by simp
  unfold rd
  rw [Int.toNat_natCast, List.getD_eq_getElem?_getD, List.getElem?_eq_getElem (by omega)]
  show (W.map (fun x : Nat => (x : Int))).reverse[t] = _
  rw [List.getElem_reverse, List.getElem_map]
  congr 2
  simp
theorem way_take (W : List Nat) (n : Nat) (h : n ≤ W.length) : (W.map (fun x : Nat => (x : Int))).reverse.take (W.length - n) = ((W.drop n).map (fun x : Nat => (x : Int))).reverse := by
  have e := List.take_append_drop n W
  conv => lhs; rw [← e]
  rw [List.map_append, List.reverse_append, List.take_left']
  simp
theorem K_at (f : List SC) (i : Nat) (hi : i < f.length) : (K f).drop i = (nd f i).f3 :: (K f).drop (i + 1) := by
  have hl : (K f).length = f.length := K_length f
  rw [List.drop_eq_getElem_cons (by omega), rd_at f i hi]
  congr 1
  unfold K
  rw [List.getElem_map]
theorem st_step (f : List SC) (hc : chkAns f 65536 = 0) (hbd : ∀ c ∈ f, c.f3 ≤ 9223372036854775807) {F : List SC} {way : List Int} {i : Nat} {W st : List Nat} (h : St f F way i W st) (hi : i < f.length) (h0 : 0 ≤ (nd f i).f1 ∧ (nd f i).f2 ≤ 65536) :
    ∃ F' way' W', putAns F way (Fo.pop st).length ⟨(nd f i).f0, (nd f i).f1, (nd f i).f2, 0⟩ = some (F', way') ∧ St f F' way' (i + 1) W' ((nd f i).f3.toNat :: dec (Fo.pop st)) := by
  have hK := K_at f i hi
  have hq := h.q
  have hal := h.al
  rw [hK] at hq hal
  obtain ⟨hx0, hq2⟩ := (Q_step st (nd f i).f3 ((K f).drop (i + 1))).1 hq
  have hss := stk_step st (nd f i).f3 ((K f).drop (i + 1)) i hq
  obtain ⟨n, g1, g2, g3, g4, g5⟩ := Al.pop (ex_wf _) hq hal
  have hn1 : (nd f i).f1 ≤ (nd f i).f2 := (nests f hc i hi).1
  have h20 := (Fi.chk_mach f hc).1
  have hwl : way.length = W.length := by rw [h.hw]; simp
  have hlt := hal.lt
  obtain ⟨d, hd⟩ : ∃ d, (Fo.pop st).length = d := ⟨_, rfl⟩
  rw [hd] at g2 ⊢
  have hhead : ∀ p, (W.drop n).head? = some p → p < i ∧ (nd f p).f1 ≤ (nd f i).f1 ∧ (nd f i).f2 ≤ (nd f p).f2 := fun p hp => by
    have hpi : p < i := hlt p (List.mem_of_mem_drop (List.mem_of_mem_head? hp))
    have := ((nests f hc p (by omega)).2 i hpi hi).1 (g5 p hp)
    exact ⟨hpi, this⟩
  have hup : 0 < d → ∃ p, (W.drop n).head? = some p ∧ rd way ((d : Int) - 1) = (p : Int) := fun hd0 => by
    have hnl : n < W.length := by omega
    refine ⟨W[n], by rw [List.drop_eq_getElem_cons hnl]; rfl, ?_⟩
    rw [h.hw, show ((d : Int) - 1) = ((d - 1 : Nat) : Int) by omega, way_rd W (d - 1) (by omega)]
    congr 2
    omega
  have hlo : loOf F way d ≤ (nd f i).f1 := by
    unfold loOf
    split
    · rename_i hdl
      have hn0 : W.length - 1 - d < W.length := by omega
      have hs : rd way (d : Int) = ((W[W.length - 1 - d] : Nat) : Int) := by rw [h.hw]; exact way_rd W d (by omega)
      have hm : W[W.length - 1 - d] ∈ W.take n := by
        rw [List.mem_take_iff_getElem]
        exact ⟨W.length - 1 - d, by omega, rfl⟩
      have hsi : W[W.length - 1 - d] < i := hlt _ (List.getElem_mem _)
      have := ((nests f hc W[W.length - 1 - d] (by omega)).2 i hsi hi).2 (g4 _ hm).2
      rw [hs]
      show (nd F W[W.length - 1 - d]).f2 ≤ _
      rw [(h.sm _ hsi).2.2]
      exact this
    · unfold lo0
      split
      · rename_i hd0
        obtain ⟨p, hp, hr⟩ := hup hd0
        obtain ⟨a1, a2, a3⟩ := hhead p hp
        rw [hr]
        show (nd F p).f1 ≤ _
        rw [(h.sm p a1).2.1]
        exact a2
      · exact h0.1
  have hhi : (nd f i).f2 ≤ hiOf F way d := by
    unfold hiOf
    split
    · rename_i hd0
      obtain ⟨p, hp, hr⟩ := hup hd0
      obtain ⟨a1, a2, a3⟩ := hhead p hp
      rw [hr]
      show _ ≤ (nd F p).f2
      rw [(h.sm p a1).2.2]
      exact a3
    · exact h0.2
  have hput : putAns F way d ⟨(nd f i).f0, (nd f i).f1, (nd f i).f2, 0⟩ = some (kidOf F way d ++ [⟨(nd f i).f0, (nd f i).f1, (nd f i).f2, 0⟩], way.take d ++ [(F.length : Int)]) := by
    have hFl := h.hl
    unfold putAns
    rw [if_neg (by rintro (e | e | e) <;> first | omega | exact absurd e (by show ¬ (nd f i).f2 < (nd f i).f1; omega)), if_neg (by rintro (e | e) <;> first | exact absurd e (by show ¬ (nd f i).f1 < _; omega) | exact absurd e (by show ¬ _ < (nd f i).f2; omega))]
  have hkl := kidOf_length F way d
  have hFl := h.hl
  -- what the kid's count does to the others
  have hkid : ∀ x, x < i → ((W.drop n).head? ≠ some x → (nd (kidOf F way d ++ [⟨(nd f i).f0, (nd f i).f1, (nd f i).f2, 0⟩]) x).f3 = (nd F x).f3) ∧
      (nd (kidOf F way d ++ [⟨(nd f i).f0, (nd f i).f1, (nd f i).f2, 0⟩]) x).f0 = (nd F x).f0 ∧ (nd (kidOf F way d ++ [⟨(nd f i).f0, (nd f i).f1, (nd f i).f2, 0⟩]) x).f1 = (nd F x).f1 ∧ (nd (kidOf F way d ++ [⟨(nd f i).f0, (nd f i).f1, (nd f i).f2, 0⟩]) x).f2 = (nd F x).f2 := fun x hx => by
    rw [nd_app _ _ x (by omega)]
    unfold kidOf
    split
    · rename_i hd0
      obtain ⟨p, hp, hr⟩ := hup hd0
      have hpi := (hhead p hp).1
      rw [hr]
      refine ⟨fun hne => ?_, nd_kid2 F p x⟩
      rw [nd_kid F p x (by omega), if_neg (fun e => hne (by rw [hp, e]))]
    · exact ⟨fun _ => rfl, rfl, rfl, rfl⟩
  refine ⟨_, _, i :: W.drop n, hput, ?_⟩
  refine ⟨by rw [List.length_append, hkl, hFl]; rfl, hi, ?_, ?_, hq2, fun x hx hxn => ?_, fun x hx => ?_⟩
  · rw [h.hw, hFl, g2, way_take W n g1, List.map_cons, List.reverse_cons]
  · rw [hss]
    obtain ⟨m, e1, e2⟩ := el_some f hc i hi
    have hm : Fo.hd (ex ((nd f i).f3 :: (K f).drop (i + 1))) = some m := by rw [← hK, ex_drop]; exact e1
    have hnew : nd (kidOf F way d ++ [⟨(nd f i).f0, (nd f i).f1, (nd f i).f2, 0⟩]) i = ⟨(nd f i).f0, (nd f i).f1, (nd f i).f2, 0⟩ := by
      have := nd_new (kidOf F way d) ⟨(nd f i).f0, (nd f i).f1, (nd f i).f2, 0⟩
      rwa [hkl, hFl] at this
    refine ⟨by rw [hnew]; show (0 : Int) + _ = _; omega, by rw [hnew]; exact Int.le_refl _, by rw [hm]; exact e2, Nat.lt_succ_self _, fun x hx => hlt x (List.mem_of_mem_drop hx), ?_⟩
    rcases pop_cases st with e | ⟨l, s, e⟩
    · rw [e] at g3 ⊢
      cases hWd : W.drop n with
      | nil => rw [hWd] at g3; exact g3
      | cons p W2 => rw [hWd] at g3; simp [stk, Al] at g3
    · rw [e] at g3 ⊢
      cases hWd : W.drop n with
      | nil => rw [hWd] at g3; simp [stk, Al] at g3
      | cons p W2 =>
        rw [hWd] at g3
        obtain ⟨a1, a2, a3, a4, a5, a6⟩ := g3
        have hp : (W.drop n).head? = some p := by rw [hWd]; rfl
        have hd0 : 0 < d := by rw [← hd, e]; exact Nat.succ_pos _
        obtain ⟨p', hp', hr⟩ := hup hd0
        obtain rfl : p = p' := by rw [hp] at hp'; exact Option.some.inj hp'
        have hfp := hbd (nd f p) (by rw [rd_at f p (by omega)]; exact List.getElem_mem _)
        have hpk : (nd (kidOf F way d ++ [⟨(nd f i).f0, (nd f i).f1, (nd f i).f2, 0⟩]) p).f3 = (nd F p).f3 + 1 := by
          rw [nd_app _ _ p (by omega)]
          unfold kidOf
          rw [if_pos hd0, hr, nd_kid F p p (by omega), if_pos rfl]
          exact Ln.wrap_of (by omega) (by omega)
        refine ⟨by rw [hpk]; show _ + (l : Int) = _; omega, by rw [hpk]; omega, a3, by omega, a5, ?_⟩
        exact Al.keep (Nat.le_succ i) a6 (fun x hx => (hkid x (by have := a5 x hx; omega)).1 (by rw [hp]; intro e2; have := a5 x hx; have := Option.some.inj e2; omega))
  · rw [List.mem_cons] at hxn
    have hxi : x < i := by
      rcases Nat.lt_or_ge x i with h1 | h1
      · exact h1
      · exact absurd (show x = i by omega) (fun e => hxn (.inl e))
    have hxd : x ∉ W.drop n := fun e => hxn (.inr e)
    rw [(hkid x hxi).1 (fun e => hxd (List.mem_of_mem_head? e))]
    by_cases hxW : x ∈ W
    · have e := List.take_append_drop n W
      rw [← e] at hxW
      rcases List.mem_append.1 hxW with h1 | h1
      · exact (g4 x h1).1
      · exact absurd h1 hxd
    · exact h.cl x hxi hxW
  · rcases Nat.lt_or_ge x i with h1 | h1
    · obtain ⟨_, b1, b2, b3⟩ := hkid x h1
      have := h.sm x h1
      exact ⟨b1.trans this.1, b2.trans this.2.1, b3.trans this.2.2⟩
    · obtain rfl : x = i := by omega
      have := nd_new (kidOf F way d) ⟨(nd f x).f0, (nd f x).f1, (nd f x).f2, 0⟩
      rw [hkl, hFl] at this
      rw [this]
      exact ⟨rfl, rfl, rfl⟩
theorem al_zero {f F : List SC} {i : Nat} : ∀ {W st E : List Nat}, Al f F i W st E → st.all (· == 0) = true → ∀ x ∈ W, (nd F x).f3 = (nd f x).f3
  | [], [], [], _, _, x, hx => by cases hx
  | w :: W, a :: st, e :: E, h, hz, x, hx => by
    rw [List.all_cons, Bool.and_eq_true] at hz
    rcases List.mem_cons.1 hx with rfl | hx
    · have := h.1
      have ha : a = 0 := by simpa using hz.1
      subst ha
      simpa using this
    · exact al_zero h.2.2.2.2.2 hz.2 x hx
theorem ext_list (t : ByteArray) (a b : Nat) : (t.extract a b).data.toList = (t.data.toList.drop a).take (b - a) := by
  simp [ByteArray.data_extract, Array.toList_extract, List.extract]
theorem sc_ext (a b : SC) (h0 : a.f0 = b.f0) (h1 : a.f1 = b.f1) (h2 : a.f2 = b.f2) (h3 : a.f3 = b.f3) : a = b := by
  cases a; cases b; simp_all
theorem back_go (f : List SC) (hc : chkAns f 65536 = 0) (hbd : ∀ c ∈ f, c.f3 ≤ 9223372036854775807) (hr : ∀ i, i < f.length → Own.nameOk (nd f i).f0 = true ∧ 0 ≤ (nd f i).f1 ∧ (nd f i).f2 ≤ 65536) (t : ByteArray) :
    ∀ (ls : List Nat) (i : Nat) (st W : List Nat) (F : List SC) (way : List Int) (at_ k : Nat), mach st ((K f).drop i) = some ls → St f F way i W st → t.data.toList.drop at_ = txt f ls i → at_ ≤ t.size → t.size < k + at_ → parseGo t k at_ F way = (f, 0, 0)
  | [], i, st, W, F, way, at_, k, hm, hs, ht, hle, hk => by
    obtain ⟨k, rfl⟩ : ∃ j, k = j + 1 := ⟨k - 1, by omega⟩
    have hl : (K f).length = f.length := K_length f
    have hil : i = f.length := by
      rcases Nat.lt_or_ge i f.length with h1 | h1
      · rw [K_at f i h1, mach] at hm
        split at hm
        · cases hm
        · obtain ⟨_, _, e⟩ := Option.map_eq_some_iff.1 hm
          cases e
      · have := hs.hil; omega
    have hz : st.all (· == 0) = true := by
      rw [List.drop_eq_nil_of_le (by omega), mach] at hm
      split at hm
      · rename_i h1; exact h1
      · cases hm
    have hat : ¬ at_ < t.size := by
      have := congrArg List.length ht
      rw [Ps.drop_len] at this
      have h2 : (txt f [] i).length = 0 := rfl
      omega
    rw [parseGo_end hat]
    have hF : F = f := by
      refine eq_of_nd f F (by rw [hs.hl]; exact hil) (fun x hx => ?_)
      have hxi : x < i := by omega
      obtain ⟨a0, a1, a2⟩ := hs.sm x hxi
      refine sc_ext _ _ a0 a1 a2 ?_
      by_cases hxW : x ∈ W
      · exact al_zero hs.al hz x hxW
      · exact hs.cl x hxi hxW
    rw [hF]
  | z :: ls, i, st, W, F, way, at_, k, hm, hs, ht, hle, hk => by
    obtain ⟨k, rfl⟩ : ∃ j, k = j + 1 := ⟨k - 1, by omega⟩
    have hl : (K f).length = f.length := K_length f
    have hi : i < f.length := by
      rcases Nat.lt_or_ge i f.length with h1 | h1
      · exact h1
      · rw [List.drop_eq_nil_of_le (by omega), mach] at hm
        split at hm
        · cases hm
        · cases hm
    rw [K_at f i hi, mach] at hm
    split at hm
    · cases hm
    · obtain ⟨ls', hm2, e⟩ := Option.map_eq_some_iff.1 hm
      injection e with e1 e2
      subst e1 e2
      obtain ⟨r1, r2, r3⟩ := hr i hi
      have hn1 : (nd f i).f1 ≤ (nd f i).f2 := (nests f hc i hi).1
      obtain ⟨F', way', W', hput, hs'⟩ := st_step f hc hbd hs hi ⟨r2, r3⟩
      obtain ⟨z, hz⟩ : ∃ z, (Fo.pop st).length = z := ⟨_, rfl⟩
      rw [hz] at hput ht
      have ht2 : t.data.toList.drop at_ = bodyOf (nd f i) z ++ 10 :: txt f ls' (i + 1) := ht
      have hlen := congrArg List.length ht2
      rw [Ps.drop_len, List.length_append, List.length_cons] at hlen
      have htw : (t.data.toList.drop at_).takeWhile (· != 10) = bodyOf (nd f i) z := by
        rw [ht2]
        exact takeWhile_all _ _ (body_nolf (nd f i) z r1 ⟨r2, by omega⟩ ⟨by omega, r3⟩) (fun b hb => by have := Option.some.inj hb; rw [← this]; rfl)
      have hlf : lfAt t at_ = at_ + (bodyOf (nd f i) z).length := by unfold lfAt; rw [htw]
      have hline : lineAns (t.extract at_ (lfAt t at_)) = ((z : Int), (nd f i).f0, (nd f i).f1, (nd f i).f2, true) := by
        refine line_read (nd f i) z r1 ⟨r2, by omega⟩ ⟨by omega, r3⟩ _ ?_
        rw [ext_list, hlf, show at_ + (bodyOf (nd f i) z).length - at_ = (bodyOf (nd f i) z).length by omega, ht2, List.take_left]
      have hstep : stepAns t at_ F way = some (F', way') := by
        unfold stepAns lineAt nodeOf
        rw [hline, if_pos ⟨by omega, rfl⟩]
        exact hput
      rw [parseGo_some (by omega) hstep]
      refine back_go f hc hbd hr t ls' (i + 1) _ W' F' way' (lfAt t at_ + 1) k hm2 hs' ?_ (by omega) (by omega)
      have := drop_more ht2
      rw [← hlf] at this
      rw [← List.drop_drop, this]
      rfl
theorem nst_own {own : ByteArray → Bool} {f : List SC} {l : List Int} : ∀ d i (st : List Nest.Rm), Nest.nst own f l d i st = true → ∀ k, i ≤ k → k < i + d → own (nd f k).f0 = true
  | 0, i, st, _, k, h1, h2 => by omega
  | d + 1, i, st, h, k, h1, h2 => by
    unfold Nest.nst at h
    split at h
    · cases h
    · split at h
      · cases h
      · rename_i ho
        split at h
        · cases h
        · split at h
          · cases h
          · split at h
            · cases h
            · rcases Nat.lt_or_ge i k with hk | hk
              · exact nst_own d (i + 1) _ h k hk (by omega)
              · obtain rfl : k = i := by omega
                exact Bool.not_eq_false _ |>.mp ho
theorem right_nodes (f : List SC) (hc : chkAns f 65536 = 0) : ∀ i, i < f.length → Own.nameOk (nd f i).f0 = true ∧ 0 ≤ (nd f i).f1 ∧ (nd f i).f2 ≤ 65536 := fun i hi => by
  have hn := chk_nst f hc
  have h1 := nst_own f.length 0 _ hn i (Nat.zero_le _) (by omega)
  have h2 := (inside (own := Own.nameOk) (f := f) (l := Fi.elOf f) 0 65536 (f.length : Int) f.length 0 [] ((f.length : Int), 65536, 0) [] hn (fun y hy => (by cases hy)) rfl (fun y hy => (by cases hy)) ⟨Int.le_refl _, Int.le_refl _⟩ (fun y hy => (by cases hy)) (fun k _ hk _ => (Fi.right_ex f hc k (by omega)).2) i (Nat.zero_le _) (by omega)).1 (by omega)
  exact ⟨h1, h2⟩
theorem txt_total (f : List SC) (L : List Nat) : ∀ (n i : Nat), i + n = L.length → (List.range' i n).flatMap (lnAt f (toI L)) = txt f (L.drop i) i
  | 0, i, h => by rw [List.drop_eq_nil_of_le (by omega)]; rfl
  | n + 1, i, h => by
    have hi : i < L.length := by omega
    rw [List.range'_succ, List.flatMap_cons, txt_total f L n (i + 1) (by omega), List.drop_eq_getElem_cons hi]
    show _ = bodyOf (nd f i) L[i] ++ 10 :: txt f (L.drop (i + 1)) (i + 1)
    have e : lnAt f (toI L) i = bodyOf (nd f i) L[i] ++ [10] := by
      unfold lnAt
      have : (toI L)[i]?.getD 0 = ((L[i] : Nat) : Int) := by
        unfold toI
        rw [List.getElem?_map, List.getElem?_eq_getElem hi]
        rfl
      rw [this]
      exact ln_body (nd f i) L[i]
    rw [e, List.append_assoc]
    rfl
/-- THERE AND BACK. -/
theorem parse_text (f : List SC) (hbd : ∀ c ∈ f, c.f3 ≤ 9223372036854775807) (s : ByteArray) (h : txtAns f = (s, 0)) : chkAns f 65536 = 0 ∧ parseAns s = (f, 0, 0) := by
  unfold txtAns at h
  split at h
  · rename_i hc
    split at h
    · rename_i hlen
      injection h with h1 _
      refine ⟨hc, ?_⟩
      obtain ⟨ls, hls⟩ := Option.isSome_iff_exists.1 (Fi.chk_mach f hc).2
      have hw : walkAns f = toI ls := by unfold walkAns; rw [hls]
      rw [hw] at h1 hlen
      have hsd : s.data.toList = total f (toI ls) := by rw [← h1]
      have hss : s.size = (total f (toI ls)).length := by rw [← hsd]; exact (data_length s).symm
      have ht := txt_total f ls ls.length 0 (by omega)
      have hq : Q [] (ex (K f)) := (mach_iff (K f) []).1 (Fi.chk_mach f hc).2
      unfold parseAns
      rw [if_neg (by omega)]
      refine back_go f hc hbd (right_nodes f hc) s ls 0 [] [] [] [] 0 (s.size + 1) hls ⟨rfl, Nat.zero_le _, rfl, trivial, hq, (fun x hx => by omega), (fun x hx => by omega)⟩ ?_ (Nat.zero_le _) (by omega)
      rw [List.drop_zero, hsd]
      unfold total tx
      rw [toI_length, List.range_eq_range', ht, List.drop_zero]
    · injection h with _ h2
      exact absurd h2 (by decide)
  · rename_i hc
    injection h with _ h2
    exact absurd h2 hc
end Go.Proofs.YtkebableanenkaaDoor.Bk
