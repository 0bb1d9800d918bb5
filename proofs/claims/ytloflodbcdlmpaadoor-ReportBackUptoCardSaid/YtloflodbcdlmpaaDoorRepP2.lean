/- Outcomes and their texts, there and back: the plain laws. || THE TEXT SAYS THE OUTCOME: there and back, one text, what stands behind: the plain laws. -/
import Derived.Test.YtloflodbcdlmpaaDoorRep2
import Derived.Test.YtloflodbcdlmpaaDoorPlain2
namespace Go.Proofs.YtloflodbcdlmpaaDoor.Rp
open Go.RowKit Go.Proofs.YtloflodbcdlmpaaDoor.Qall Go.Proofs.YtloflodbcdlmpaaDoor.Chk Go.Proofs.YtloflodbcdlmpaaDoor.Ln Go.Proofs.YtloflodbcdlmpaaDoor.Ps Go.Proofs.YtloflodbcdlmpaaDoor.Tx Go.Proofs.YtloflodbcdlmpaaDoor.Nsa Go.Proofs.YtloflodbcdlmpaaDoor.Bk Go.Proofs.YtloflodbcdlmpaaDoor.Rdd Go.Proofs.YtloflodbcdlmpaaDoorW.PrintWords Go.Proofs.YtloflodbcdlmpaaDoorW.PrintLast Go.Proofs.YtloflodbcdlmpaaDoorW.PrintMore
open Go.Proofs.YtloflodbcdlmpaaDoor.Fo hiding val
set_option linter.unusedSimpArgs false
set_option linter.unusedVariables false
abbrev SO := S60
section
variable {own : ByteArray → Bool} {f : List SO} {l : List Int}
theorem nst_mk {d i : Nat} {st : List Nest.Rm} {up : Nest.Rm} {r : List Nest.Rm} (hd : drp i st = up :: r) (ho : own (Bk.nd f i).f0 = true) (a1 : up.2.2 ≤ (Bk.nd f i).f1) (a2 : (Bk.nd f i).f1 ≤ (Bk.nd f i).f2) (a3 : (Bk.nd f i).f2 ≤ up.2.1)
    (hn : Nest.nst own f l d (i + 1) ((rd l (i : Int), (Bk.nd f i).f2, (Bk.nd f i).f1) :: (up.1, up.2.1, (Bk.nd f i).f2) :: r) = true) : Nest.nst own f l (d + 1) i st = true := by
  unfold Nest.nst
  have h : st.dropWhile (fun r => decide (r.1 ≤ (i : Int))) = up :: r := hd
  rw [h]
  dsimp only
  have ho2 : own (rd_T60 f (i : Int)).f0 = true := ho
  have a1' : up.2.2 ≤ (rd_T60 f (i : Int)).f1 := a1
  have a2' : (rd_T60 f (i : Int)).f1 ≤ (rd_T60 f (i : Int)).f2 := a2
  have a3' : (rd_T60 f (i : Int)).f2 ≤ up.2.1 := a3
  rw [if_neg (by rw [ho2]; decide), if_neg (by omega), if_neg (by omega), if_neg (by omega)]
  exact hn
theorem nst_hi (e : Int) : ∀ d i (st : List Nest.Rm), Nest.nst own f l d i st = true → (∀ y ∈ st, y.2.1 ≤ e) → ∀ k, i ≤ k → k < i + d → (Bk.nd f k).f2 ≤ e
  | 0, i, st, _, _, k, h1, h2 => by omega
  | d + 1, i, st, h, hy, k, h1, h2 => by
    obtain ⟨up, r, hd, a1, a2, a3, hn⟩ := nst_step h
    have hu := hy up (drp_sub up (by rw [hd]; exact List.mem_cons_self ..))
    have a3' : (Bk.nd f i).f2 ≤ up.2.1 := a3
    rcases Nat.lt_or_ge i k with hk | hk
    · refine nst_hi e d (i + 1) _ hn (fun y hm => ?_) k hk (by omega)
      rcases List.mem_cons.1 hm with rfl | hm
      · show (Bk.nd f i).f2 ≤ e; omega
      · rcases List.mem_cons.1 hm with rfl | hm
        · exact hu
        · exact hy y (drp_sub y (by rw [hd]; exact List.mem_cons_of_mem _ hm))
    · obtain rfl : k = i := by omega
      omega
theorem nst_size (n : Nat) (s e : Int) : ∀ d i (U : List Nest.Rm) (lo : Int), i + d ≤ n → Nest.nst own f l d i (U ++ [((n : Int), s, lo)]) = true → (∀ k, i ≤ k → k < i + d → (Bk.nd f k).f2 ≤ e) → Nest.nst own f l d i (U ++ [((n : Int), e, lo)]) = true
  | 0, i, U, lo, _, _, _ => by unfold Nest.nst; rfl
  | d + 1, i, U, lo, hn, h, hk => by
    have ho := nst_own (d + 1) i _ h i (Nat.le_refl _) (by omega)
    obtain ⟨up, r, hd, a1, a2, a3, h2⟩ := nst_step h
    rw [drp_app (R := ((n : Int), s, lo)) (D := []) rfl (by omega)] at hd
    have hi := hk i (Nat.le_refl _) (by omega)
    cases hd2 : drp i U with
    | nil =>
      rw [hd2, List.nil_append] at hd
      injection hd with e1 e2
      subst e1 e2
      refine nst_mk (up := ((n : Int), e, lo)) (r := []) (by rw [drp_app (R := ((n : Int), e, lo)) (D := []) rfl (by omega), hd2]; rfl) ho a1 a2 hi ?_
      exact nst_size n s e d (i + 1) [(rd l (i : Int), (Bk.nd f i).f2, (Bk.nd f i).f1)] (Bk.nd f i).f2 (by omega) h2 (fun k h1 h2 => hk k (by omega) (by omega))
    | cons u U2 =>
      rw [hd2, List.cons_append] at hd
      injection hd with e1 e2
      subst e1 e2
      refine nst_mk (up := u) (r := U2 ++ [((n : Int), e, lo)]) (by rw [drp_app (R := ((n : Int), e, lo)) (D := []) rfl (by omega), hd2]; rfl) ho a1 a2 a3 ?_
      exact nst_size n s e d (i + 1) ((rd l (i : Int), (Bk.nd f i).f2, (Bk.nd f i).f1) :: (u.1, u.2.1, (Bk.nd f i).f2) :: U2) lo (by omega) h2 (fun k h1 h2 => hk k (by omega) (by omega))
end
theorem nd_all (f : List SO) (e : Int) : (∀ k, 0 ≤ k → k < 0 + f.length → (Bk.nd f k).f2 ≤ e) ↔ ∀ c ∈ f, c.f2 ≤ e := by
  constructor
  · intro h c hc
    obtain ⟨i, hi, rfl⟩ := List.mem_iff_getElem.1 hc
    have := h i (Nat.zero_le _) (by omega)
    rw [rd_at f i hi] at this
    exact this
  · intro h k _ hk
    rw [rd_at f k (by omega)]
    exact h _ (List.getElem_mem _)
theorem chk_at (f : List SO) (e : Int) : chkAns f e = 0 ↔ chkAns f 65536 = 0 ∧ 0 ≤ e ∧ e ≤ 65536 ∧ ∀ c ∈ f, c.f2 ≤ e := by
  constructor
  · intro h
    unfold chkAns at h
    split at h
    · cases h
    · split at h
      · cases h
      · split at h
        · rename_i h1 h2 h3
          unfold rightB at h3
          rw [Bool.and_eq_true] at h3
          have hhi := nst_hi e f.length 0 _ h3.2 (fun y hy => by rw [List.mem_singleton.1 hy]; exact Int.le_refl _)
          have h65 := nst_size f.length e 65536 f.length 0 [] 0 (by omega) h3.2 (fun k g1 g2 => by have := hhi k g1 g2; omega)
          refine ⟨?_, by omega, by omega, (nd_all f e).1 hhi⟩
          unfold chkAns
          rw [if_neg (by omega), if_neg (by omega), if_pos]
          unfold rightB
          rw [Bool.and_eq_true]
          exact ⟨h3.1, h65⟩
        · cases h
  · rintro ⟨h, h0, h1, hc⟩
    have hm := Fi.chk_mach f h
    have hn := chk_nst f h
    have h65 := nst_size f.length 65536 e f.length 0 [] 0 (by omega) hn ((nd_all f e).2 hc)
    unfold chkAns
    rw [if_neg (by omega), if_neg (by omega), if_pos]
    unfold rightB
    rw [Bool.and_eq_true]
    exact ⟨hm.2, h65⟩
/- The lines that a forest's nodes have been read from. -/
def Lns (t : ByteArray) : Nat → Nat → Prop
  | 0, _ => True
  | n + 1, at_ => lfAt t at_ < t.size ∧ Lns t n (lfAt t at_ + 1)
theorem go_lns (t : ByteArray) (F : List SO) (a c : Int) : ∀ (k at_ : Nat) (G : List SO) (way : List Int), parseGo t k at_ G way = (F, a, c) → F = [] ∨ ∃ n, F.length = G.length + n ∧ Lns t n at_
  | 0, at_, G, way, h => by
    unfold parseGo at h
    injection h with h1 _
    exact .inr ⟨0, by rw [h1]; rfl, trivial⟩
  | k + 1, at_, G, way, h => by
    by_cases hlt : at_ < t.size
    · cases hs : stepAns t at_ G way with
      | none =>
        rw [parseGo_none hlt hs] at h
        injection h with h1 _
        exact .inl h1.symm
      | some r =>
        rw [parseGo_some hlt hs] at h
        unfold stepAns at hs
        split at hs
        · rename_i hok
          obtain ⟨f1, w1⟩ := r
          obtain ⟨_, _, _, _, _, rfl, rfl⟩ := putAns_some hs
          rcases go_lns t F a c k _ _ _ h with h1 | ⟨n, h1, h2⟩
          · exact .inl h1
          · refine .inr ⟨n + 1, ?_, hok.1, h2⟩
            rw [h1, List.length_append, kidOf_length, List.length_singleton]
            omega
        · cases hs
    · rw [parseGo_end hlt] at h
      injection h with h1 _
      exact .inr ⟨0, by rw [h1]; rfl, trivial⟩
theorem lns_parse (t : ByteArray) : Lns t (parseAns t).1.length 0 := by
  obtain ⟨⟨F, a, c⟩, hA⟩ : ∃ x, parseAns t = x := ⟨_, rfl⟩
  rw [hA]
  unfold parseAns at hA
  split at hA
  · injection hA with h1 _
    subst h1
    trivial
  · rcases go_lns t F a c _ _ _ _ hA with h1 | ⟨n, h1, h2⟩
    · rw [h1]; trivial
    · rw [show F.length = n by simpa using h1]
      exact h2
theorem byd_all (t : ByteArray) (z : Int) : ∀ (f : List SO) (at_ : Nat), (∀ c ∈ f, c.f2 ≤ z) → byd t z f at_ = -1
  | [], _, _ => rfl
  | c :: f, at_, h => by
    have := h c (List.mem_cons_self ..)
    unfold byd
    rw [if_neg (by omega)]
    exact byd_all t z f _ (fun x hx => h x (List.mem_cons_of_mem _ hx))
theorem byd_ex (t : ByteArray) (z : Int) : ∀ (f : List SO) (at_ : Nat), ¬ 0 ≤ byd t z f at_ → ∀ c ∈ f, c.f2 ≤ z
  | [], _, _, c, hc => by cases hc
  | c :: f, at_, h, x, hx => by
    unfold byd at h
    split at h
    · omega
    · rcases List.mem_cons.1 hx with rfl | hx
      · omega
      · exact byd_ex t z f _ h x hx
theorem byd_range (t : ByteArray) (z : Int) : ∀ (f : List SO) (at_ : Nat), Lns t f.length at_ → at_ ≤ t.size → byd t z f at_ = -1 ∨ ∃ m : Nat, byd t z f at_ = (m : Int) ∧ m ≤ t.size
  | [], _, _, _ => .inl rfl
  | c :: f, at_, h, hle => by
    unfold byd
    split
    · exact .inr ⟨at_, rfl, hle⟩
    · exact byd_range t z f _ h.2 h.1
/- Words. -/
theorem two_iff (t : ByteArray) (a b : List UInt8) : (wordsOf t).map (·.data.toList) = [a, b] ↔ t.data.toList = a ++ 32 :: b ∧ 32 ∉ a ∧ 32 ∉ b := by
  rw [wordsOf_list t.size t (Nat.le_refl _)]
  constructor
  · intro h
    rcases first_cut t.data.toList with h1 | ⟨w1, r1, hl1, h1⟩
    · rw [wds_no _ h1] at h
      simp at h
    rw [hl1, wds_cut w1 r1 h1] at h
    injection h with e1 h
    subst e1
    rcases first_cut r1 with h2 | ⟨w2, r2, hl2, h2⟩
    · rw [wds_no _ h2] at h
      injection h with e2 _
      subst e2
      exact ⟨hl1, h1, h2⟩
    · rw [hl2, wds_cut w2 r2 h2] at h
      injection h with e2 h
      exact absurd h (wds_ne r2)
  · rintro ⟨h, h1, h2⟩
    rw [h, wds_cut a _ h1, wds_no b h2]
theorem good_of (s : ByteArray) (h : (numAns s).2 = true) : 0 ≤ (numAns s).1 ∧ (numAns s).1 ≤ 65536 ∧ Lib.itoa (numAns s).1 = s.data.toList ∧ 32 ∉ s.data.toList := by
  obtain ⟨h1, h2⟩ := numAns_good s
  obtain ⟨g1, g2, g3, g4⟩ := h1.1 h
  rw [h2 h]
  refine ⟨by omega, by omega, ?_, dig_no _ g2⟩
  rw [itoa_nat]
  exact dd_good _ _ (Nat.le_refl _) g1 g2 g4
theorem itoa_dig (e : Int) (h0 : 0 ≤ e) (h1 : e ≤ 65536) : ∀ b ∈ Lib.itoa e, isDig b = true := (good_itoa e h0 h1).1.2.1
theorem empty_of {l : ByteArray} (h : l.size = 0) : l = ⟨#[]⟩ := by
  apply ByteArray.ext
  apply Array.eq_empty_of_size_eq_zero
  exact h
/-- What a first line that is one says, and how it is written. -/
theorem first_form (s : ByteArray) (k e : Int) (l : ByteArray) (h : firstAns s = some (k, e, l)) :
    s.data.toList ++ [10] = headL k e l.data.toList ∧ ((k = 0 ∧ e = 0 ∧ l = ⟨#[]⟩) ∨ (k = 1 ∧ 0 ≤ e ∧ e ≤ 65536 ∧ l = ⟨#[]⟩) ∨ (k = 2 ∧ 0 ≤ e ∧ e ≤ 65536 ∧ Own.nameOk l = true)) := by
  unfold firstAns at h
  split at h
  · rename_i hf
    cases h
    exact ⟨by rw [hf]; rfl, .inl ⟨rfl, rfl, rfl⟩⟩
  · split at h
    · rename_i a b hw
      split at h
      · rename_i hc
        cases h
        obtain ⟨g1, g2, g3, g4⟩ := good_of b hc.2
        have hm : (wordsOf s).map (·.data.toList) = [a.data.toList, b.data.toList] := by rw [hw]; rfl
        obtain ⟨e1, _, _⟩ := (two_iff s _ _).1 hm
        refine ⟨?_, .inr (.inl ⟨rfl, g1, g2, rfl⟩)⟩
        unfold headL
        rw [if_pos rfl, e1, hc.1, g3]
        simp
      · cases h
    · rename_i a b c hw
      split at h
      · rename_i hc
        cases h
        obtain ⟨g1, g2, g3, g4⟩ := good_of c hc.2.2
        have hm : (wordsOf s).map (·.data.toList) = [a.data.toList, l.data.toList, c.data.toList] := by rw [hw]; rfl
        obtain ⟨e1, _, _, _⟩ := (three_iff s _ _ _).1 hm
        refine ⟨?_, .inr (.inr ⟨rfl, g1, g2, hc.2.1⟩)⟩
        unfold headL
        rw [if_neg (by decide), if_pos rfl, e1, hc.1, g3]
        simp
      · cases h
    · cases h
end Go.Proofs.YtloflodbcdlmpaaDoor.Rp
namespace Go.Proofs.YtloflodbcdlmpaaDoor.Rp
open Go.RowKit Go.Proofs.YtloflodbcdlmpaaDoor.Qall Go.Proofs.YtloflodbcdlmpaaDoor.Chk Go.Proofs.YtloflodbcdlmpaaDoor.Ln Go.Proofs.YtloflodbcdlmpaaDoor.Ps Go.Proofs.YtloflodbcdlmpaaDoor.Tx Go.Proofs.YtloflodbcdlmpaaDoor.Nsa Go.Proofs.YtloflodbcdlmpaaDoor.Bk Go.Proofs.YtloflodbcdlmpaaDoor.Rdd Go.Proofs.YtloflodbcdlmpaaDoorW.PrintWords Go.Proofs.YtloflodbcdlmpaaDoorW.PrintLast Go.Proofs.YtloflodbcdlmpaaDoorW.PrintMore
open Go.Proofs.YtloflodbcdlmpaaDoor.Fo hiding val
set_option linter.unusedSimpArgs false
set_option linter.unusedVariables false
def hl (k e : Int) (l : List UInt8) : List UInt8 :=
  if k = 1 then mtc ++ 32 :: Lib.itoa e else if k = 2 then thr ++ 32 :: (l ++ 32 :: Lib.itoa e) else fld
theorem headL_hl (k e : Int) (l : List UInt8) : headL k e l = hl k e l ++ [10] := by
  unfold headL hl
  split
  · simp
  · split
    · simp
    · rfl
theorem dig_nolf (l : List UInt8) (h : ∀ b ∈ l, isDig b = true) : 10 ∉ l := fun e => by have := h 10 e; exact absurd this (by decide)
theorem own_nolf (l : List UInt8) (h : ∀ b ∈ l, isOwn b = true) : 10 ∉ l := fun e => by have := h 10 e; exact absurd this (by decide)
/-- What a right outcome's fields are. -/
theorem rgt_cases (k e : Int) (l : ByteArray) (f : List SO) (h : rgt k e l f = true) :
    (k = 0 ∧ e = 0 ∧ l = ⟨#[]⟩ ∧ f = []) ∨ (k = 1 ∧ l = ⟨#[]⟩ ∧ chkAns f e = 0) ∨ (k = 2 ∧ Own.nameOk l = true ∧ f = [] ∧ 0 ≤ e ∧ e ≤ 65536) := by
  unfold rgt at h
  split at h
  · obtain ⟨h1, h2, h3⟩ := of_decide_eq_true h
    exact .inl ⟨by assumption, h1, empty_of h2, List.length_eq_zero_iff.1 h3⟩
  · split at h
    · obtain ⟨h1, h2⟩ := of_decide_eq_true h
      exact .inr (.inl ⟨by assumption, empty_of h1, h2⟩)
    · split at h
      · obtain ⟨h1, h2, h3, h4⟩ := of_decide_eq_true h
        exact .inr (.inr ⟨by assumption, h1, List.length_eq_zero_iff.1 h2, h3, h4⟩)
      · cases h
theorem rgt_mk (k e : Int) (l : ByteArray) (f : List SO) (h : (k = 0 ∧ e = 0 ∧ l = ⟨#[]⟩ ∧ f = []) ∨ (k = 1 ∧ l = ⟨#[]⟩ ∧ chkAns f e = 0) ∨ (k = 2 ∧ Own.nameOk l = true ∧ f = [] ∧ 0 ≤ e ∧ e ≤ 65536)) : rgt k e l f = true := by
  unfold rgt
  rcases h with ⟨rfl, rfl, rfl, rfl⟩ | ⟨rfl, rfl, h⟩ | ⟨rfl, h, rfl, h1, h2⟩
  · rfl
  · rw [if_neg (by decide), if_pos rfl]; exact decide_eq_true ⟨rfl, h⟩
  · rw [if_neg (by decide), if_neg (by decide), if_pos rfl]; exact decide_eq_true ⟨h, rfl, h1, h2⟩
theorem hl_nolf (k e : Int) (l : ByteArray) (f : List SO) (h : rgt k e l f = true) : 10 ∉ hl k e l.data.toList := by
  unfold hl
  rcases rgt_cases k e l f h with ⟨rfl, rfl, rfl, rfl⟩ | ⟨rfl, rfl, hc0⟩ | ⟨rfl, hn0, rfl, h1, h2⟩
  · rw [if_neg (by decide), if_neg (by decide)]; decide
  · obtain ⟨_, g1, g2, _⟩ := (chk_at f e).1 hc0
    have hd := dig_nolf _ (itoa_dig e g1 g2)
    rw [if_pos rfl]
    intro hm
    rcases List.mem_append.1 hm with hm | hm
    · exact absurd hm (by decide)
    · rcases List.mem_cons.1 hm with hm | hm
      · exact absurd hm (by decide)
      · exact hd hm
  · have hd := dig_nolf _ (itoa_dig e h1 h2)
    have ho := own_nolf _ (nameOk_all l hn0).2
    rw [if_neg (by decide), if_pos rfl]
    intro hm
    rcases List.mem_append.1 hm with hm | hm
    · exact absurd hm (by decide)
    · rcases List.mem_cons.1 hm with hm | hm
      · exact absurd hm (by decide)
      · rcases List.mem_append.1 hm with hm | hm
        · exact ho hm
        · rcases List.mem_cons.1 hm with hm | hm
          · exact absurd hm (by decide)
          · exact hd hm
theorem ba_ext {a b : ByteArray} (h : a.data.toList = b.data.toList) : a = b := by
  apply ByteArray.ext
  apply Array.toList_inj.1
  exact h
theorem map_eq2 {ws : List ByteArray} {a b : List UInt8} (h : ws.map (·.data.toList) = [a, b]) : ∃ x y, ws = [x, y] ∧ x.data.toList = a ∧ y.data.toList = b := by
  match ws, h with
  | [x, y], h => injection h with h1 h; injection h with h2 _; exact ⟨x, y, rfl, h1, h2⟩
theorem map_eq3 {ws : List ByteArray} {a b c : List UInt8} (h : ws.map (·.data.toList) = [a, b, c]) : ∃ x y z, ws = [x, y, z] ∧ x.data.toList = a ∧ y.data.toList = b ∧ z.data.toList = c := by
  match ws, h with
  | [x, y, z], h => injection h with h1 h; injection h with h2 h; injection h with h3 _; exact ⟨x, y, z, rfl, h1, h2, h3⟩
/-- A first line that was written is read. -/
theorem first_back (s : ByteArray) (k e : Int) (l : ByteArray) (f : List SO) (h : rgt k e l f = true) (hs : s.data.toList = hl k e l.data.toList) : firstAns s = some (k, e, l) := by
  unfold firstAns
  unfold hl at hs
  rcases rgt_cases k e l f h with ⟨rfl, rfl, rfl, rfl⟩ | ⟨rfl, rfl, hc0⟩ | ⟨rfl, hn0, rfl, h1, h2⟩
  · rw [if_neg (by decide), if_neg (by decide)] at hs
    rw [if_pos hs]
  · obtain ⟨_, g1, g2, _⟩ := (chk_at f e).1 hc0
    rw [if_pos rfl] at hs
    have hm := (two_iff s mtc (Lib.itoa e)).2 ⟨hs, by decide, dig_no _ (itoa_dig e g1 g2)⟩
    obtain ⟨a, b, hw, ha, hb⟩ := map_eq2 hm
    have hn := num_itoa e g1 g2 b hb
    rw [if_neg (by rw [hs]; intro h; injection h with h _; exact absurd h (by decide)), hw]
    dsimp only
    rw [hn, if_pos ⟨ha, rfl⟩]
  · rw [if_neg (by decide), if_pos rfl] at hs
    have hm := (three_iff s thr l.data.toList (Lib.itoa e)).2 ⟨hs, by decide, own_no _ (nameOk_all l hn0).2, dig_no _ (itoa_dig e h1 h2)⟩
    obtain ⟨a, b, c, hw, ha, hb, hc⟩ := map_eq3 hm
    have hn := num_itoa e h1 h2 c hc
    have hbl := ba_ext hb
    subst hbl
    rw [if_neg (by rw [hs]; intro h; injection h with h _; exact absurd h (by decide)), hw]
    dsimp only
    rw [hn, if_pos ⟨ha, hn0, rfl⟩]
theorem tw_app (a r : List UInt8) (h : 10 ∉ a) : (a ++ 10 :: r).takeWhile (· != 10) = a :=
  Rdc.tw_stop a r (fun b hb => by have : b ≠ 10 := fun e => h (by rw [← e]; exact hb); simpa using this)
/-- Where a text's first line ends. -/
theorem cut_at (s : ByteArray) (a r : List UInt8) (h : 10 ∉ a) (hs : s.data.toList = a ++ 10 :: r) : lfAt s 0 = a.length ∧ lfAt s 0 < s.size ∧ (s.extract 0 (lfAt s 0)).data.toList = a ∧ (s.extract (lfAt s 0 + 1) s.size).data.toList = r ∧ s.size = a.length + 1 + r.length := by
  have hz : s.data.toList.length = s.size := data_length s
  have hlen : s.size = a.length + 1 + r.length := by rw [← hz, hs]; simp; omega
  have hl : lfAt s 0 = a.length := by unfold lfAt; rw [List.drop_zero, hs, tw_app a r h, Nat.zero_add]
  refine ⟨hl, by omega, ?_, ?_, hlen⟩
  · rw [hl, ext_list2, hs, List.take_left' rfl]
  · rw [hl, Lib.extract_to_end, hs, show a.length + 1 = (a ++ [10]).length by simp, show a ++ 10 :: r = (a ++ [10]) ++ r by simp, List.drop_left]
theorem txt_nil : txtAns ([] : List SO) = (⟨#[]⟩, 0) := by
  unfold txtAns
  rw [if_pos (by rfl)]
  rfl
/-- THERE AND BACK. -/
theorem back (k e : Int) (l : ByteArray) (f : List SO) (hbd : ∀ c ∈ f, c.f3 ≤ 9223372036854775807) (s : ByteArray) (h : outAns k e l f = (s, 0)) : parR s = (⟨k, e, l, f⟩, 0, 0) := by
  unfold outAns at h
  split at h
  · rename_i hr
    split at h
    · rename_i ht
      split at h
      · rename_i hz
        injection h with h _
        obtain ⟨⟨x, c⟩, hx⟩ : ∃ x, txtAns f = x := ⟨_, rfl⟩
        rw [hx] at ht h hz
        dsimp only at ht h hz
        subst ht
        have hsl : s.data.toList = hl k e l.data.toList ++ 10 :: x.data.toList := by
          rw [← h]
          simp only [ByteArray.data_append, Array.toList_append]
          show headL k e l.data.toList ++ _ = _
          rw [headL_hl]
          simp
        obtain ⟨c1, c2, c3, c4, c5⟩ := cut_at s _ _ (hl_nolf k e l f hr) hsl
        have hf := first_back _ k e l f hr c3
        have hrest : s.extract (lfAt s 0 + 1) s.size = x := ba_ext c4
        rw [h] at hz
        unfold parR
        rw [if_neg (by omega), if_pos c2, hf]
        dsimp only
        rw [hrest]
        rcases rgt_cases k e l f hr with ⟨rfl, rfl, rfl, rfl⟩ | ⟨rfl, rfl, hc⟩ | ⟨rfl, hc, rfl, g1, g2⟩
        · rw [txt_nil] at hx
          injection hx with hx _
          have hx0 : x.data.toList.length = 0 := by rw [← hx]; rfl
          rw [if_neg (by decide), if_neg (by omega)]
        · obtain ⟨hpc, hpp⟩ := Bk.parse_text f hbd x hx
          obtain ⟨_, _, _, hall⟩ := (chk_at f e).1 hc
          have hg : grownAns x e = (f, 0, 0) := by
            unfold grownAns
            have hgo : goodOf x = x := by unfold goodOf; rw [hpp]; rfl
            rw [hgo, hpp]
            dsimp only
            rw [byd_all x e f 0 hall, if_neg (by decide), if_pos rfl]
          rw [if_pos rfl, hg, if_pos rfl]
        · rw [txt_nil] at hx
          injection hx with hx _
          have hx0 : x.data.toList.length = 0 := by rw [← hx]; rfl
          rw [if_neg (by decide), if_neg (by omega)]
      · injection h with _ h; exact absurd h (by decide)
    · rename_i ht
      injection h with _ h; exact absurd h ht
  · injection h with _ h; exact absurd h (by decide)
/-- A text that is read, as a line and what stands behind it. -/
theorem par_form (t : ByteArray) (h : lfAt t 0 < t.size) : t.data.toList = (t.extract 0 (lfAt t 0)).data.toList ++ 10 :: (t.extract (lfAt t 0 + 1) t.size).data.toList := by
  have hz : t.data.toList.length = t.size := data_length t
  have hs := Rdb.tw_split t.data.toList (by unfold lfAt at h; rw [List.drop_zero] at h; omega)
  have hl : lfAt t 0 = (t.data.toList.takeWhile (· != 10)).length := by unfold lfAt; rw [List.drop_zero, Nat.zero_add]
  rw [ext_list2, Lib.extract_to_end, hl]
  have h2 : t.data.toList.take (t.data.toList.takeWhile (· != 10)).length = t.data.toList.takeWhile (· != 10) := by
    conv => lhs; arg 2; rw [hs]
    rw [List.take_left' rfl]
  rw [h2]
  exact hs
/-- What is read of a text: its outcome, or a fault. -/
theorem par_cases (t : ByteArray) : (∃ k e l f, parR t = (⟨k, e, l, f⟩, 0, 0) ∧ outAns k e l f = (t, 0) ∧ t.size ≤ 4194304 ∧ l.size ≤ 64 ∧ 0 ≤ e ∧ e ≤ 65536 ∧ f.length ≤ 1048576 ∧ (∀ x ∈ f, x.f0.size ≤ 4194304) ∧ (∀ x ∈ f, 0 ≤ x.f1 ∧ x.f1 ≤ 65536) ∧ (∀ x ∈ f, 0 ≤ x.f2 ∧ x.f2 ≤ 65536)) ∨
    ∃ (a : Nat) (c : Int), parR t = (Out.zero, (a : Int), c) ∧ c ≠ 0 ∧ a ≤ t.size ∧ a ≤ 4194304 := by
  unfold parR
  by_cases hz : 4194304 < t.size
  · rw [if_pos hz]
    exact .inr ⟨0, 1, rfl, by decide, Nat.zero_le _, Nat.zero_le _⟩
  rw [if_neg hz]
  by_cases hl : lfAt t 0 < t.size
  · rw [if_pos hl]
    cases hf : firstAns (t.extract 0 (lfAt t 0)) with
    | none => exact .inr ⟨0, 280, rfl, by decide, Nat.zero_le _, Nat.zero_le _⟩
    | some r =>
      obtain ⟨k, e, l⟩ := r
      dsimp only
      obtain ⟨f1, f2⟩ := first_form _ k e l hf
      have hform := par_form t hl
      have hname : ∀ l : ByteArray, Own.nameOk l = true → l.size ≤ 64 := fun l h => (of_decide_eq_true h).2.1
      obtain ⟨x, hx⟩ : ∃ x, t.extract (lfAt t 0 + 1) t.size = x := ⟨_, rfl⟩
      rw [hx] at hform ⊢
      have hxs : x.size = t.size - (lfAt t 0 + 1) := by rw [← hx, ByteArray.size_extract]; omega
      have htl : t.data.toList = headL k e l.data.toList ++ x.data.toList := by rw [hform, ← f1]; simp
      have htb : headB k e l ++ x = t := ba_ext (by rw [htl]; simp only [ByteArray.data_append, Array.toList_append]; rfl)
      by_cases hk : k = 1
      · rw [if_pos hk]
        obtain ⟨⟨F, a, c⟩, hp⟩ : ∃ y, parseAns x = y := ⟨_, rfl⟩
        have hrf := read_fault x F a c hp
        by_cases hg : (grownAns x e).2.2 = 0
        · rw [if_pos hg]
          left
          unfold grownAns at hg ⊢
          by_cases hb : 0 ≤ byd (goodOf x) e (parseAns (goodOf x)).1 0
          · rw [if_pos hb] at hg; exact absurd (show (120 : Int) = 0 from hg) (by decide)
          · rw [if_neg hb] at hg ⊢
            by_cases hc : (parseAns x).2.2 = 0
            · rw [if_pos hc]
              have hgo : goodOf x = x := by unfold goodOf; rw [if_pos hc]
              rw [hgo] at hb
              rw [hp] at hc hb
              dsimp only at hc hb
              subst hc
              obtain rfl : a = 0 := by
                rcases hrf with h | h
                · exact h.1
                · exact absurd rfl h.2.1
              rw [hp]
              obtain ⟨r1, r2⟩ := Rdc.read_right x F hp
              obtain ⟨b1, b2, b3, b4, b5⟩ := Rde.read_bounds x F hp
              have hall := byd_ex x e F 0 hb
              subst hk
              obtain ⟨_, g0, g1, rfl⟩ : True ∧ 0 ≤ e ∧ e ≤ 65536 ∧ l = ⟨#[]⟩ := by
                rcases f2 with h | h | h
                · exact absurd h.1 (by decide)
                · exact ⟨trivial, h.2.1, h.2.2.1, h.2.2.2⟩
                · exact absurd h.1 (by decide)
              refine ⟨1, e, ⟨#[]⟩, F, rfl, ?_, by omega, Nat.zero_le _, g0, g1, b2, b3, b4, b5⟩
              unfold outAns
              rw [if_pos (rgt_mk 1 e _ F (.inr (.inl ⟨rfl, rfl, (chk_at F e).2 ⟨r1, g0, g1, hall⟩⟩))), r2, if_pos rfl, htb, if_pos (by omega)]
            · rw [if_neg hc] at hg
              exact absurd hg hc
        · rw [if_neg hg]
          right
          unfold grownAns at hg ⊢
          by_cases hb : 0 ≤ byd (goodOf x) e (parseAns (goodOf x)).1 0
          · rw [if_pos hb]
            have hgs : (goodOf x).size ≤ x.size := by
              unfold goodOf
              split
              · exact Nat.le_refl _
              · rw [ByteArray.size_extract]; omega
            clear hrf
            rcases byd_range (goodOf x) e _ 0 (lns_parse _) (Nat.zero_le _) with h | ⟨m, h, hm⟩
            · omega
            · refine ⟨m + (lfAt t 0 + 1), 120, ?_, by decide, by omega, by omega⟩
              dsimp only
              rw [h]
              rfl
          · rw [if_neg hb] at hg ⊢
            by_cases hc : (parseAns x).2.2 = 0
            · rw [if_pos hc] at hg; exact absurd rfl hg
            · rw [if_neg hc]
              rw [hp] at hc ⊢
              dsimp only at hc ⊢
              rcases hrf with h | ⟨_, _, h9, m, h, hm, _, _⟩
              · exact absurd h.2 hc
              · clear h9 hg hb
                have h1 : m + (lfAt t 0 + 1) ≤ t.size := by clear h; omega
                refine ⟨m + (lfAt t 0 + 1), c, ?_, hc, h1, Nat.le_trans h1 (by omega)⟩
                rw [h]
                rfl
      · rw [if_neg hk]
        by_cases hm : lfAt t 0 + 1 < t.size
        · rw [if_pos hm]
          exact .inr ⟨lfAt t 0 + 1, 280, rfl, by decide, by omega, by omega⟩
        · rw [if_neg hm]
          have hx0 : x = ⟨#[]⟩ := empty_of (by omega)
          subst hx0
          have hr : rgt k e l [] = true := by
            rcases f2 with ⟨rfl, rfl, rfl⟩ | h | ⟨rfl, g0, g1, h⟩
            · exact rgt_mk _ _ _ _ (.inl ⟨rfl, rfl, rfl, rfl⟩)
            · exact absurd h.1 hk
            · exact rgt_mk _ _ _ _ (.inr (.inr ⟨rfl, h, rfl, g0, g1⟩))
          refine .inl ⟨k, e, l, [], rfl, ?_, by omega, ?_, ?_, ?_, Nat.zero_le _, fun x hx => (by cases hx), fun x hx => (by cases hx), fun x hx => (by cases hx)⟩
          · unfold outAns
            rw [if_pos hr, txt_nil, if_pos rfl, htb, if_pos (by omega)]
          · rcases f2 with ⟨_, _, rfl⟩ | ⟨_, _, _, rfl⟩ | ⟨_, _, _, h⟩
            · exact Nat.zero_le _
            · exact Nat.zero_le _
            · exact hname l h
          · rcases f2 with ⟨_, h, _⟩ | ⟨_, h, _⟩ | ⟨_, h, _⟩ <;> omega
          · rcases f2 with ⟨_, h, _⟩ | ⟨_, _, h, _⟩ | ⟨_, _, h, _⟩ <;> omega
  · rw [if_neg hl]
    exact .inr ⟨0, 280, rfl, by decide, Nat.zero_le _, Nat.zero_le _⟩
end Go.Proofs.YtloflodbcdlmpaaDoor.Rp
