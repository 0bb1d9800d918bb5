/- What the printed functions of report tell, and that the chapter's examples come out right (for ReportLeads alone). -/
import Derived.Test.YtloflodbcdlmpaaDoorRep2
import Derived.Test.YtloflodbcdlmpaaDoorBallx2
import Derived.Test.YtloflodbcdlmpaaDoorBallx3
import Derived.Lib.ItoaLen
namespace Go.Proofs.YtloflodbcdlmpaaDoor.Rp
open Go.RowKit Go.Proofs.YtloflodbcdlmpaaDoor.Qall Go.Proofs.YtloflodbcdlmpaaDoor.Chk Go.Proofs.YtloflodbcdlmpaaDoor.Ln Go.Proofs.YtloflodbcdlmpaaDoor.Ps Go.Proofs.YtloflodbcdlmpaaDoor.Tx Go.Proofs.YtloflodbcdlmpaaDoor.Bk Go.Proofs.YtloflodbcdlmpaaDoorW.PrintWords Go.Proofs.YtloflodbcdlmpaaDoorW.PrintLast Go.Proofs.YtloflodbcdlmpaaDoorW.PrintMore
open Go.Proofs.YtloflodbcdlmpaaDoor.Fo hiding val
set_option linter.unusedSimpArgs false
set_option linter.unusedVariables false
abbrev SO := S60
theorem ext_list (t : ByteArray) (a b : Nat) : (t.extract a b).data.toList = (t.data.toList.drop a).take (b - a) := by
  simp [ByteArray.data_extract, Array.toList_extract, List.extract]
theorem ext_list2 (t : ByteArray) (k : Nat) : (t.extract 0 k).data.toList = t.data.toList.take k := by rw [ext_list, List.drop_zero, Nat.sub_zero]
theorem rd_at (f : List SO) (x : Nat) (h : x < f.length) : rd_T60 f (x : Int) = f[x] := by
  unfold rd_T60
  rw [Int.toNat_natCast, List.getD_eq_getElem?_getD, List.getElem?_eq_getElem h]
  rfl
theorem tw_at : ∀ l : List UInt8, (l.takeWhile (· != 10)).length < l.length → l[(l.takeWhile (· != 10)).length]? = some 10
  | [], h => by simp at h
  | b :: l, h => by
    by_cases hb : b = 10
    · subst hb
      rw [List.takeWhile_cons_of_neg (by decide)]
      rfl
    · rw [List.takeWhile_cons_of_pos (by simpa using hb)] at h ⊢
      rw [List.length_cons, List.getElem?_cons_succ]
      exact tw_at l (by simpa using h)
/-- It lies behind an LF, or at the text's begin. -/
def Beg (t : ByteArray) (m : Nat) : Prop := m = 0 ∨ t.data.toList[m - 1]? = some 10
theorem beg_next (t : ByteArray) (at_ : Nat) (h : lfAt t at_ < t.size) (hle : at_ ≤ t.size) : Beg t (lfAt t at_ + 1) := by
  right
  have hs := drop_len t at_
  have h2 := tw_at (t.data.toList.drop at_) (by unfold lfAt at h; omega)
  rw [List.getElem?_drop] at h2
  exact h2
theorem go_fault (t : ByteArray) (F : List S60) (a c : Int) : ∀ (k at_ : Nat) (G : List S60) (way : List Int), parseGo t k at_ G way = (F, a, c) → t.size < k + at_ → at_ ≤ t.size → Beg t at_ →
    (a = 0 ∧ c = 0) ∨ (F = [] ∧ c = 120 ∧ ∃ m : Nat, a = (m : Int) ∧ m ≤ t.size ∧ Beg t m)
  | 0, at_, G, way, h, hk, hle, hb => by omega
  | k + 1, at_, G, way, h, hk, hle, hb => by
    by_cases hlt : at_ < t.size
    · cases hs : stepAns t at_ G way with
      | none =>
        rw [parseGo_none hlt hs] at h
        injection h with h1 h
        injection h with h2 h3
        exact .inr ⟨h1.symm, h3.symm, at_, h2.symm, hle, hb⟩
      | some r =>
        rw [parseGo_some hlt hs] at h
        unfold stepAns at hs
        split at hs
        · rename_i hok
          have hll := lf_le t at_ hle
          have hlf := hok.1
          exact go_fault t F a c k (lfAt t at_ + 1) r.1 r.2 h (by omega) (by omega) (beg_next t at_ hlf hle)
        · cases hs
    · rw [parseGo_end hlt] at h
      injection h with h1 h
      injection h with h2 h3
      exact .inl ⟨h2.symm, h3.symm⟩
/-- OF A TEXT THAT IS NOT READ. -/
theorem read_fault (t : ByteArray) (F : List S60) (a c : Int) (h : parseAns t = (F, a, c)) :
    (a = 0 ∧ c = 0) ∨ (F = [] ∧ c ≠ 0 ∧ (c = 1 ↔ 4194304 < t.size) ∧ ∃ m : Nat, a = (m : Int) ∧ m ≤ t.size ∧ Beg t m ∧ m ≤ 4194304) := by
  unfold parseAns at h
  split at h
  · injection h with h1 h
    injection h with h2 h3
    subst h1 h2 h3
    exact .inr ⟨rfl, by decide, ⟨fun _ => by assumption, fun _ => rfl⟩, 0, rfl, Nat.zero_le _, .inl rfl, Nat.zero_le _⟩
  · rename_i hsz
    rcases go_fault t F a c _ 0 [] [] h (by omega) (by omega) (.inl rfl) with h1 | ⟨h1, h2, h3⟩
    · exact .inl h1
    · subst h2
      obtain ⟨m, g1, g2, g3⟩ := h3
      exact .inr ⟨h1, by decide, ⟨fun e => absurd e (by decide), fun e => absurd e hsz⟩, m, g1, g2, g3, by omega⟩
theorem go_len (t : ByteArray) (F : List SO) (a c : Int) : ∀ (k at_ : Nat) (G : List SO) (way : List Int), parseGo t k at_ G way = (F, a, c) → Inv G way → F.length ≤ 1048576
  | 0, at_, G, way, h, hi => by
    unfold parseGo at h
    injection h with h1 _
    rw [← h1]; exact hi.cap
  | k + 1, at_, G, way, h, hi => by
    by_cases hlt : at_ < t.size
    · cases hs : stepAns t at_ G way with
      | none =>
        rw [parseGo_none hlt hs] at h
        injection h with h1 _
        rw [← h1]; exact Nat.zero_le _
      | some r =>
        rw [parseGo_some hlt hs] at h
        unfold stepAns at hs
        split at hs
        · obtain ⟨f1, w1⟩ := r
          exact go_len t F a c k _ _ _ h (hi.put hs)
        · cases hs
    · rw [parseGo_end hlt] at h
      injection h with h1 _
      rw [← h1]; exact hi.cap
theorem parse_len (t : ByteArray) : (parseAns t).1.length ≤ 1048576 := by
  obtain ⟨⟨F, a, c⟩, hA⟩ : ∃ x, parseAns t = x := ⟨_, rfl⟩
  rw [hA]
  unfold parseAns at hA
  split at hA
  · injection hA with h1 _
    rw [← h1]; exact Nat.zero_le _
  · exact go_len t F a c _ _ _ _ hA Inv.nil
theorem chk_rng (f : List SO) (e : Int) (h : chkAns f e = 0) : 0 ≤ e ∧ e ≤ 65536 := by
  unfold chkAns at h
  split at h
  · cases h
  · omega
/- The lines that a forest's nodes have been read from. -/
def Lns (t : ByteArray) : Nat → Nat → Prop
  | 0, _ => True
  | n + 1, at_ => lfAt t at_ < t.size ∧ Lns t n (lfAt t at_ + 1)
theorem go_lns (t : ByteArray) (F : List SO) (a c : Int) : ∀ (k at_ : Nat) (G : List SO) (way : List Int), parseGo t k at_ G way = (F, a, c) → F = [] ∨ ∃ n, F.length = G.length + n ∧ Lns t n at_
  | 0, at_, G, way, h => by
    unfold parseGo at h
    injection h with h1 _
    exact .inr ⟨0, by rw [h1]; rfl, trivial⟩
  | k + 1, at_, G, way, h => by
    by_cases hlt : at_ < t.size
    · cases hs : stepAns t at_ G way with
      | none =>
        rw [parseGo_none hlt hs] at h
        injection h with h1 _
        exact .inl h1.symm
      | some r =>
        rw [parseGo_some hlt hs] at h
        unfold stepAns at hs
        split at hs
        · rename_i hok
          obtain ⟨f1, w1⟩ := r
          obtain ⟨_, _, _, _, _, rfl, rfl⟩ := putAns_some hs
          rcases go_lns t F a c k _ _ _ h with h1 | ⟨n, h1, h2⟩
          · exact .inl h1
          · refine .inr ⟨n + 1, ?_, hok.1, h2⟩
            rw [h1, List.length_append, kidOf_length, List.length_singleton]
            omega
        · cases hs
    · rw [parseGo_end hlt] at h
      injection h with h1 _
      exact .inr ⟨0, by rw [h1]; rfl, trivial⟩
theorem lns_parse (t : ByteArray) : Lns t (parseAns t).1.length 0 := by
  obtain ⟨⟨F, a, c⟩, hA⟩ : ∃ x, parseAns t = x := ⟨_, rfl⟩
  rw [hA]
  unfold parseAns at hA
  split at hA
  · injection hA with h1 _
    subst h1
    trivial
  · rcases go_lns t F a c _ _ _ _ hA with h1 | ⟨n, h1, h2⟩
    · rw [h1]; trivial
    · rw [show F.length = n by simpa using h1]
      exact h2
theorem byd_range (t : ByteArray) (z : Int) : ∀ (f : List SO) (at_ : Nat), Lns t f.length at_ → at_ ≤ t.size → byd t z f at_ = -1 ∨ ∃ m : Nat, byd t z f at_ = (m : Int) ∧ m ≤ t.size
  | [], _, _, _ => .inl rfl
  | c :: f, at_, h, hle => by
    unfold byd
    split
    · exact .inr ⟨at_, rfl, hle⟩
    · exact byd_range t z f _ h.2 h.1
theorem empty_of {l : ByteArray} (h : l.size = 0) : l = ⟨#[]⟩ := by
  apply ByteArray.ext
  apply Array.eq_empty_of_size_eq_zero
  exact h
/-- What a right outcome's fields are. -/
theorem rgt_cases (k e : Int) (l : ByteArray) (f : List SO) (h : rgt k e l f = true) :
    (k = 0 ∧ e = 0 ∧ l = ⟨#[]⟩ ∧ f = []) ∨ (k = 1 ∧ l = ⟨#[]⟩ ∧ chkAns f e = 0) ∨ (k = 2 ∧ Own.nameOk l = true ∧ f = [] ∧ 0 ≤ e ∧ e ≤ 65536) := by
  unfold rgt at h
  split at h
  · obtain ⟨h1, h2, h3⟩ := of_decide_eq_true h
    exact .inl ⟨by assumption, h1, empty_of h2, List.length_eq_zero_iff.1 h3⟩
  · split at h
    · obtain ⟨h1, h2⟩ := of_decide_eq_true h
      exact .inr (.inl ⟨by assumption, empty_of h1, h2⟩)
    · split at h
      · obtain ⟨h1, h2, h3, h4⟩ := of_decide_eq_true h
        exact .inr (.inr ⟨by assumption, h1, List.length_eq_zero_iff.1 h2, h3, h4⟩)
      · cases h
theorem ba_ext {a b : ByteArray} (h : a.data.toList = b.data.toList) : a = b := by
  apply ByteArray.ext
  apply Array.toList_inj.1
  exact h
theorem tl_nil (s : ByteArray) : s.toList = ([] : List UInt8) ↔ s.size = 0 := Own.size_list s
theorem right_ev (k e : Int) (l : ByteArray) (f : List SO) (hl : l.size ≤ 4194304) (hf : few f = true) : report_right.f k e l f = some (rgt k e l f) := by
  unfold report_right.f rgt
  by_cases h0 : k = 0
  · rw [if_pos h0, if_pos h0]
    by_cases h1 : e = 0
    · rw [if_pos h1]
      by_cases h2 : l.size = 0
      · rw [if_pos ((tl_nil l).2 h2)]
        congr 1
        rw [Bool.eq_iff_iff, beq_iff_eq, decide_eq_true_eq]
        exact ⟨fun h => ⟨h1, h2, by omega⟩, fun h => by omega⟩
      · rw [if_neg (fun h => h2 ((tl_nil l).1 h)), decide_eq_false (fun h => h2 h.2.1)]
    · rw [if_neg h1, decide_eq_false (fun h => h1 h.1)]
  rw [if_neg h0, if_neg h0]
  by_cases h1 : k = 1
  · rw [if_pos h1, if_pos h1]
    by_cases h2 : l.size = 0
    · rw [if_pos ((tl_nil l).2 h2)]
      unfold forest_Check.f
      rw [if_pos hf, Option.bind_some]
      congr 1
      rw [Bool.eq_iff_iff, beq_iff_eq, decide_eq_true_eq]
      exact ⟨fun h => ⟨h2, h⟩, fun h => h.2⟩
    · rw [if_neg (fun h => h2 ((tl_nil l).1 h)), decide_eq_false (fun h => h2 h.1)]
  rw [if_neg h1, if_neg h1]
  by_cases h2 : k = 2
  · rw [if_pos h2, if_pos h2]
    unfold report_own.f
    rw [if_pos hl, Option.bind_some]
    by_cases h3 : Own.nameOk l = true
    · rw [if_pos h3]
      by_cases h4 : f.length = 0
      · rw [if_pos (by omega)]
        by_cases h5 : 0 ≤ e
        · rw [if_pos (by omega)]
          congr 1
          rw [Bool.eq_iff_iff, decide_eq_true_eq, decide_eq_true_eq]
          exact ⟨fun h => ⟨h3, h4, h5, h⟩, fun h => h.2.2.2⟩
        · rw [if_neg (by omega), decide_eq_false (fun h => h5 h.2.2.1)]
      · rw [if_neg (by omega), decide_eq_false (fun h => h4 h.2.1)]
    · rw [if_neg h3, decide_eq_false (fun h => h3 h.1)]
  · rw [if_neg h2, if_neg h2]
theorem itoa_f (e : Int) (h0 : 0 ≤ e) (h1 : e ≤ 65536) : strconv_Itoa.f e = some ⟨(Lib.itoa e).toArray⟩ := by
  unfold strconv_Itoa.f
  rw [if_pos (by omega)]
theorem size_mk (l : List UInt8) : (⟨l.toArray⟩ : ByteArray).size = l.length := by
  show l.toArray.size = _
  simp
theorem itoa_le (e : Int) (h0 : 0 ≤ e) (h1 : e ≤ 65536) : (Lib.itoa e).length ≤ 21 := Lib.itoa_length_le e (by omega) (by omega)
theorem head_ev (k e : Int) (l : ByteArray) (f : List SO) (hl : l.size ≤ 4194304) (hr : rgt k e l f = true) : report_head.f k e l f = some (headB k e l) := by
  unfold report_head.f headB headL
  rcases rgt_cases k e l f hr with ⟨rfl, rfl, rfl, rfl⟩ | ⟨rfl, rfl, hc⟩ | ⟨rfl, hn, rfl, h1, h2⟩
  · rfl
  · obtain ⟨g1, g2⟩ := chk_rng f e hc
    have hle := itoa_le e g1 g2
    have hs := size_mk (Lib.itoa e)
    rw [if_pos rfl, itoa_f e g1 g2, Option.bind_some, if_pos (by omega), if_pos (by rw [ByteArray.size_append]; show 8 + (⟨(Lib.itoa e).toArray⟩ : ByteArray).size + 1 ≤ _; omega)]
    congr 1
  · have hle := itoa_le e h1 h2
    have hs := size_mk (Lib.itoa e)
    rw [if_neg (by decide), if_pos rfl, if_pos (by omega), if_pos (by rw [ByteArray.size_append]; show 7 + _ + 1 ≤ _; omega), itoa_f e h1 h2, Option.bind_some,
      if_pos (by rw [ByteArray.size_append, ByteArray.size_append]; show 7 + l.size + 1 + (⟨(Lib.itoa e).toArray⟩ : ByteArray).size ≤ _; omega), if_pos (by rw [ByteArray.size_append, ByteArray.size_append, ByteArray.size_append]; show 7 + l.size + 1 + (⟨(Lib.itoa e).toArray⟩ : ByteArray).size + 1 ≤ _; omega)]
    congr 1
    apply ba_ext
    simp only [ByteArray.data_append, Array.toList_append]
    simp [thr]
theorem txt_size (f : List SO) : (txtAns f).1.size ≤ 4194304 := by
  unfold txtAns
  split
  · split
    · rename_i h; rw [size_mk]; exact h
    · exact Nat.zero_le _
  · exact Nat.zero_le _
theorem head_size (k e : Int) (l : ByteArray) (f : List SO) (hl : l.size ≤ 4194304) (hr : rgt k e l f = true) : (headB k e l).size ≤ 4194400 := by
  unfold headB headL
  rw [size_mk]
  rcases rgt_cases k e l f hr with ⟨rfl, rfl, rfl, rfl⟩ | ⟨rfl, rfl, hc⟩ | ⟨rfl, hn, rfl, h1, h2⟩
  · decide
  · obtain ⟨g1, g2⟩ := chk_rng f e hc
    have hle := itoa_le e g1 g2
    rw [if_pos rfl]
    simp [mtc]
    omega
  · have hle := itoa_le e h1 h2
    have hll : l.data.toList.length = l.size := data_length l
    rw [if_neg (by decide), if_pos rfl]
    simp only [List.length_append, List.length_cons, List.length_nil, thr]
    omega
theorem text_ev (k e : Int) (l : ByteArray) (f : List SO) (hl : l.size ≤ 4194304) (hf : few f = true) : report_Text.f k e l f = some (outAns k e l f) := by
  unfold report_Text.f
  rw [right_ev k e l f hl hf, Option.bind_some]
  unfold outAns
  by_cases hr : rgt k e l f = true
  · rw [if_pos hr, if_pos hr]
    unfold forest_Text.f
    rw [if_pos hf, Option.bind_some]
    by_cases hz : (txtAns f).2 = 0
    · have h1 := txt_size f
      have h2 := head_size k e l f hl hr
      rw [if_pos hz, if_pos hz, head_ev k e l f hl hr, Option.bind_some, if_pos (by omega)]
      by_cases h3 : (headB k e l ++ (txtAns f).1).size ≤ 4194304
      · rw [if_neg (by omega), if_pos h3]
      · rw [if_pos (by omega), if_neg h3]
    · rw [if_neg hz, if_neg hz]
  · rw [if_neg hr, if_neg hr]
theorem w64 {i : Int} (h0 : -9223372036854775808 ≤ i) (h1 : i ≤ 9223372036854775807) : wrap64 i = i := by
  unfold wrap64
  omega
theorem beyond_l0 (t : ByteArray) (ht : t.size ≤ 4194304) (z : Int) (f : List SO) (hfl : f.length ≤ 1048576) : ∀ d i at_ k, i + d = f.length → at_ ≤ t.size → Lns t d at_ → d < k → report_beyond.l0 k t z (at_ : Int) f (f.length : Int) (i : Int) = some (byd t z (f.drop i) at_)
  | 0, i, at_, k, hd, hle, hL, hk => by
    obtain ⟨k, rfl⟩ : ∃ m, k = m + 1 := ⟨k - 1, by omega⟩
    rw [report_beyond.l0, if_neg (by omega), List.drop_eq_nil_of_le (by omega)]
    rfl
  | d + 1, i, at_, k, hd, hle, hL, hk => by
    obtain ⟨k, rfl⟩ : ∃ m, k = m + 1 := ⟨k - 1, by omega⟩
    have hi : i < f.length := by omega
    rw [report_beyond.l0, if_pos (by omega), if_pos (by omega), if_pos (by omega), List.drop_eq_getElem_cons hi]
    have hrd : rd_T60 f (i : Int) = f[i] := rd_at f i hi
    rw [hrd]
    unfold byd
    by_cases hc : f[i].f2 > z
    · rw [if_pos hc, if_pos hc]
    · rw [if_neg hc, if_neg hc, if_pos (by omega), if_pos (by omega)]
      unfold strings_IndexByte.f
      rw [Option.bind_some]
      have hix := idx_lf t at_ hle
      rw [if_pos hL.1] at hix
      have hex : (t.extract (at_ : Int).toNat t.size).data.toList = t.data.toList.drop at_ := by rw [Lib.extract_to_end]; rfl
      rw [hex, show ((10 : Int).toNat.toUInt8) = 10 from rfl, hix]
      have hl := hL.1
      have hge := lf_le t at_ hle
      rw [w64 (i := (lfAt t at_ : Int) - at_ + 1) (by omega) (by omega), w64 (by omega) (by omega), w64 (i := (i : Int) + 1) (by omega) (by omega), show (at_ : Int) + ((lfAt t at_ : Int) - at_ + 1) = ((lfAt t at_ + 1 : Nat) : Int) by omega]
      exact beyond_l0 t ht z f hfl d (i + 1) (lfAt t at_ + 1) k (by omega) (by omega) hL.2 (by omega)
theorem beyond_ev (t : ByteArray) (ht : t.size ≤ 4194304) (z : Int) (f : List SO) (hfl : f.length ≤ 1048576) (hL : Lns t f.length 0) (k : Nat) (hk : f.length < k) : report_beyond.f k t f z = some (byd t z f 0) := by
  unfold report_beyond.f
  have h := beyond_l0 t ht z f hfl f.length 0 0 k (by omega) (Nat.zero_le _) hL hk
  rw [List.drop_zero] at h
  exact h
theorem grown_j0 (t g : ByteArray) (hg : g.size ≤ 4194304) (z a c : Int) (k : Nat) (hk : 1048577 < k) : report_grown.j0 k z (parseAns g).1 g a c = some (if 0 ≤ byd g z (parseAns g).1 0 then ([], byd g z (parseAns g).1 0, 120) else if c = 0 then ((parseAns g).1, 0, 0) else ([], a, c)) := by
  obtain ⟨k, rfl⟩ : ∃ m, k = m + 1 := ⟨k - 1, by omega⟩
  have hl := parse_len g
  rw [report_grown.j0, beyond_ev g hg z _ hl (lns_parse g) k (by omega), Option.bind_some]
  by_cases h : 0 ≤ byd g z (parseAns g).1 0
  · rw [if_pos h, if_pos h]
  · rw [if_neg h, if_neg h]
    split <;> rfl
theorem grown_ev (t : ByteArray) (ht : t.size ≤ 4194304) (z : Int) (k : Nat) (hk : 1048577 < k) : report_grown.f k t z = some (grownAns t z) := by
  unfold report_grown.f forest_Parse.f grownAns goodOf
  rw [Option.bind_some]
  by_cases hc : (parseAns t).2.2 = 0
  · rw [if_pos hc, if_pos hc, grown_j0 t t ht z _ _ k hk, if_pos hc]
    first | done | rw [if_pos hc]
  · rw [if_neg hc, if_neg hc]
    obtain ⟨⟨F, a, c⟩, hp⟩ : ∃ y, parseAns t = y := ⟨_, rfl⟩
    rw [hp] at hc ⊢
    dsimp only at hc ⊢
    rcases read_fault t F a c hp with h | ⟨_, h9, _, m, rfl, hm, _, _⟩
    · exact absurd h.2 hc
    · rw [if_pos (by omega), if_pos (by omega), Option.bind_some, grown_j0 t _ (by rw [ByteArray.size_extract]; omega) z _ _ k hk, if_neg hc]
      rw [if_neg hc]
def flat (x : Out × Int × Int) : Int × Int × ByteArray × (List SO) × Int × Int := (x.1.k, x.1.e, x.1.l, x.1.f, x.2.1, x.2.2)
theorem parse_j0 (t x : ByteArray) (n : Nat) (hn : n + 1 ≤ t.size) (ht : t.size ≤ 4194304) (hx : x.size = t.size - (n + 1)) (k e : Int) (l : ByteArray) (b : Bool) (K : Nat) (hK : 1048578 < K) :
    report_Parse.j0 K (n : Int) x b k e l [] = some (if b = true then (0, 0, ⟨#[]⟩, [], ((n + 1 : Nat) : Int), 280) else if k = 1 then (if (grownAns x e).2.2 = 0 then (k, e, l, (grownAns x e).1, 0, 0) else (0, 0, ⟨#[]⟩, [], (grownAns x e).2.1 + ((n + 1 : Nat) : Int), (grownAns x e).2.2)) else (k, e, l, [], 0, 0)) := by
  obtain ⟨K, rfl⟩ : ∃ m, K = m + 1 := ⟨K - 1, by omega⟩
  rw [report_Parse.j0, w64 (i := (n : Int) + 1) (by omega) (by omega)]
  by_cases hb : b = true
  · rw [if_pos hb, if_pos hb]; rfl
  rw [if_neg hb, if_neg hb]
  by_cases h1 : k = 1
  · rw [if_pos h1, if_pos h1, grown_ev x (by omega) e K (by omega), Option.bind_some]
    by_cases hc : (grownAns x e).2.2 = 0
    · rw [if_pos hc, if_pos hc]
    · rw [if_neg hc, if_neg hc]
      have hr : 0 ≤ (grownAns x e).2.1 ∧ (grownAns x e).2.1 ≤ 4194304 := by
        unfold grownAns at hc ⊢
        split at hc
        · rename_i hb
          rw [if_pos hb]
          have hgs : (goodOf x).size ≤ x.size := by
            unfold goodOf
            split
            · exact Nat.le_refl _
            · rw [ByteArray.size_extract]; omega
          rcases byd_range (goodOf x) e _ 0 (lns_parse _) (Nat.zero_le _) with h | ⟨m, h, hm⟩
          · omega
          · dsimp only; omega
        · rename_i hb
          rw [if_neg hb]
          split at hc
          · exact absurd rfl hc
          · rename_i h2
            rw [if_neg h2]
            obtain ⟨⟨F, a, c⟩, hp⟩ : ∃ y, parseAns x = y := ⟨_, rfl⟩
            rw [hp] at h2 ⊢
            dsimp only at h2 ⊢
            rcases read_fault x F a c hp with h | ⟨_, h9, _, m, rfl, hm, _, h4⟩
            · exact absurd h.2 h2
            · clear h9; omega
      rw [w64 (i := (grownAns x e).2.1 + (n : Int)) (by omega) (by omega), w64 (by omega) (by omega), show (grownAns x e).2.1 + (n : Int) + 1 = (grownAns x e).2.1 + ((n + 1 : Nat) : Int) by omega]
  · rw [if_neg h1, if_neg h1]
theorem parse_ev (t : ByteArray) (k : Nat) (hk : 1048578 < k) : report_Parse.f k t = some (flat (parR t)) := by
  unfold report_Parse.f parR
  by_cases hz : 4194304 < t.size
  · rw [if_pos (by omega), if_pos hz]; rfl
  rw [if_neg (by omega), if_neg hz]
  unfold strings_IndexByte.f
  have hix := idx_lf t 0 (Nat.zero_le _)
  rw [List.drop_zero] at hix
  rw [Option.bind_some, show ((10 : Int).toNat.toUInt8) = 10 from rfl, hix]
  by_cases hl : lfAt t 0 < t.size
  · have e0 : ((lfAt t 0 : Nat) : Int) - ((0 : Nat) : Int) = ((lfAt t 0 : Nat) : Int) := by omega
    rw [if_pos hl, if_pos hl, e0, if_neg (by omega), if_pos (by omega), if_pos (by omega), Int.toNat_natCast]
    unfold report_first.f
    rw [if_pos (by rw [ByteArray.size_extract]; omega), Option.bind_some, w64 (i := ((lfAt t 0 : Nat) : Int) + 1) (by omega) (by omega), if_pos (by omega), if_pos (by omega), firstR_ans]
    dsimp only
    have e1 : (((lfAt t 0 : Nat) : Int) + 1).toNat = lfAt t 0 + 1 := by omega
    rw [e1]
    obtain ⟨⟨K, E, L, ok⟩, hf⟩ : ∃ y, firstR (t.extract 0 (lfAt t 0)) = y := ⟨_, rfl⟩
    rw [hf]
    dsimp only
    have hxs : (t.extract (lfAt t 0 + 1) t.size).size = t.size - (lfAt t 0 + 1) := by rw [ByteArray.size_extract]; omega
    cases ok with
    | false => rw [if_neg Bool.false_ne_true, if_neg Bool.false_ne_true]; rfl
    | true =>
      rw [if_pos rfl, if_pos rfl]
      dsimp only
      by_cases h1 : K = 1
      · rw [if_pos h1, if_pos h1, parse_j0 t _ (lfAt t 0) (by omega) (by omega) hxs K E L false k hk, if_neg (by decide), if_pos h1]
        obtain ⟨y, hy⟩ : ∃ y, grownAns (t.extract (lfAt t 0 + 1) t.size) E = y := ⟨_, rfl⟩
        rw [hy]
        by_cases hc : y.2.2 = 0
        · rw [if_pos hc, if_pos hc]; rfl
        · rw [if_neg hc, if_neg hc]; rfl
      · rw [if_neg h1, if_neg h1, parse_j0 t _ (lfAt t 0) (by omega) (by omega) hxs K E L _ k hk]
        by_cases h2 : lfAt t 0 + 1 < t.size
        · have hne : ((t.extract (lfAt t 0 + 1) t.size).toList != ([] : List UInt8)) = true := bne_iff_ne.2 (fun h => by have := (tl_nil _).1 h; omega)
          rw [if_pos h2, if_pos hne]; rfl
        · have hne : ¬ ((t.extract (lfAt t 0 + 1) t.size).toList != ([] : List UInt8)) = true := fun h => (bne_iff_ne.1 h) ((tl_nil _).2 (by omega))
          rw [if_neg h2, if_neg hne, if_neg h1]; rfl
  · rw [if_neg hl, if_neg hl, if_pos (by omega)]; rfl
def ta : ByteArray := ⟨#[109, 97, 116, 99, 104, 101, 100, 32, 52, 10, 110, 117, 109, 32, 48, 32, 49, 10, 110, 117, 109, 32, 50, 32, 52, 10]⟩
def tb : ByteArray := ⟨#[109, 97, 116, 99, 104, 101, 100, 32, 52, 10, 97, 32, 48, 32, 53, 10]⟩
def fa : List SO := [⟨⟨#[110, 117, 109]⟩, 0, 1, 0⟩, ⟨⟨#[110, 117, 109]⟩, 2, 4, 0⟩]
theorem par_a : parR ta = (⟨1, 4, ⟨#[]⟩, fa⟩, 0, 0) := by kernel_rfl
theorem par_b : parR tb = (Out.zero, 10, 120) := by kernel_rfl
theorem dig1 (n : Nat) (h : n < 10) : Lib.itoa (n : Int) = [UInt8.ofNat (48 + n)] := by
  unfold Lib.itoa
  rw [if_neg (by omega), Int.toNat_natCast, Lib.decDigits, dif_pos h]
theorem fa_chk : chkAns fa 65536 = 0 := by decide +kernel
theorem fa_chk4 : rgt 1 4 ⟨#[]⟩ fa = true := by decide +kernel
theorem fa_walk : Fo.walkAns fa = [0, 0] := by decide +kernel
theorem fa_total : total fa [0, 0] = [110, 117, 109, 32, 48, 32, 49, 10, 110, 117, 109, 32, 50, 32, 52, 10] := by
  have h0 := dig1 0 (by omega)
  have h1 := dig1 1 (by omega)
  have h2 := dig1 2 (by omega)
  have h4 := dig1 4 (by omega)
  have e0 : rd_T60 fa ((0 : Nat) : Int) = ⟨⟨#[110, 117, 109]⟩, ((0 : Nat) : Int), ((1 : Nat) : Int), 0⟩ := rfl
  have e1 : rd_T60 fa ((1 : Nat) : Int) = ⟨⟨#[110, 117, 109]⟩, ((2 : Nat) : Int), ((4 : Nat) : Int), 0⟩ := rfl
  show lnAt fa [0, 0] 0 ++ (lnAt fa [0, 0] 1 ++ []) = _
  unfold lnAt ln lnB
  rw [e0, e1]
  dsimp only
  rw [h0, h1, h2, h4]
  rfl
theorem out_a : outAns 1 4 ⟨#[]⟩ fa = (ta, 0) := by
  have ht : txtAns fa = (⟨#[110, 117, 109, 32, 48, 32, 49, 10, 110, 117, 109, 32, 50, 32, 52, 10]⟩, 0) := by
    unfold txtAns
    rw [if_pos fa_chk, fa_walk, fa_total]
    rfl
  have hh : headB 1 4 ⟨#[]⟩ = ⟨#[109, 97, 116, 99, 104, 101, 100, 32, 52, 10]⟩ := by
    unfold headB headL
    rw [if_pos rfl, show ((4 : Int)) = ((4 : Nat) : Int) from rfl, dig1 4 (by omega)]
    rfl
  unfold outAns
  rw [if_pos fa_chk4, ht, if_pos rfl, hh, if_pos (by decide)]
  rfl
theorem works_ev (k : Nat) (hk : 1048578 < k) : dowellaw28_works.f k = some true := by
  unfold dowellaw28_works.f
  have ha := parse_ev ta k hk
  have hb := parse_ev tb k hk
  rw [par_a] at ha
  rw [par_b] at hb
  have ha2 : report_Parse.f k ⟨#[109, 97, 116, 99, 104, 101, 100, 32, 52, 10, 110, 117, 109, 32, 48, 32, 49, 10, 110, 117, 109, 32, 50, 32, 52, 10]⟩ = some (1, 4, ⟨#[]⟩, fa, 0, 0) := ha
  have hb2 : report_Parse.f k ⟨#[109, 97, 116, 99, 104, 101, 100, 32, 52, 10, 97, 32, 48, 32, 53, 10]⟩ = some (0, 0, ⟨#[]⟩, [], 10, 120) := hb
  have ht := text_ev 1 4 ⟨#[]⟩ fa (Nat.zero_le _) (by decide +kernel)
  rw [out_a] at ht
  have htl : ta.toList = [109, 97, 116, 99, 104, 101, 100, 32, 52, 10, 110, 117, 109, 32, 48, 32, 49, 10, 110, 117, 109, 32, 50, 32, 52, 10] := by rw [Lib.toList_data]; rfl
  rw [ha2, Option.bind_some]
  dsimp only
  rw [ht, Option.bind_some, hb2, Option.bind_some]
  dsimp only
  rw [if_pos (by decide), if_pos rfl, if_pos htl, if_pos rfl, if_pos (show ((fa.length : Nat) : Int) = 2 from rfl)]
  rfl
end Go.Proofs.YtloflodbcdlmpaaDoor.Rp
