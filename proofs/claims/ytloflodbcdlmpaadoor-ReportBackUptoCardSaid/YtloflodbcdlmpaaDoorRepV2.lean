/- What the printed functions of report tell, in the plain words. || What stands behind a text that is read; whether two outcomes are one; the examples: the plain laws. || The examples of the chapter come out right: dowellaw28.works answers true. -/
import Derived.Test.YtloflodbcdlmpaaDoorRepP2
import Derived.Test.YtloflodbcdlmpaaDoorBallx2
import Derived.Test.YtloflodbcdlmpaaDoorBallx3
import Derived.Test.YtloflodbcdlmpaaDoorOutc2
namespace Go.Proofs.YtloflodbcdlmpaaDoor.Rp
open Go.RowKit Go.Proofs.YtloflodbcdlmpaaDoor.Qall Go.Proofs.YtloflodbcdlmpaaDoor.Chk Go.Proofs.YtloflodbcdlmpaaDoor.Ln Go.Proofs.YtloflodbcdlmpaaDoor.Ps Go.Proofs.YtloflodbcdlmpaaDoor.Tx Go.Proofs.YtloflodbcdlmpaaDoor.Nsa Go.Proofs.YtloflodbcdlmpaaDoor.Bk Go.Proofs.YtloflodbcdlmpaaDoor.Rdd Go.Proofs.YtloflodbcdlmpaaDoorW.PrintWords Go.Proofs.YtloflodbcdlmpaaDoorW.PrintLast Go.Proofs.YtloflodbcdlmpaaDoorW.PrintMore
open Go.Proofs.YtloflodbcdlmpaaDoor.Fo hiding val
set_option linter.unusedSimpArgs false
set_option linter.unusedVariables false
theorem tl_nil (s : ByteArray) : s.toList = ([] : List UInt8) ↔ s.size = 0 := Own.size_list s
theorem right_ev (k e : Int) (l : ByteArray) (f : List SO) (hl : l.size ≤ 4194304) (hf : few f = true) : report_right.f k e l f = some (rgt k e l f) := by
  unfold report_right.f rgt
  by_cases h0 : k = 0
  · rw [if_pos h0, if_pos h0]
    by_cases h1 : e = 0
    · rw [if_pos h1]
      by_cases h2 : l.size = 0
      · rw [if_pos ((tl_nil l).2 h2)]
        congr 1
        rw [Bool.eq_iff_iff, beq_iff_eq, decide_eq_true_eq]
        exact ⟨fun h => ⟨h1, h2, by omega⟩, fun h => by omega⟩
      · rw [if_neg (fun h => h2 ((tl_nil l).1 h)), decide_eq_false (fun h => h2 h.2.1)]
    · rw [if_neg h1, decide_eq_false (fun h => h1 h.1)]
  rw [if_neg h0, if_neg h0]
  by_cases h1 : k = 1
  · rw [if_pos h1, if_pos h1]
    by_cases h2 : l.size = 0
    · rw [if_pos ((tl_nil l).2 h2)]
      unfold forest_Check.f
      rw [if_pos hf, Option.bind_some]
      congr 1
      rw [Bool.eq_iff_iff, beq_iff_eq, decide_eq_true_eq]
      exact ⟨fun h => ⟨h2, h⟩, fun h => h.2⟩
    · rw [if_neg (fun h => h2 ((tl_nil l).1 h)), decide_eq_false (fun h => h2 h.1)]
  rw [if_neg h1, if_neg h1]
  by_cases h2 : k = 2
  · rw [if_pos h2, if_pos h2]
    unfold report_own.f
    rw [if_pos hl, Option.bind_some]
    by_cases h3 : Own.nameOk l = true
    · rw [if_pos h3]
      by_cases h4 : f.length = 0
      · rw [if_pos (by omega)]
        by_cases h5 : 0 ≤ e
        · rw [if_pos (by omega)]
          congr 1
          rw [Bool.eq_iff_iff, decide_eq_true_eq, decide_eq_true_eq]
          exact ⟨fun h => ⟨h3, h4, h5, h⟩, fun h => h.2.2.2⟩
        · rw [if_neg (by omega), decide_eq_false (fun h => h5 h.2.2.1)]
      · rw [if_neg (by omega), decide_eq_false (fun h => h4 h.2.1)]
    · rw [if_neg h3, decide_eq_false (fun h => h3 h.1)]
  · rw [if_neg h2, if_neg h2]
theorem itoa_f (e : Int) (h0 : 0 ≤ e) (h1 : e ≤ 65536) : strconv_Itoa.f e = some ⟨(Lib.itoa e).toArray⟩ := by
  unfold strconv_Itoa.f
  rw [if_pos (by omega)]
theorem size_mk (l : List UInt8) : (⟨l.toArray⟩ : ByteArray).size = l.length := by
  show l.toArray.size = _
  simp
theorem itoa_le (e : Int) (h0 : 0 ≤ e) (h1 : e ≤ 65536) : (Lib.itoa e).length ≤ 5 := good_len _ (good_itoa e h0 h1).1
theorem head_ev (k e : Int) (l : ByteArray) (f : List SO) (hl : l.size ≤ 4194304) (hr : rgt k e l f = true) : report_head.f k e l f = some (headB k e l) := by
  unfold report_head.f headB headL
  rcases rgt_cases k e l f hr with ⟨rfl, rfl, rfl, rfl⟩ | ⟨rfl, rfl, hc⟩ | ⟨rfl, hn, rfl, h1, h2⟩
  · rfl
  · obtain ⟨_, g1, g2, _⟩ := (chk_at f e).1 hc
    have hle := itoa_le e g1 g2
    have hs := size_mk (Lib.itoa e)
    rw [if_pos rfl, itoa_f e g1 g2, Option.bind_some, if_pos (by omega), if_pos (by rw [ByteArray.size_append]; show 8 + (⟨(Lib.itoa e).toArray⟩ : ByteArray).size + 1 ≤ _; omega)]
    congr 1
  · have hle := itoa_le e h1 h2
    have hs := size_mk (Lib.itoa e)
    rw [if_neg (by decide), if_pos rfl, if_pos (by omega), if_pos (by rw [ByteArray.size_append]; show 7 + _ + 1 ≤ _; omega), itoa_f e h1 h2, Option.bind_some,
      if_pos (by rw [ByteArray.size_append, ByteArray.size_append]; show 7 + l.size + 1 + (⟨(Lib.itoa e).toArray⟩ : ByteArray).size ≤ _; omega), if_pos (by rw [ByteArray.size_append, ByteArray.size_append, ByteArray.size_append]; show 7 + l.size + 1 + (⟨(Lib.itoa e).toArray⟩ : ByteArray).size + 1 ≤ _; omega)]
    congr 1
    apply ba_ext
    simp only [ByteArray.data_append, Array.toList_append]
    simp [thr]
theorem txt_size (f : List SO) : (txtAns f).1.size ≤ 4194304 := by
  unfold txtAns
  split
  · split
    · rename_i h; rw [size_mk]; exact h
    · exact Nat.zero_le _
  · exact Nat.zero_le _
theorem head_size (k e : Int) (l : ByteArray) (f : List SO) (hl : l.size ≤ 4194304) (hr : rgt k e l f = true) : (headB k e l).size ≤ 4194400 := by
  unfold headB headL
  rw [size_mk]
  rcases rgt_cases k e l f hr with ⟨rfl, rfl, rfl, rfl⟩ | ⟨rfl, rfl, hc⟩ | ⟨rfl, hn, rfl, h1, h2⟩
  · decide
  · obtain ⟨_, g1, g2, _⟩ := (chk_at f e).1 hc
    have hle := itoa_le e g1 g2
    rw [if_pos rfl]
    simp [mtc]
    omega
  · have hle := itoa_le e h1 h2
    have hll : l.data.toList.length = l.size := data_length l
    rw [if_neg (by decide), if_pos rfl]
    simp only [List.length_append, List.length_cons, List.length_nil, thr]
    omega
theorem text_ev (k e : Int) (l : ByteArray) (f : List SO) (hl : l.size ≤ 4194304) (hf : few f = true) : report_Text.f k e l f = some (outAns k e l f) := by
  unfold report_Text.f
  rw [right_ev k e l f hl hf, Option.bind_some]
  unfold outAns
  by_cases hr : rgt k e l f = true
  · rw [if_pos hr, if_pos hr]
    unfold forest_Text.f
    rw [if_pos hf, Option.bind_some]
    by_cases hz : (txtAns f).2 = 0
    · have h1 := txt_size f
      have h2 := head_size k e l f hl hr
      rw [if_pos hz, if_pos hz, head_ev k e l f hl hr, Option.bind_some, if_pos (by omega)]
      by_cases h3 : (headB k e l ++ (txtAns f).1).size ≤ 4194304
      · rw [if_neg (by omega), if_pos h3]
      · rw [if_pos (by omega), if_neg h3]
    · rw [if_neg hz, if_neg hz]
  · rw [if_neg hr, if_neg hr]
theorem w64 {i : Int} (h0 : -9223372036854775808 ≤ i) (h1 : i ≤ 9223372036854775807) : wrap64 i = i := by
  unfold wrap64
  omega
theorem beyond_l0 (t : ByteArray) (ht : t.size ≤ 4194304) (z : Int) (f : List SO) (hfl : f.length ≤ 1048576) : ∀ d i at_ k, i + d = f.length → at_ ≤ t.size → Lns t d at_ → d < k → report_beyond.l0 k t z (at_ : Int) f (f.length : Int) (i : Int) = some (byd t z (f.drop i) at_)
  | 0, i, at_, k, hd, hle, hL, hk => by
    obtain ⟨k, rfl⟩ : ∃ m, k = m + 1 := ⟨k - 1, by omega⟩
    rw [report_beyond.l0, if_neg (by omega), List.drop_eq_nil_of_le (by omega)]
    rfl
  | d + 1, i, at_, k, hd, hle, hL, hk => by
    obtain ⟨k, rfl⟩ : ∃ m, k = m + 1 := ⟨k - 1, by omega⟩
    have hi : i < f.length := by omega
    rw [report_beyond.l0, if_pos (by omega), if_pos (by omega), if_pos (by omega), List.drop_eq_getElem_cons hi]
    have hrd : rd_T60 f (i : Int) = f[i] := rd_at f i hi
    rw [hrd]
    unfold byd
    by_cases hc : f[i].f2 > z
    · rw [if_pos hc, if_pos hc]
    · rw [if_neg hc, if_neg hc, if_pos (by omega), if_pos (by omega)]
      unfold strings_IndexByte.f
      rw [Option.bind_some]
      have hix := idx_lf t at_ hle
      rw [if_pos hL.1] at hix
      have hex : (t.extract (at_ : Int).toNat t.size).data.toList = t.data.toList.drop at_ := by rw [Lib.extract_to_end]; rfl
      rw [hex, show ((10 : Int).toNat.toUInt8) = 10 from rfl, hix]
      have hl := hL.1
      have hge := lf_le t at_ hle
      rw [w64 (i := (lfAt t at_ : Int) - at_ + 1) (by omega) (by omega), w64 (by omega) (by omega), w64 (i := (i : Int) + 1) (by omega) (by omega), show (at_ : Int) + ((lfAt t at_ : Int) - at_ + 1) = ((lfAt t at_ + 1 : Nat) : Int) by omega]
      exact beyond_l0 t ht z f hfl d (i + 1) (lfAt t at_ + 1) k (by omega) (by omega) hL.2 (by omega)
theorem beyond_ev (t : ByteArray) (ht : t.size ≤ 4194304) (z : Int) (f : List SO) (hfl : f.length ≤ 1048576) (hL : Lns t f.length 0) (k : Nat) (hk : f.length < k) : report_beyond.f k t f z = some (byd t z f 0) := by
  unfold report_beyond.f
  have h := beyond_l0 t ht z f hfl f.length 0 0 k (by omega) (Nat.zero_le _) hL hk
  rw [List.drop_zero] at h
  exact h
theorem parse_len (t : ByteArray) : (parseAns t).1.length ≤ 1048576 := by
  obtain ⟨⟨F, a, c⟩, hp⟩ : ∃ y, parseAns t = y := ⟨_, rfl⟩
  rcases read_fault t F a c hp with ⟨rfl, rfl⟩ | ⟨rfl, _⟩
  · rw [hp]; exact (Rde.read_bounds t F hp).2.1
  · rw [hp]; exact Nat.zero_le _
theorem grown_j0 (t g : ByteArray) (hg : g.size ≤ 4194304) (z a c : Int) (k : Nat) (hk : 1048577 < k) : report_grown.j0 k z (parseAns g).1 g a c = some (if 0 ≤ byd g z (parseAns g).1 0 then ([], byd g z (parseAns g).1 0, 120) else if c = 0 then ((parseAns g).1, 0, 0) else ([], a, c)) := by
  obtain ⟨k, rfl⟩ : ∃ m, k = m + 1 := ⟨k - 1, by omega⟩
  have hl := parse_len g
  rw [report_grown.j0, beyond_ev g hg z _ hl (lns_parse g) k (by omega), Option.bind_some]
  by_cases h : 0 ≤ byd g z (parseAns g).1 0
  · rw [if_pos h, if_pos h]
  · rw [if_neg h, if_neg h]
    split <;> rfl
theorem grown_ev (t : ByteArray) (ht : t.size ≤ 4194304) (z : Int) (k : Nat) (hk : 1048577 < k) : report_grown.f k t z = some (grownAns t z) := by
  unfold report_grown.f forest_Parse.f grownAns goodOf
  rw [Option.bind_some]
  by_cases hc : (parseAns t).2.2 = 0
  · rw [if_pos hc, if_pos hc, grown_j0 t t ht z _ _ k hk, if_pos hc]
    first | done | rw [if_pos hc]
  · rw [if_neg hc, if_neg hc]
    obtain ⟨⟨F, a, c⟩, hp⟩ : ∃ y, parseAns t = y := ⟨_, rfl⟩
    rw [hp] at hc ⊢
    dsimp only at hc ⊢
    rcases read_fault t F a c hp with h | ⟨_, h9, _, m, rfl, hm, _, _⟩
    · exact absurd h.2 hc
    · rw [if_pos (by omega), if_pos (by omega), Option.bind_some, grown_j0 t _ (by rw [ByteArray.size_extract]; omega) z _ _ k hk, if_neg hc]
      rw [if_neg hc]
def flat (x : Out × Int × Int) : Int × Int × ByteArray × (List SO) × Int × Int := (x.1.k, x.1.e, x.1.l, x.1.f, x.2.1, x.2.2)
theorem parse_j0 (t x : ByteArray) (n : Nat) (hn : n + 1 ≤ t.size) (ht : t.size ≤ 4194304) (hx : x.size = t.size - (n + 1)) (k e : Int) (l : ByteArray) (b : Bool) (K : Nat) (hK : 1048578 < K) :
    report_Parse.j0 K (n : Int) x b k e l [] = some (if b = true then (0, 0, ⟨#[]⟩, [], ((n + 1 : Nat) : Int), 280) else if k = 1 then (if (grownAns x e).2.2 = 0 then (k, e, l, (grownAns x e).1, 0, 0) else (0, 0, ⟨#[]⟩, [], (grownAns x e).2.1 + ((n + 1 : Nat) : Int), (grownAns x e).2.2)) else (k, e, l, [], 0, 0)) := by
  obtain ⟨K, rfl⟩ : ∃ m, K = m + 1 := ⟨K - 1, by omega⟩
  rw [report_Parse.j0, w64 (i := (n : Int) + 1) (by omega) (by omega)]
  by_cases hb : b = true
  · rw [if_pos hb, if_pos hb]; rfl
  rw [if_neg hb, if_neg hb]
  by_cases h1 : k = 1
  · rw [if_pos h1, if_pos h1, grown_ev x (by omega) e K (by omega), Option.bind_some]
    by_cases hc : (grownAns x e).2.2 = 0
    · rw [if_pos hc, if_pos hc]
    · rw [if_neg hc, if_neg hc]
      have hr : 0 ≤ (grownAns x e).2.1 ∧ (grownAns x e).2.1 ≤ 4194304 := by
        unfold grownAns at hc ⊢
        split at hc
        · rename_i hb
          rw [if_pos hb]
          have hgs : (goodOf x).size ≤ x.size := by
            unfold goodOf
            split
            · exact Nat.le_refl _
            · rw [ByteArray.size_extract]; omega
          rcases byd_range (goodOf x) e _ 0 (lns_parse _) (Nat.zero_le _) with h | ⟨m, h, hm⟩
          · omega
          · dsimp only; omega
        · rename_i hb
          rw [if_neg hb]
          split at hc
          · exact absurd rfl hc
          · rename_i h2
            rw [if_neg h2]
            obtain ⟨⟨F, a, c⟩, hp⟩ : ∃ y, parseAns x = y := ⟨_, rfl⟩
            rw [hp] at h2 ⊢
            dsimp only at h2 ⊢
            rcases read_fault x F a c hp with h | ⟨_, h9, _, m, rfl, hm, _, h4⟩
            · exact absurd h.2 h2
            · clear h9; omega
      rw [w64 (i := (grownAns x e).2.1 + (n : Int)) (by omega) (by omega), w64 (by omega) (by omega), show (grownAns x e).2.1 + (n : Int) + 1 = (grownAns x e).2.1 + ((n + 1 : Nat) : Int) by omega]
  · rw [if_neg h1, if_neg h1]
theorem parse_ev (t : ByteArray) (k : Nat) (hk : 1048578 < k) : report_Parse.f k t = some (flat (parR t)) := by
  unfold report_Parse.f parR
  by_cases hz : 4194304 < t.size
  · rw [if_pos (by omega), if_pos hz]; rfl
  rw [if_neg (by omega), if_neg hz]
  unfold strings_IndexByte.f
  have hix := idx_lf t 0 (Nat.zero_le _)
  rw [List.drop_zero] at hix
  rw [Option.bind_some, show ((10 : Int).toNat.toUInt8) = 10 from rfl, hix]
  by_cases hl : lfAt t 0 < t.size
  · have e0 : ((lfAt t 0 : Nat) : Int) - ((0 : Nat) : Int) = ((lfAt t 0 : Nat) : Int) := by omega
    rw [if_pos hl, if_pos hl, e0, if_neg (by omega), if_pos (by omega), if_pos (by omega), Int.toNat_natCast]
    unfold report_first.f
    rw [if_pos (by rw [ByteArray.size_extract]; omega), Option.bind_some, w64 (i := ((lfAt t 0 : Nat) : Int) + 1) (by omega) (by omega), if_pos (by omega), if_pos (by omega), firstR_ans]
    dsimp only
    have e1 : (((lfAt t 0 : Nat) : Int) + 1).toNat = lfAt t 0 + 1 := by omega
    rw [e1]
    obtain ⟨⟨K, E, L, ok⟩, hf⟩ : ∃ y, firstR (t.extract 0 (lfAt t 0)) = y := ⟨_, rfl⟩
    rw [hf]
    dsimp only
    have hxs : (t.extract (lfAt t 0 + 1) t.size).size = t.size - (lfAt t 0 + 1) := by rw [ByteArray.size_extract]; omega
    cases ok with
    | false => rw [if_neg Bool.false_ne_true, if_neg Bool.false_ne_true]; rfl
    | true =>
      rw [if_pos rfl, if_pos rfl]
      dsimp only
      by_cases h1 : K = 1
      · rw [if_pos h1, if_pos h1, parse_j0 t _ (lfAt t 0) (by omega) (by omega) hxs K E L false k hk, if_neg (by decide), if_pos h1]
        obtain ⟨y, hy⟩ : ∃ y, grownAns (t.extract (lfAt t 0 + 1) t.size) E = y := ⟨_, rfl⟩
        rw [hy]
        by_cases hc : y.2.2 = 0
        · rw [if_pos hc, if_pos hc]; rfl
        · rw [if_neg hc, if_neg hc]; rfl
      · rw [if_neg h1, if_neg h1, parse_j0 t _ (lfAt t 0) (by omega) (by omega) hxs K E L _ k hk]
        by_cases h2 : lfAt t 0 + 1 < t.size
        · have hne : ((t.extract (lfAt t 0 + 1) t.size).toList != ([] : List UInt8)) = true := bne_iff_ne.2 (fun h => by have := (tl_nil _).1 h; omega)
          rw [if_pos h2, if_pos hne]; rfl
        · have hne : ¬ ((t.extract (lfAt t 0 + 1) t.size).toList != ([] : List UInt8)) = true := fun h => (bne_iff_ne.1 h) ((tl_nil _).2 (by omega))
          rw [if_neg h2, if_neg hne, if_neg h1]; rfl
  · rw [if_neg hl, if_neg hl, if_pos (by omega)]; rfl
end Go.Proofs.YtloflodbcdlmpaaDoor.Rp
namespace Go.Proofs.YtloflodbcdlmpaaDoor.Rp
open Go.RowKit Go.Proofs.YtloflodbcdlmpaaDoor.Qall Go.Proofs.YtloflodbcdlmpaaDoor.Chk Go.Proofs.YtloflodbcdlmpaaDoor.Ln Go.Proofs.YtloflodbcdlmpaaDoor.Ps Go.Proofs.YtloflodbcdlmpaaDoor.Tx Go.Proofs.YtloflodbcdlmpaaDoor.Nsa Go.Proofs.YtloflodbcdlmpaaDoor.Bk Go.Proofs.YtloflodbcdlmpaaDoor.Rdd Go.Proofs.YtloflodbcdlmpaaDoorW.PrintWords Go.Proofs.YtloflodbcdlmpaaDoorW.PrintLast Go.Proofs.YtloflodbcdlmpaaDoorW.PrintMore
open Go.Proofs.YtloflodbcdlmpaaDoor.Fo hiding val
set_option linter.unusedSimpArgs false
set_option linter.unusedVariables false
theorem tw_count : ∀ l : List UInt8, (l.takeWhile (· != 10)).count 10 = 0
  | [] => rfl
  | b :: l => by
    by_cases hb : b = 10
    · subst hb
      rw [List.takeWhile_cons_of_neg (by decide)]
      rfl
    · rw [List.takeWhile_cons_of_pos (by simpa using hb), List.count_cons_of_ne hb]
      exact tw_count l
/-- As many nodes as LFs; and it ends with one. -/
theorem go_count (t : ByteArray) (F : List SO) : ∀ (k at_ : Nat) (G : List SO) (way : List Int), parseGo t k at_ G way = (F, 0, 0) → t.size < k + at_ → at_ ≤ t.size → Beg t at_ → F.length = G.length + (t.data.toList.drop at_).count 10 ∧ Beg t t.size
  | 0, at_, G, way, h, hk, hle, hb => by omega
  | k + 1, at_, G, way, h, hk, hle, hb => by
    by_cases hlt : at_ < t.size
    · cases hs : stepAns t at_ G way with
      | none =>
        rw [parseGo_none hlt hs] at h
        injection h with _ h
        injection h with _ h
        exact absurd h (by decide)
      | some r =>
        rw [parseGo_some hlt hs] at h
        unfold stepAns at hs
        split at hs
        · rename_i hok
          obtain ⟨f1, w1⟩ := r
          obtain ⟨_, _, _, _, _, rfl, rfl⟩ := putAns_some hs
          have hll := lf_le t at_ hle
          have hlf := hok.1
          obtain ⟨h1, h2⟩ := go_count t F k (lfAt t at_ + 1) _ _ h (by omega) (by omega) (beg_next t at_ hlf hle)
          refine ⟨?_, h2⟩
          have hdl := drop_len t at_
          have hsp := Rdb.tw_split (t.data.toList.drop at_) (by unfold lfAt at hlf; omega)
          rw [h1, List.length_append, kidOf_length, List.length_singleton]
          rw [hsp, List.count_append, tw_count, List.count_cons_self, List.drop_drop]
          have e : at_ + (((t.data.toList.drop at_).takeWhile (· != 10)).length + 1) = lfAt t at_ + 1 := by unfold lfAt; omega
          rw [e]
          omega
        · cases hs
    · rw [parseGo_end hlt] at h
      injection h with h _
      subst h
      have e : at_ = t.size := by omega
      refine ⟨?_, by rw [← e]; exact hb⟩
      rw [List.drop_eq_nil_of_le (by rw [data_length]; omega)]
      rfl
theorem parse_count (t : ByteArray) (F : List SO) (h : parseAns t = (F, 0, 0)) : F.length = t.data.toList.count 10 ∧ Beg t t.size := by
  unfold parseAns at h
  split at h
  · injection h with _ h
    injection h with _ h
    exact absurd h (by decide)
  · obtain ⟨h1, h2⟩ := go_count t F _ 0 [] [] h (by omega) (by omega) (.inl rfl)
    rw [List.drop_zero, List.length_nil, Nat.zero_add] at h1
    exact ⟨h1, h2⟩
theorem tw_left (a b : List UInt8) (h : (a.takeWhile (· != 10)).length < a.length) : (a ++ b).takeWhile (· != 10) = a.takeWhile (· != 10) := by
  have hs := Rdb.tw_split a h
  conv => lhs; rw [hs]
  rw [List.append_assoc, List.cons_append]
  exact Rdc.tw_stop _ _ (fun x hx => by
    have := List.all_eq_true.1 (List.all_takeWhile (l := a) (p := (· != 10))) x hx
    exact this)
/-- OF A TEXT WITH SOMETHING BEHIND IT. -/
theorem more (t b : ByteArray) (k e : Int) (l : ByteArray) (f : List SO) (h : parR t = (⟨k, e, l, f⟩, 0, 0)) (hb : b.size ≠ 0) (hz : (t ++ b).size ≤ 4194304) :
    (k ≠ 1 → parR (t ++ b) = (Out.zero, (t.size : Int), 280)) ∧ (k = 1 → ∀ k' e' l' f', parR (t ++ b) = (⟨k', e', l', f'⟩, 0, 0) → k' = 1 ∧ e' = e ∧ f.length < f'.length) := by
  have hu := h
  unfold parR at h
  by_cases h0 : 4194304 < t.size
  · rw [if_pos h0] at h; injection h with _ h; injection h with _ h; exact absurd h (by decide)
  rw [if_neg h0] at h
  by_cases h1 : lfAt t 0 < t.size
  · rw [if_pos h1] at h
    have hsz : (t ++ b).size = t.size + b.size := ByteArray.size_append
    have hdl : (t ++ b).data.toList = t.data.toList ++ b.data.toList := by simp only [ByteArray.data_append, Array.toList_append]
    have htl : t.data.toList.length = t.size := data_length t
    have hlf : lfAt (t ++ b) 0 = lfAt t 0 := by
      unfold lfAt at h1 ⊢
      rw [List.drop_zero] at h1 ⊢
      rw [List.drop_zero, hdl, tw_left _ _ (by omega)]
    have hex : (t ++ b).extract 0 (lfAt t 0) = t.extract 0 (lfAt t 0) := ba_ext (by rw [ext_list2, ext_list2, hdl, List.take_append_of_le_length (by omega)])
    have hrest : (t ++ b).extract (lfAt t 0 + 1) (t ++ b).size = t.extract (lfAt t 0 + 1) t.size ++ b := ba_ext (by rw [Lib.extract_to_end, hdl, List.drop_append_of_le_length (by omega)]; simp only [ByteArray.data_append, Array.toList_append]; rw [Lib.extract_to_end])
    have hu2 : parR (t ++ b) = _ := rfl
    unfold parR at hu2 ⊢
    rw [if_neg (by omega), hlf, if_pos (by omega), hex, hrest]
    cases hf : firstAns (t.extract 0 (lfAt t 0)) with
    | none => rw [hf] at h; injection h with _ h; injection h with _ h; exact absurd h (by decide)
    | some r =>
      obtain ⟨K, E, L⟩ := r
      rw [hf] at h
      dsimp only at h ⊢
      obtain ⟨x, hx⟩ : ∃ x, t.extract (lfAt t 0 + 1) t.size = x := ⟨_, rfl⟩
      rw [hx] at h ⊢
      by_cases hK : K = 1
      · rw [if_pos hK] at h ⊢
        by_cases hg : (grownAns x E).2.2 = 0
        · rw [if_pos hg] at h
          injection h with h _
          injection h with e1 e2 e3 e4
          refine ⟨fun hk => absurd (e1.symm.trans hK) hk, fun hk k' e' l' f' h2 => ?_⟩
          have hform : ∀ y : ByteArray, (grownAns y E).2.2 = 0 → (parseAns y).2.2 = 0 ∧ (grownAns y E).1 = (parseAns y).1 := fun y hy => by
            unfold grownAns at hy ⊢
            split at hy
            · exact absurd (show (120 : Int) = 0 from hy) (by decide)
            · rename_i hbb
              split at hy
              · rename_i hc; rw [if_neg hbb, if_pos hc]; exact ⟨hc, rfl⟩
              · rename_i hc; exact absurd hy hc
          have hpz : ∀ y : ByteArray, (parseAns y).2.2 = 0 → parseAns y = ((parseAns y).1, 0, 0) := fun y hy => by
            obtain ⟨⟨F, a, c⟩, hp⟩ : ∃ z, parseAns y = z := ⟨_, rfl⟩
            rw [hp] at hy ⊢
            dsimp only at hy ⊢
            subst hy
            rcases read_fault y F a 0 hp with hq | hq
            · rw [hq.1]
            · exact absurd rfl hq.2.1
          by_cases hg2 : (grownAns (x ++ b) E).2.2 = 0
          · rw [if_pos hg2] at h2
            injection h2 with h2 _
            injection h2 with d1 d2 d3 d4
            refine ⟨d1.symm.trans hK, d2.symm.trans e2, ?_⟩
            obtain ⟨p1, p2⟩ := hform x hg
            obtain ⟨q1, q2⟩ := hform _ hg2
            have c1 := (parse_count x _ (hpz x p1)).1
            obtain ⟨c2, c3⟩ := parse_count (x ++ b) _ (hpz _ q1)
            have hxb : (x ++ b).data.toList = x.data.toList ++ b.data.toList := by simp only [ByteArray.data_append, Array.toList_append]
            have hxs : (x ++ b).size = x.size + b.size := ByteArray.size_append
            have hxl : x.data.toList.length = x.size := data_length x
            have hbl : b.data.toList.length = b.size := data_length b
            rw [← e4, ← d4, p2, q2, c1, c2, hxb, List.count_append]
            have hm : (10 : UInt8) ∈ b.data.toList := by
              rcases c3 with c3 | c3
              · omega
              · rw [hxb, List.getElem?_append_right (by omega)] at c3
                exact List.mem_of_getElem? c3
            have := List.count_pos_iff.2 hm
            omega
          · rw [if_neg hg2] at h2
            injection h2 with _ h2
            injection h2 with _ h2
            exact absurd h2 hg2
        · rw [if_neg hg] at h
          injection h with _ h
          injection h with _ h
          exact absurd h hg
      · rw [if_neg hK] at h ⊢
        by_cases hm : lfAt t 0 + 1 < t.size
        · rw [if_pos hm] at h
          injection h with _ h
          injection h with _ h
          exact absurd h (by decide)
        · rw [if_neg hm] at h
          injection h with h _
          injection h with e1 _ _ _
          refine ⟨fun _ => ?_, fun hk => absurd (e1.trans hk) hK⟩
          rw [if_pos (by omega), show lfAt t 0 + 1 = t.size by omega]
  · rw [if_neg h1] at h
    injection h with _ h
    injection h with _ h
    exact absurd h (by decide)
/- Are two outcomes the same? -/
theorem tl_eq (a b : ByteArray) : (a.toList == b.toList) = true ↔ a = b := by
  rw [beq_iff_eq, Lib.toList_data, Lib.toList_data]
  exact ⟨ba_ext, fun h => by rw [h]⟩
theorem cap_ne (a b : SO) : (!(a.f0.toList == b.f0.toList) || (!(a.f1 == b.f1) || (!(a.f2 == b.f2) || (!(a.f3 == b.f3))))) = true ↔ a ≠ b := by
  constructor
  · intro h e
    subst e
    simp at h
  · intro h
    by_cases c0 : (a.f0.toList == b.f0.toList) = true
    · by_cases c1 : a.f1 = b.f1
      · by_cases c2 : a.f2 = b.f2
        · by_cases c3 : a.f3 = b.f3
          · exact absurd (sc_ext a b ((tl_eq _ _).1 c0) c1 c2 c3) h
          · rw [beq_eq_false_iff_ne.2 c3]; simp
        · rw [beq_eq_false_iff_ne.2 c2]; simp
      · rw [beq_eq_false_iff_ne.2 c1]; simp
    · rw [Bool.eq_false_iff.2 c0]; simp
instance capDec : DecidableEq SO := fun a b => decidable_of_iff (a.f0 = b.f0 ∧ a.f1 = b.f1 ∧ a.f2 = b.f2 ∧ a.f3 = b.f3) ⟨fun h => sc_ext a b h.1 h.2.1 h.2.2.1 h.2.2.2, fun h => by rw [h]; exact ⟨rfl, rfl, rfl, rfl⟩⟩
theorem caps_l0 (f g : List SO) (hl : f.length = g.length) (hn : f.length ≤ 2097152) : ∀ d i k, i + d = f.length → d < k → dowelbook_Captures.l0 k f g (i : Int) = some (decide (f.drop i = g.drop i))
  | 0, i, k, hd, hk => by
    obtain ⟨k, rfl⟩ : ∃ m, k = m + 1 := ⟨k - 1, by omega⟩
    rw [dowelbook_Captures.l0, if_neg (by omega), List.drop_eq_nil_of_le (by omega), List.drop_eq_nil_of_le (by omega)]
    rfl
  | d + 1, i, k, hd, hk => by
    obtain ⟨k, rfl⟩ : ∃ m, k = m + 1 := ⟨k - 1, by omega⟩
    have hi : i < f.length := by omega
    have hi2 : i < g.length := by omega
    have e1 : rd_T60 f (i : Int) = f[i] := rd_at f i hi
    have e2 : rd_T60 g (i : Int) = g[i] := rd_at g i hi2
    rw [dowelbook_Captures.l0, if_pos (by omega), if_pos (by omega), if_pos (by omega), e1, e2, List.drop_eq_getElem_cons hi, List.drop_eq_getElem_cons hi2, w64 (by omega) (by omega)]
    by_cases hc : f[i] = g[i]
    · rw [if_neg (fun h => (cap_ne _ _).1 h hc)]
      have ih := caps_l0 f g hl hn d (i + 1) k (by omega) (by omega)
      have e3 : dowelbook_Captures.l0 k f g ((i : Int) + 1) = some (decide (f.drop (i + 1) = g.drop (i + 1))) := ih
      rw [e3]
      congr 1
      rw [Bool.eq_iff_iff, decide_eq_true_eq, decide_eq_true_eq]
      exact ⟨fun h => by rw [hc, h], fun h => by injection h⟩
    · rw [if_pos ((cap_ne _ _).2 hc)]
      congr 1
      symm
      rw [decide_eq_false_iff_not]
      intro h
      injection h with h _
      exact hc h
theorem outcomes_ev (k1 e1 : Int) (l1 : ByteArray) (f1 : List SO) (k2 e2 : Int) (l2 : ByteArray) (f2 : List SO) (hn : f1.length ≤ 2097152) (k : Nat) (hk : f1.length < k) :
    dowelbook_Outcomes.f k k1 e1 l1 f1 k2 e2 l2 f2 = some (decide (k1 = k2 ∧ e1 = e2 ∧ l1 = l2 ∧ f1 = f2)) := by
  unfold dowelbook_Outcomes.f
  by_cases h1 : k1 = k2
  · rw [if_pos h1]
    by_cases h2 : e1 = e2
    · rw [if_pos h2]
      by_cases h3 : l1 = l2
      · rw [if_pos (by rw [h3])]
        unfold dowelbook_Captures.f
        by_cases h4 : f1.length = f2.length
        · have h5 := caps_l0 f1 f2 h4 hn f1.length 0 k (by omega) hk
          rw [List.drop_zero, List.drop_zero] at h5
          have h6 : dowelbook_Captures.l0 k f1 f2 0 = some (decide (f1 = f2)) := h5
          rw [if_pos (by omega), h6, Option.bind_some]
          congr 1
          rw [Bool.eq_iff_iff, decide_eq_true_eq, decide_eq_true_eq]
          exact ⟨fun h => ⟨h1, h2, h3, h⟩, fun h => h.2.2.2⟩
        · rw [if_neg (by omega), Option.bind_some, decide_eq_false (fun h => h4 (by rw [h.2.2.2]))]
      · rw [if_neg (fun h => h3 (ba_ext (by rw [← Lib.toList_data, ← Lib.toList_data]; exact h))), decide_eq_false (fun h => h3 h.2.2.1)]
    · rw [if_neg h2, decide_eq_false (fun h => h2 h.2.1)]
  · rw [if_neg h1, decide_eq_false (fun h => h1 h.1)]
theorem few_mk (f : List SO) (h1 : f.length ≤ 2097152) (h2 : ∀ x ∈ f, x.f0.size ≤ 1073741824) (h3 : ∀ x ∈ f, -9223372036854775808 ≤ x.f1 ∧ x.f1 ≤ 9223372036854775807) (h4 : ∀ x ∈ f, -9223372036854775808 ≤ x.f2 ∧ x.f2 ≤ 9223372036854775807) : few f = true := (few_iff f).2 ⟨h1, h2, h3, h4⟩
end Go.Proofs.YtloflodbcdlmpaaDoor.Rp
namespace Go.Proofs.YtloflodbcdlmpaaDoor.Rp
open Go.RowKit Go.Proofs.YtloflodbcdlmpaaDoor.Qall Go.Proofs.YtloflodbcdlmpaaDoor.Chk Go.Proofs.YtloflodbcdlmpaaDoor.Ln Go.Proofs.YtloflodbcdlmpaaDoor.Ps Go.Proofs.YtloflodbcdlmpaaDoor.Tx Go.Proofs.YtloflodbcdlmpaaDoor.Nsa Go.Proofs.YtloflodbcdlmpaaDoor.Bk Go.Proofs.YtloflodbcdlmpaaDoor.Rdd Go.Proofs.YtloflodbcdlmpaaDoorW.PrintWords Go.Proofs.YtloflodbcdlmpaaDoorW.PrintLast Go.Proofs.YtloflodbcdlmpaaDoorW.PrintMore
open Go.Proofs.YtloflodbcdlmpaaDoor.Fo hiding val
set_option linter.unusedSimpArgs false
set_option linter.unusedVariables false
def ta : ByteArray := ⟨#[109, 97, 116, 99, 104, 101, 100, 32, 52, 10, 110, 117, 109, 32, 48, 32, 49, 10, 110, 117, 109, 32, 50, 32, 52, 10]⟩
def tb : ByteArray := ⟨#[109, 97, 116, 99, 104, 101, 100, 32, 52, 10, 97, 32, 48, 32, 53, 10]⟩
def fa : List SO := [⟨⟨#[110, 117, 109]⟩, 0, 1, 0⟩, ⟨⟨#[110, 117, 109]⟩, 2, 4, 0⟩]
theorem par_a : parR ta = (⟨1, 4, ⟨#[]⟩, fa⟩, 0, 0) := by kernel_rfl
theorem par_b : parR tb = (Out.zero, 10, 120) := by kernel_rfl
theorem out_a : outAns 1 4 ⟨#[]⟩ fa = (ta, 0) := by
  rcases par_cases ta with ⟨k, e, l, f, h1, h2, _⟩ | ⟨a, c, h1, h2, _⟩
  · rw [par_a] at h1
    injection h1 with h1 _
    injection h1 with e1 e2 e3 e4
    subst e1 e2 e3 e4
    exact h2
  · rw [par_a] at h1
    injection h1 with _ h1
    injection h1 with _ h1
    exact absurd h1.symm h2
theorem works_ev (k : Nat) (hk : 1048578 < k) : dowellaw28_works.f k = some true := by
  unfold dowellaw28_works.f
  have ha := parse_ev ta k hk
  have hb := parse_ev tb k hk
  rw [par_a] at ha
  rw [par_b] at hb
  have ha2 : report_Parse.f k ⟨#[109, 97, 116, 99, 104, 101, 100, 32, 52, 10, 110, 117, 109, 32, 48, 32, 49, 10, 110, 117, 109, 32, 50, 32, 52, 10]⟩ = some (1, 4, ⟨#[]⟩, fa, 0, 0) := ha
  have hb2 : report_Parse.f k ⟨#[109, 97, 116, 99, 104, 101, 100, 32, 52, 10, 97, 32, 48, 32, 53, 10]⟩ = some (0, 0, ⟨#[]⟩, [], 10, 120) := hb
  have ht := text_ev 1 4 ⟨#[]⟩ fa (Nat.zero_le _) (by decide +kernel)
  rw [out_a] at ht
  have htl : ta.toList = [109, 97, 116, 99, 104, 101, 100, 32, 52, 10, 110, 117, 109, 32, 48, 32, 49, 10, 110, 117, 109, 32, 50, 32, 52, 10] := by rw [Lib.toList_data]; rfl
  rw [ha2, Option.bind_some]
  dsimp only
  rw [ht, Option.bind_some, hb2, Option.bind_some]
  dsimp only
  rw [if_pos (by decide), if_pos rfl, if_pos htl, if_pos rfl, if_pos (show ((fa.length : Nat) : Int) = 2 from rfl)]
  rfl
end Go.Proofs.YtloflodbcdlmpaaDoor.Rp
