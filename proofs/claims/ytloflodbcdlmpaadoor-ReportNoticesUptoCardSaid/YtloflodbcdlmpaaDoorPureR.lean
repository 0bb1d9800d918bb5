/- The pure statement of ReportNotices: the printed law answers true. Conditions: texts of at most 2^30 bytes together. -/
import Derived.Test.YtloflodbcdlmpaaDoorPureK
import Derived.Test.YtloflodbcdlmpaaDoorSayReportNotices
import Derived.Lib.ItoaLen
namespace Go.Proofs.YtloflodbcdlmpaaDoor.Qall
open Go.RowKit Go.Proofs.YtloflodbcdlmpaaDoorW.PrintWords Go.Proofs.YtloflodbcdlmpaaDoorW.PrintLast Go.Proofs.YtloflodbcdlmpaaDoorW.PrintMore
set_option linter.unusedSimpArgs false

theorem text_le (l : ByteArray) (mark all width : Int) : (place_Excerpt.text l mark all width).length ≤ 4 * l.size + 3 + (mark - place_Excerpt.first mark all width).toNat := by
  unfold place_Excerpt.text
  have := place_Excerpt.from_le l (place_Excerpt.first mark all width) (place_Excerpt.first mark all width + width - 1) all l.size 0 0
  simp
  omega
theorem excAns_le (s : ByteArray) (at_ w : Int) : (excAns s at_ w).1.size ≤ 5 * s.size + 10 := by
  unfold excAns
  split
  · show (⟨#[]⟩ : ByteArray).size ≤ _
    show 0 ≤ _
    omega
  · rename_i h
    obtain ⟨a, rfl⟩ : ∃ a : Nat, at_ = a := ⟨at_.toNat, by omega⟩
    have ha : a ≤ s.size := by omega
    simp only [Int.toNat_natCast]
    obtain ⟨z1, z2, z3⟩ := lineOf_size s a ha
    have hel := ends_le (lineOf s a) (a - ls s.data.toList a) (lineOf s a).size 0
    have ht := text_le (lineOf s a) (1 + (ends (lineOf s a) (a - ls s.data.toList a) (lineOf s a).size 0 : Int)) ((chars (lineOf s a)).length : Int) w
    have hf : 1 ≤ place_Excerpt.first (1 + (ends (lineOf s a) (a - ls s.data.toList a) (lineOf s a).size 0 : Int)) ((chars (lineOf s a)).length : Int) w := by unfold place_Excerpt.first; omega
    have e : ∀ l : List UInt8, (⟨l.toArray⟩ : ByteArray).size = l.length := fun l => by show l.toArray.size = _; simp
    rw [e]
    omega
theorem strOf_digit (c : Nat) (h : c < 10) : strOfNums ([(wrap64 (48 + (c : Int))) % 256] : List Int) = ⟨#[UInt8.ofNat (48 + c)]⟩ := by
  rw [wrap_of (by omega) (by omega)]
  rcases (show c = 0 ∨ c = 1 ∨ c = 2 ∨ c = 3 ∨ c = 4 ∨ c = 5 ∨ c = 6 ∨ c = 7 ∨ c = 8 ∨ c = 9 by omega) with rfl | rfl | rfl | rfl | rfl | rfl | rfl | rfl | rfl | rfl <;> rfl
theorem dec_small (n : Nat) (h : n < 10) : Lib.decDigits n = [UInt8.ofNat (48 + n)] := Lib.decDigits_one h
theorem dec_big (n : Nat) (h : ¬ n < 10) : Lib.decDigits n = Lib.decDigits (n / 10) ++ [UInt8.ofNat (48 + n % 10)] := by rw [Lib.decDigits, dif_neg h]
theorem dec_len : ∀ (d n : Nat), n < 10 ^ d → 1 ≤ d → (Lib.decDigits n).length ≤ d
  | 0, _, _, h => by omega
  | d + 1, n, h, _ => by
    by_cases c : n < 10
    · rw [dec_small n c]; simp
    · rw [dec_big n c, List.length_append]
      have : n / 10 < 10 ^ d := by rw [Nat.pow_succ] at h; omega
      have hd : 1 ≤ d := by
        cases d with
        | zero => simp at this; omega
        | succ d => omega
      have := dec_len d (n / 10) this hd
      simp
      exact this
theorem digits_eq : ∀ (d k n : Nat), n < 10 ^ d → n ≤ 9223372036854775807 → d ≤ 30 → 1 ≤ d → d ≤ k → dowelref04_Digits.f k (n : Int) = some ⟨(Lib.decDigits n).toArray⟩
  | 0, _, _, _, _, _, h, _ => by omega
  | d + 1, k, n, h, hn, hd, _, hk => by
    obtain ⟨k, rfl⟩ : ∃ m, k = m + 1 := ⟨k - 1, by omega⟩
    rw [dowelref04_Digits.f]
    by_cases c : n < 10
    · rw [if_pos (by omega), strOf_digit n c, dec_small n c]
    · have h1 : n / 10 < 10 ^ d := by rw [Nat.pow_succ] at h; omega
      have hd1 : 1 ≤ d := by
        cases d with
        | zero => simp at h1; omega
        | succ d => omega
      have e1 : Int.tdiv (n : Int) 10 = ((n / 10 : Nat) : Int) := by rw [Int.tdiv_eq_ediv_of_nonneg (by omega)]; omega
      have e2 : Int.tmod (n : Int) 10 = ((n % 10 : Nat) : Int) := by rw [Int.tmod_eq_emod_of_nonneg (by omega)]; omega
      rw [if_neg (by omega), e1, wrap_of (by omega) (by omega), digits_eq d k (n / 10) h1 (by omega) (by omega) hd1 (by omega), Option.bind_some, Option.bind_some, e2, strOf_digit (n % 10) (by omega)]
      have hl := dec_len d (n / 10) h1 hd1
      have e : ∀ l : List UInt8, (⟨l.toArray⟩ : ByteArray).size = l.length := fun l => by show l.toArray.size = _; simp
      rw [if_pos (by rw [e, show (⟨#[UInt8.ofNat (48 + n % 10)]⟩ : ByteArray).size = 1 from rfl]; omega), dec_big n c]
      congr 1
def dig (n : Nat) : ByteArray := ⟨(Lib.decDigits n).toArray⟩
theorem dig_size (n : Nat) (h : n ≤ 9223372036854775808) : (dig n).size ≤ 19 := by
  have := dec_len 19 n (by omega) (by omega)
  show (Lib.decDigits n).toArray.size ≤ _
  simpa using this
theorem digits_any (k n : Nat) (hn : n ≤ 9223372036854775807) (hk : 19 ≤ k) : dowelref04_Digits.f k (n : Int) = some (dig n) := digits_eq 19 k n (by omega) hn (by omega) (by omega) hk
theorem itoa_any (n : Nat) (hn : n ≤ 9223372036854775807) : strconv_Itoa.f (n : Int) = some (dig n) := by
  unfold strconv_Itoa.f
  rw [if_pos (by omega), Lib.itoa_nonneg]
  rfl
theorem whole_eq (k : Nat) (hk : 19 ≤ k) (n : Int) (h0 : -9223372036854775808 ≤ n) (h1 : n ≤ 9223372036854775807) : ∃ r, r.size ≤ 21 ∧ dowelref28_Whole.f k n = some r ∧ strconv_Itoa.f n = some r := by
  have e : ∀ l : List UInt8, (⟨l.toArray⟩ : ByteArray).size = l.length := fun l => by show l.toArray.size = _; simp
  by_cases c : 0 ≤ n
  · obtain ⟨u, rfl⟩ : ∃ u : Nat, n = u := ⟨n.toNat, by omega⟩
    refine ⟨dig u, by have := dig_size u (by omega); omega, ?_, itoa_any u (by omega)⟩
    unfold dowelref28_Whole.f
    rw [if_pos (by omega), digits_any k u (by omega) hk]
    rfl
  · obtain ⟨u, rfl⟩ : ∃ u : Nat, n = -(u : Int) := ⟨n.natAbs, by omega⟩
    have hu : 1 ≤ u := by omega
    have t1 : Int.tdiv (-(u : Int)) 10 = -((u / 10 : Nat) : Int) := by rw [Int.neg_tdiv, Int.tdiv_eq_ediv_of_nonneg (by omega)]; omega
    have t2 : Int.tmod (-(u : Int)) 10 = -((u % 10 : Nat) : Int) := by rw [Int.neg_tmod, Int.tmod_eq_emod_of_nonneg (by omega)]; omega
    have hw1 : True → wrap64 (-((u / 10 : Nat) : Int)) = -((u / 10 : Nat) : Int) := fun _ => wrap_of (by omega) (by omega)
    have hw2 : True → wrap64 (-(-((u / 10 : Nat) : Int))) = ((u / 10 : Nat) : Int) := fun _ => by rw [wrap_of (by omega) (by omega)]; omega
    have hw3 : True → wrap64 (-(-((u % 10 : Nat) : Int))) = ((u % 10 : Nat) : Int) := fun _ => by rw [wrap_of (by omega) (by omega)]; omega
    refine ⟨⟨(45 :: Lib.decDigits u).toArray⟩, ?_, ?_, ?_⟩
    · rw [e]
      have := dec_len 19 u (by omega) (by omega)
      simp
      omega
    · have hd1 := dig_size (u / 10) (by omega)
      have hd2 := dig_size (u % 10) (by omega)
      unfold dowelref28_Whole.f dowelref28_zero.f
      rw [if_neg (by omega), t1, t2, hw1 trivial, hw2 trivial, hw3 trivial, digits_any k (u / 10) (by omega) hk, digits_any k (u % 10) (by omega) hk, Option.bind_some]
      by_cases g : u < 10
      · have hs : 1 ≤ (dig (u / 10)).size := by
          rw [show u / 10 = 0 from by omega]
          show 1 ≤ (Lib.decDigits 0).toArray.size
          rw [dec_small 0 (by omega)]
          simp
        have hs1 : (dig (u / 10)).size = 1 := by
          rw [show u / 10 = 0 from by omega]
          show (Lib.decDigits 0).toArray.size = 1
          rw [dec_small 0 (by omega)]
          simp
        rw [if_pos (by omega), Option.bind_some, if_pos (by omega), if_pos (by omega), if_pos (by rw [ByteArray.size_extract]; omega), Option.bind_some, if_pos (by rw [ByteArray.size_append, ByteArray.size_extract, show (⟨#[45]⟩ : ByteArray).size = 1 from rfl]; omega)]
        congr 1
        apply Go.WideShapes.bytes_inj
        rw [ByteArray.data_append, ByteArray.data_append]
        simp only [Array.toList_append]
        rw [data_extract, List.drop_eq_nil_of_le (by rw [← size_list]; omega), List.take_nil, List.append_nil]
        show [45] ++ (Lib.decDigits (u % 10)).toArray.toList = _
        rw [dec_small (u % 10) (by omega), dec_small u g, show u % 10 = u from by omega]
        rfl
      · rw [if_neg (by omega), Option.bind_some, if_pos (by omega), if_pos (by omega), if_pos (by rw [ByteArray.size_extract]; omega), Option.bind_some, if_pos (by rw [ByteArray.size_append, ByteArray.size_extract, show (⟨#[45]⟩ : ByteArray).size = 1 from rfl]; omega)]
        congr 1
        apply Go.WideShapes.bytes_inj
        rw [ByteArray.data_append, ByteArray.data_append]
        simp only [Array.toList_append]
        rw [data_extract, show (0 : Int).toNat = 0 from rfl, List.drop_zero, List.take_of_length_le (by rw [← size_list]; omega), dec_big u g]
        show [45] ++ (Lib.decDigits (u / 10)).toArray.toList ++ (Lib.decDigits (u % 10)).toArray.toList = _
        rw [dec_small (u % 10) (by omega)]
        simp
    · unfold strconv_Itoa.f
      rw [if_pos (by omega), Lib.itoa_neg u hu]
theorem app_size (a b : ByteArray) : (a ++ b).size = a.size + b.size := ByteArray.size_append
theorem notice_eq (file text : ByteArray) (hf : file.size ≤ 1073741824) (hn : text.size ≤ 1073741824) (at_ code : Int) (h0 : -9223372036854775808 ≤ code) (h1 : code ≤ 9223372036854775807) :
    ∃ r, ∀ k, 4 * text.size + 2147483648 + 60 < k → report_Notice.f k file text at_ code = some r ∧ dowelref28_Notice.f k file text at_ code = some r := by
  by_cases c : at_ < 0 ∨ (text.size : Int) < at_
  · refine ⟨(⟨#[]⟩, 5), fun k hk => ?_⟩
    have hok := spotAns_ok text at_
    rw [if_pos c] at hok
    unfold report_Notice.f dowelref28_Notice.f
    rw [spot_eq text hn at_ _ (by omega), refSpot_eq text hn at_ _ (by omega), Option.bind_some, Option.bind_some, hok, if_neg (by omega), if_neg (by omega)]
    exact ⟨rfl, rfl⟩
  · obtain ⟨a, rfl⟩ : ∃ a : Nat, at_ = a := ⟨at_.toNat, by omega⟩
    have ha : a ≤ text.size := by omega
    have hl := ls_le text.data.toList a
    have hcl := cnt_le text.data.toList a
    have hok := spotAns_ok text (a : Int)
    rw [if_neg c] at hok
    have es : spotAns text (a : Int) = (((cnt text.data.toList a + 1 : Nat) : Int), ((a - ls text.data.toList a + 1 : Nat) : Int), 1 + (ends (lineOf text a) (a - ls text.data.toList a) (lineOf text a).size 0 : Int), 0) := by
      unfold spotAns
      rw [if_neg c]
      simp only [Int.toNat_natCast]
      rw [show ((a : Int) - (ls text.data.toList a : Int) + 1) = ((a - ls text.data.toList a + 1 : Nat) : Int) from by omega]
      rfl
    have hx := excAns_le text (a : Int) 72
    have hx2 : (excAns text (a : Int) 72).2 = 0 := by unfold excAns; rw [if_neg (by omega)]
    generalize hX : (excAns text (a : Int) 72) = X at hx hx2
    obtain ⟨x, e⟩ := X
    simp only at hx hx2
    subst hx2
    have d1 := dig_size (cnt text.data.toList a + 1) (by omega)
    have d2 := dig_size (a - ls text.data.toList a + 1) (by omega)
    generalize hA : dig (cnt text.data.toList a + 1) = A at d1
    generalize hB : dig (a - ls text.data.toList a + 1) = B at d2
    obtain ⟨W, hW, hw1, hw2⟩ := whole_eq 19 (by omega) code h0 h1
    refine ⟨if ((file.size + 10 + (A.size + B.size + W.size + x.size) + 1 : Nat) : Int) > 4194304 then (⟨#[]⟩, 2) else (((((((file ++ (⟨#[58]⟩ : ByteArray)) ++ A) ++ (⟨#[58]⟩ : ByteArray)) ++ B) ++ (⟨#[58, 32, 101, 114, 114, 111, 114, 32]⟩ : ByteArray)) ++ W) ++ (⟨#[10]⟩ : ByteArray) ++ x, 0), fun k hk => ?_⟩
    have hw3 : dowelref28_Whole.f k code = some W := by
      obtain ⟨W', _, w1, w2⟩ := whole_eq k (by omega) code h0 h1
      rw [w1, ← w2, hw2]
    have s1 : (⟨#[58]⟩ : ByteArray).size = 1 := rfl
    have s8 : (⟨#[58, 32, 101, 114, 114, 111, 114, 32]⟩ : ByteArray).size = 8 := rfl
    have s2 : (⟨#[10]⟩ : ByteArray).size = 1 := rfl
    constructor
    · unfold report_Notice.f
      rw [spot_eq text hn _ _ (by omega), Option.bind_some, es]
      dsimp +instances only
      rw [if_pos rfl, exc_eq text hn, Option.bind_some, hX]
      dsimp +instances only
      rw [if_pos rfl, itoa_any _ (by omega), itoa_any _ (by omega), hA, hB, hw2]
      by_cases g : (file.size : Int) > 4194304
      · rw [if_pos g, if_pos (by omega)]
      · rw [if_neg g, if_pos (by omega), Option.bind_some]
        simp only [app_size, s1, s2, s8, Option.bind_some]
        rw [if_pos (by omega), if_pos (by omega), if_pos (by omega), if_pos (by omega), if_pos (by omega), if_pos (by omega), if_pos (by omega)]
        by_cases g2 : ((file.size + 10 + (A.size + B.size + W.size + x.size) + 1 : Nat) : Int) > 4194304
        · rw [if_pos g2, if_pos (by omega)]
        · rw [if_neg g2, if_neg (by omega)]
    · unfold dowelref28_Notice.f
      rw [refSpot_eq text hn _ _ (by omega), Option.bind_some, es]
      dsimp +instances only
      rw [if_pos rfl, refExc_eq text hn _ _ _ (by omega), Option.bind_some, hX]
      dsimp +instances only
      rw [digits_any k _ (by omega) (by omega), digits_any k _ (by omega) (by omega), hA, hB, hw3]
      simp only [app_size, s1, s2, s8, Option.bind_some]
      rw [if_pos (by omega), if_pos (by omega), if_pos (by omega), if_pos (by omega), if_pos (by omega), if_pos (by omega), if_pos (by omega), wrap_of (by omega) (by omega)]
      by_cases g2 : ((file.size + 10 + (A.size + B.size + W.size + x.size) + 1 : Nat) : Int) > 4194304
      · rw [if_pos g2, if_pos (by omega)]
      · rw [if_neg g2, if_neg (by omega), if_pos (by omega)]
        congr 2
        apply Go.WideShapes.bytes_inj
        simp [ByteArray.data_append, List.append_assoc]
theorem notice_one : ∃ k, dowelref28_Notice.f k (⟨#[103]⟩ : ByteArray) (⟨#[97, 98, 10, 99]⟩ : ByteArray) 4 50 = some (⟨#[103, 58, 50, 58, 50, 58, 32, 101, 114, 114, 111, 114, 32, 53, 48, 10, 99, 10, 32, 94, 10]⟩, 0) := ⟨300, by decide +kernel⟩
theorem ReportNotices_any (file text : ByteArray) (hf : file.size ≤ 1073741824) (hn : text.size ≤ 1073741824) (at_ code : Int) (h0 : -9223372036854775808 ≤ code) (h1 : code ≤ 9223372036854775807) : ∃ k, dowellaw28_ReportNotices.f k file text at_ code = some true := by
  obtain ⟨r, hr⟩ := notice_eq file text hf hn at_ code h0 h1
  obtain ⟨q, hq⟩ := notice_eq (⟨#[103]⟩ : ByteArray) (⟨#[97, 98, 10, 99]⟩ : ByteArray) (by decide) (by decide) 4 50 (by decide) (by decide)
  obtain ⟨K, hK⟩ := notice_one
  have hev := Ev.of (dowelref28_Notice.mono _ _ _ _) hK
  obtain ⟨K2, hK2⟩ := hev
  refine ⟨K2 + 4 * text.size + 2147483648 + 100, ?_⟩
  have q1 := hq (K2 + 4 * text.size + 2147483648 + 100) (by show 4 * 4 + 2147483648 + 60 < _; omega)
  have q2 := hK2 (K2 + 4 * text.size + 2147483648 + 100) (by omega)
  obtain rfl := Option.some.inj (q1.2.symm.trans q2)
  unfold dowellaw28_ReportNotices.f
  rw [(hr _ (by omega)).1, Option.bind_some, (hr _ (by omega)).2, Option.bind_some, if_pos rfl, if_pos rfl, q1.1, Option.bind_some, if_pos (by rw [ByteArray.toList_eq])]
  rfl
theorem ReportNotices_pure : ReportNotices.Upto := fun file text f hm h1 => by
  exact ReportNotices_any file text (by omega) (by omega) f.f0 f.f1 (wf64 h1.2).1 (wf64 h1.2).2
end Go.Proofs.YtloflodbcdlmpaaDoor.Qall
