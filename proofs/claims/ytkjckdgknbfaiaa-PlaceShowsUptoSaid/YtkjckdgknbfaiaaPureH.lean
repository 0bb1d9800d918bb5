/- The pure statement of PlaceExcerpts: the printed law answers true. Conditions: a text of at most 2^30 bytes. -/
import Derived.Test.YtkjckdgknbfaiaaPureF
import Derived.Test.YtkjckdgknbfaiaaSayPlaceExcerpts
namespace Go.Proofs.Ytkjckdgknbfaiaa.Qall
open Go.RowKit Go.Proofs.YtkjckdgknbfaiaaW.PrintWords Go.Proofs.YtkjckdgknbfaiaaW.PrintLast Go.Proofs.YtkjckdgknbfaiaaW.PrintMore
set_option linter.unusedSimpArgs false

theorem byte_of (l : List UInt8) (i : Nat) (c : Nat) (h : by_ l i = c) : l.getD i 0 = UInt8.ofNat c := by
  unfold by_ at h
  apply UInt8.toNat_inj.1
  rw [h]
  have := by_lt l i
  unfold by_ at this
  rw [h] at this
  simp
  omega
theorem drop_cons (l : List UInt8) (i : Nat) (h : i < l.length) : l.drop i = l.getD i 0 :: l.drop (i + 1) := by
  rw [List.drop_eq_getElem_cons h, List.getD_eq_getElem?_getD, List.getElem?_eq_getElem h]
  rfl
theorem list_extract (s : ByteArray) (a b : Nat) : (s.extract a b).data.toList = (s.data.toList.drop a).take (b - a) := data_extract s a b
def encN (c : Nat) : List UInt8 :=
  if c < 0x80 then [UInt8.ofNat c]
  else if c < 0x800 then [UInt8.ofNat (0xC0 + c / 64), UInt8.ofNat (0x80 + c % 64)]
  else if c < 0x10000 then [UInt8.ofNat (0xE0 + c / 4096), UInt8.ofNat (0x80 + c / 64 % 64), UInt8.ofNat (0x80 + c % 64)]
  else [UInt8.ofNat (0xF0 + c / 262144), UInt8.ofNat (0x80 + c / 4096 % 64), UInt8.ofNat (0x80 + c / 64 % 64), UInt8.ofNat (0x80 + c % 64)]
theorem encode_encN (c : Nat) (hv : Utf8.valid (c : Int) = true) : (Utf8.encode (c : Int)).data.toList = encN c := by
  have e : (if Utf8.valid (c : Int) then (c : Int).toNat else Utf8.runeError) = c := by rw [if_pos hv]; rfl
  unfold Utf8.encode
  simp only [e]
  unfold encN
  split
  · rfl
  · split
    · rfl
    · split <;> rfl
theorem enc_one (c : Nat) (h : c < 0x80) : (Utf8.encode (c : Int)).data.toList = [UInt8.ofNat c] := by
  rw [encode_encN c ((valid_iff c).2 (by omega))]
  unfold encN
  rw [if_pos h]
theorem enc_two (c : Nat) (h0 : 0x80 ≤ c) (h : c < 0x800) : (Utf8.encode (c : Int)).data.toList = [UInt8.ofNat (0xC0 + c / 64), UInt8.ofNat (0x80 + c % 64)] := by
  rw [encode_encN c ((valid_iff c).2 (by omega))]
  unfold encN
  rw [if_neg (by omega), if_pos h]
theorem enc_three (c : Nat) (hv : Utf8.valid (c : Int) = true) (h0 : 0x800 ≤ c) (h : c < 0x10000) : (Utf8.encode (c : Int)).data.toList = [UInt8.ofNat (0xE0 + c / 4096), UInt8.ofNat (0x80 + c / 64 % 64), UInt8.ofNat (0x80 + c % 64)] := by
  rw [encode_encN c hv]
  unfold encN
  rw [if_neg (by omega), if_neg (by omega), if_pos h]
theorem enc_four (c : Nat) (hv : Utf8.valid (c : Int) = true) (h : 0x10000 ≤ c) : (Utf8.encode (c : Int)).data.toList = [UInt8.ofNat (0xF0 + c / 262144), UInt8.ofNat (0x80 + c / 4096 % 64), UInt8.ofNat (0x80 + c / 64 % 64), UInt8.ofNat (0x80 + c % 64)] := by
  rw [encode_encN c hv]
  unfold encN
  rw [if_neg (by omega), if_neg (by omega), if_neg (by omega)]
/-- What was decoded, written again, is what stood there. -/
theorem enc_dec (s : ByteArray) (p : Nat) (hp : p < s.size) (hne : (Utf8.decode s p).1 ≠ 0xFFFD) : s.extract p (p + (Utf8.decode s p).2) = Utf8.encode ((Utf8.decode s p).1 : Int) := by
  apply Go.WideShapes.bytes_inj
  have hp' : p < s.data.toList.length := by rw [← size_list]; exact hp
  rw [list_extract, Nat.add_sub_cancel_left]
  rw [decode_decN] at hne ⊢
  have l0 := by_lt s.data.toList p
  have l1 := by_lt s.data.toList (p + 1)
  have l2 := by_lt s.data.toList (p + 2)
  have l3 := by_lt s.data.toList (p + 3)
  generalize h0 : by_ s.data.toList p = b0 at hne l0 ⊢
  generalize h1 : by_ s.data.toList (p + 1) = b1 at hne l1 ⊢
  generalize h2 : by_ s.data.toList (p + 2) = b2 at hne l2 ⊢
  generalize h3 : by_ s.data.toList (p + 3) = b3 at hne l3 ⊢
  have g0 := byte_of _ _ _ h0
  have g1 := byte_of _ _ _ h1
  have g2 := byte_of _ _ _ h2
  have g3 := byte_of _ _ _ h3
  unfold decN at hne ⊢
  by_cases c0 : b0 < 0x80
  · rw [if_pos c0] at hne ⊢
    dsimp only
    rw [enc_one b0 c0, drop_cons _ _ hp', g0]
    rfl
  · rw [if_neg c0] at hne ⊢
    by_cases c1 : (b0 / 32 == 6 && (decide (p + 1 < s.size) && b1 / 64 == 2)) = true
    · rw [if_pos c1] at hne ⊢
      simp at c1
      obtain ⟨a1, a2, a3⟩ := c1
      by_cases d1 : (b0 % 32) * 64 + b1 % 64 ≥ 0x80
      · rw [if_pos d1] at hne ⊢
        dsimp only
        rw [enc_two _ d1 (by omega), drop_cons _ _ hp', drop_cons _ _ (by rw [← size_list]; exact a2), g0, g1, show 0xC0 + (b0 % 32 * 64 + b1 % 64) / 64 = b0 by omega, show 0x80 + (b0 % 32 * 64 + b1 % 64) % 64 = b1 by omega]
        rfl
      · rw [if_neg d1] at hne; exact absurd rfl hne
    · rw [if_neg c1] at hne ⊢
      by_cases c2 : (b0 / 16 == 14 && (decide (p + 1 < s.size) && b1 / 64 == 2) && (decide (p + 2 < s.size) && b2 / 64 == 2)) = true
      · rw [if_pos c2] at hne ⊢
        simp at c2
        obtain ⟨⟨a1, a2, a3⟩, a4, a5⟩ := c2
        by_cases d1 : (decide ((b0 % 16) * 4096 + (b1 % 64) * 64 + b2 % 64 ≥ 0x800) && Utf8.valid (((b0 % 16) * 4096 + (b1 % 64) * 64 + b2 % 64 : Nat) : Int)) = true
        · rw [if_pos d1] at hne ⊢
          rw [Bool.and_eq_true, decide_eq_true_iff] at d1
          dsimp only
          rw [enc_three _ d1.2 d1.1 (by omega), drop_cons _ _ hp', drop_cons _ _ (by rw [← size_list]; omega), drop_cons _ _ (by rw [← size_list]; omega), g0, g1, g2, show 0xE0 + (b0 % 16 * 4096 + b1 % 64 * 64 + b2 % 64) / 4096 = b0 by omega, show 0x80 + (b0 % 16 * 4096 + b1 % 64 * 64 + b2 % 64) / 64 % 64 = b1 by omega, show 0x80 + (b0 % 16 * 4096 + b1 % 64 * 64 + b2 % 64) % 64 = b2 by omega]
          rfl
        · rw [if_neg d1] at hne; exact absurd rfl hne
      · rw [if_neg c2] at hne ⊢
        by_cases c3 : (b0 / 8 == 30 && (decide (p + 1 < s.size) && b1 / 64 == 2) && (decide (p + 2 < s.size) && b2 / 64 == 2) && (decide (p + 3 < s.size) && b3 / 64 == 2)) = true
        · rw [if_pos c3] at hne ⊢
          simp at c3
          obtain ⟨⟨⟨a1, a2, a3⟩, a4, a5⟩, a6, a7⟩ := c3
          by_cases d1 : (decide ((b0 % 8) * 262144 + (b1 % 64) * 4096 + (b2 % 64) * 64 + b3 % 64 ≥ 0x10000) && Utf8.valid (((b0 % 8) * 262144 + (b1 % 64) * 4096 + (b2 % 64) * 64 + b3 % 64 : Nat) : Int)) = true
          · rw [if_pos d1] at hne ⊢
            rw [Bool.and_eq_true, decide_eq_true_iff] at d1
            dsimp only
            rw [enc_four _ d1.2 d1.1, drop_cons _ _ hp', drop_cons _ _ (by rw [← size_list]; omega), drop_cons _ _ (by rw [← size_list]; omega), drop_cons _ _ (by rw [← size_list]; omega), g0, g1, g2, g3, show 0xF0 + (b0 % 8 * 262144 + b1 % 64 * 4096 + b2 % 64 * 64 + b3 % 64) / 262144 = b0 by omega, show 0x80 + (b0 % 8 * 262144 + b1 % 64 * 4096 + b2 % 64 * 64 + b3 % 64) / 4096 % 64 = b1 by omega, show 0x80 + (b0 % 8 * 262144 + b1 % 64 * 4096 + b2 % 64 * 64 + b3 % 64) / 64 % 64 = b2 by omega, show 0x80 + (b0 % 8 * 262144 + b1 % 64 * 4096 + b2 % 64 * 64 + b3 % 64) % 64 = b3 by omega]
            rfl
          · rw [if_neg d1] at hne; exact absurd rfl hne
        · rw [if_neg c3] at hne; exact absurd rfl hne
theorem charsFrom_mem (s : ByteArray) : ∀ f pos c, c ∈ charsFrom s f pos → ∃ p, p < s.size ∧ c = ⟨(p : Int), ((Utf8.decode s p).2 : Int), ((Utf8.decode s p).1 : Int)⟩
  | 0, pos, c, h => by simp [charsFrom] at h
  | f + 1, pos, c, h => by
    rw [charsFrom] at h
    by_cases g : pos < s.size
    · rw [if_pos g] at h
      rcases List.mem_cons.1 h with rfl | h
      · exact ⟨pos, g, rfl⟩
      · exact charsFrom_mem s f _ c h
    · rw [if_neg g] at h; cases h
theorem shown_eq (s : ByteArray) (hn : s.size ≤ 1073741824) (c : S31) (h : c ∈ chars s) : dowelref02_shown.f s c.f0 c.f1 c.f2 = some (place_shown.s c.f2) := by
  obtain ⟨p, hp, rfl⟩ := charsFrom_mem s _ _ c h
  have hw := width_le s p hp
  have hd := enc_dec s p hp
  unfold dowelref02_shown.f place_shown.s
  dsimp +instances only
  have w1 : wrap64 ((p : Int) + ((Utf8.decode s p).2 : Int)) = ((p + (Utf8.decode s p).2 : Nat) : Int) := by rw [wrap_of (by omega) (by omega)]; omega
  have ex : (Utf8.decode s p).1 ≠ 65533 → (if 0 ≤ (p : Int) then (if (p : Int) ≤ wrap64 ((p : Int) + ((Utf8.decode s p).2 : Int)) then (if wrap64 ((p : Int) + ((Utf8.decode s p).2 : Int)) ≤ (s.size : Int) then some (s.extract (p : Int).toNat (wrap64 ((p : Int) + ((Utf8.decode s p).2 : Int))).toNat) else none) else none) else none) = some (Utf8.encode ((Utf8.decode s p).1 : Int)) := by
    intro hne
    rw [w1, if_pos (by omega), if_pos (by omega), if_pos (by omega), Int.toNat_natCast, Int.toNat_natCast, hd hne]
  by_cases c9 : ((Utf8.decode s p).1 : Int) = 9
  · rw [if_pos c9, if_pos c9]
  · rw [if_neg c9, if_neg c9]
    by_cases c1 : ((Utf8.decode s p).1 : Int) ≥ 32
    · rw [if_pos c1]
      by_cases c2 : ((Utf8.decode s p).1 : Int) ≤ 126
      · rw [if_pos c2, if_pos (show (32 ≤ ((Utf8.decode s p).1 : Int) ∧ ((Utf8.decode s p).1 : Int) ≤ 126) ∨ (160 ≤ ((Utf8.decode s p).1 : Int) ∧ ((Utf8.decode s p).1 : Int) ≠ 65533) from .inl ⟨c1, c2⟩)]
        exact ex (by omega)
      · rw [if_neg c2]
        by_cases c3 : ((Utf8.decode s p).1 : Int) ≥ 160
        · rw [if_pos c3]
          by_cases c4 : ((Utf8.decode s p).1 : Int) = 65533
          · rw [if_pos c4, if_neg (by omega)]
          · rw [if_neg c4, if_pos (show (32 ≤ ((Utf8.decode s p).1 : Int) ∧ ((Utf8.decode s p).1 : Int) ≤ 126) ∨ (160 ≤ ((Utf8.decode s p).1 : Int) ∧ ((Utf8.decode s p).1 : Int) ≠ 65533) from .inr ⟨c3, c4⟩)]
            exact ex (by omega)
        · rw [if_neg c3, if_neg (by omega)]
    · rw [if_neg c1]
      have c3 : ¬ ((Utf8.decode s p).1 : Int) ≥ 160 := by omega
      rw [if_neg c3, if_neg (by omega)]
def pieces (F L all : Int) : List S31 → Int → List UInt8
  | [], _ => []
  | c :: cs, n => place_Excerpt.piece F L all (n + 1) c.f2.toNat ++ pieces F L all cs (n + 1)
theorem from_pieces (s : ByteArray) (F L all : Int) : ∀ f pos n, place_Excerpt.from_ s F L all f pos n = pieces F L all (charsFrom s f pos) n
  | 0, _, _ => rfl
  | f + 1, pos, n => by
    rw [place_Excerpt.from_, charsFrom]
    by_cases c : pos < s.size
    · rw [if_pos c, if_pos c, pieces, from_pieces s F L all f _ _]
      rfl
    · rw [if_neg c, if_neg c]; rfl
theorem pieces_skip (F L all : Int) : ∀ (j : Nat) (cs : List S31) (n : Int), n + j < F → pieces F L all cs n = pieces F L all (cs.drop j) (n + j)
  | 0, cs, n, h => by simp
  | j + 1, [], n, h => by simp [pieces]
  | j + 1, c :: cs, n, h => by
    rw [pieces, List.drop_succ_cons, pieces_skip F L all j cs (n + 1) (by omega)]
    unfold place_Excerpt.piece
    rw [if_pos (by omega), List.nil_append, show n + 1 + (j : Int) = n + ((j + 1 : Nat) : Int) from by omega]
theorem pieces_done (F L all : Int) : ∀ (cs : List S31) (n : Int), L ≤ n → F ≤ n + 1 → pieces F L all cs n = []
  | [], _, _, _ => rfl
  | c :: cs, n, h, h2 => by
    rw [pieces, pieces_done F L all cs (n + 1) (by omega) (by omega)]
    unfold place_Excerpt.piece
    rw [if_neg (by omega), if_pos (by omega)]
    rfl
def cat (a : ByteArray) (l : List UInt8) : ByteArray := ⟨(a.data.toList ++ l).toArray⟩
theorem cat_nil (a : ByteArray) : cat a [] = a := by apply Go.WideShapes.bytes_inj; simp [cat]
theorem cat_cat (a : ByteArray) (l m : List UInt8) : cat (cat a l) m = cat a (l ++ m) := by apply Go.WideShapes.bytes_inj; simp [cat]
theorem append_cat (a b : ByteArray) : a ++ b = cat a b.data.toList := by apply Go.WideShapes.bytes_inj; simp [cat, ByteArray.data_append]
theorem cat_size (a : ByteArray) (l : List UInt8) : (cat a l).size = a.size + l.length := by
  rw [size_list, size_list a]
  simp [cat]
theorem exc_l1 : ∀ (d k : Nat) (out : ByteArray) (n rune x y : Int), rune - n ≤ d → d < k → out.size + d ≤ 1099511627776 → -1099511627776 ≤ n → rune ≤ 1099511627776 →
    dowelref02_Excerpt.l1 k out n x y rune = some (cat out (List.replicate (rune - n).toNat 32 ++ [94, 10]), 0) := by
  intro d
  induction d with
  | zero =>
    intro k out n rune x y h1 hk hs h2 h3
    obtain ⟨k, rfl⟩ : ∃ m, k = m + 1 := ⟨k - 1, by omega⟩
    rw [dowelref02_Excerpt.l1, if_neg (by omega), if_pos (by omega), append_cat, show (rune - n).toNat = 0 from by omega]
    rfl
  | succ d ih =>
    intro k out n rune x y h1 hk hs h2 h3
    obtain ⟨k, rfl⟩ : ∃ m, k = m + 1 := ⟨k - 1, by omega⟩
    rw [dowelref02_Excerpt.l1]
    by_cases c : n < rune
    · rw [if_pos c, if_pos (by omega), append_cat, wrap_of (by omega) (by omega), ih k _ (n + 1) rune x y (by omega) (by omega) (by rw [cat_size]; simp; omega) (by omega) h3, cat_cat, show (rune - n).toNat = (rune - (n + 1)).toNat + 1 from by omega, List.replicate_succ]
      rfl
    · rw [if_neg c, if_pos (by omega), append_cat, show (rune - n).toNat = 0 from by omega]
      rfl
theorem exc_l0 (row : ByteArray) (hn : row.size ≤ 1073741824) (w F rune x y : Int) (hw : 8 ≤ w) (hw2 : w ≤ 200) (hF : 1 ≤ F) (hF2 : F ≤ rune) (hr : rune ≤ 2147483648) : ∀ (d k : Nat) (n : Nat) (out : ByteArray),
    n + d = (chars row).length + 1 → 3 * d + 2147483648 + 5 < k → F ≤ n → 1 ≤ n → out.size ≤ 4 * n →
    dowelref02_Excerpt.l0 k w row (chars row) ((chars row).length : Int) F out (n : Int) x y rune =
      some (cat out (pieces F (F + w - 1) ((chars row).length : Int) ((chars row).drop (n - 1)) ((n : Int) - 1) ++ [10] ++ List.replicate (rune - F).toNat 32 ++ [94, 10]), 0) := by
  have hcl := chars_le row
  intro d
  induction d with
  | zero =>
    intro k n out h1 hk h2 h3 hs
    obtain ⟨k, rfl⟩ : ∃ m, k = m + 1 + 1 := ⟨k - 2, by omega⟩
    rw [dowelref02_Excerpt.l0, if_neg (by omega), dowelref02_Excerpt.j4, if_neg (by simp), if_pos (by omega), append_cat, exc_l1 (rune - F).toNat k _ F rune x y (by omega) (by omega) (by rw [cat_size]; simp; omega) (by omega) (by omega), cat_cat, List.drop_eq_nil_of_le (by omega)]
    simp [pieces]
  | succ d ih =>
    intro k n out h1 hk h2 h3 hs
    obtain ⟨k, rfl⟩ : ∃ m, k = m + 1 + 1 + 1 := ⟨k - 3, by omega⟩
    have hi : n - 1 < (chars row).length := by omega
    have w1 : True → wrap64 (F + w) = F + w := fun _ => wrap_of (by omega) (by omega)
    have w2 : True → wrap64 (F + w - 1) = F + w - 1 := fun _ => wrap_of (by omega) (by omega)
    have w3 : True → wrap64 ((n : Int) - 1) = ((n - 1 : Nat) : Int) := fun _ => by rw [wrap_of (by omega) (by omega)]; omega
    have w4 : True → wrap64 ((n : Int) + 1) = ((n + 1 : Nat) : Int) := fun _ => by rw [wrap_of (by omega) (by omega)]; omega
    rw [dowelref02_Excerpt.l0, if_pos (by omega), w1 trivial]
    by_cases c : (n : Int) < F + w
    · rw [decide_eq_true c, dowelref02_Excerpt.j4, if_pos rfl]
      have hpl := place_Excerpt.piece_le F (F + w - 1) ((chars row).length : Int) (n : Int) ((chars row)[n - 1]).f2.toNat
      have hdr : pieces F (F + w - 1) ((chars row).length : Int) ((chars row).drop (n - 1)) ((n : Int) - 1) = place_Excerpt.piece F (F + w - 1) ((chars row).length : Int) (n : Int) ((chars row)[n - 1]).f2.toNat ++ pieces F (F + w - 1) ((chars row).length : Int) ((chars row).drop (n + 1 - 1)) (((n + 1 : Nat) : Int) - 1) := by
        rw [List.drop_eq_getElem_cons hi, pieces, show (n : Int) - 1 + 1 = n from by omega, show n - 1 + 1 = n + 1 - 1 from by omega, show ((n + 1 : Nat) : Int) - 1 = (n : Int) from by omega]
      have step : ∀ b : ByteArray, b.data.toList = place_Excerpt.piece F (F + w - 1) ((chars row).length : Int) (n : Int) ((chars row)[n - 1]).f2.toNat →
          dowelref02_Excerpt.l0 (k + 1) w row (chars row) ((chars row).length : Int) F (out ++ b) ((n + 1 : Nat) : Int) x y rune = some (cat out (pieces F (F + w - 1) ((chars row).length : Int) ((chars row).drop (n - 1)) ((n : Int) - 1) ++ [10] ++ List.replicate (rune - F).toNat 32 ++ [94, 10]), 0) := by
        intro b hb
        rw [append_cat, hb, ih (k + 1) (n + 1) _ (by omega) (by omega) (by omega) (by omega) (by rw [cat_size]; omega), hdr, cat_cat]
        simp only [List.append_assoc]
      have step' : ∀ b : ByteArray, b.data.toList = place_Excerpt.piece F (F + w - 1) ((chars row).length : Int) (n : Int) ((chars row)[n - 1]).f2.toNat →
          dowelref02_Excerpt.l0 k w row (chars row) ((chars row).length : Int) F (out ++ b) ((n + 1 : Nat) : Int) x y rune = some (cat out (pieces F (F + w - 1) ((chars row).length : Int) ((chars row).drop (n - 1)) ((n : Int) - 1) ++ [10] ++ List.replicate (rune - F).toNat 32 ++ [94, 10]), 0) := by
        intro b hb
        rw [append_cat, hb, ih k (n + 1) _ (by omega) (by omega) (by omega) (by omega) (by rw [cat_size]; omega), hdr, cat_cat]
        simp only [List.append_assoc]
      have hj5 : ∀ z : Bool, (z = true ↔ ((n : Int) = F ∧ 1 < F)) → dowelref02_Excerpt.j5 (k + 1) w row (chars row) ((chars row).length : Int) F out (n : Int) z x y rune = some (cat out (pieces F (F + w - 1) ((chars row).length : Int) ((chars row).drop (n - 1)) ((n : Int) - 1) ++ [10] ++ List.replicate (rune - F).toNat 32 ++ [94, 10]), 0) := by
        intro z hz
        rw [dowelref02_Excerpt.j5, w1 trivial, w2 trivial, w3 trivial, w4 trivial]
        cases z with
        | true =>
          have hz1 := hz.1 rfl
          rw [if_pos rfl, if_pos (by omega)]
          refine step' _ ?_
          unfold place_Excerpt.piece
          rw [if_neg (by omega), if_neg (by omega), if_pos hz1]
        | false =>
          have hz1 : ¬ ((n : Int) = F ∧ 1 < F) := fun h => by have := hz.2 h; cases this
          rw [if_neg (by simp)]
          have hsh := shown_eq row hn ((chars row)[n - 1]) (List.getElem_mem hi)
          have hszs := place_shown.size_le ((chars row)[n - 1]).f2
          have hnat : 0 ≤ ((chars row)[n - 1]).f2 := by
            obtain ⟨p, hp, e⟩ := charsFrom_mem row _ _ _ (List.getElem_mem hi)
            rw [e]
            exact Int.natCast_nonneg _
          have hsx : ¬ ((n : Int) = F + w - 1 ∧ F + w - 1 < ((chars row).length : Int)) → (place_shown.s ((chars row)[n - 1]).f2).data.toList = place_Excerpt.piece F (F + w - 1) ((chars row).length : Int) (n : Int) ((chars row)[n - 1]).f2.toNat := by
            intro hno
            unfold place_Excerpt.piece
            rw [if_neg (by omega), if_neg (by omega), if_neg hz1, if_neg hno, Int.toNat_of_nonneg hnat]
          by_cases c1 : (n : Int) = F + w - 1
          · rw [if_pos c1]
            by_cases c2 : (n : Int) < ((chars row).length : Int)
            · rw [if_pos c2, if_pos (by omega)]
              refine step' _ ?_
              unfold place_Excerpt.piece
              rw [if_neg (by omega), if_neg (by omega), if_neg hz1, if_pos ⟨c1, by omega⟩]
            · rw [if_neg c2, if_pos (by omega), if_pos (by omega), rd_char _ _ hi, hsh, Option.bind_some, if_pos (by omega)]
              exact step' _ (hsx (by omega))
          · rw [if_neg c1, if_pos (by omega), if_pos (by omega), rd_char _ _ hi, hsh, Option.bind_some, if_pos (by omega)]
            exact step' _ (hsx (by omega))
      by_cases c3 : (n : Int) = F
      · rw [if_pos c3]
        exact hj5 _ (by simp [c3])
      · rw [if_neg c3]
        exact hj5 _ (by simp [c3])
    · rw [decide_eq_false c, dowelref02_Excerpt.j4, if_neg (by simp), if_pos (by omega), append_cat, exc_l1 (rune - F).toNat (k + 1) _ F rune x y (by omega) (by omega) (by rw [cat_size]; simp; omega) (by omega) (by omega), cat_cat, pieces_done _ _ _ _ _ (by omega) (by omega)]
      simp
theorem ends_all (s : ByteArray) : ∀ f pos, ends s s.size f pos = (charsFrom s f pos).length
  | 0, _ => rfl
  | f + 1, pos => by
    rw [ends, charsFrom]
    by_cases c : pos < s.size
    · rw [if_pos c, if_pos c, if_pos (width_le s pos c), ends_all s f _, List.length_cons]; omega
    · rw [if_neg c, if_neg c]; rfl
def excAns (s : ByteArray) (at_ w : Int) : ByteArray × Int :=
  if at_ < 0 ∨ (s.size : Int) < at_ ∨ w < 8 ∨ 200 < w then (⟨#[]⟩, 5)
  else (⟨(place_Excerpt.text (lineOf s at_.toNat) (1 + (ends (lineOf s at_.toNat) (at_.toNat - ls s.data.toList at_.toNat) (lineOf s at_.toNat).size 0 : Int)) ((chars (lineOf s at_.toNat)).length : Int) w).toArray⟩, 0)
theorem exc_eq (s : ByteArray) (hn : s.size ≤ 1073741824) (at_ w : Int) : place_Excerpt.f s at_ w = some (excAns s at_ w) := by
  unfold place_Excerpt.f excAns
  by_cases c : at_ < 0 ∨ (s.size : Int) < at_ ∨ w < 8 ∨ 200 < w
  · rw [if_pos c, if_pos c]
  · rw [if_neg c, if_neg c, if_pos (by omega)]
    obtain ⟨a, rfl⟩ : ∃ a : Nat, at_ = a := ⟨at_.toNat, by omega⟩
    have ha : a ≤ s.size := by omega
    have hl := ls_le s.data.toList a
    have hg := nextLF_ge s.data.toList a
    have hle := nextLF_le s.data.toList a (by rw [← size_list]; exact ha)
    rw [← size_list] at hle
    obtain ⟨z1, z2, z3⟩ := lineOf_size s a ha
    have hel := ends_le (lineOf s a) (a - ls s.data.toList a) (lineOf s a).size 0
    have hel2 := ends_le (lineOf s a) (lineOf s a).size (lineOf s a).size 0
    simp only [Int.toNat_natCast]
    rw [row_eq s a ha hn, Option.bind_some]
    dsimp +instances only
    rw [if_pos (by omega), Int.toNat_natCast, Int.toNat_natCast, show s.extract (ls s.data.toList a) (nextLF s.data.toList a) = lineOf s a from rfl, show (a : Int) - (ls s.data.toList a : Int) = ((a - ls s.data.toList a : Nat) : Int) from by omega, ended_eq _ (by omega) _ z3, Option.bind_some, ended_eq _ (by omega) _ (Nat.le_refl _), Option.bind_some, if_pos (by omega), ends_all]
    rfl
theorem refExc_eq (s : ByteArray) (hn : s.size ≤ 1073741824) (at_ w : Int) (k : Nat) (hk : 4 * s.size + 2147483648 + 30 < k) : dowelref02_Excerpt.f k s at_ w = some (excAns s at_ w) := by
  obtain ⟨k, rfl⟩ : ∃ m, k = m + 1 + 1 + 1 := ⟨k - 3, by omega⟩
  unfold dowelref02_Excerpt.f excAns
  rw [refSpot_eq s hn at_ _ (by omega), Option.bind_some, spotAns_ok]
  have hj0 : ∀ (z : Bool) x y r, z = true → dowelref02_Excerpt.j0 (k + 1 + 1 + 1) s w z x y r = some (⟨#[]⟩, 5) := by
    intro z x y r hz
    rw [dowelref02_Excerpt.j0, if_pos hz]
  by_cases c0 : at_ < 0 ∨ (s.size : Int) < at_
  · rw [if_pos c0, if_neg (by omega), if_pos (by omega)]
    exact hj0 _ _ _ _ rfl
  · rw [if_neg c0, if_pos rfl]
    by_cases c1 : w < 8
    · rw [if_pos c1, if_pos (by omega)]
      exact hj0 _ _ _ _ rfl
    · rw [if_neg c1]
      by_cases c2 : w > 200
      · rw [if_pos (by omega)]
        exact hj0 _ _ _ _ (by simp; omega)
      · rw [if_neg (by omega), decide_eq_false c2, dowelref02_Excerpt.j0, if_neg (by simp)]
        obtain ⟨a, rfl⟩ : ∃ a : Nat, at_ = a := ⟨at_.toNat, by omega⟩
        have ha : a ≤ s.size := by omega
        have hl := ls_le s.data.toList a
        have hcl := cnt_le s.data.toList a
        have hst := start_ls s.data.toList a (by rw [← size_list]; exact ha)
        have hnl := nextLF_ls s.data.toList a (by rw [← size_list]; exact ha)
        obtain ⟨z1, z2, z3⟩ := lineOf_size s a ha
        have hel := ends_le (lineOf s a) (a - ls s.data.toList a) (lineOf s a).size 0
        have hch := chars_le (lineOf s a)
        have e1 : spotAns s (a : Int) = ((cnt s.data.toList a : Int) + 1, (a : Int) - ls s.data.toList a + 1, 1 + (ends (lineOf s a) (a - ls s.data.toList a) (lineOf s a).size 0 : Int), 0) := by unfold spotAns; rw [if_neg c0]; rfl
        have hrow : rowAns s ((cnt s.data.toList a : Int) + 1) = (lineOf s a, 0) := by
          unfold rowAns lineAt
          rw [if_neg (by omega), show ((cnt s.data.toList a : Int) + 1 - 1).toNat = cnt s.data.toList a from by omega, hst]
          show (s.extract (ls s.data.toList a) (nextLF s.data.toList (ls s.data.toList a)), (0 : Int)) = _
          rw [hnl]
          rfl
        rw [e1]
        dsimp +instances only
        simp only [Int.toNat_natCast]
        rw [refRow_eq s hn _ _ (by omega), Option.bind_some, hrow]
        dsimp +instances only
        rw [chars_eq _ (by omega) _ (by omega), Option.bind_some]
        generalize hR : 1 + (ends (lineOf s a) (a - ls s.data.toList a) (lineOf s a).size 0 : Int) = R
        generalize hM : ((chars (lineOf s a)).length : Int) = M
        have bR : 1 ≤ R ∧ R ≤ 1073741825 := by omega
        have bM : 0 ≤ M ∧ M ≤ 1073741824 := by omega
        have hF : place_Excerpt.first R M w = max 1 (min (R - w / 2) (M - w + 1)) := rfl
        have td : Int.tdiv w 2 = w / 2 := Int.tdiv_eq_ediv_of_nonneg (by omega)
        have w1 : True → wrap64 (wrap64 (M - w) + 1) = M - w + 1 := fun _ => by rw [wrap_of (i := M - w) (by omega) (by omega), wrap_of (by omega) (by omega)]
        have w2 : True → wrap64 (R - wrap64 (Int.tdiv w 2)) = R - w / 2 := fun _ => by rw [td, wrap_of (i := w / 2) (by omega) (by omega), wrap_of (by omega) (by omega)]
        have fin : ∀ F : Int, F = place_Excerpt.first R M w → dowelref02_Excerpt.j2 (k + 1) w (lineOf s a) (chars (lineOf s a)) M F ((cnt s.data.toList a : Int) + 1) ((a : Int) - ls s.data.toList a + 1) R = some (⟨(place_Excerpt.text (lineOf s a) R M w).toArray⟩, 0) := by
          intro F hFe
          have f1 : 1 ≤ F := by omega
          have f2 : F ≤ R := by omega
          rw [dowelref02_Excerpt.j2]
          obtain ⟨f, rfl⟩ : ∃ f : Nat, F = f := ⟨F.toNat, by omega⟩
          by_cases g : f ≤ (chars (lineOf s a)).length + 1
          · rw [← hM, exc_l0 (lineOf s a) (by omega) w (f : Int) R _ _ (by omega) (by omega) f1 f2 (by omega) ((chars (lineOf s a)).length + 1 - f) k f ⟨#[]⟩ (by omega) (by omega) (by omega) (by omega) (by show 0 ≤ _; omega), hM]
            unfold place_Excerpt.text
            rw [← hFe, from_pieces, show charsFrom (lineOf s a) (lineOf s a).size 0 = chars (lineOf s a) from rfl, pieces_skip (f : Int) _ _ (f - 1) (chars (lineOf s a)) 0 (by omega), show (0 : Int) + ((f - 1 : Nat) : Int) = (f : Int) - 1 from by omega]
            congr 2
          · omega
        have hj1 : ∀ x : Int, x = min (R - w / 2) (M - w + 1) → dowelref02_Excerpt.j1 (k + 1 + 1) w (lineOf s a) (chars (lineOf s a)) M x ((cnt s.data.toList a : Int) + 1) ((a : Int) - ls s.data.toList a + 1) R = some (⟨(place_Excerpt.text (lineOf s a) R M w).toArray⟩, 0) := by
          intro x hx
          rw [dowelref02_Excerpt.j1]
          by_cases g : x < 1
          · rw [if_pos g]; exact fin 1 (by omega)
          · rw [if_neg g]; exact fin x (by omega)
        rw [w1 trivial, w2 trivial]
        by_cases g : M - w + 1 < R - w / 2
        · rw [if_pos g]; exact hj1 _ (by omega)
        · rw [if_neg g]; exact hj1 _ (by omega)
theorem PlaceExcerpts_any (s : ByteArray) (hn : s.size ≤ 1073741824) (at_ w : Int) : ∃ k, dowellaw02_PlaceExcerpts.f k s at_ w = some true := by
  refine ⟨4 * s.size + 2147483648 + 40 + 1, ?_⟩
  unfold dowellaw02_PlaceExcerpts.f
  rw [exc_eq s hn, Option.bind_some, refExc_eq s hn _ _ _ (by omega), Option.bind_some, if_pos rfl, dowellaw02_PlaceExcerpts.j0, if_neg (by simp), exc_eq s hn, Option.bind_some, refExc_eq s hn _ _ _ (by omega), Option.bind_some]
  have : (excAns s 0 8).2 = 0 := by unfold excAns; rw [if_neg (by omega)]
  rw [if_pos this]
  simp
theorem PlaceExcerpts_pure : PlaceExcerpts.Upto := fun s at_ w hm _ _ => PlaceExcerpts_any s (by omega) at_ w
end Go.Proofs.Ytkjckdgknbfaiaa.Qall
