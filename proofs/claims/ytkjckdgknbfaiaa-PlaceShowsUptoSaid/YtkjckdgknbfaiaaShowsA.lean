/- What an excerpt shows: the plain law of PlaceShows. Conditions: a text of at most 2^30 bytes. -/
import Derived.Test.YtkjckdgknbfaiaaTilesA
import Derived.Test.YtkjckdgknbfaiaaPureH
namespace Go.Proofs.Ytkjckdgknbfaiaa.Shows
set_option linter.unusedSimpArgs false
set_option linter.unusedVariables false
open Go.RowKit Go.Shelf Go.Proofs.Ytkjckdgknbfaiaa.Qall Go.Proofs.Ytkjckdgknbfaiaa.Iter
def encs : List Nat → List UInt8
  | [] => []
  | c :: cs => encN c ++ encs cs
theorem encs_append : ∀ a b : List Nat, encs (a ++ b) = encs a ++ encs b
  | [], _ => rfl
  | c :: a, b => by rw [List.cons_append, encs, encs, encs_append a b, List.append_assoc]
theorem by_drop (l : List UInt8) (p i : Nat) : by_ l (p + i) = by_ (l.drop p) i := by
  unfold by_
  rw [List.getD_eq_getElem?_getD, List.getD_eq_getElem?_getD, List.getElem?_drop]
theorem lt_drop (s : ByteArray) (p i : Nat) : (p + i < s.size) ↔ i < (s.data.toList.drop p).length := by
  rw [List.length_drop, ← size_list]; omega
theorem of8 (c : Nat) : (UInt8.ofNat c).toNat = c % 256 := by simp
theorem decode_enc (s : ByteArray) (p c : Nat) (rest : List UInt8) (hv : Utf8.valid (c : Int) = true) (hd : s.data.toList.drop p = encN c ++ rest) : Utf8.decode s p = (c, (encN c).length) := by
  have hc := (valid_iff c).1 hv
  rw [decode_decN]
  have z0 : by_ s.data.toList p = by_ (encN c ++ rest) 0 := by rw [← hd, ← by_drop, Nat.add_zero]
  have q : ∀ i, decide (p + i < s.size) = decide (i < (encN c ++ rest).length) := fun i => by rw [← hd]; exact decide_eq_decide.2 (lt_drop s p i)
  rw [z0, by_drop _ p 1, by_drop _ p 2, by_drop _ p 3, q 1, q 2, q 3, hd]
  unfold encN
  by_cases c1 : c < 0x80
  · rw [if_pos c1]
    have e0 : by_ ([UInt8.ofNat c] ++ rest) 0 = c := by show (UInt8.ofNat c).toNat = c; rw [of8]; omega
    unfold decN
    rw [e0, if_pos c1]
    rfl
  · rw [if_neg c1]
    by_cases c2 : c < 0x800
    · rw [if_pos c2]
      have e0 : by_ ([UInt8.ofNat (0xC0 + c / 64), UInt8.ofNat (0x80 + c % 64)] ++ rest) 0 = 0xC0 + c / 64 := by show (UInt8.ofNat _).toNat = _; rw [of8]; omega
      have e1 : by_ ([UInt8.ofNat (0xC0 + c / 64), UInt8.ofNat (0x80 + c % 64)] ++ rest) 1 = 0x80 + c % 64 := by show (UInt8.ofNat _).toNat = _; rw [of8]; omega
      have p1 : decide (1 < ([UInt8.ofNat (0xC0 + c / 64), UInt8.ofNat (0x80 + c % 64)] ++ rest).length) = true := by simp
      unfold decN
      rw [e0, e1, p1, if_neg (by omega), if_pos (by simp; omega), if_pos (by omega)]
      rw [show (0xC0 + c / 64) % 32 * 64 + (0x80 + c % 64) % 64 = c by omega]
      rfl
    · rw [if_neg c2]
      by_cases c3 : c < 0x10000
      · rw [if_pos c3]
        generalize hl : [UInt8.ofNat (0xE0 + c / 4096), UInt8.ofNat (0x80 + c / 64 % 64), UInt8.ofNat (0x80 + c % 64)] = l
        have e0 : by_ (l ++ rest) 0 = 0xE0 + c / 4096 := by rw [← hl]; show (UInt8.ofNat _).toNat = _; rw [of8]; omega
        have e1 : by_ (l ++ rest) 1 = 0x80 + c / 64 % 64 := by rw [← hl]; show (UInt8.ofNat _).toNat = _; rw [of8]; omega
        have e2 : by_ (l ++ rest) 2 = 0x80 + c % 64 := by rw [← hl]; show (UInt8.ofNat _).toNat = _; rw [of8]; omega
        have p1 : decide (1 < (l ++ rest).length) = true := by rw [← hl]; simp
        have p2 : decide (2 < (l ++ rest).length) = true := by rw [← hl]; simp
        have ev : (0xE0 + c / 4096) % 16 * 4096 + (0x80 + c / 64 % 64) % 64 * 64 + (0x80 + c % 64) % 64 = c := by omega
        unfold decN
        rw [e0, e1, e2, p1, p2, if_neg (by omega), if_neg (by simp; omega), if_pos (by simp; omega), ev, if_pos (by simp [hv]; omega), ← hl]
        rfl
      · rw [if_neg c3]
        generalize hl : [UInt8.ofNat (0xF0 + c / 262144), UInt8.ofNat (0x80 + c / 4096 % 64), UInt8.ofNat (0x80 + c / 64 % 64), UInt8.ofNat (0x80 + c % 64)] = l
        have e0 : by_ (l ++ rest) 0 = 0xF0 + c / 262144 := by rw [← hl]; show (UInt8.ofNat _).toNat = _; rw [of8]; omega
        have e1 : by_ (l ++ rest) 1 = 0x80 + c / 4096 % 64 := by rw [← hl]; show (UInt8.ofNat _).toNat = _; rw [of8]; omega
        have e2 : by_ (l ++ rest) 2 = 0x80 + c / 64 % 64 := by rw [← hl]; show (UInt8.ofNat _).toNat = _; rw [of8]; omega
        have e3 : by_ (l ++ rest) 3 = 0x80 + c % 64 := by rw [← hl]; show (UInt8.ofNat _).toNat = _; rw [of8]; omega
        have p1 : decide (1 < (l ++ rest).length) = true := by rw [← hl]; simp
        have p2 : decide (2 < (l ++ rest).length) = true := by rw [← hl]; simp
        have p3 : decide (3 < (l ++ rest).length) = true := by rw [← hl]; simp
        have ev : (0xF0 + c / 262144) % 8 * 262144 + (0x80 + c / 4096 % 64) % 64 * 4096 + (0x80 + c / 64 % 64) % 64 * 64 + (0x80 + c % 64) % 64 = c := by omega
        unfold decN
        rw [e0, e1, e2, e3, p1, p2, p3, if_neg (by omega), if_neg (by simp; omega), if_neg (by simp; omega), if_pos (by simp; omega), ev, if_pos (by simp [hv]; omega), ← hl]
        rfl
theorem encN_pos (c : Nat) : 1 ≤ (encN c).length := by
  unfold encN
  repeat' split
  all_goals simp
theorem encs_len : ∀ cs : List Nat, cs.length ≤ (encs cs).length
  | [] => Nat.le_refl _
  | c :: cs => by
    have := encs_len cs
    have := encN_pos c
    rw [encs, List.length_append, List.length_cons]; omega
/-- What is made of good characters decodes to them. -/
theorem runesFrom_encs (s : ByteArray) (hs : s.size ≤ 4611686018427387904) : ∀ (cs : List Nat) (f pos : Nat), (∀ c ∈ cs, Utf8.valid (c : Int) = true) → s.data.toList.drop pos = encs cs → (encs cs).length ≤ f →
    (runesFrom s hs f pos).map Rn.c = cs
  | [], f, pos, _, hd, _ => by
    have : ¬ pos < s.size := by
      have := congrArg List.length hd
      rw [List.length_drop, ← size_list] at this
      simp [encs] at this
      omega
    rw [runesFrom_end s hs f pos this]; rfl
  | c :: cs, 0, pos, _, hd, hf => by
    have := encN_pos c
    rw [encs, List.length_append] at hf; omega
  | c :: cs, f + 1, pos, hv, hd, hf => by
    rw [encs] at hd
    have hp := encN_pos c
    have hlt : pos < s.size := by
      have := congrArg List.length hd
      rw [List.length_drop, ← size_list, List.length_append] at this
      omega
    have hdec := decode_enc s pos c _ (hv c (List.mem_cons_self ..)) hd
    rw [runesFrom, dif_pos hlt, List.map_cons]
    show (Utf8.decode s pos).1 :: (runesFrom s hs f (pos + (Utf8.decode s pos).2)).map Rn.c = _
    rw [hdec]
    have hd2 : s.data.toList.drop (pos + (encN c).length) = encs cs := by
      rw [← List.drop_drop, hd, List.drop_left]
    rw [encs, List.length_append] at hf
    rw [runesFrom_encs s hs cs f _ (fun d hm => hv d (List.mem_cons_of_mem _ hm)) hd2 (by omega)]
/-- The characters of a piece. -/
def sh (r : Nat) : Nat := if r = 9 then 32 else if (32 ≤ r ∧ r ≤ 126) ∨ (160 ≤ r ∧ r ≠ 65533) then r else 63
def pc (F L all n : Int) (r : Nat) : List Nat :=
  if n < F then [] else if L < n then [] else if n = F ∧ 1 < F then [60] else if n = L ∧ L < all then [62] else [sh r]
theorem shown_enc (r : Nat) (hv : Utf8.valid (r : Int) = true) : (place_shown.s r).data.toList = encN (sh r) := by
  unfold place_shown.s sh
  by_cases h : r = 9
  · rw [if_pos (by omega), if_pos h]; rfl
  · rw [if_neg (by omega), if_neg h]
    by_cases h2 : (32 ≤ r ∧ r ≤ 126) ∨ (160 ≤ r ∧ r ≠ 65533)
    · rw [if_pos (by omega), if_pos h2, encode_encN r hv]
    · rw [if_neg (by omega), if_neg h2]; rfl
theorem piece_enc (F L all n : Int) (r : Nat) (hv : Utf8.valid (r : Int) = true) : place_Excerpt.piece F L all n r = encs (pc F L all n r) := by
  unfold place_Excerpt.piece pc
  split
  · rfl
  · split
    · rfl
    · split
      · rfl
      · split
        · rfl
        · rw [shown_enc r hv]; simp [encs]
theorem pc_ok (F L all n : Int) (r : Nat) (hv : Utf8.valid (r : Int) = true) : ∀ c ∈ pc F L all n r, 32 ≤ c ∧ Utf8.valid (c : Int) = true := by
  unfold pc sh
  intro c hc
  repeat' split at hc
  all_goals simp at hc
  all_goals subst hc
  all_goals first | decide | (refine ⟨?_, hv⟩; omega)
theorem pc_len (F L all n : Int) (r : Nat) : ((pc F L all n r).length : Int) = if F ≤ n ∧ n ≤ L then 1 else 0 := by
  unfold pc
  by_cases h1 : n < F
  · rw [if_pos h1, if_neg (by omega)]; rfl
  · rw [if_neg h1]
    by_cases h2 : L < n
    · rw [if_pos h2, if_neg (by omega)]; rfl
    · rw [if_neg h2, show (if F ≤ n ∧ n ≤ L then (1 : Int) else 0) = 1 from if_pos ⟨by omega, by omega⟩]
      repeat' split
      all_goals rfl
theorem decode_valid (s : ByteArray) (p : Nat) : Utf8.valid ((Utf8.decode s p).1 : Int) = true := by
  have l0 := by_lt s.data.toList p
  rw [decode_decN]
  unfold decN
  repeat' split
  all_goals (try dsimp only)
  all_goals (try simp only [Bool.and_eq_true, decide_eq_true_eq] at *)
  all_goals first | (rw [valid_iff]; omega) | (rename_i h; exact h.2) | decide
/-- The characters of the first line. -/
def cps (line : ByteArray) (F L all : Int) : Nat → Nat → Int → List Nat
  | 0, _, _ => []
  | f + 1, pos, n => if pos < line.size then pc F L all (n + 1) (Utf8.decode line pos).1 ++ cps line F L all f (pos + (Utf8.decode line pos).2) (n + 1) else []
theorem from_cps (line : ByteArray) (F L all : Int) : ∀ f pos n, place_Excerpt.from_ line F L all f pos n = encs (cps line F L all f pos n)
  | 0, _, _ => rfl
  | f + 1, pos, n => by
    rw [place_Excerpt.from_, cps]
    split
    · rw [encs_append, ← from_cps line F L all f _ _, piece_enc _ _ _ _ _ (decode_valid line pos)]
    · rfl
theorem cps_ok (line : ByteArray) (F L all : Int) : ∀ f pos n, ∀ c ∈ cps line F L all f pos n, 32 ≤ c ∧ Utf8.valid (c : Int) = true
  | 0, _, _, c, h => by simp [cps] at h
  | f + 1, pos, n, c, h => by
    rw [cps] at h
    split at h
    · rcases List.mem_append.1 h with h | h
      · exact pc_ok _ _ _ _ _ (decode_valid line pos) c h
      · exact cps_ok line F L all f _ _ c h
    · simp at h
theorem cps_len (line : ByteArray) (F L all : Int) : ∀ f pos n, ((cps line F L all f pos n).length : Int) ≤ max 0 (L - max n (F - 1))
  | 0, _, _ => by simp [cps]; omega
  | f + 1, pos, n => by
    rw [cps]
    split
    · have h1 := pc_len F L all (n + 1) (Utf8.decode line pos).1
      have h2 := cps_len line F L all f (pos + (Utf8.decode line pos).2) (n + 1)
      rw [List.length_append]
      split at h1 <;> omega
    · simp; omega
theorem byte_big (c : Nat) (h : 32 ≤ c) (hv : Utf8.valid (c : Int) = true) : ∀ b ∈ encN c, 32 ≤ b.toNat := by
  have hc := (valid_iff c).1 hv
  intro b hb
  unfold encN at hb
  repeat' split at hb
  all_goals simp only [List.mem_cons, List.not_mem_nil, or_false] at hb
  all_goals first | (rcases hb with rfl | rfl | rfl | rfl) | (rcases hb with rfl | rfl | rfl) | (rcases hb with rfl | rfl) | subst hb
  all_goals rw [of8]
  all_goals omega
theorem encs_big : ∀ cs : List Nat, (∀ c ∈ cs, 32 ≤ c ∧ Utf8.valid (c : Int) = true) → ∀ b ∈ encs cs, 32 ≤ b.toNat
  | [], _, b, h => by simp [encs] at h
  | c :: cs, hc, b, h => by
    rw [encs] at h
    rcases List.mem_append.1 h with h | h
    · have := hc c (List.mem_cons_self ..)
      exact byte_big c this.1 this.2 b h
    · exact encs_big cs (fun d hd => hc d (List.mem_cons_of_mem _ hd)) b h
/-- A line of plain letters. -/
def plain (line : ByteArray) : Prop := ∀ i, i < line.size → 97 ≤ by_ line.data.toList i ∧ by_ line.data.toList i ≤ 122
theorem plain_dec (line : ByteArray) (h : plain line) (i : Nat) (hi : i < line.size) : Utf8.decode line i = (by_ line.data.toList i, 1) := by
  have := h i hi
  rw [decode_decN]
  unfold decN
  rw [if_pos (by omega)]
theorem plain_ends (line : ByteArray) (h : plain line) (a : Nat) : ∀ f pos, pos + f = line.size → pos ≤ a → a ≤ line.size → ends line a f pos = a - pos
  | 0, pos, h1, h2, h3 => by rw [ends]; omega
  | f + 1, pos, h1, h2, h3 => by
    rw [ends, if_pos (by omega), plain_dec line h pos (by omega)]
    dsimp only
    by_cases e : pos = a
    · subst e
      rw [if_neg (by omega), Tiles.ends_none line pos f (pos + 1) (by omega)]; omega
    · rw [if_pos (by omega), plain_ends line h a f (pos + 1) (by omega) (by omega) h3]; omega
theorem plain_chars (line : ByteArray) (h : plain line) : ((chars line).length : Int) = line.size := by
  have := ends_all line line.size 0
  rw [plain_ends line h line.size line.size 0 (by omega) (by omega) (Nat.le_refl _)] at this
  unfold chars
  omega
theorem plain_from (line : ByteArray) (h : plain line) (F L all : Int) : ∀ f pos j, pos + f = line.size → F ≤ (pos : Int) + 1 → j < f → (pos : Int) + 1 + j ≤ L →
    j < (place_Excerpt.from_ line F L all f pos pos).length ∧
    by_ (place_Excerpt.from_ line F L all f pos pos) j = if (pos : Int) + 1 + j = F ∧ 1 < F then 60 else if (pos : Int) + 1 + j = L ∧ L < all then 62 else by_ line.data.toList (pos + j)
  | 0, pos, j, _, _, hj, _ => by omega
  | f + 1, pos, j, h1, h2, hj, h4 => by
    have hl := h pos (by omega)
    have hone : place_Excerpt.piece F L all ((pos : Int) + 1) (by_ line.data.toList pos) = [UInt8.ofNat (if (pos : Int) + 1 = F ∧ 1 < F then 60 else if (pos : Int) + 1 = L ∧ L < all then 62 else by_ line.data.toList pos)] := by
      unfold place_Excerpt.piece
      rw [if_neg (by omega), if_neg (by omega)]
      split
      · rfl
      · split
        · rfl
        · unfold place_shown.s
          rw [if_neg (by omega), if_pos (.inl (by omega)), enc_one _ (by omega)]
    rw [place_Excerpt.from_, if_pos (by omega), plain_dec line h pos (by omega)]
    dsimp only
    rw [hone, show ((pos : Int) + 1) = ((pos + 1 : Nat) : Int) from by omega]
    cases j with
    | zero =>
      refine ⟨by simp, ?_⟩
      show (UInt8.ofNat _).toNat = _
      rw [of8]
      rw [show (((pos + 1 : Nat) : Int) + ((0 : Nat) : Int)) = ((pos + 1 : Nat) : Int) from by omega]
      simp only [Nat.add_zero]
      repeat' split
      all_goals omega
    | succ j =>
      obtain ⟨i1, i2⟩ := plain_from line h F L all f (pos + 1) j (by omega) (by omega) (by omega) (by omega)
      refine ⟨by rw [List.length_append, List.length_singleton]; omega, ?_⟩
      rw [show by_ ([UInt8.ofNat (if ((pos + 1 : Nat) : Int) = F ∧ 1 < F then 60 else if ((pos + 1 : Nat) : Int) = L ∧ L < all then 62 else by_ line.data.toList pos)] ++ place_Excerpt.from_ line F L all f (pos + 1) ((pos + 1 : Nat) : Int)) (j + 1) = by_ (place_Excerpt.from_ line F L all f (pos + 1) ((pos + 1 : Nat) : Int)) j from rfl, i2]
      rw [show ((pos + 1 : Nat) : Int) + 1 + (j : Int) = ((pos + 1 : Nat) : Int) + ((j + 1 : Nat) : Int) from by omega, show pos + 1 + j = pos + (j + 1) from by omega]
theorem plain_skip (line : ByteArray) (h : plain line) (F L all : Int) : ∀ k f pos, pos + f = line.size → k ≤ f → (pos : Int) + k < F → place_Excerpt.from_ line F L all f pos pos = place_Excerpt.from_ line F L all (f - k) (pos + k) ((pos + k : Nat) : Int)
  | 0, f, pos, _, _, _ => rfl
  | k + 1, 0, pos, _, h2, _ => by omega
  | k + 1, f + 1, pos, h1, h2, h3 => by
    rw [place_Excerpt.from_, if_pos (by omega), plain_dec line h pos (by omega)]
    dsimp only
    rw [show place_Excerpt.piece F L all ((pos : Int) + 1) (by_ line.data.toList pos) = [] from by unfold place_Excerpt.piece; rw [if_pos (by omega)], List.nil_append, show ((pos : Int) + 1) = ((pos + 1 : Nat) : Int) from by omega, plain_skip line h F L all k f (pos + 1) (by omega) (by omega) (by omega)]
    rw [show f + 1 - (k + 1) = f - k from by omega, show pos + 1 + k = pos + (k + 1) from by omega]
/-- All that the law asks of an excerpt. -/
structure Shown (s : ByteArray) (a : Nat) (w : Int) (x : ByteArray) where
  P : List UInt8
  m : Nat
  eq : x.data.toList = P ++ 10 :: (List.replicate m 32 ++ [94, 10])
  big : ∀ b ∈ P, 32 ≤ b.toNat
  hm : (m : Int) ≤ w
  cs : List Nat
  hcs : P = encs cs
  hc : ∀ c ∈ cs, 32 ≤ c ∧ Utf8.valid (c : Int) = true
  hn : (cs.length : Int) ≤ w
  hp : a < s.size → 97 ≤ by_ s.data.toList a → by_ s.data.toList a ≤ 122 → plain (lineOf s a) → m < P.length ∧ (by_ P m = by_ s.data.toList a ∨ (by_ P m = 60 ∧ m = 0) ∨ (by_ P m = 62 ∧ (m : Int) = w - 1))
theorem by_extract (s : ByteArray) (a b i : Nat) (hi : a + i < b) (hb : b ≤ s.size) : by_ (s.extract a b).data.toList i = by_ s.data.toList (a + i) := by
  rw [by_drop, data_extract]
  unfold by_
  rw [List.getD_eq_getElem?_getD, List.getD_eq_getElem?_getD, List.getElem?_take, if_pos (by omega)]
theorem shown_of (s : ByteArray) (hn : s.size ≤ 1073741824) (a : Nat) (ha : a ≤ s.size) (w : Int) (h1 : 8 ≤ w) (h2 : w ≤ 200) : ∃ x, excAns s (a : Int) w = (x, 0) ∧ Nonempty (Shown s a w x) := by
  have hl := ls_le s.data.toList a
  obtain ⟨z1, z2, z3⟩ := lineOf_size s a ha
  have hel := ends_le (lineOf s a) (a - ls s.data.toList a) (lineOf s a).size 0
  have hea := ends_at (lineOf s a) (a - ls s.data.toList a) (lineOf s a).size
  have hem := ends_mono (lineOf s a) (a := a - ls s.data.toList a) (b := (lineOf s a).size) z3 (lineOf s a).size 0
  rw [ends_all] at hem
  have hch := chars_le (lineOf s a)
  unfold excAns
  rw [if_neg (by omega)]
  refine ⟨_, rfl, ?_⟩
  simp only [Int.toNat_natCast]
  generalize hR : 1 + (ends (lineOf s a) (a - ls s.data.toList a) (lineOf s a).size 0 : Int) = R
  generalize hM : ((chars (lineOf s a)).length : Int) = M
  have hM2 : ((charsFrom (lineOf s a) (lineOf s a).size 0).length : Int) = M := hM
  have hF : place_Excerpt.first R M w = max 1 (min (R - w / 2) (M - w + 1)) := rfl
  have hRM : R ≤ M + 1 := by omega
  generalize hFe : place_Excerpt.first R M w = F at hF
  refine ⟨⟨place_Excerpt.from_ (lineOf s a) F (F + w - 1) M (lineOf s a).size 0 0, (R - F).toNat, ?_, ?_, by omega, cps (lineOf s a) F (F + w - 1) M (lineOf s a).size 0 0, from_cps _ _ _ _ _ _ _, cps_ok _ _ _ _ _ _ _, ?_, ?_⟩⟩
  · unfold place_Excerpt.text
    rw [hFe]
    simp
  · rw [from_cps]
    exact encs_big _ (cps_ok _ _ _ _ _ _ _)
  · have := cps_len (lineOf s a) F (F + w - 1) M (lineOf s a).size 0 0
    omega
  · intro hlt hb1 hb2 hpl
    have hge := nextLF_ge s.data.toList a
    have hgt : a < nextLF s.data.toList a := by
      rcases Nat.lt_or_ge a (nextLF s.data.toList a) with h | h
      · exact h
      · have e : nextLF s.data.toList a = a := by omega
        have := nextLF_hit s.data.toList a (by rw [e, ← size_list]; exact hlt)
        rw [e] at this
        omega
    have hle := nextLF_le s.data.toList a (by rw [← size_list]; exact ha)
    rw [← size_list] at hle
    have hee := plain_ends (lineOf s a) hpl (a - ls s.data.toList a) (lineOf s a).size 0 (by omega) (by omega) z3
    have hMs : M = ((lineOf s a).size : Int) := by rw [← hM]; exact plain_chars _ hpl
    have hRs : R = ((a - ls s.data.toList a : Nat) : Int) + 1 := by rw [← hR, hee]; omega
    have hF1 : 1 ≤ F := by omega
    have hF2 : F ≤ R := by omega
    have hF3 : R ≤ F + w - 1 := by omega
    obtain ⟨f, rfl⟩ : ∃ f : Nat, F = (f : Int) + 1 := ⟨(F - 1).toNat, by omega⟩
    have hsk := plain_skip (lineOf s a) hpl ((f : Int) + 1) ((f : Int) + 1 + w - 1) M f (lineOf s a).size 0 (by omega) (by omega) (by omega)
    rw [show (((0 : Nat) : Int)) = 0 from rfl, Nat.zero_add] at hsk
    rw [hsk]
    obtain ⟨i1, i2⟩ := plain_from (lineOf s a) hpl ((f : Int) + 1) ((f : Int) + 1 + w - 1) M ((lineOf s a).size - f) f (R - ((f : Int) + 1)).toNat (by omega) (by omega) (by omega) (by omega)
    refine ⟨i1, ?_⟩
    rw [i2]
    have hby : by_ (lineOf s a).data.toList (a - ls s.data.toList a) = by_ s.data.toList a := by
      unfold lineOf
      rw [by_extract s _ _ _ (by omega) hle, show ls s.data.toList a + (a - ls s.data.toList a) = a from by omega]
    by_cases g1 : ((f : Int) + 1 + ((R - ((f : Int) + 1)).toNat : Int) = (f : Int) + 1 ∧ 1 < (f : Int) + 1)
    · rw [if_pos g1]
      exact .inr (.inl ⟨rfl, by omega⟩)
    · rw [if_neg g1]
      by_cases g2 : ((f : Int) + 1 + ((R - ((f : Int) + 1)).toNat : Int) = (f : Int) + 1 + w - 1 ∧ (f : Int) + 1 + w - 1 < M)
      · rw [if_pos g2]
        exact .inr (.inr ⟨rfl, by omega⟩)
      · rw [if_neg g2, show f + (R - ((f : Int) + 1)).toNat = a - ls s.data.toList a from by omega, hby]
        exact .inl rfl
/-- The characters of the first line, as an iterator tells them. -/
theorem shown_runes {s : ByteArray} {a : Nat} {w : Int} {x : ByteArray} (h : Shown s a w x) (y : ByteArray) (hy : y.data.toList = h.P) (hs : y.size ≤ 4611686018427387904) : (runes y hs).map Rn.c = h.cs := by
  have := runesFrom_encs y hs h.cs y.size 0 (fun c hc => (h.hc c hc).2) (by rw [List.drop_zero, hy, h.hcs]) (by rw [size_list, hy, h.hcs]; exact Nat.le_refl _)
  exact this
theorem shown_count {s : ByteArray} {a : Nat} {w : Int} {x : ByteArray} (h : Shown s a w x) (y : ByteArray) (hy : y.data.toList = h.P) (hs : y.size ≤ 4611686018427387904) : ((runes y hs).length : Int) ≤ w ∧ ∀ r ∈ runes y hs, 32 ≤ r.c := by
  have e := shown_runes h y hy hs
  refine ⟨?_, fun r hr => ?_⟩
  · have := congrArg List.length e
    rw [List.length_map] at this
    rw [this]
    exact h.hn
  · have : r.c ∈ h.cs := by rw [← e]; exact List.mem_map_of_mem hr
    exact (h.hc _ this).1
theorem row_of (s : ByteArray) (a : Nat) (ha : a ≤ s.size) : rowAns s (spotAns s (a : Int)).1 = (lineOf s a, 0) := by
  have hst := start_ls s.data.toList a (by rw [← size_list]; exact ha)
  have hnl := nextLF_ls s.data.toList a (by rw [← size_list]; exact ha)
  have e1 : (spotAns s (a : Int)).1 = (cnt s.data.toList a : Int) + 1 := by unfold spotAns; rw [if_neg (by omega)]; rfl
  rw [e1]
  unfold rowAns lineAt
  rw [if_neg (by omega), show ((cnt s.data.toList a : Int) + 1 - 1).toNat = cnt s.data.toList a from by omega, hst]
  show (s.extract (ls s.data.toList a) (nextLF s.data.toList (ls s.data.toList a)), (0 : Int)) = _
  rw [hnl]
  rfl
end Go.Proofs.Ytkjckdgknbfaiaa.Shows
