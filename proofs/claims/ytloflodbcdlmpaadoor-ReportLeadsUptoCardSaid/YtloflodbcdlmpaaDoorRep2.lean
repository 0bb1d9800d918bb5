/- What the functions of report tell, in plain words: an outcome's text, a number, a first line, the forest behind it. || The walk of report.number: a number, character by character. Conditions: a text of at most 2^22 bytes; the table of powers of ten lies. || The walk of report.first: the first line of an outcome's text. Conditions: a line of at most 2^22 bytes; internal/bytealg's variable MaxLen holds some number; the table of powers of ten lies. || Contracts of what the print does not take, in the print's own form: forest.Check, forest.Text, forest.Parse, dowelbook.LendSpans, report.first. -/
import Derived.Test.YtloflodbcdlmpaaDoorPlain2
import Derived.Test.YtloflodbcdlmpaaDoorParse2
import Derived.Test.YtloflodbcdlmpaaDoorFor2
import Derived.Test.YtloflodbcdlmpaaDoorQx42
import Derived.Lib.TrimUEq
import Derived.Lib.OthersKept
import Derived.Lib.ItoaLen
import Derived.Test.YtloflodbcdlmpaaDoorLine2
import Derived.Lib.SplitLaws
import Derived.Test.YtloflodbcdlmpaaDoorLend2
import Derived.Test.YtloflodbcdlmpaaDoorText2
namespace Go.Proofs.YtloflodbcdlmpaaDoor.Rp
open Go.RowKit Go.Proofs.YtloflodbcdlmpaaDoor.Qall Go.Proofs.YtloflodbcdlmpaaDoor.Chk Go.Proofs.YtloflodbcdlmpaaDoor.Ln Go.Proofs.YtloflodbcdlmpaaDoor.Ps Go.Proofs.YtloflodbcdlmpaaDoor.Tx Go.Proofs.YtloflodbcdlmpaaDoorW.PrintWords Go.Proofs.YtloflodbcdlmpaaDoorW.PrintLast Go.Proofs.YtloflodbcdlmpaaDoorW.PrintMore
open Go.Proofs.YtloflodbcdlmpaaDoor.Fo hiding val
set_option linter.unusedSimpArgs false
set_option linter.unusedVariables false
def fld : List UInt8 := [102, 97, 105, 108, 101, 100]
def mtc : List UInt8 := [109, 97, 116, 99, 104, 101, 100]
def thr : List UInt8 := [116, 104, 114, 111, 119, 110]
/-- Is an outcome right? -/
def rgt (k e : Int) (l : ByteArray) (f : List S60) : Bool :=
  if k = 0 then decide (e = 0 ∧ l.size = 0 ∧ f.length = 0)
  else if k = 1 then decide (l.size = 0 ∧ chkAns f e = 0)
  else if k = 2 then decide (Own.nameOk l = true ∧ f.length = 0 ∧ 0 ≤ e ∧ e ≤ 65536)
  else false
def headL (k e : Int) (l : List UInt8) : List UInt8 :=
  if k = 1 then mtc ++ 32 :: (Lib.itoa e ++ [10]) else if k = 2 then thr ++ 32 :: (l ++ 32 :: (Lib.itoa e ++ [10])) else fld ++ [10]
def headB (k e : Int) (l : ByteArray) : ByteArray := ⟨(headL k e l.data.toList).toArray⟩
def outAns (k e : Int) (l : ByteArray) (f : List S60) : ByteArray × Int :=
  if rgt k e l f = true then
    if (txtAns f).2 = 0 then (if (headB k e l ++ (txtAns f).1).size ≤ 4194304 then (headB k e l ++ (txtAns f).1, 0) else (⟨#[]⟩, 2)) else (⟨#[]⟩, (txtAns f).2)
  else (⟨#[]⟩, 6)
/-- The digits' value, if all are digits and none stands behind a number that is too large. -/
def numGo : List UInt8 → Nat → Option Nat
  | [], n => some n
  | b :: l, n => if 48 ≤ b.toNat ∧ b.toNat ≤ 57 ∧ n ≤ 65536 then numGo l (10 * n + (b.toNat - 48)) else none
/-- What report.number tells. -/
def numR (s : ByteArray) : Int × Bool := match numGo s.data.toList 0 with
  | none => (0, false)
  | some m => ((m : Int), (numAns s).2)
/-- What report.first tells: kind, end, label; is it one? -/
def firstR (s : ByteArray) : Int × Int × ByteArray × Bool :=
  if s.data.toList = fld then (0, 0, ⟨#[]⟩, true) else match wordsOf s with
  | [a, b] => if a.data.toList = mtc then (1, (numR b).1, ⟨#[]⟩, (numR b).2) else (0, 0, ⟨#[]⟩, false)
  | [a, b, c] => if a.data.toList = thr ∧ Own.nameOk b = true then (2, (numR c).1, b, (numR c).2) else (0, 0, ⟨#[]⟩, false)
  | _ => (0, 0, ⟨#[]⟩, false)
def firstAns (s : ByteArray) : Option (Int × Int × ByteArray) :=
  if s.data.toList = fld then some (0, 0, ⟨#[]⟩) else match wordsOf s with
  | [a, b] => if a.data.toList = mtc ∧ (numAns b).2 = true then some (1, (numAns b).1, ⟨#[]⟩) else none
  | [a, b, c] => if a.data.toList = thr ∧ Own.nameOk b = true ∧ (numAns c).2 = true then some (2, (numAns c).1, b) else none
  | _ => none
/-- Where the line of the first node stands that ends beyond a place; -1: there is none. -/
def byd (t : ByteArray) (z : Int) : List S60 → Nat → Int
  | [], _ => -1
  | c :: f, at_ => if c.f2 > z then (at_ : Int) else byd t z f (lfAt t at_ + 1)
def goodOf (t : ByteArray) : ByteArray := if (parseAns t).2.2 = 0 then t else t.extract 0 (parseAns t).2.1.toNat
def grownAns (t : ByteArray) (z : Int) : List S60 × Int × Int :=
  if 0 ≤ byd (goodOf t) z (parseAns (goodOf t)).1 0 then ([], byd (goodOf t) z (parseAns (goodOf t)).1 0, 120)
  else if (parseAns t).2.2 = 0 then ((parseAns t).1, 0, 0) else ([], (parseAns t).2.1, (parseAns t).2.2)
structure Out where
  k : Int
  e : Int
  l : ByteArray
  f : List S60
def Out.zero : Out := ⟨0, 0, ⟨#[]⟩, []⟩
def parR (t : ByteArray) : Out × Int × Int :=
  if 4194304 < t.size then (Out.zero, 0, 1)
  else if lfAt t 0 < t.size then match firstAns (t.extract 0 (lfAt t 0)) with
    | none => (Out.zero, 0, 280)
    | some (k, e, l) =>
      if k = 1 then (if (grownAns (t.extract (lfAt t 0 + 1) t.size) e).2.2 = 0 then (⟨k, e, l, (grownAns (t.extract (lfAt t 0 + 1) t.size) e).1⟩, 0, 0)
        else (Out.zero, (grownAns (t.extract (lfAt t 0 + 1) t.size) e).2.1 + ((lfAt t 0 + 1 : Nat) : Int), (grownAns (t.extract (lfAt t 0 + 1) t.size) e).2.2))
      else if lfAt t 0 + 1 < t.size then (Out.zero, ((lfAt t 0 + 1 : Nat) : Int), 280) else (⟨k, e, l, []⟩, 0, 0)
  else (Out.zero, 0, 280)
/- The number: by characters, and as forest's number. -/
theorem numGo_val : ∀ (l : List UInt8) (n m : Nat), numGo l n = some m → (∀ b ∈ l, isDig b = true) ∧ val l n = m
  | [], n, m, h => ⟨fun b hb => (by cases hb), (by cases h; rfl)⟩
  | b :: l, n, m, h => by
    unfold numGo at h
    split at h
    · rename_i hb
      obtain ⟨h1, h2⟩ := numGo_val l _ m h
      refine ⟨fun x hx => ?_, by rw [val]; exact h2⟩
      rcases List.mem_cons.1 hx with rfl | hx
      · exact decide_eq_true ⟨hb.1, hb.2.1⟩
      · exact h1 x hx
    · cases h
theorem val_numGo : ∀ (l : List UInt8) (n : Nat), (∀ b ∈ l, isDig b = true) → val l n ≤ 65536 → numGo l n = some (val l n)
  | [], n, _, _ => rfl
  | b :: l, n, h, hv => by
    have hb := of_decide_eq_true (h b (List.mem_cons_self ..))
    have h1 := val_le l (10 * n + (b.toNat - 48))
    rw [val] at hv
    unfold numGo
    rw [if_pos ⟨hb.1, hb.2, by omega⟩, val]
    exact val_numGo l _ (fun x hx => h x (List.mem_cons_of_mem _ hx)) hv
theorem snoc_of : ∀ (l : List UInt8), l ≠ [] → ∃ r b, l = r ++ [b] := fun l h => ⟨l.dropLast, l.getLast h, (List.dropLast_concat_getLast h).symm⟩
theorem dd_good : ∀ (n : Nat) (ds : List UInt8), ds.length ≤ n → ds ≠ [] → (∀ b ∈ ds, isDig b = true) → ¬ (ds.head? = some 48 ∧ 1 < ds.length) → Lib.decDigits (val ds 0) = ds
  | 0, ds, hl, hne, _, _ => absurd (List.length_eq_zero_iff.1 (by omega)) hne
  | n + 1, ds, hl, hne, hd, hz => by
    obtain ⟨r, b, rfl⟩ := snoc_of ds hne
    have hb := of_decide_eq_true (hd b (by simp))
    have hb2 : UInt8.ofNat (48 + (b.toNat - 48)) = b := by
      apply UInt8.toNat_inj.1
      rw [Bk.u8_of _ (by omega)]
      omega
    rw [Bk.val_snoc]
    by_cases hr : r = []
    · subst hr
      simp only [val, List.nil_append]
      rw [Lib.decDigits, dif_pos (by omega), show 10 * 0 + (b.toNat - 48) = b.toNat - 48 by omega, hb2]
    · have ih := dd_good n r (by rw [List.length_append, List.length_singleton] at hl; omega) hr (fun x hx => hd x (by simp [hx])) (fun h => hz ⟨by
        obtain ⟨x, l, rfl⟩ := List.exists_cons_of_ne_nil hr
        exact h.1, by rw [List.length_append]; have := h.2; omega⟩)
      have hpos : 1 ≤ val r 0 := by
        obtain ⟨x, l, rfl⟩ := List.exists_cons_of_ne_nil hr
        have hx := of_decide_eq_true (hd x (by simp))
        have hx48 : x.toNat ≠ 48 := fun e => hz ⟨by
          show some x = some 48
          rw [UInt8.toNat_inj.1 (show x.toNat = (48 : UInt8).toNat from e)], by simp⟩
        rw [val]
        have := val_le l (10 * 0 + (x.toNat - 48))
        omega
      rw [Lib.decDigits, dif_neg (by omega), show (10 * val r 0 + (b.toNat - 48)) / 10 = val r 0 by omega, show (10 * val r 0 + (b.toNat - 48)) % 10 = b.toNat - 48 by omega, ih, hb2]
theorem itoa_nat (n : Nat) : Lib.itoa (n : Int) = Lib.decDigits n := by
  unfold Lib.itoa
  rw [if_neg (by omega)]
  rfl
/-- What report.number tells, where all are digits. -/
theorem numGo_ok (s : ByteArray) : (∀ m, numGo s.data.toList 0 = some m → ((!s.data.toList.isEmpty && (Lib.itoa (m : Int) == s.data.toList) && decide (m ≤ 65536)) = (numAns s).2 ∧ ((numAns s).2 = true → (numAns s).1 = (m : Int)))) ∧ (numGo s.data.toList 0 = none → (numAns s).2 = false) := by
  obtain ⟨g1, g2⟩ := numAns_good s
  refine ⟨fun m hm => ?_, fun hn => ?_⟩
  · obtain ⟨h1, h2⟩ := numGo_val _ _ _ hm
    refine ⟨?_, fun h => by rw [g2 h, h2]⟩
    rw [Bool.eq_iff_iff, g1]
    simp only [Bool.and_eq_true, decide_eq_true_eq, beq_iff_eq, Bool.not_eq_true', List.isEmpty_eq_false_iff]
    constructor
    · rintro ⟨⟨ha, hb⟩, hc⟩
      have := (Bk.good_itoa (m : Int) (by omega) (by omega)).1
      rw [hb] at this
      exact this
    · rintro ⟨ha, hb, hc, hd⟩
      have hdd := dd_good _ _ (Nat.le_refl _) ha hb hd
      rw [h2] at hdd
      exact ⟨⟨ha, by rw [itoa_nat]; exact hdd⟩, by omega⟩
  · cases hb : (numAns s).2 with
    | false => rfl
    | true =>
      obtain ⟨h1, h2, h3, h4⟩ := g1.1 hb
      rw [val_numGo _ _ h2 h3] at hn
      cases hn
theorem numR_ans (s : ByteArray) : (numR s).2 = (numAns s).2 ∧ ((numAns s).2 = true → (numR s).1 = (numAns s).1) := by
  obtain ⟨h1, h2⟩ := numGo_ok s
  unfold numR
  cases hm : numGo s.data.toList 0 with
  | none => exact ⟨(h2 hm).symm, fun h => by rw [h2 hm] at h; cases h⟩
  | some m => exact ⟨rfl, fun h => ((h1 m hm).2 h).symm⟩
theorem firstR_ans (s : ByteArray) : firstAns s = if (firstR s).2.2.2 = true then some ((firstR s).1, (firstR s).2.1, (firstR s).2.2.1) else none := by
  unfold firstAns firstR
  split
  · rfl
  · split
    · rename_i a b hw
      obtain ⟨h1, h2⟩ := numR_ans b
      by_cases ha : a.data.toList = mtc
      · rw [if_pos ha]
        dsimp only
        rw [h1]
        by_cases hb : (numAns b).2 = true
        · rw [if_pos ⟨ha, hb⟩, if_pos hb, h2 hb]
        · rw [if_neg (fun h => hb h.2), if_neg hb]
      · rw [if_neg ha, if_neg (fun h => ha h.1), if_neg Bool.false_ne_true]
    · rename_i a b c hw
      obtain ⟨h1, h2⟩ := numR_ans c
      by_cases ha : a.data.toList = thr ∧ Own.nameOk b = true
      · rw [if_pos ha]
        dsimp only
        rw [h1]
        by_cases hb : (numAns c).2 = true
        · rw [if_pos ⟨ha.1, ha.2, hb⟩, if_pos hb, h2 hb]
        · rw [if_neg (fun h => hb h.2.2), if_neg hb]
      · rw [if_neg ha, if_neg (fun h => ha ⟨h.1, h.2.1⟩), if_neg Bool.false_ne_true]
    · rw [if_neg Bool.false_ne_true]
/-- A forest of one node is right just if its name is. -/
theorem chk_one (s : ByteArray) : chkAns [⟨s, 0, 0, 0⟩] 0 = if Own.nameOk s = true then 0 else 6 := by
  unfold chkAns
  rw [if_neg (by omega), if_neg (by simp)]
  have h : rightB [⟨s, 0, 0, 0⟩] 0 = Own.nameOk s := by
    unfold rightB
    have hm : (mach [] (K [⟨s, 0, 0, 0⟩])).isSome = true := rfl
    rw [hm, Bool.true_and]
    show Nest.nst Own.nameOk [⟨s, 0, 0, 0⟩] _ 1 0 [((1 : Nat), 0, 0)] = _
    unfold Nest.nst
    rw [List.dropWhile_cons_of_neg (by simp)]
    have e : rd_T60 [⟨s, 0, 0, 0⟩] ((0 : Nat) : Int) = ⟨s, 0, 0, 0⟩ := rfl
    dsimp only
    rw [e]
    cases Own.nameOk s with
    | false => rfl
    | true => rfl
  rw [h]
end Go.Proofs.YtloflodbcdlmpaaDoor.Rp
namespace Go.Proofs.YtloflodbcdlmpaaDoor.Rp
open Go.RowKit Go.Proofs.YtloflodbcdlmpaaDoor.Qall Go.Proofs.YtloflodbcdlmpaaDoor.Chk Go.Proofs.YtloflodbcdlmpaaDoor.Ln Go.Proofs.YtloflodbcdlmpaaDoor.Ps Go.Proofs.YtloflodbcdlmpaaDoor.Tx Go.Proofs.YtloflodbcdlmpaaDoorW.PrintWords Go.Proofs.YtloflodbcdlmpaaDoorW.PrintLast Go.Proofs.YtloflodbcdlmpaaDoorW.PrintMore
open Go.Proofs.YtloflodbcdlmpaaDoor.Fo hiding val
set_option linter.unusedSimpArgs false
set_option linter.unusedVariables false
theorem dec_low (s : ByteArray) (p : Nat) (h : p < s.data.toList.length) (hb : (s.data.toList[p]).toNat < 128) : Utf8.decode s p = ((s.data.toList[p]).toNat, 1) := by
  rw [Lib.decode_N, List.getD_eq_getElem?_getD, List.getElem?_eq_getElem h]
  simp only [Option.getD_some]
  unfold Lib.decodeN
  rw [if_pos hb]
theorem dec_high (s : ByteArray) (p : Nat) (h : p < s.data.toList.length) (hb : ¬ (s.data.toList[p]).toNat < 128) : 128 ≤ (Utf8.decode s p).1 := by
  rw [Lib.decode_N, List.getD_eq_getElem?_getD, List.getElem?_eq_getElem h]
  simp only [Option.getD_some]
  unfold Lib.decodeN
  rw [if_neg hb]
  repeat' split
  all_goals omega
theorem grownBy_iterAt (w : World) (k : Nat) (s : ByteArray) (p : Nat) : w.grownBy (w.iterAt k s p) (some k) :=
  ⟨rfl, rfl, rfl, by simp [World.iterAt], fun i _ hi => by
    have hne : k ≠ i := fun e => hi (by rw [e])
    simp [World.iterAt, Array.getElem?_setIfInBounds_ne hne]⟩
theorem below_iter {w wr : World} {g : Nat} (h : Below w.heap.size w wr) (s : ByteArray) (p : Nat) (hg : w.heap.size ≤ g) : Below w.heap.size w (wr.iterAt g s p) :=
  h.grown (grownBy_iterAt wr g s p) h.size (fun k e => by cases e; exact hg)
theorem dec_lt (s : ByteArray) (p : Nat) : (Utf8.decode s p).1 < 2147483648 := by
  rw [Lib.decode_N]
  have h0 : ∀ x : UInt8, x.toNat < 256 := fun x => x.toNat_lt
  have a0 := h0 (s.data.toList.getD p 0)
  have a1 := h0 (s.data.toList.getD (p + 1) 0)
  have a2 := h0 (s.data.toList.getD (p + 2) 0)
  have a3 := h0 (s.data.toList.getD (p + 3) 0)
  generalize (s.data.toList.getD p 0).toNat = b0 at *
  generalize (s.data.toList.getD (p + 1) 0).toNat = b1 at *
  generalize (s.data.toList.getD (p + 2) 0).toNat = b2 at *
  generalize (s.data.toList.getD (p + 3) 0).toNat = b3 at *
  unfold Lib.decodeN
  repeat' split
  all_goals (dsimp only; omega)
set_option maxRecDepth 100000 in
set_option maxHeartbeats 4000000 in
theorem number_calls (s : ByteArray) (hs : s.size ≤ 4194304) (w : World) (htab : Tab w) :
    Calls Tryd.prog 76 #[.string s] w fun e w' => e = .returned (.tuple #[.int .i64 (numR s).1, .bool (numR s).2]) ∧ Below w.heap.size w w' := by
  have hgo := numGo_ok s
  have HGO := Aside0.mk hgo
  obtain ⟨⟨r1, r2⟩, hR⟩ : ∃ a, numR s = a := ⟨_, rfl⟩
  rw [hR]
  dsimp only
  have HR := Aside0.mk hR
  clear hR
  have hla : s.data.toList.length = s.size := data_length s
  have HT := Aside0.mk htab
  clear hgo htab
  go_enter Tryd.func76, Tryd.ntmps76
  go_wp2
  have HB0 := Aside0.mk ((Below.refl w.heap.size w).alloc (Nat.le_refl _) (.stringIter s 0))
  go_loopw [4] (fun v wr => ∃ (p n : Nat), v = .int .i64 n ∧ Aside0 (p ≤ s.size) ∧ n ≤ 655369 ∧ Aside0 (numGo (s.data.toList.drop p) n = numGo s.data.toList 0) ∧ Aside0 (wr.heap[w.heap.size]? = some (.stringIter s p)) ∧ Aside0 (Below w.heap.size w wr))
    (fun _ wr => s.size - wr.iterPos w.heap.size)
  case atStart => exact ⟨0, 0, rfl, ⟨Nat.zero_le _⟩, Nat.zero_le _, ⟨rfl⟩, ⟨World.alloc_heap_new w _⟩, HB0⟩
  case round =>
    clear HB0
    obtain ⟨p, n, rfl, HP, hn, HN, HI, HB⟩ := hrel
    by_cases hp : p < s.size
    · have hnx : ∀ ty, (Instr.next (.pointer (some ⟨w.heap.size, 0, none⟩)) true ty).run Tryd.prog wr = _ := fun ty => Lib.run_next_any_at wr w.heap.size s p ty HI.out hp
      have hpl : p < s.data.toList.length := by omega
      have hnn := HN.out
      rw [List.drop_eq_getElem_cons hpl, numGo] at hnn
      have hlo := dec_low s p hpl
      have hhi := dec_high s p hpl
      obtain ⟨b, hbe⟩ : ∃ b, s.data.toList[p] = b := ⟨_, rfl⟩
      rw [hbe] at hnn hlo hhi
      have hmeas : (wr.iterAt w.heap.size s (p + (Utf8.decode s p).2)).iterPos w.heap.size = p + (Utf8.decode s p).2 ∧ wr.iterPos w.heap.size = p := ⟨by simp [World.iterPos, Lib.iterAt_heap wr w.heap.size s p _ HI.out], by simp [World.iterPos, HI.out]⟩
      have HME := Aside0.mk hmeas
      clear hmeas
      have hBn : Below w.heap.size w (wr.iterAt w.heap.size s (p + (Utf8.decode s p).2)) := below_iter HB.out s _ (Nat.le_refl _)
      have HBN := Aside0.mk hBn
      have HIN := Aside0.mk (Lib.iterAt_heap wr w.heap.size s p (p + (Utf8.decode s p).2) HI.out)
      clear hBn
      by_cases h1 : 48 ≤ b.toNat ∧ b.toNat ≤ 57 ∧ n ≤ 65536
      · obtain ⟨b1, b2, b3⟩ := h1
        rw [if_pos ⟨b1, b2, b3⟩] at hnn
        rw [hlo (by omega)] at hnx HME HBN HIN
        have HNN := Aside0.mk hnn
        clear hnn hlo hhi HN HB HI
        have t1 : decide ((b.toNat : Int) < 48) = false := decide_eq_false (by omega)
        have t2 : decide ((57 : Int) < (b.toNat : Int)) = false := decide_eq_false (by omega)
        have t3 : decide ((65536 : Int) < (n : Int)) = false := decide_eq_false (by omega)
        go_wp2
        go_roundw
        case rel => exact ⟨p + 1, 10 * n + (b.toNat - 48), by go_num, ⟨by omega⟩, by omega, HNN, HIN, HBN⟩
        case measure => rw [HME.out.1, HME.out.2]; omega
      · have t0 : numGo s.data.toList 0 = none := by rw [← hnn, if_neg h1]
        have e1 : numR s = (0, false) := by unfold numR; rw [t0]
        have hr : (Utf8.decode s p).1 < 48 ∨ 57 < (Utf8.decode s p).1 ∨ 65536 < n := by
          by_cases hl : b.toNat < 128
          · have h3 := hlo hl
            rw [h3]
            dsimp only
            omega
          · have := hhi hl
            omega
        rw [e1] at HR
        obtain ⟨rfl, rfl⟩ := Prod.mk.inj HR.out
        obtain ⟨⟨r, wd⟩, hd⟩ : ∃ x, Utf8.decode s p = x := ⟨_, rfl⟩
        rw [hd] at hnx HME HBN HIN hr
        dsimp only at hnx HME HBN HIN hr
        have hr2 : r < 2147483648 := by
          have := dec_lt s p
          rw [hd] at this
          exact this
        clear t0 e1 hd hnn hlo hhi HN HB HI hbe h1
        by_cases c1 : r < 48
        · have t1 : decide ((r : Int) < 48) = true := decide_eq_true (by omega)
          clear hr c1
          go_wp2
          go_ret2
          exact ⟨by first | rfl | (simp; done), HBN.out⟩
        · have t1 : decide ((r : Int) < 48) = false := decide_eq_false (by omega)
          by_cases c2 : 57 < r
          · have t2 : decide ((57 : Int) < (r : Int)) = true := decide_eq_true (by omega)
            clear hr c1 c2
            go_wp2
            go_ret2
            exact ⟨by first | rfl | (simp; done), HBN.out⟩
          · have t2 : decide ((57 : Int) < (r : Int)) = false := decide_eq_false (by omega)
            have t3 : decide ((65536 : Int) < (n : Int)) = true := decide_eq_true (by omega)
            clear hr c1 c2
            go_wp2
            go_ret2
            exact ⟨by first | rfl | (simp; done), HBN.out⟩
    · have hnx : ∀ ty, (Instr.next (.pointer (some ⟨w.heap.size, 0, none⟩)) true ty).run Tryd.prog wr = _ := fun ty => Lib.run_next_end_at wr w.heap.size s p ty HI.out hp
      have hnn := HN.out
      rw [List.drop_eq_nil_of_le (by omega), numGo] at hnn
      obtain ⟨hok, _⟩ := HGO.out.1 n hnn.symm
      have e1 : numR s = ((n : Int), (numAns s).2) := by unfold numR; rw [← hnn]
      rw [e1, ← hok] at HR
      obtain ⟨rfl, hr2⟩ := Prod.mk.inj HR.out
      have HB2 := HB
      clear hnn hok e1 HN HGO HR
      by_cases h0 : s.data.toList = []
      · rw [h0] at hr2
        obtain rfl := hr2
        have q1 : (!s.toList.isEmpty) = false := by rw [Lib.toList_data, h0]; rfl
        have q2 : s.toList = [] := (Lib.toList_data s).trans h0
        go_wp2
        go_ret2
        exact ⟨by first | rfl | (simp; done) | (simp [*]; done), HB2.out⟩
      · have q1 : (!s.data.toList.isEmpty) = true := by
          cases hl : s.data.toList with
          | nil => exact absurd hl h0
          | cons a l => rfl
        have q0 : (!s.toList.isEmpty) = true := by rw [Lib.toList_data]; exact q1
        have q2 : ¬ s.toList = [] := fun h => h0 ((Lib.toList_data s).symm.trans h)
        have hit := fun (W : World) (hW : Tab W) => strconv_Itoa.calls (n : Int) ⟨(Lib.itoa (n : Int)).toArray⟩ W (by unfold strconv_Itoa.f; rw [if_pos (by omega)]) hW
        have HIT := Aside0.mk hit
        have hil := Lib.itoa_length_le (n : Int) (by omega) (by omega)
        clear hit
        obtain ⟨it, hite⟩ : ∃ it : ByteArray, (⟨(Lib.itoa (n : Int)).toArray⟩ : ByteArray) = it := ⟨_, rfl⟩
        rw [hite] at HIT
        have q4 : (Lib.itoa (n : Int) == s.data.toList) = (it.toList == s.toList) := by rw [← hite, Lib.toList_data, Lib.toList_data]
        rw [q1, q4, Bool.true_and] at hr2
        have HR2 := Aside0.mk hr2
        clear hr2
        clear q4 hite hil
        have HHT := Aside0.mk (Tab.step HT.out HB.out)
        have q5 : ¬ s.data = #[] := fun h => h0 (by rw [h])
        go_wp2_with fail
        go_at_call 36
        refine (HIT.out wr HHT.out).mono ?_
        rintro e w3 ⟨rfl, hb3⟩
        have HB3 := Aside0.mk (HB2.out.trans (hb3.mono HB2.out.size))
        clear hb3
        cases q6 : (it.toList == s.toList) with
        | true =>
          go_wp2
          go_ret2
          exact ⟨by rw [← HR2.out, q6]; first | rfl | (simp; done) | (simp [*]; done) | (simp; omega), HB3.out⟩
        | false =>
          go_wp2
          go_ret2
          exact ⟨by rw [← HR2.out, q6]; first | rfl | (simp; done) | (simp [*]; done) | (simp; omega), HB3.out⟩
end Go.Proofs.YtloflodbcdlmpaaDoor.Rp
namespace Go.Proofs.YtloflodbcdlmpaaDoor.Rp
open Go.RowKit Go.Proofs.YtloflodbcdlmpaaDoor.Qall Go.Proofs.YtloflodbcdlmpaaDoor.Chk Go.Proofs.YtloflodbcdlmpaaDoor.Ln Go.Proofs.YtloflodbcdlmpaaDoor.Ps Go.Proofs.YtloflodbcdlmpaaDoor.Tx Go.Proofs.YtloflodbcdlmpaaDoorW.PrintWords Go.Proofs.YtloflodbcdlmpaaDoorW.PrintLast Go.Proofs.YtloflodbcdlmpaaDoorW.PrintMore
open Go.Proofs.YtloflodbcdlmpaaDoor.Fo hiding val
set_option linter.unusedSimpArgs false
set_option linter.unusedVariables false
set_option maxRecDepth 100000 in
set_option maxHeartbeats 4000000 in
/-- The closure: the number of a word. -/
theorem end_calls (i : Nat) (x : ByteArray) (g b n c : Nat) (w : World) (hx : x.size ≤ 4194304) (hg : w.cell? ⟨g, 0, none⟩ = some (.slice (some ⟨b, 0, none⟩) n c)) (hi : i < n) (hn : n ≤ 4194305) (hc : w.cell? ⟨b, i, none⟩ = some (.string x)) (htab : Tab w) :
    Calls Tryd.prog 75 #[.int .i64 (i : Int), .pointer (some ⟨g, 0, none⟩)] w fun e w' => e = .returned (.tuple #[.int .i64 (numR x).1, .bool (numR x).2]) ∧ Below w.heap.size w w' := by
  have HC := Aside0.mk (number_calls x hx w htab)
  clear htab
  go_enter Tryd.func75, Tryd.ntmps75
  go_wp2_with fail
  go_at_call 76
  refine HC.out.mono ?_
  rintro e w1 ⟨rfl, hb⟩
  have HB := Aside0.mk hb
  clear hb HC
  go_wp2
  go_ret2
  exact ⟨rfl, HB.out⟩
set_option maxRecDepth 100000 in
set_option maxHeartbeats 4000000 in
/-- A forest of one node with a name. -/
theorem own_calls (s : ByteArray) (hs : s.size ≤ 4194304) (w : World) :
    Calls Tryd.prog 59 #[.string s] w fun e w' => e = .returned (.bool (Own.nameOk s)) ∧ Below w.heap.size w w' := by
  have hck := fun (A : Option Addr) (c : Nat) (W : World) (hC : Kd.C k60 W A 1 [⟨s, 0, 0, 0⟩]) (h : 1 ≤ c) => check_calls [⟨s, 0, 0, 0⟩] (by simp) 0 4194304 (fun x hx => by rw [List.mem_singleton.1 hx]; exact hs) (by decide) A c W hC h
  rw [chk_one] at hck
  have HCK := Aside0.mk hck
  clear hck
  have hC : Kd.C k60 (w.alloc (.cells #[.string s, .int .i64 0, .int .i64 0, .int .i64 0] 60)) (some ⟨w.heap.size, 0, none⟩) 1 [⟨s, 0, 0, 0⟩] := by
    have hR : Kd.R k60 60 (w.alloc (.cells #[.string s, .int .i64 0, .int .i64 0, .int .i64 0] 60)) 0 (fun _ => True) (.slice (some ⟨w.heap.size, 0, none⟩) 1 1) [⟨s, 0, 0, 0⟩] := by
      refine ⟨fun k hk => trivial, [.string s, .int .i64 0, .int .i64 0, .int .i64 0], ⟨rfl, .inr ⟨w.heap.size, 1, _, rfl, Nat.zero_le _, Array.getElem?_push_size, Nat.le_refl _, by unfold maxLen; decide, rfl, rfl⟩⟩, ⟨rfl, fun j p hp => ?_⟩⟩
      obtain ⟨hlt, rfl⟩ := List.getElem?_eq_some_iff.1 hp
      obtain rfl : j = 0 := by simpa using hlt
      exact k60_mkM _ 0 _ ⟨s, 0, 0, 0⟩
    exact (Kd.R_reads' hR).2.2
  have HC := Aside0.mk hC
  clear hC
  go_enter Tryd.func59, Tryd.ntmps59
  go_wp2_with fail
  go_at_call 22
  refine (HCK.out (some ⟨w.heap.size, 0, none⟩) 1 _ HC.out (Nat.le_refl _)).mono ?_
  rintro e w1 ⟨rfl, hb⟩
  have HB := Aside0.mk (((Below.refl w.heap.size w).alloc (Nat.le_refl _) _).trans (hb.mono (by simp)))
  clear hb HC HCK
  cases hk : Own.nameOk s with
  | true =>
    go_wp2
    go_ret
    exact ⟨by first | rfl | (simp; done) | (simp [*]; done), HB.out⟩
  | false =>
    go_wp2
    go_ret
    exact ⟨by first | rfl | (simp; done) | (simp [*]; done), HB.out⟩
theorem heap_new1 (W : World) (o p : Obj) : ((W.alloc p).alloc o).heap[W.heap.size + 1]? = some o := by
  have := Array.getElem?_push_size (xs := (W.alloc p).heap) (x := o)
  rw [World.size_alloc] at this
  exact this
theorem heap_new2 (W : World) (o p q : Obj) : (((W.alloc p).alloc q).alloc o).heap[W.heap.size + 1 + 1]? = some o := by
  have := Array.getElem?_push_size (xs := ((W.alloc p).alloc q).heap) (x := o)
  rw [World.size_alloc, World.size_alloc] at this
  exact this
theorem blkO {X : World} {g : Nat} {x0 x1 x2 x3 y0 y1 y2 y3 : Value} {t : TypeId} (h : X.heap[g]? = some (.cells #[x0, x1, x2, x3] t (0, 0))) : ((((X.setCell ⟨g, 0, none⟩ y0).setCell ⟨g, 1, none⟩ y1).setCell ⟨g, 2, none⟩ y2).setCell ⟨g, 3, none⟩ y3).heap[g]? = some (.cells #[y0, y1, y2, y3] t (0, 0)) :=
  heap_setCell_same _ _ _ _ _ _ (heap_setCell_same _ _ _ _ _ _ (heap_setCell_same _ _ _ _ _ _ (heap_setCell_same _ _ _ _ _ _ h)))
set_option maxRecDepth 100000 in
set_option maxHeartbeats 4000000 in
theorem first_calls (s : ByteArray) (hs : s.size ≤ 4194304) (w : World) (htab : Tab w) (hm : Mx w) :
    Calls Tryd.prog 42 #[.string s] w fun e w' => e = .returned (.tuple #[.agg #[.int .i64 (firstR s).1, .int .i64 (firstR s).2.1, .string (firstR s).2.2.1, .slice none 0 0], .bool (firstR s).2.2.2]) ∧ Below w.heap.size w w' := by
  have hmf : ∀ (fn : Fn) (first cap : Array Value) (w : World), (Instr.makeFunc fn first cap).run Tryd.prog w = .ok (.func fn first cap) w := fun _ _ _ _ => rfl
  have hu := Tryd.underlying24
  obtain ⟨⟨r1, r2, r3, r4⟩, hR⟩ : ∃ a, firstR s = a := ⟨_, rfl⟩
  rw [hR]
  dsimp only
  have HT := Aside0.mk htab
  clear htab
  obtain ⟨m, hm0⟩ := hm
  have hm1 : (w.alloc (.cells #[.int .i64 0, .int .i64 0, .string ⟨#[]⟩, .slice none 0 0] 24)).cell? ⟨0, 0, none⟩ = some (.int .i64 m) := by
    have hb := (Below.refl w.heap.size w).alloc (Nat.le_refl _) (.cells #[.int .i64 0, .int .i64 0, .string ⟨#[]⟩, .slice none 0 0] 24)
    exact (hb.cell (World.block_lt_of_cell? w _ hm0)).trans hm0
  have hsp := Tryd.strings_Split s ⟨#[32]⟩ m _ (by omega) hm1 (by decide)
  have hwl := wordsOf_length s
  have hwz : ∀ x ∈ wordsOf s, x.size ≤ s.size := split_size _ _ s
  have hwn : (wordsOf s).length ≤ 4194305 := by
    have := Lib.countB_le ⟨#[32]⟩ (by decide) s.size s (Nat.le_refl _)
    omega
  rw [← hwl] at hsp
  unfold firstR at hR
  change Calls Tryd.prog 74 _ _ (fun e w' => _ ∧ w' = World.alloc _ (.cells ((wordsOf s).map Value.string).toArray 9)) at hsp
  obtain ⟨ws, hws⟩ : ∃ ws, wordsOf s = ws := ⟨_, rfl⟩
  rw [hws] at hsp hR hwz hwn
  clear hwl hws hm0 hm1
  have HSP := Aside0.mk hsp
  clear hsp
  by_cases hf : s.data.toList = fld
  · rw [if_pos hf] at hR
    obtain ⟨rfl, rfl, rfl, rfl⟩ : 0 = r1 ∧ 0 = r2 ∧ ⟨#[]⟩ = r3 ∧ true = r4 := by simpa using hR
    have q1 : (s.toList == [102, 97, 105, 108, 101, 100]) = true := by rw [Lib.toList_data, hf]; rfl
    clear hf hR hwz hwn
    go_enter Tryd.func42, Tryd.ntmps42
    go_wp2_with fail
    go_at_call 74
    refine HSP.out.mono ?_
    rintro e w' ⟨rfl, rfl⟩
    go_wp2_with fail
    refine bodyPost_ret (results_list (rs := [.cell 2 24, .tmp 3]) rfl (by simp) (.cell w.heap.size 24 #[.int .i64 0, .int .i64 0, .string ⟨#[]⟩, .slice none 0 0] (0, 0) _ rfl (blk_alloc (blk_alloc (blk_new w _) _) _) hu rfl (by kernel_rfl) (.tmp .nil))) rfl ?_
    exact ⟨by first | rfl | (simp; done), (((Below.refl _ w).alloc (Nat.le_refl _) _).alloc (by simp) _).alloc (by simp; omega) _⟩
  · rw [if_neg hf] at hR
    have q1 : (s.toList == [102, 97, 105, 108, 101, 100]) = false := by rw [Lib.toList_data]; exact beq_eq_false_iff_ne.2 hf
    clear hf
    by_cases h2 : ws.length = 2
    · obtain ⟨a, b, rfl⟩ : ∃ a b, ws = [a, b] := by
        match ws, h2 with
        | [a, b], _ => exact ⟨a, b, rfl⟩
      have hb : b.size ≤ 4194304 := by have := hwz b (by simp); omega
      simp only [List.map_cons, List.map_nil, List.length_cons, List.length_nil] at HSP
      dsimp only at hR
      clear hwz hwn h2
      by_cases hx : a.data.toList = mtc
      · rw [if_pos hx] at hR
        obtain ⟨rfl, h2, rfl, h4⟩ : 1 = r1 ∧ (numR b).1 = r2 ∧ ⟨#[]⟩ = r3 ∧ (numR b).2 = r4 := by simpa using hR
        have q2 : (a.toList == [109, 97, 116, 99, 104, 101, 100]) = true := by rw [Lib.toList_data, hx]; rfl
        have hend := fun (W : World) (g b' n c : Nat) (hg : W.cell? ⟨g, 0, none⟩ = some (.slice (some ⟨b', 0, none⟩) n c)) (hi : 1 < n) (hn : n ≤ 4194305) (hc : W.cell? ⟨b', 1, none⟩ = some (.string b)) (hT : Tab W) => end_calls 1 b g b' n c W hb hg hi hn hc hT
        rw [h2, h4] at hend
        have HE := Aside0.mk hend
        clear hend h2 h4 hx hR
        go_enter Tryd.func42, Tryd.ntmps42
        go_wp2_with fail
        go_at_call 74
        refine HSP.out.mono ?_
        rintro e w' ⟨rfl, rfl⟩
        go_wp2_with fail
        go_at_call 75
        have hb3 : Below w.heap.size w (((w.alloc (.cells #[.int .i64 0, .int .i64 0, .string ⟨#[]⟩, .slice none 0 0] 24)).alloc (.cells #[.string a, .string b] 9)).alloc (.cells #[.slice (some ⟨w.heap.size + 1, 0, none⟩) 2 2] 119)) := (((Below.refl _ w).alloc (Nat.le_refl _) _).alloc (by simp) _).alloc (by simp; omega) _
        refine (HE.out _ (w.heap.size + 1 + 1) (w.heap.size + 1) 2 2 ((blk_cell (heap_new2 _ _ _ _) 0).trans rfl) (by omega) (by omega) ((blk_cell (blk_alloc (heap_new1 _ _ _) _) 1).trans rfl) (Tab.step HT.out hb3)).mono ?_
        rintro e w4 ⟨rfl, hb4⟩
        have hk := (hb4.block w.heap.size (by simp; omega)).trans (blk_alloc (blk_alloc (blk_new w (.cells #[.int .i64 0, .int .i64 0, .string ⟨#[]⟩, .slice none 0 0] 24)) _) _)
        have HK := Aside0.mk hk
        have HB4 := Aside0.mk (hb3.trans (hb4.mono hb3.size))
        have k0 := (blk_cell HK.out 0).trans rfl
        have k1 := (blk_cell HK.out 1).trans rfl
        have k2 := (blk_cell HK.out 2).trans rfl
        have k3 := (blk_cell HK.out 3).trans rfl
        have z0 := blk_frozen HK.out 0
        have z1 := blk_frozen HK.out 1
        have z2 := blk_frozen HK.out 2
        have z3 := blk_frozen HK.out 3
        clear hk hb3 hb4
        go_wp2_with fail
        refine bodyPost_ret (results_list (rs := [.cell 2 24, .tmp 3]) rfl (by simp) (.cell w.heap.size 24 #[.int .i64 1, .int .i64 r2, .string ⟨#[]⟩, .slice none 0 0] (0, 0) _ rfl (blkO HK.out) hu rfl (by kernel_rfl) (.tmp .nil))) rfl ?_
        exact ⟨by first | rfl | (simp; done), bel4 HB4.out (Nat.le_refl _)⟩
      · rw [if_neg hx] at hR
        obtain ⟨rfl, rfl, rfl, rfl⟩ : 0 = r1 ∧ 0 = r2 ∧ ⟨#[]⟩ = r3 ∧ false = r4 := by simpa using hR
        have q2 : (a.toList == [109, 97, 116, 99, 104, 101, 100]) = false := by rw [Lib.toList_data]; exact beq_eq_false_iff_ne.2 hx
        clear hx hR
        go_enter Tryd.func42, Tryd.ntmps42
        go_wp2_with fail
        go_at_call 74
        refine HSP.out.mono ?_
        rintro e w' ⟨rfl, rfl⟩
        go_wp2_with fail
        refine bodyPost_ret (results_list (rs := [.cell 2 24, .tmp 3]) rfl (by simp) (.cell w.heap.size 24 #[.int .i64 0, .int .i64 0, .string ⟨#[]⟩, .slice none 0 0] (0, 0) _ rfl (blk_alloc (blk_alloc (blk_new w _) _) _) hu rfl (by kernel_rfl) (.tmp .nil))) rfl ?_
        exact ⟨by first | rfl | (simp; done), (((Below.refl _ w).alloc (Nat.le_refl _) _).alloc (by simp) _).alloc (by simp; omega) _⟩
    · by_cases h3 : ws.length = 3
      · obtain ⟨a, b, c, rfl⟩ : ∃ a b c, ws = [a, b, c] := by
          match ws, h3 with
          | [a, b, c], _ => exact ⟨a, b, c, rfl⟩
        have hb : b.size ≤ 4194304 := by have := hwz b (by simp); omega
        have hc : c.size ≤ 4194304 := by have := hwz c (by simp); omega
        simp only [List.map_cons, List.map_nil, List.length_cons, List.length_nil] at HSP
        dsimp only at hR
        clear hwz hwn h2 h3
        by_cases hx : a.data.toList = thr
        · have q2 : (a.toList == [116, 104, 114, 111, 119, 110]) = true := by rw [Lib.toList_data, hx]; rfl
          have how := fun W => own_calls b hb W
          obtain ⟨ok, hok⟩ : ∃ x, Own.nameOk b = x := ⟨_, rfl⟩
          rw [hok] at how hR
          have HO := Aside0.mk how
          have hb3 : Below w.heap.size w (((w.alloc (.cells #[.int .i64 0, .int .i64 0, .string ⟨#[]⟩, .slice none 0 0] 24)).alloc (.cells #[.string a, .string b, .string c] 9)).alloc (.cells #[.slice (some ⟨w.heap.size + 1, 0, none⟩) 3 3] 119)) := (((Below.refl _ w).alloc (Nat.le_refl _) _).alloc (by simp) _).alloc (by simp; omega) _
          have HB3 := Aside0.mk hb3
          clear how hok hb3
          cases ok with
          | true =>
            rw [if_pos ⟨hx, rfl⟩] at hR
            obtain ⟨rfl, h2, rfl, h4⟩ : 2 = r1 ∧ (numR c).1 = r2 ∧ b = r3 ∧ (numR c).2 = r4 := by simpa using hR
            have hend := fun (W : World) (g b' n c' : Nat) (hg : W.cell? ⟨g, 0, none⟩ = some (.slice (some ⟨b', 0, none⟩) n c')) (hi : 2 < n) (hn : n ≤ 4194305) (hcc : W.cell? ⟨b', 2, none⟩ = some (.string c)) (hT : Tab W) => end_calls 2 c g b' n c' W hc hg hi hn hcc hT
            rw [h2, h4] at hend
            have HE := Aside0.mk hend
            clear hend h2 h4 hx hR
            go_enter Tryd.func42, Tryd.ntmps42
            go_wp2_with fail
            go_at_call 74
            refine HSP.out.mono ?_
            rintro e w' ⟨rfl, rfl⟩
            go_wp2_with fail
            go_at_call 59
            refine (HO.out _).mono ?_
            rintro e w3 ⟨rfl, hb0⟩
            have hs1 : w.heap.size + 1 < (((w.alloc (.cells #[.int .i64 0, .int .i64 0, .string ⟨#[]⟩, .slice none 0 0] 24)).alloc (.cells #[.string a, .string b, .string c] 9)).alloc (.cells #[.slice (some ⟨w.heap.size + 1, 0, none⟩) 3 3] 119)).heap.size := by first | (simp; done) | (simp; omega)
            have hs2 : w.heap.size + 1 + 1 < (((w.alloc (.cells #[.int .i64 0, .int .i64 0, .string ⟨#[]⟩, .slice none 0 0] 24)).alloc (.cells #[.string a, .string b, .string c] 9)).alloc (.cells #[.slice (some ⟨w.heap.size + 1, 0, none⟩) 3 3] 119)).heap.size := by simp
            have g1 := (hb0.block (w.heap.size + 1) hs1).trans (blk_alloc (heap_new1 _ _ _) _)
            have g2 := (hb0.block (w.heap.size + 1 + 1) hs2).trans (heap_new2 _ _ _ _)
            have G1 := Aside0.mk g1
            have G2 := Aside0.mk g2
            have hk0 := (hb0.block w.heap.size (by omega)).trans (blk_alloc (blk_alloc (blk_new w (.cells #[.int .i64 0, .int .i64 0, .string ⟨#[]⟩, .slice none 0 0] 24)) _) _)
            have HK0 := Aside0.mk hk0
            have HB0 := Aside0.mk (HB3.out.trans (hb0.mono HB3.out.size))
            have c0 := (blk_cell G1.out 0).trans rfl
            have c1 := (blk_cell G1.out 1).trans rfl
            have c2 := (blk_cell G1.out 2).trans rfl
            have d0 := (blk_cell G2.out 0).trans rfl
            clear g1 g2 hk0 hb0 hs1 hs2
            go_wp2_with fail
            go_at_call 75
            refine (HE.out _ (w.heap.size + 1 + 1) (w.heap.size + 1) 3 3 ((blk_cell G2.out 0).trans rfl) (by omega) (by omega) ((blk_cell G1.out 2).trans rfl) (Tab.step HT.out HB0.out)).mono ?_
            rintro e w4 ⟨rfl, hb4⟩
            have hk := (hb4.block w.heap.size (lt_of_some HK0.out)).trans HK0.out
            have g1 := (hb4.block (w.heap.size + 1) (lt_of_some G1.out)).trans G1.out
            have g2 := (hb4.block (w.heap.size + 1 + 1) (lt_of_some G2.out)).trans G2.out
            have hb3 := HB0.out
            have e0 := (blk_cell g1 0).trans rfl
            have e1 := (blk_cell g1 1).trans rfl
            have e2 := (blk_cell g1 2).trans rfl
            have e3 := (blk_cell g2 0).trans rfl
            clear g1 g2 c0 c1 c2 d0
            have HK := Aside0.mk hk
            have HB4 := Aside0.mk (hb3.trans (hb4.mono hb3.size))
            have k0 := (blk_cell HK.out 0).trans rfl
            have k1 := (blk_cell HK.out 1).trans rfl
            have k2 := (blk_cell HK.out 2).trans rfl
            have k3 := (blk_cell HK.out 3).trans rfl
            have z0 := blk_frozen HK.out 0
            have z1 := blk_frozen HK.out 1
            have z2 := blk_frozen HK.out 2
            have z3 := blk_frozen HK.out 3
            clear hk hb3 hb4
            go_wp2_with fail
            refine bodyPost_ret (results_list (rs := [.cell 2 24, .tmp 3]) rfl (by simp) (.cell w.heap.size 24 #[.int .i64 2, .int .i64 r2, .string b, .slice none 0 0] (0, 0) _ rfl (blkO HK.out) hu rfl (by kernel_rfl) (.tmp .nil))) rfl ?_
            exact ⟨by first | rfl | (simp; done), bel4 HB4.out (Nat.le_refl _)⟩
          | false =>
            rw [if_neg (fun h => by cases h.2)] at hR
            obtain ⟨rfl, rfl, rfl, rfl⟩ : 0 = r1 ∧ 0 = r2 ∧ ⟨#[]⟩ = r3 ∧ false = r4 := by simpa using hR
            clear hx hR
            go_enter Tryd.func42, Tryd.ntmps42
            go_wp2_with fail
            go_at_call 74
            refine HSP.out.mono ?_
            rintro e w' ⟨rfl, rfl⟩
            go_wp2_with fail
            go_at_call 59
            refine (HO.out _).mono ?_
            rintro e w3 ⟨rfl, hb4⟩
            have hk := (hb4.block w.heap.size (by simp; omega)).trans (blk_alloc (blk_alloc (blk_new w (.cells #[.int .i64 0, .int .i64 0, .string ⟨#[]⟩, .slice none 0 0] 24)) _) _)
            have hb3 := HB3.out
            have HK := Aside0.mk hk
            have HB4 := Aside0.mk (hb3.trans (hb4.mono hb3.size))
            have k0 := (blk_cell HK.out 0).trans rfl
            have k1 := (blk_cell HK.out 1).trans rfl
            have k2 := (blk_cell HK.out 2).trans rfl
            have k3 := (blk_cell HK.out 3).trans rfl
            have z0 := blk_frozen HK.out 0
            have z1 := blk_frozen HK.out 1
            have z2 := blk_frozen HK.out 2
            have z3 := blk_frozen HK.out 3
            clear hk hb3 hb4
            go_wp2_with fail
            refine bodyPost_ret (results_list (rs := [.cell 2 24, .tmp 3]) rfl (by simp) (.cell w.heap.size 24 #[.int .i64 0, .int .i64 0, .string ⟨#[]⟩, .slice none 0 0] (0, 0) _ rfl (blkO HK.out) hu rfl (by kernel_rfl) (.tmp .nil))) rfl ?_
            exact ⟨by first | rfl | (simp; done), bel4 HB4.out (Nat.le_refl _)⟩
        · rw [if_neg (fun h => hx h.1)] at hR
          obtain ⟨rfl, rfl, rfl, rfl⟩ : 0 = r1 ∧ 0 = r2 ∧ ⟨#[]⟩ = r3 ∧ false = r4 := by simpa using hR
          have q2 : (a.toList == [116, 104, 114, 111, 119, 110]) = false := by rw [Lib.toList_data]; exact beq_eq_false_iff_ne.2 hx
          clear hx hR
          go_enter Tryd.func42, Tryd.ntmps42
          go_wp2_with fail
          go_at_call 74
          refine HSP.out.mono ?_
          rintro e w' ⟨rfl, rfl⟩
          go_wp2_with fail
          refine bodyPost_ret (results_list (rs := [.cell 2 24, .tmp 3]) rfl (by simp) (.cell w.heap.size 24 #[.int .i64 0, .int .i64 0, .string ⟨#[]⟩, .slice none 0 0] (0, 0) _ rfl (blk_alloc (blk_alloc (blk_new w _) _) _) hu rfl (by kernel_rfl) (.tmp .nil))) rfl ?_
          exact ⟨by first | rfl | (simp; done), (((Below.refl _ w).alloc (Nat.le_refl _) _).alloc (by simp) _).alloc (by simp; omega) _⟩
      · have hR2 : ((0 : Int), (0 : Int), (⟨#[]⟩ : ByteArray), false) = (r1, r2, r3, r4) := by
          rw [← hR]
          match ws, h2, h3 with
          | [], _, _ => rfl
          | [_], _, _ => rfl
          | [_, _], h, _ => exact absurd rfl h
          | [_, _, _], _, h => exact absurd rfl h
          | _ :: _ :: _ :: _ :: _, _, _ => rfl
        obtain ⟨rfl, rfl, rfl, rfl⟩ : 0 = r1 ∧ 0 = r2 ∧ ⟨#[]⟩ = r3 ∧ false = r4 := by simpa using hR2
        have p2 : ((ws.length : Int) == 2) = false := beq_eq_false_iff_ne.2 (by omega)
        have p3 : ((ws.length : Int) == 3) = false := beq_eq_false_iff_ne.2 (by omega)
        clear hR hR2 hwz
        go_enter Tryd.func42, Tryd.ntmps42
        go_wp2_with fail
        go_at_call 74
        refine HSP.out.mono ?_
        rintro e w' ⟨rfl, rfl⟩
        go_wp2_with fail
        refine bodyPost_ret (results_list (rs := [.cell 2 24, .tmp 3]) rfl (by simp) (.cell w.heap.size 24 #[.int .i64 0, .int .i64 0, .string ⟨#[]⟩, .slice none 0 0] (0, 0) _ rfl (blk_alloc (blk_alloc (blk_new w _) _) _) hu rfl (by kernel_rfl) (.tmp .nil))) rfl ?_
        exact ⟨by first | rfl | (simp; done), (((Below.refl _ w).alloc (Nat.le_refl _) _).alloc (by simp) _).alloc (by simp; omega) _⟩
end Go.Proofs.YtloflodbcdlmpaaDoor.Rp
namespace Go.Proofs.YtloflodbcdlmpaaDoor.Qall
open Go.RowKit Go.Proofs.YtloflodbcdlmpaaDoor.Chk Go.Proofs.YtloflodbcdlmpaaDoor.Tx Go.Proofs.YtloflodbcdlmpaaDoor.Ln Go.Proofs.YtloflodbcdlmpaaDoor.Ps Go.Proofs.YtloflodbcdlmpaaDoor.Rp Go.Proofs.YtloflodbcdlmpaaDoorW.PrintWords Go.Proofs.YtloflodbcdlmpaaDoorW.PrintLast Go.Proofs.YtloflodbcdlmpaaDoorW.PrintMore
set_option linter.unusedSimpArgs false
set_option linter.unusedVariables false
/-- An outcome, as it is handed in. -/
structure S24 where
  f0 : Int
  f1 : Int
  f2 : ByteArray
  f3 : List (S60)
def TM (w : World) : Prop := Tab w ∧ Ln.Mx w
theorem TM.step {w w' : World} (h : TM w) (hb : Below w.heap.size w w') : TM w' := ⟨Tab.step h.1 hb, h.2.step hb⟩
theorem TM.tab {w : World} (h : TM w) : Tab w := h.1
theorem TM.mx {w : World} (h : TM w) : Ln.Mx w := h.2
def few (l : List (S60)) : Bool := decide (l.length ≤ 2097152) && l.all fun x => decide (x.f0.size ≤ 1073741824 ∧ (-9223372036854775808 ≤ x.f1 ∧ x.f1 ≤ 9223372036854775807) ∧ (-9223372036854775808 ≤ x.f2 ∧ x.f2 ≤ 9223372036854775807))
theorem few_iff (l : List (S60)) : few l = true ↔ l.length ≤ 2097152 ∧ (∀ x ∈ l, x.f0.size ≤ 1073741824) ∧ (∀ x ∈ l, -9223372036854775808 ≤ x.f1 ∧ x.f1 ≤ 9223372036854775807) ∧ (∀ x ∈ l, -9223372036854775808 ≤ x.f2 ∧ x.f2 ≤ 9223372036854775807) := by
  unfold few
  rw [Bool.and_eq_true, decide_eq_true_eq, List.all_eq_true]
  exact ⟨fun h => ⟨h.1, fun x hx => (of_decide_eq_true (h.2 x hx)).1, fun x hx => (of_decide_eq_true (h.2 x hx)).2.1, fun x hx => (of_decide_eq_true (h.2 x hx)).2.2⟩, fun h => ⟨h.1, fun x hx => decide_eq_true ⟨h.2.1 x hx, h.2.2.1 x hx, h.2.2.2 x hx⟩⟩⟩
def forest_Check.f (l0 : List (S60)) (a1 : Int) : Option Int := if few l0 = true then some (chkAns l0 a1) else none
theorem forest_Check.calls (A0 : Option Addr) (c0 : Nat) (l0 : List (S60)) (a1 : Int) (r : Int) (w : World) (hr0 : Kd.C k60 w A0 l0.length l0) (hc0 : l0.length ≤ c0) (h : forest_Check.f l0 a1 = some r) :
    Calls Tryd.prog 22 #[.slice A0 l0.length c0, .int .i64 a1] w fun e w' => e = .returned (.int .i64 r) ∧ Below w.heap.size w w' := by
  unfold forest_Check.f at h
  split at h
  · rename_i hf
    rw [few_iff] at hf
    cases h
    exact check_calls l0 hf.1 a1 1073741824 hf.2.1 (Nat.le_refl _) A0 c0 w hr0 hc0
  · cases h
def forest_Text.f (l0 : List (S60)) : Option (ByteArray × Int) := if few l0 = true then some (txtAns l0) else none
theorem forest_Text.calls (A0 : Option Addr) (c0 : Nat) (l0 : List (S60)) (r1 : ByteArray) (r2 : Int) (w : World) (hr0 : Kd.C k60 w A0 l0.length l0) (hc0 : l0.length ≤ c0) (h : forest_Text.f l0 = some (r1, r2)) (htab : Tab w) :
    Calls Tryd.prog 27 #[.slice A0 l0.length c0] w fun e w' => e = .returned (.tuple #[.string r1, .int .i64 r2]) ∧ Below w.heap.size w w' := by
  unfold forest_Text.f at h
  split at h
  · rename_i hf
    rw [few_iff] at hf
    have hx := text_calls l0 hf.1 1073741824 hf.2.1 (Nat.le_refl _) hf.2.2.1 hf.2.2.2 A0 c0 w hr0 hc0 htab
    rw [Option.some.inj h] at hx
    exact hx
  · cases h
def forest_Parse.f (a0 : ByteArray) : Option ((List (S60)) × Int × Int) := some (parseAns a0)
theorem forest_Parse.calls (a0 : ByteArray) (r1 : List (S60)) (r2 : Int) (r3 : Int) (w : World) (h : forest_Parse.f a0 = some (r1, r2, r3)) (hm : Ln.Mx w) :
    Calls Tryd.prog 77 #[.string a0] w fun e w' => ∃ v0_ : Value, e = .returned (.tuple #[v0_, .agg #[.int .i64 r2, .int .i64 r3]]) ∧ Kd.R k60 60 w' w.heap.size (fun _ => True) v0_ r1 ∧ Below w.heap.size w w' := by
  have hx := parse_calls a0 w hm
  rw [Option.some.inj h] at hx
  exact hx
def dowelbook_LendSpans.f (l0 : List (S60)) : Option (List (S60)) := if few l0 = true then some l0 else none
theorem dowelbook_LendSpans.calls (A0 : Option Addr) (c0 : Nat) (l0 : List (S60)) (r : List (S60)) (w : World) (hr0 : Kd.C k60 w A0 l0.length l0) (hc0 : l0.length ≤ c0) (h : dowelbook_LendSpans.f l0 = some r) :
    Calls Tryd.prog 23 #[.slice A0 l0.length c0] w fun e w' => ∃ v0_ : Value, e = .returned (v0_) ∧ Kd.R k60 60 w' w.heap.size (fun _ => True) v0_ r ∧ Below w.heap.size w w' := by
  unfold dowelbook_LendSpans.f at h
  split at h
  · rename_i hf
    rw [few_iff] at hf
    cases h
    refine (Lend.lend l0 A0 c0 w hr0 hf.1).mono ?_
    rintro e w' ⟨g, cap, cur, hg, rfl, hcap, hmax, hcur, hcs, htake, hb⟩
    exact ⟨_, rfl, Free.own_R w' w.heap.size g cap cur l0 hcur hg (by omega) hmax hcs htake, hb⟩
  · cases h
def report_own.f (a0 : ByteArray) : Option Bool := if a0.size ≤ 4194304 then some (Own.nameOk a0) else none
theorem report_own.calls (a0 : ByteArray) (r : Bool) (w : World) (h : report_own.f a0 = some r) :
    Calls Tryd.prog 59 #[.string a0] w fun e w' => e = .returned (.bool r) ∧ Below w.heap.size w w' := by
  unfold report_own.f at h
  split at h
  · rename_i hf
    cases h
    exact own_calls a0 hf w
  · cases h
def report_first.f (a0 : ByteArray) : Option (Int × Int × ByteArray × (List (S60)) × Bool) := if a0.size ≤ 4194304 then some ((firstR a0).1, (firstR a0).2.1, (firstR a0).2.2.1, [], (firstR a0).2.2.2) else none
theorem report_first.calls (a0 : ByteArray) (r1 : Int) (r2 : Int) (r3 : ByteArray) (r4 : List (S60)) (r5 : Bool) (w : World) (h : report_first.f a0 = some (r1, r2, r3, r4, r5)) (htm : TM w) :
    Calls Tryd.prog 42 #[.string a0] w fun e w' => ∃ v3_ : Value, e = .returned (.tuple #[.agg #[.int .i64 r1, .int .i64 r2, .string r3, v3_], .bool r5]) ∧ Kd.R k60 60 w' w.heap.size (fun _ => True) v3_ r4 ∧ Below w.heap.size w w' := by
  unfold report_first.f at h
  split at h
  · rename_i hf
    have hx := first_calls a0 hf w htm.1 htm.2
    obtain ⟨rfl, rfl, rfl, rfl, rfl⟩ : (firstR a0).1 = r1 ∧ (firstR a0).2.1 = r2 ∧ (firstR a0).2.2.1 = r3 ∧ [] = r4 ∧ (firstR a0).2.2.2 = r5 := by simpa using h
    refine hx.mono ?_
    rintro e w' ⟨rfl, hb⟩
    exact ⟨.slice none 0 0, rfl, Kd.R_nil _ _ _ _ _, hb⟩
  · cases h
end Go.Proofs.YtloflodbcdlmpaaDoor.Qall
