/- What forest.line reads, in plain Lean: the blanks ahead in pairs, a number. || The walk of forest.line. Conditions: a line of at most 2^22 bytes; internal/bytealg's variable MaxLen holds some number. || internal/bytealg.MaxLen holds some number in every world that has the program's shape. Conditions: none. || The words between blanks, in plain Lean. || What the document's line reads, in plain Lean: a name, a number. || forest.line and the document's line read the same: the plain law. -/
import Derived.Test.YtloflodbcdlmpaaDoorNum2
import Derived.Test.YtloflodbcdlmpaaDoorFor2
import Derived.Lib.Strings
import Derived.Test.YtloflodbcdlmpaaDoorShelfB
import Derived.Lib.SplitLaws
import Derived.WalkKit
import Derived.StillTailTactics
import Derived.Deep.RegionHeld3
import Derived.WideShapes
import Derived.Lib.IndexBytes
namespace Go.Proofs.YtloflodbcdlmpaaDoor.Ln
open Go.RowKit Go.Proofs.YtloflodbcdlmpaaDoor.Qall Go.Proofs.YtloflodbcdlmpaaDoorW.PrintWords Go.Proofs.YtloflodbcdlmpaaDoorW.PrintLast Go.Proofs.YtloflodbcdlmpaaDoorW.PrintMore
set_option linter.unusedSimpArgs false
set_option linter.unusedVariables false
theorem wrap_of {i : Int} (h0 : -9223372036854775808 ≤ i) (h1 : i ≤ 9223372036854775807) : wrap64 i = i := by
  unfold wrap64
  omega
/-- How many pairs of blanks stand ahead. -/
def lead : List UInt8 → Nat
  | a :: b :: l => if a = 32 ∧ b = 32 then lead l + 1 else 0
  | _ => 0
theorem lead_pre (l : List UInt8) : Lib.hasPrefix l [32, 32] = decide (0 < lead l) := by
  match l with
  | [] => rfl
  | [a] => simp [Lib.hasPrefix, lead, List.isPrefixOf]
  | a :: b :: l =>
    unfold lead Lib.hasPrefix
    by_cases h : a = 32 ∧ b = 32
    · obtain ⟨rfl, rfl⟩ := h
      simp [List.isPrefixOf]
    · rw [if_neg h]
      simp only [List.isPrefixOf]
      simp
      intro h1 h2
      exact h ⟨h1.symm, h2.symm⟩
theorem lead_drop (l : List UInt8) (h : 0 < lead l) : lead (l.drop 2) + 1 = lead l ∧ 2 ≤ l.length := by
  match l with
  | [] => cases h
  | [a] => cases h
  | a :: b :: l =>
    have e : lead (a :: b :: l) = if a = 32 ∧ b = 32 then lead l + 1 else 0 := by rw [lead]
    rw [e] at h ⊢
    by_cases h2 : a = 32 ∧ b = 32
    · rw [if_pos h2]
      exact ⟨rfl, by simp⟩
    · rw [if_neg h2] at h
      cases h
theorem lead_le : ∀ (l : List UInt8), 2 * lead l ≤ l.length
  | [] => Nat.zero_le _
  | [a] => Nat.zero_le _
  | a :: b :: l => by
    unfold lead
    split
    · have := lead_le l
      simp only [List.length_cons]
      omega
    · omega
/-- The digits' value, if all are digits. -/
def numv : List UInt8 → Nat → Option Nat
  | [], n => some n
  | b :: l, n => if 48 ≤ b.toNat ∧ b.toNat ≤ 57 then numv l (10 * n + (b.toNat - 48)) else none
/-- What forest.number tells. -/
def numAns (s : ByteArray) : Int × Bool :=
  if s.size = 0 ∨ s.size > 5 ∨ s.size > 1 ∧ bt s 0 = 48 then (0, false) else match numv s.data.toList 0 with
  | none => (0, false)
  | some n => ((n : Int), decide (n ≤ 65536))
theorem bt_get (s : ByteArray) (i : Nat) (h : i < s.size) : bt s (i : Int) = ((s.data.toList[i]'(by rw [data_length]; exact h)).toNat : Int) := by
  unfold bt
  rw [dif_pos (by rw [Int.toNat_natCast]; exact h)]
  simp only [Int.toNat_natCast, Array.getElem_toList]
  rfl
theorem num_l0 (s : ByteArray) (hs : s.size ≤ 5) : ∀ d i (n : Nat) k, i + d = s.size → d < k → n + 1 ≤ 10 ^ i → forest_number.l0 k s (n : Int) (i : Int) = some (match numv (s.data.toList.drop i) n with
  | none => (0, false)
  | some m => ((m : Int), decide (m ≤ 65536)))
  | 0, i, n, k, hd, hk, hn => by
    obtain ⟨k, rfl⟩ : ∃ m, k = m + 1 := ⟨k - 1, by omega⟩
    rw [forest_number.l0, if_neg (by omega), List.drop_eq_nil_of_le (by rw [data_length]; omega), numv]
    simp
    omega
  | d + 1, i, n, k, hd, hk, hn => by
    obtain ⟨k, rfl⟩ : ∃ m, k = m + 1 := ⟨k - 1, by omega⟩
    have hi : i < s.data.toList.length := by rw [data_length]; omega
    rw [forest_number.l0, if_pos (by omega), if_pos (by omega), List.drop_eq_getElem_cons hi, numv, bt_get s i (by omega)]
    obtain ⟨b, hb⟩ : ∃ b, s.data.toList[i] = b := ⟨_, rfl⟩
    rw [hb]
    have hp : 10 ^ i ≤ 10 ^ 4 := Nat.pow_le_pow_right (by decide) (by omega)
    have hp2 : (10 : Nat) ^ 4 = 10000 := by decide
    have hbl := b.toNat_lt
    by_cases h1 : (b.toNat : Int) < 48
    · rw [if_pos h1, if_neg (by omega)]
    rw [if_neg h1]
    by_cases h2 : (b.toNat : Int) > 57
    · rw [if_pos h2, if_neg (by omega)]
    rw [if_neg h2, if_pos (by omega), wrap_of (i := 10 * (n : Int)) (by omega) (by omega), wrap_of (by omega) (by omega), wrap_of (by omega) (by omega)]
    have e : 10 * (n : Int) + ((b.toNat : Int) - 48) % 256 = ((10 * n + (b.toNat - 48) : Nat) : Int) := by omega
    rw [e]
    exact num_l0 s hs d (i + 1) _ k (by omega) (by omega) (by rw [Nat.pow_succ]; omega)
theorem number_eq (s : ByteArray) (k : Nat) (hk : 8 ≤ k) : forest_number.f k s = some (numAns s) := by
  obtain ⟨k, rfl⟩ : ∃ m, k = m + 1 := ⟨k - 1, by omega⟩
  have hj : ∀ c, forest_number.j0 (k + 1) s c = if c = true then some (0, false) else forest_number.l0 k s 0 0 := fun c => by rw [forest_number.j0]
  unfold forest_number.f numAns
  rw [hj, hj, hj, if_pos rfl, if_neg Bool.false_ne_true]
  by_cases h0 : s.size = 0
  · rw [if_pos ((Own.size_list s).2 h0), if_pos (.inl h0)]
  rw [if_neg (fun e => h0 ((Own.size_list s).1 e))]
  by_cases h5 : s.size > 5
  · rw [if_pos (by omega), if_pos (.inr (.inl h5))]
  rw [if_neg (by omega)]
  have hl := num_l0 s (by omega) s.size 0 0 k (by omega) (by omega) (by decide)
  rw [List.drop_zero] at hl
  by_cases h1 : s.size > 1
  · rw [if_pos (by omega), if_pos (by omega)]
    by_cases hb : bt s 0 = 48
    · rw [if_pos (beq_iff_eq.2 hb), if_pos (.inr (.inr ⟨h1, hb⟩))]
    · rw [if_neg (fun e => hb (beq_iff_eq.1 e)), if_neg (fun h => h.elim h0 (fun h => h.elim h5 (fun h => hb h.2)))]
      exact hl
  · rw [if_neg (by omega), if_neg (fun h => h.elim h0 (fun h => h.elim h5 (fun h => h1 h.1)))]
    exact hl
end Go.Proofs.YtloflodbcdlmpaaDoor.Ln
namespace Go.Proofs.YtloflodbcdlmpaaDoor.Ln
open Go.RowKit Go.Proofs.YtloflodbcdlmpaaDoor.Qall Go.Proofs.YtloflodbcdlmpaaDoorW.PrintWords Go.Proofs.YtloflodbcdlmpaaDoorW.PrintLast Go.Proofs.YtloflodbcdlmpaaDoorW.PrintMore
set_option linter.unusedSimpArgs false
set_option linter.unusedVariables false
/-- internal/bytealg.MaxLen holds some number. -/
def Mx (w : World) : Prop := ∃ m, w.cell? ⟨0, 0, none⟩ = some (.int .i64 m)
theorem Mx.step {w w' : World} (h : Mx w) (hb : Below w.heap.size w w') : Mx w' := by
  obtain ⟨m, hm⟩ := h
  exact ⟨m, (hb.cell (World.block_lt_of_cell? w _ hm)).trans hm⟩
def wordsOf (t : ByteArray) : List ByteArray := Lib.splitB ⟨#[32]⟩ 0 (Lib.countB t ⟨#[32]⟩) t
theorem wordsOf_length (t : ByteArray) : (wordsOf t).length = Lib.countB t ⟨#[32]⟩ + 1 := Lib.splitB_all _ (by decide) 0 _ t rfl
theorem split_size (sep : ByteArray) : ∀ (k : Nat) (t : ByteArray), ∀ x ∈ Lib.splitB sep 0 k t, x.size ≤ t.size
  | 0, t, x, hx => by rw [List.mem_singleton.1 hx]; exact Nat.le_refl _
  | k + 1, t, x, hx => by
    unfold Lib.splitB at hx
    split at hx
    · rw [List.mem_singleton.1 hx]; exact Nat.le_refl _
    · rcases List.mem_cons.1 hx with rfl | hx
      · rw [ByteArray.size_extract]; omega
      · have h1 := split_size sep k _ x hx
        rw [ByteArray.size_extract] at h1
        omega
def restOf (s : ByteArray) : ByteArray := ⟨(s.data.toList.drop (2 * lead s.data.toList)).toArray⟩
def lineAns (s : ByteArray) : Int × ByteArray × Int × Int × Bool := match wordsOf (restOf s) with
  | [a, b, c] => if Own.nameOk a = true then ((lead s.data.toList : Int), a, (numAns b).1, (numAns c).1, (numAns b).2 && (numAns c).2) else (0, ⟨#[]⟩, 0, 0, false)
  | _ => (0, ⟨#[]⟩, 0, 0, false)
theorem blk4 {X : World} {g : Nat} {x0 x1 x2 x3 y0 y1 y2 y3 : Value} {t : TypeId} (h : X.heap[g]? = some (.cells #[x0, x1, x2, x3] t (0, 0))) : ((((X.setCell ⟨g, 0, none⟩ y0).setCell ⟨g, 1, none⟩ y1).setCell ⟨g, 2, none⟩ y2).setCell ⟨g, 3, none⟩ y3).heap[g]? = some (.cells #[y0, y1, y2, y3] t (0, 0)) :=
  heap_setCell_same _ _ _ _ _ _ (heap_setCell_same _ _ _ _ _ _ (heap_setCell_same _ _ _ _ _ _ (heap_setCell_same _ _ _ _ _ _ h)))
theorem bel4 {w X : World} {g : Nat} {y0 y1 y2 y3 : Value} (h : Below w.heap.size w X) (hg : w.heap.size ≤ g) : Below w.heap.size w ((((X.setCell ⟨g, 0, none⟩ y0).setCell ⟨g, 1, none⟩ y1).setCell ⟨g, 2, none⟩ y2).setCell ⟨g, 3, none⟩ y3) :=
  (((h.setCell (p := ⟨g, 0, none⟩) hg _).setCell (p := ⟨g, 1, none⟩) hg _).setCell (p := ⟨g, 2, none⟩) hg _).setCell (p := ⟨g, 3, none⟩) hg _
set_option maxRecDepth 100000 in
set_option maxHeartbeats 4000000 in
theorem line_calls (s : ByteArray) (hs : s.size ≤ 4194304) (w : World) (hm : Mx w) :
    Calls Tryd.prog 97 #[.string s] w fun e w' => e = .returned (.tuple #[.int .i64 (lineAns s).1, .agg #[.string (lineAns s).2.1, .int .i64 (lineAns s).2.2.1, .int .i64 (lineAns s).2.2.2.1, .int .i64 0], .bool (lineAns s).2.2.2.2]) ∧ Below w.heap.size w w' := by
  obtain ⟨⟨r1, r2, r3, r4, r5⟩, hans⟩ : ∃ a, lineAns s = a := ⟨_, rfl⟩
  rw [hans]
  dsimp only
  have HANS := Aside0.mk hans
  clear hans
  go_enter Tryd.func97, Tryd.ntmps97
  go_wp2
  have hu := Tryd.underlying60
  have hb0 : Below w.heap.size w (w.alloc (.cells #[.string ⟨#[]⟩, .int .i64 0, .int .i64 0, .int .i64 0] 60)) := (Below.refl _ w).alloc (Nat.le_refl _) _
  have HB0 := Aside0.mk hb0
  have HMX := Aside0.mk (hm.step hb0)
  clear hb0
  have hHP : ∀ (t : ByteArray) (W : World), Calls Tryd.prog 86 #[.string t, .string ⟨#[32, 32]⟩] W fun e w' => e = .returned (.bool (decide (0 < lead t.data.toList))) ∧ w' = W := fun t W => by
    have := Tryd.strings_HasPrefix t ⟨#[32, 32]⟩ W
    rw [lead_pre] at this
    exact this
  have HHP := Aside0.mk hHP
  clear hHP
  go_loopw [0, 5] (fun v i wr => ∃ (t : ByteArray) (j : Nat), v = .string t ∧ i = .int .i64 j ∧ Aside0 (lead t.data.toList + j = lead s.data.toList) ∧ Aside0 (t.data.toList = s.data.toList.drop (2 * j)) ∧ wr = w.alloc (.cells #[.string ⟨#[]⟩, .int .i64 0, .int .i64 0, .int .i64 0] 60))
    (fun v _ _ => match v with | .string t => t.size | _ => 0)
  case atStart => exact ⟨s, 0, rfl, rfl, ⟨rfl⟩, ⟨by simp⟩, rfl⟩
  case round =>
    obtain ⟨t, j, rfl, rfl, HL, HT, rfl⟩ := hrel
    by_cases hlt : 0 < lead t.data.toList
    · obtain ⟨hl1, hl2⟩ := lead_drop _ hlt
      have htl : t.data.toList.length = t.size := by rw [Array.length_toList]; rfl
      have hst : t.size + 2 * j = s.size ∨ t.size = 0 := by
        have := congrArg List.length HT.out
        rw [List.length_drop, Array.length_toList, Array.length_toList] at this
        have h2 : t.size = s.size - 2 * j := this
        omega
      have hdt : decide (0 < lead t.data.toList) = true := decide_eq_true hlt
      have h2 : 2 ≤ t.size := by omega
      have hex : (t.extract 2 t.size).data.toList = t.data.toList.drop 2 := by
        rw [Lib.extract_to_end]
      have HEX := Aside0.mk hex
      have hjb : (j : Int) + 1 ≤ 9223372036854775807 := by omega
      clear hex
      go_wp2_with (go_at_call 86; refine (HHP.out t _).mono ?_; rintro e w' ⟨rfl, rfl⟩)
      go_roundw
      case rel => exact ⟨t.extract 2 t.size, j + 1, rfl, by simp, ⟨by rw [HEX.out]; have := HL.out; omega⟩, ⟨by rw [HEX.out, HT.out, List.drop_drop]; congr 1⟩, by first | rfl | trivial⟩
      case measure => simp [ByteArray.size_extract]; omega
    · have hdt : decide (0 < lead t.data.toList) = false := decide_eq_false hlt
      have hj : j = lead s.data.toList := by have := HL.out; omega
      have htr : t = restOf s := by
        unfold restOf
        apply ByteArray.ext
        rw [← Array.toList_inj, ← hj, ← HT.out]
      have hts : t.size ≤ s.size := by
        have := congrArg List.length HT.out
        rw [List.length_drop, Array.length_toList, Array.length_toList] at this
        have h2 : t.size = s.size - 2 * j := this
        omega
      obtain ⟨m, hm0⟩ := HMX.out
      have hsp := Tryd.strings_Split t ⟨#[32]⟩ m _ (by omega) hm0 (by decide)
      have hwl := wordsOf_length t
      have hwz : ∀ x ∈ wordsOf t, x.size ≤ t.size := split_size _ _ t
      rw [← hwl] at hsp
      have hans := HANS.out
      unfold lineAns at hans
      rw [← htr] at hans
      change Calls Tryd.prog 74 _ _ (fun e w' => _ ∧ w' = World.alloc _ (.cells ((wordsOf t).map Value.string).toArray 9)) at hsp
      obtain ⟨ws, hws⟩ : ∃ ws, wordsOf t = ws := ⟨_, rfl⟩
      rw [hws] at hsp hans hwz
      clear hwl hws htr HMX HANS HL HT
      by_cases h3 : ws.length = 3
      · obtain ⟨a, b, c, rfl⟩ : ∃ a b c, ws = [a, b, c] := by
          match ws, h3 with
          | [a, b, c], _ => exact ⟨a, b, c, rfl⟩
        have ha : a.size ≤ 4194304 := by have := hwz a (by simp); omega
        simp only [List.map_cons, List.map_nil, List.length_cons, List.length_nil] at hsp
        dsimp only at hans
        have HSP := Aside0.mk hsp
        have how := Own.own_eq a (by omega) (2 * a.size + 2) (by omega)
        have HN1 := Aside0.mk (number_eq b 8 (Nat.le_refl _))
        have HN2 := Aside0.mk (number_eq c 8 (Nat.le_refl _))
        clear hsp hwz
        obtain ⟨⟨n1, o1⟩, e1⟩ : ∃ x, numAns b = x := ⟨_, rfl⟩
        obtain ⟨⟨n2, o2⟩, e2⟩ : ∃ x, numAns c = x := ⟨_, rfl⟩
        rw [e1, e2] at hans
        rw [e1] at HN1
        rw [e2] at HN2
        clear e1 e2
        obtain ⟨ok, hok⟩ : ∃ x, Own.nameOk a = x := ⟨_, rfl⟩
        rw [hok] at how hans
        have HOW := Aside0.mk how
        clear how hok
        cases ok with
        | true =>
          rw [if_pos rfl] at hans
          injection hans with h1 hans
          injection hans with h2 hans
          injection hans with h4 hans
          injection hans with h5 h6
          subst h1 h2 h4 h5 h6
          go_wp2_with (first | (go_at_call 86; refine (HHP.out t _).mono ?_; rintro e w' ⟨rfl, rfl⟩) | fail)
          go_at_call 74
          refine HSP.out.mono ?_
          rintro e w' ⟨rfl, rfl⟩
          go_wp2_with fail
          go_at_call 82
          refine (forest_own.calls _ a true _ HOW.out).mono ?_
          rintro e w' ⟨rfl, nd, rfl⟩
          go_wp2_with fail
          go_at_call 121
          refine (forest_number.calls 8 b n1 o1 _ HN1.out).mono ?_
          rintro e w' ⟨rfl, nd1, rfl⟩
          go_wp2_with fail
          go_at_call 121
          refine (forest_number.calls 8 c n2 o2 _ HN2.out).mono ?_
          rintro e w' ⟨rfl, nd2, rfl⟩
          go_wp2_with fail
          cases o1 with
          | true =>
            go_region_held3 (fun w' => w'.cell? ⟨w.heap.size + 1, 0, none⟩ = some (.string a)) (first | go_keep | (go_simp; done) | (simp; done)) (fail)
            go_wp2
            refine bodyPost_ret (results_list (rs := [.tmp 2, .cell 3 60, .tmp 4]) rfl (by simp) (.tmp (.cell w.heap.size 60 #[.string a, .int .i64 n1, .int .i64 n2, .int .i64 0] (0, 0) _ rfl (blk4 (blk_drewN (blk_alloc (blk_new w _) _) _)) hu rfl (by kernel_rfl) (.tmp .nil)))) rfl ?_
            exact ⟨by first | rfl | (simp; done), bel4 (pw_below_drewN ((Below.refl _ w).alloc (Nat.le_refl _) _ |>.alloc (by simp) _) _) (Nat.le_refl _)⟩
          | false =>
            refine wp_region_held_drew (S := fun w' => w'.cell? ⟨w.heap.size + 1, 0, none⟩ = some (.string a)) (by kernel_rfl) (by first | go_keep | (go_simp; done) | (simp; done)) (fun hHeld => ?_)
            refine wpAnyH_take (i := 0) (v := ?vv0) rfl (by kernel_rfl) (by kernel_rfl) (by kernel_rfl) (fun _ _ _ h => h) (Or.inl ⟨by rfl, ?hy0⟩) (by assumption) ?rs0
            case hy0 => intro W' hS'; go_simp; all_goals (with_reducible rfl)
            simp only [Act.put, List.setIfInBounds_toArray, List.set_cons_zero, List.set_cons_succ]
            refine wpAnyH_take (i := 1) (v := ?vv1) rfl (by kernel_rfl) (by kernel_rfl) (by kernel_rfl) (fun _ _ _ h => h) (Or.inl ⟨by rfl, ?hy1⟩) (by assumption) ?rs1
            case hy1 => intro W' hS'; go_simp; all_goals (with_reducible rfl)
            simp only [Act.put, List.setIfInBounds_toArray, List.set_cons_zero, List.set_cons_succ]
            refine wpAnyH_take (i := 2) (v := ?vv2) rfl (by kernel_rfl) (by kernel_rfl) (by kernel_rfl) (fun _ _ _ h => h) (Or.inl ⟨by rfl, ?hy2⟩) (by assumption) ?rs2
            case hy2 => intro W' hS'; go_simp; all_goals (with_reducible rfl)
            simp only [Act.put, List.setIfInBounds_toArray, List.set_cons_zero, List.set_cons_succ]
            refine wpAnyH_take (i := 3) (v := ?vv3) rfl (by kernel_rfl) (by kernel_rfl) (by kernel_rfl) (fun _ _ _ h => h) (Or.inl ⟨by rfl, ?hy3⟩) (by assumption) ?rs3
            case hy3 => intro W' hS'; go_simp; all_goals (with_reducible rfl)
            simp only [Act.put, List.setIfInBounds_toArray, List.set_cons_zero, List.set_cons_succ]
            refine wpAnyH_take (i := 4) (v := ?vv4) rfl (by kernel_rfl) (by kernel_rfl) (by kernel_rfl) (fun _ _ _ h => h) (Or.inl ⟨by rfl, ?hy4⟩) (by assumption) ?rs4
            case hy4 => intro W' hS'; go_simp; all_goals (with_reducible rfl)
            simp only [Act.put, List.setIfInBounds_toArray, List.set_cons_zero, List.set_cons_succ]
            refine wpAnyH_take (i := 5) (v := ?vv5) rfl (by kernel_rfl) (by kernel_rfl) (by kernel_rfl) (fun _ _ _ h => h) (Or.inl ⟨by rfl, ?hy5⟩) (by assumption) ?rs5
            case hy5 => intro W' hS'; go_simp; all_goals (with_reducible rfl)
            simp only [Act.put, List.setIfInBounds_toArray, List.set_cons_zero, List.set_cons_succ]
            refine wpAnyH_take (i := 6) (v := ?vv6) rfl (by kernel_rfl) (by kernel_rfl) (by kernel_rfl) (fun _ _ _ h => h) (Or.inl ⟨by rfl, ?hy6⟩) (by assumption) ?rs6
            case hy6 => intro W' hS'; go_simp; all_goals (with_reducible rfl)
            simp only [Act.put, List.setIfInBounds_toArray, List.set_cons_zero, List.set_cons_succ]
            refine wpAnyH_take (i := 7) (v := ?vv7) rfl (by kernel_rfl) (by kernel_rfl) (by kernel_rfl) (fun _ _ _ h => h) (Or.inl ⟨by rfl, ?hy7⟩) (by assumption) ?rs7
            case hy7 => intro W' hS'; go_simp; all_goals (with_reducible rfl)
            simp only [Act.put, List.setIfInBounds_toArray, List.set_cons_zero, List.set_cons_succ]
            refine wpAnyH_take (i := 8) (v := ?vv8) rfl (by kernel_rfl) (by kernel_rfl) (by kernel_rfl) (fun _ _ _ h => h) (Or.inl ⟨by rfl, ?hy8⟩) (by assumption) ?rs8
            case hy8 => intro W' hS'; go_simp; all_goals (with_reducible rfl)
            simp only [Act.put, List.setIfInBounds_toArray, List.set_cons_zero, List.set_cons_succ]
            refine wpAnyH_take (i := 9) (oi := { dst := some 53, op := Op.move (Operand.tmp 10), type := 4, pos := "text.go:57", after := #[{ on := 8, ground := Ground.guard }, { on := 12, ground := Ground.gcOnly Departure.lateStores }], guard := some (8, true) }) (v := undef) rfl (by kernel_rfl) (by kernel_rfl) (by kernel_rfl) (fun _ _ _ h => h) (Or.inr ⟨by go_simp, rfl⟩) (by assumption) ?rs9
            simp only [Act.put, List.setIfInBounds_toArray, List.set_cons_zero, List.set_cons_succ]
            refine wpAnyH_take (i := 10) (v := ?vv10) rfl (by kernel_rfl) (by kernel_rfl) (by kernel_rfl) (fun _ _ _ h => h) (Or.inl ⟨by rfl, ?hy10⟩) (by assumption) ?rs10
            case hy10 => intro W' hS'; go_simp; all_goals (with_reducible rfl)
            simp only [Act.put, List.setIfInBounds_toArray, List.set_cons_zero, List.set_cons_succ]
            refine wpAnyH_take (i := 11) (v := ?vv11) rfl (by kernel_rfl) (by kernel_rfl) (by kernel_rfl) (fun _ _ _ h => h) (Or.inl ⟨by rfl, ?hy11⟩) (by assumption) ?rs11
            case hy11 => intro W' hS'; go_simp; all_goals (with_reducible rfl)
            simp only [Act.put, List.setIfInBounds_toArray, List.set_cons_zero, List.set_cons_succ]
            refine wpAnyH_ready (rs := [12]) (by kernel_rfl) (by simp) ?_
            refine AllReadyH.cons (o := _) rfl (fun K hK => ?_) AllReadyH.nil
            go_simp
            refine hK.out _ _ (by first | go_keep | (go_simp; done) | (simp; done)) (fun hHeld2 => ?_)
            clear hK K
            try simp only [Act.put, List.setIfInBounds_toArray, List.set_cons_zero, List.set_cons_succ]
            refine wpAnyH_take (i := 13) (v := ?vv13) rfl (by kernel_rfl) (by kernel_rfl) (by kernel_rfl) (fun _ _ _ h => h) (Or.inl ⟨by rfl, ?hy13⟩) (by assumption) ?rs13
            case hy13 => intro W' hS'; go_simp; all_goals (with_reducible rfl)
            simp only [Act.put, List.setIfInBounds_toArray, List.set_cons_zero, List.set_cons_succ]
            refine wpAnyH_done (by kernel_rfl) ?_ _
            go_wp2
            refine bodyPost_ret (results_list (rs := [.tmp 2, .cell 3 60, .tmp 4]) rfl (by simp) (.tmp (.cell w.heap.size 60 #[.string a, .int .i64 n1, .int .i64 n2, .int .i64 0] (0, 0) _ rfl (blk4 (blk_drewN (blk_alloc (blk_new w _) _) _)) hu rfl (by kernel_rfl) (.tmp .nil)))) rfl ?_
            exact ⟨by first | rfl | (simp; done), bel4 (pw_below_drewN ((Below.refl _ w).alloc (Nat.le_refl _) _ |>.alloc (by simp) _) _) (Nat.le_refl _)⟩
        | false =>
          rw [if_neg (by decide)] at hans
          cases hans
          go_wp2_with (first | (go_at_call 86; refine (HHP.out t _).mono ?_; rintro e w' ⟨rfl, rfl⟩) | fail)
          go_at_call 74
          refine HSP.out.mono ?_
          rintro e w' ⟨rfl, rfl⟩
          go_wp2_with fail
          go_at_call 82
          refine (forest_own.calls _ a false _ HOW.out).mono ?_
          rintro e w' ⟨rfl, nd, rfl⟩
          go_wp2_with fail
          refine bodyPost_ret (results_list (rs := [.tmp 2, .cell 3 60, .tmp 4]) rfl (by simp) (.tmp (.cell w.heap.size 60 #[.string ⟨#[]⟩, .int .i64 0, .int .i64 0, .int .i64 0] (0, 0) _ rfl (blk4 (blk_drewN (blk_alloc (blk_new w _) _) _)) hu rfl (by kernel_rfl) (.tmp .nil)))) rfl ?_
          exact ⟨rfl, bel4 (pw_below_drewN ((Below.refl _ w).alloc (Nat.le_refl _) _ |>.alloc (by simp) _) _) (Nat.le_refl _)⟩
      · have hne : ¬ (ws.length : Int) = 3 := by omega
        have hans2 : ((0 : Int), (⟨#[]⟩ : ByteArray), (0 : Int), (0 : Int), false) = (r1, r2, r3, r4, r5) := by
          rw [← hans]
          match ws, h3 with
          | [], _ => rfl
          | [_], _ => rfl
          | [_, _], _ => rfl
          | [_, _, _], h => exact absurd rfl h
          | _ :: _ :: _ :: _ :: _, _ => rfl
        cases hans2
        have HSP := Aside0.mk hsp
        clear hsp hwz hans
        go_wp2_with (first | (go_at_call 86; refine (HHP.out t _).mono ?_; rintro e w' ⟨rfl, rfl⟩) | fail)
        go_at_call 74
        refine HSP.out.mono ?_
        rintro e w' ⟨rfl, rfl⟩
        go_wp2_with fail
        refine bodyPost_ret (results_list (rs := [.tmp 2, .cell 3 60, .tmp 4]) rfl (by simp) (.tmp (.cell w.heap.size 60 #[.string ⟨#[]⟩, .int .i64 0, .int .i64 0, .int .i64 0] (0, 0) _ rfl (blk_alloc (blk_new w _) _) hu rfl (by kernel_rfl) (.tmp .nil)))) rfl ?_
        exact ⟨rfl, ((Below.refl _ w).alloc (Nat.le_refl _) _).alloc (by simp) _⟩
end Go.Proofs.YtloflodbcdlmpaaDoor.Ln
namespace Go.Proofs.YtloflodbcdlmpaaDoor.Ln
open Go.RowKit Go.WideShapes
set_option maxRecDepth 100000 in
theorem mx_of {W : World} (h : W.ShapedOpen Tryd.prog) : Mx W := by
  obtain ⟨h1, _⟩ := h
  obtain ⟨cs, hb, hs, hr⟩ := h1 0 #[.int .i64 0] 3 (of_decide_eq_true (by kernel_rfl)) (by kernel_rfl)
  obtain ⟨ts, ht, _, hc⟩ := hr (by kernel_rfl)
  have ht2 : Tryd.prog.cellTypes Tryd.prog.depth 3 = some [3] := by kernel_rfl
  obtain rfl : ts = [3] := Option.some.inj (ht.symm.trans ht2)
  have hs1 : cs.size = 1 := hs
  obtain ⟨u, hu, hk⟩ := hc 0 (cs[0]'(by omega)) (by simp [hs1])
  obtain rfl : 3 = u := by simpa using hu
  obtain ⟨n, hn⟩ : ∃ n, cs[0]'(by omega) = .int .i64 n := by
    simp only [Cell.ok, Tryd.underlying3] at hk
    generalize cs[0]'(by omega) = v at hk
    cases v <;> simp_all
  refine ⟨n, ?_⟩
  unfold World.cell?
  rw [hb]
  simp [hs1, hn]
end Go.Proofs.YtloflodbcdlmpaaDoor.Ln
namespace Go.Proofs.YtloflodbcdlmpaaDoor.Ln
open Go.RowKit Go.Proofs.YtloflodbcdlmpaaDoor.Qall Go.Proofs.YtloflodbcdlmpaaDoorW.PrintWords Go.Proofs.YtloflodbcdlmpaaDoorW.PrintLast Go.Proofs.YtloflodbcdlmpaaDoorW.PrintMore
set_option linter.unusedSimpArgs false
set_option linter.unusedVariables false
def wds : List UInt8 → List (List UInt8)
  | [] => [[]]
  | b :: l => if b = 32 then [] :: wds l else match wds l with
    | w :: r => (b :: w) :: r
    | [] => [[b]]
theorem wds_ne : ∀ l, wds l ≠ []
  | [] => by simp [wds]
  | b :: l => by
    unfold wds
    split
    · simp
    · split <;> simp
theorem wds_no : ∀ (w : List UInt8), 32 ∉ w → wds w = [w]
  | [], _ => rfl
  | b :: w, h => by
    rw [wds, if_neg (fun e => h (by rw [e]; exact List.mem_cons_self ..)), wds_no w (fun e => h (List.mem_cons_of_mem _ e))]
theorem wds_cut : ∀ (w l : List UInt8), 32 ∉ w → wds (w ++ 32 :: l) = w :: wds l
  | [], l, _ => by rw [List.nil_append, wds, if_pos rfl]
  | b :: w, l, h => by
    rw [List.cons_append, wds, if_neg (fun e => h (by rw [e]; exact List.mem_cons_self ..)), wds_cut w l (fun e => h (List.mem_cons_of_mem _ e))]
/-- Either no blank stands in a text, or it is parted at the first. -/
theorem first_cut : ∀ (l : List UInt8), 32 ∉ l ∨ ∃ w r, l = w ++ 32 :: r ∧ 32 ∉ w
  | [] => .inl (by simp)
  | b :: l => by
    by_cases hb : b = 32
    · exact .inr ⟨[], l, by rw [hb]; rfl, by simp⟩
    · rcases first_cut l with h | ⟨w, r, rfl, h⟩
      · exact .inl (fun e => (List.mem_cons.1 e).elim (fun e => hb e.symm) h)
      · exact .inr ⟨b :: w, r, rfl, fun e => (List.mem_cons.1 e).elim (fun e => hb e.symm) h⟩
theorem idx_no : ∀ (l : List UInt8), 32 ∉ l → Lib.indexByte l 32 = -1
  | [], _ => rfl
  | b :: l, h => by
    have hb : ¬ (b == 32) = true := fun e => h (by rw [beq_iff_eq.1 e]; exact List.mem_cons_self ..)
    unfold Lib.indexByte
    rw [if_neg hb, idx_no l (fun e => h (List.mem_cons_of_mem _ e))]
    rfl
theorem idx_cut : ∀ (w r : List UInt8), 32 ∉ w → Lib.indexByte (w ++ 32 :: r) 32 = (w.length : Int)
  | [], r, _ => by rw [List.nil_append]; unfold Lib.indexByte; rw [if_pos (by decide)]; rfl
  | b :: w, r, h => by
    have hb : ¬ (b == 32) = true := fun e => h (by rw [beq_iff_eq.1 e]; exact List.mem_cons_self ..)
    have ih := idx_cut w r (fun e => h (List.mem_cons_of_mem _ e))
    rw [List.cons_append]
    unfold Lib.indexByte
    rw [if_neg hb, ih, if_neg (by intro e; have := beq_iff_eq.1 e; omega), List.length_cons]
    omega
theorem ix (t : ByteArray) : Lib.indexB t ⟨#[32]⟩ = Lib.indexByte t.data.toList 32 := Lib.index_one _ _
theorem wordsOf_list : ∀ (n : Nat) (t : ByteArray), t.size ≤ n → (wordsOf t).map (·.data.toList) = wds t.data.toList := by
  intro n
  induction n with
  | zero =>
    intro t ht
    have h0 : t.data.toList = [] := List.length_eq_zero_iff.1 (by rw [Array.length_toList]; have : t.data.size = t.size := rfl; omega)
    have hm : Lib.indexB t ⟨#[32]⟩ = -1 := by rw [ix, h0]; rfl
    unfold wordsOf
    rw [Lib.splitB_miss _ _ _ _ hm, List.map_cons, List.map_nil, h0]
    rfl
  | succ n ih =>
    intro t ht
    rcases first_cut t.data.toList with h | ⟨w, r, hl, h⟩
    · have hm : Lib.indexB t ⟨#[32]⟩ = -1 := by rw [ix, idx_no _ h]
      unfold wordsOf
      rw [Lib.splitB_miss _ _ _ _ hm, List.map_cons, List.map_nil, wds_no _ h]
    · have hm : Lib.indexB t ⟨#[32]⟩ = (w.length : Int) := by rw [ix, hl, idx_cut w r h]
      have hc := Lib.countB_hit t ⟨#[32]⟩ w.length (by decide) hm
      have hsz : t.data.toList.length = t.size := by rw [Array.length_toList]; rfl
      have hlen : t.size = w.length + (r.length + 1) := by rw [← hsz, hl, List.length_append, List.length_cons]
      have hr : (t.extract (w.length + 1) t.size).data.toList = r := by
        rw [Lib.extract_to_end, hl, show w.length + 1 = (w ++ [32]).length by simp, show w ++ 32 :: r = (w ++ [32]) ++ r by simp, List.drop_left]
      have hw : (t.extract 0 (w.length + 0)).data.toList = w := by
        rw [Lib.extract_from_zero, hl, Nat.add_zero, List.take_left]
      have ih2 := ih (t.extract (w.length + 1) t.size) (by rw [ByteArray.size_extract]; omega)
      rw [hr] at ih2
      have hwo : wordsOf t = t.extract 0 (w.length + 0) :: wordsOf (t.extract (w.length + 1) t.size) := by
        unfold wordsOf
        rw [hc, Nat.add_comm 1, Lib.splitB_hit _ _ _ _ _ hm]
        rfl
      rw [hwo, List.map_cons, hw, ih2, hl, wds_cut w r h]
/-- Three words, just as the bytes say. -/
theorem three_iff (t : ByteArray) (a b c : List UInt8) : (wordsOf t).map (·.data.toList) = [a, b, c] ↔ t.data.toList = a ++ 32 :: (b ++ 32 :: c) ∧ 32 ∉ a ∧ 32 ∉ b ∧ 32 ∉ c := by
  rw [wordsOf_list t.size t (Nat.le_refl _)]
  constructor
  · intro h
    rcases first_cut t.data.toList with h1 | ⟨w1, r1, hl1, h1⟩
    · rw [wds_no _ h1] at h
      simp at h
    rw [hl1, wds_cut w1 r1 h1] at h
    injection h with e1 h
    subst e1
    rcases first_cut r1 with h2 | ⟨w2, r2, hl2, h2⟩
    · rw [wds_no _ h2] at h
      simp at h
    rw [hl2, wds_cut w2 r2 h2] at h
    injection h with e2 h
    subst e2
    rcases first_cut r2 with h3 | ⟨w3, r3, hl3, h3⟩
    · rw [wds_no _ h3] at h
      injection h with e3 h
      subst e3
      exact ⟨by rw [hl1, hl2], h1, h2, h3⟩
    · rw [hl3, wds_cut w3 r3 h3] at h
      injection h with e3 h
      exact absurd h (wds_ne r3)
  · rintro ⟨h, h1, h2, h3⟩
    rw [h, wds_cut a _ h1, wds_cut b _ h2, wds_no c h3]
end Go.Proofs.YtloflodbcdlmpaaDoor.Ln
namespace Go.Proofs.YtloflodbcdlmpaaDoor.Ln
open Go.RowKit Go.Proofs.YtloflodbcdlmpaaDoor.Qall Go.Proofs.YtloflodbcdlmpaaDoorW.PrintWords Go.Proofs.YtloflodbcdlmpaaDoorW.PrintLast Go.Proofs.YtloflodbcdlmpaaDoorW.PrintMore
set_option linter.unusedSimpArgs false
set_option linter.unusedVariables false
def isDig (b : UInt8) : Bool := decide (48 ≤ b.toNat ∧ b.toNat ≤ 57)
/-- The digits' value, from acc on. -/
def val : List UInt8 → Nat → Nat
  | [], n => n
  | b :: l, n => val l (10 * n + (b.toNat - 48))
theorem val_le : ∀ (l : List UInt8) (n : Nat), n ≤ val l n
  | [], n => Nat.le_refl _
  | b :: l, n => Nat.le_trans (by omega) (val_le l (10 * n + (b.toNat - 48)))
end Go.Proofs.YtloflodbcdlmpaaDoor.Ln
namespace Go.Proofs.YtloflodbcdlmpaaDoor.Ln
open Go.RowKit Go.Proofs.YtloflodbcdlmpaaDoor.Qall Go.Proofs.YtloflodbcdlmpaaDoorW.PrintWords Go.Proofs.YtloflodbcdlmpaaDoorW.PrintLast Go.Proofs.YtloflodbcdlmpaaDoorW.PrintMore
set_option linter.unusedSimpArgs false
set_option linter.unusedVariables false
theorem numv_val : ∀ (l : List UInt8) (n m : Nat), numv l n = some m → (∀ b ∈ l, isDig b = true) ∧ val l n = m
  | [], n, m, h => by cases h; exact ⟨fun b hb => (by cases hb), rfl⟩
  | b :: l, n, m, h => by
    unfold numv at h
    split at h
    · rename_i hb
      obtain ⟨h1, h2⟩ := numv_val l _ m h
      refine ⟨fun x hx => ?_, h2⟩
      rcases List.mem_cons.1 hx with rfl | hx
      · exact decide_eq_true hb
      · exact h1 x hx
    · cases h
theorem val_numv : ∀ (l : List UInt8) (n : Nat), (∀ b ∈ l, isDig b = true) → numv l n = some (val l n)
  | [], n, _ => rfl
  | b :: l, n, h => by
    rw [numv, if_pos (of_decide_eq_true (h b (List.mem_cons_self ..))), val]
    exact val_numv l _ (fun x hx => h x (List.mem_cons_of_mem _ hx))
theorem val_ge : ∀ (l : List UInt8) (n : Nat), n * 10 ^ l.length ≤ val l n
  | [], n => by simp [val]
  | b :: l, n => by
    rw [val, List.length_cons, Nat.pow_succ]
    refine Nat.le_trans ?_ (val_ge l _)
    rw [Nat.mul_comm (10 ^ l.length) 10, ← Nat.mul_assoc]
    exact Nat.mul_le_mul_right _ (by omega)
/-- Digits that are a number. -/
def good (ds : List UInt8) : Prop := ds ≠ [] ∧ (∀ b ∈ ds, isDig b = true) ∧ val ds 0 ≤ 65536 ∧ ¬ (ds.head? = some 48 ∧ 1 < ds.length)
theorem good_len (ds : List UInt8) (h : good ds) : ds.length ≤ 5 := by
  obtain ⟨h1, h2, h3, h4⟩ := h
  match ds, h1 with
  | b :: l, _ =>
    by_cases hl : l.length = 0
    · rw [List.length_cons, hl]; decide
    · have hb : ¬ b = 48 := fun e => h4 ⟨by rw [e]; rfl, by rw [List.length_cons]; omega⟩
      have hd := of_decide_eq_true (h2 b (List.mem_cons_self ..))
      have hb2 : b.toNat ≠ 48 := fun e => hb (UInt8.toNat_inj.1 e)
      have hv := val_ge l (10 * 0 + (b.toNat - 48))
      rw [val] at h3
      rcases Nat.lt_or_ge l.length 5 with h5 | h5
      · rw [List.length_cons]; omega
      · have hp : 10 ^ 5 ≤ 10 ^ l.length := Nat.pow_le_pow_right (by decide) h5
        have h6 : 1 * 10 ^ l.length ≤ (10 * 0 + (b.toNat - 48)) * 10 ^ l.length := Nat.mul_le_mul_right _ (by omega)
        have h7 : (10 : Nat) ^ 5 = 100000 := by decide
        omega
theorem bt_head (s : ByteArray) (b : UInt8) (l : List UInt8) (h : s.data.toList = b :: l) : bt s 0 = (b.toNat : Int) := by
  have hz : 0 < s.size := by rw [← data_length, h]; simp
  have := bt_get s 0 hz
  simp only [h] at this
  exact this
theorem numAns_good (s : ByteArray) : ((numAns s).2 = true ↔ good s.data.toList) ∧ ((numAns s).2 = true → (numAns s).1 = ((val s.data.toList 0 : Nat) : Int)) := by
  have hsz : s.data.toList.length = s.size := data_length s
  unfold numAns
  by_cases hg : good s.data.toList
  · obtain ⟨h1, h2, h3, h4⟩ := hg
    have h5 := good_len _ ⟨h1, h2, h3, h4⟩
    have hne : s.data.toList.length ≠ 0 := fun e => h1 (List.length_eq_zero_iff.1 e)
    rw [if_neg, val_numv _ 0 h2]
    · exact ⟨⟨fun _ => ⟨h1, h2, h3, h4⟩, fun _ => decide_eq_true h3⟩, fun _ => rfl⟩
    · rintro (e | e | ⟨e, e2⟩)
      · omega
      · omega
      · match hl : s.data.toList, h1 with
        | b :: l, _ =>
          rw [bt_head s b l hl] at e2
          refine h4 ⟨?_, by omega⟩
          rw [hl]
          show some b = some 48
          rw [UInt8.toNat_inj.1 (show b.toNat = (48 : UInt8).toNat by show b.toNat = 48; omega)]
  · have hf : ∀ (x : Int × Bool), x.2 = false → ((x.2 = true ↔ good s.data.toList) ∧ (x.2 = true → x.1 = ((val s.data.toList 0 : Nat) : Int))) := fun x hx => ⟨⟨fun h => (by rw [hx] at h; cases h), fun h => absurd h hg⟩, fun h => (by rw [hx] at h; cases h)⟩
    by_cases hc : s.size = 0 ∨ s.size > 5 ∨ s.size > 1 ∧ bt s 0 = 48
    · rw [if_pos hc]
      exact hf _ rfl
    · rw [if_neg hc]
      cases hn : numv s.data.toList 0 with
      | none => exact hf _ rfl
      | some m =>
        obtain ⟨h2, h3⟩ := numv_val _ _ _ hn
        refine hf _ (decide_eq_false fun hm => hg ⟨fun e => hc (.inl (by rw [← hsz, e]; rfl)), h2, by omega, ?_⟩)
        rintro ⟨e1, e2⟩
        match hl : s.data.toList, e1 with
        | b :: l, e1 =>
          have hb : b = 48 := Option.some.inj e1
          refine hc (.inr (.inr ⟨by rw [hl] at hsz e2; omega, ?_⟩))
          rw [bt_head s b l hl, hb]
          rfl
end Go.Proofs.YtloflodbcdlmpaaDoor.Ln
