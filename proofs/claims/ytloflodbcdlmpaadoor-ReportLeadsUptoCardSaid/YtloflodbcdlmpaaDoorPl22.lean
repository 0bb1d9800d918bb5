-- WRITTEN BY A PROGRAM OF THIS SESSION (wip/tools/myprint.py, over the kit's print); Lean checks it.
import Derived.Test.YtloflodbcdlmpaaDoorQallx0
import Derived.Test.YtloflodbcdlmpaaDoorQallx1
import Derived.Test.YtloflodbcdlmpaaDoorRow2
namespace Go.Proofs.YtloflodbcdlmpaaDoor.Qall
open Go.RowKit Go.Proofs.YtloflodbcdlmpaaDoorW.PrintWords Go.Proofs.YtloflodbcdlmpaaDoorW.PrintLast Go.Proofs.YtloflodbcdlmpaaDoorW.PrintMore
attribute [local go_sem] max2_int min2_int max_two min_two max_three min_three max_four min_four   -- for this text's walks alone
set_option linter.unusedVariables false
set_option linter.unusedSimpArgs false

/-! ### place_ended: a range over a string, by hand -/
def place_ended.cnt (s : ByteArray) (at_ : Int) : Nat → Nat → Nat
  | 0, _ => 0
  | fuel + 1, pos => if pos < s.size then (if 0 < pos ∧ (pos : Int) ≤ at_ then 1 else 0) + place_ended.cnt s at_ fuel (pos + (Utf8.decode s pos).2) else 0
theorem place_ended.cnt_end (s : ByteArray) (at_ : Int) (fuel pos : Nat) (h : ¬ pos < s.size) : place_ended.cnt s at_ fuel pos = 0 := by
  cases fuel <;> simp [place_ended.cnt, h]
theorem place_ended.cnt_le (s : ByteArray) (at_ : Int) : ∀ fuel pos, place_ended.cnt s at_ fuel pos ≤ fuel
  | 0, _ => by simp [place_ended.cnt]
  | f + 1, pos => by
    have ih := place_ended.cnt_le s at_ f (pos + (Utf8.decode s pos).2)
    unfold place_ended.cnt
    split
    · split <;> omega
    · omega
def place_ended.f (a0 : ByteArray) (a1 : Int) : Option (Int) := if a0.size ≤ 9223372036854775806 then some ((place_ended.cnt a0 a1 a0.size 0 : Int) + (if 0 < a0.size ∧ a1 = (a0.size : Int) then 1 else 0)) else none
set_option maxHeartbeats 4000000 in
set_option maxRecDepth 100000 in
theorem place_ended.calls (a0 : ByteArray) (a1 : Int) (r : Int) (w : World) (h : place_ended.f a0 a1 = some r) :
    Calls Tryd.prog 53 #[.string a0, .int .i64 a1] w fun e w' => e = .returned (.int .i64 r) ∧ Below w.heap.size w w' := by
  unfold place_ended.f at h
  by_cases hs : a0.size ≤ 9223372036854775806
  · rw [if_pos hs] at h
    have hr := Option.some.inj h
    clear h
    have Hr := Lib.hid hr
    clear hr
    go_enter Tryd.func53, Tryd.ntmps53
    go_wp2
    go_loopw [5] (fun n w' => ∃ (pos b acc : Nat), w' = w.iter a0 pos ∧ n = .int .i64 acc ∧ acc + place_ended.cnt a0 a1 b pos = place_ended.cnt a0 a1 a0.size 0 ∧ a0.size ≤ pos + b ∧ acc ≤ pos) (fun _ w' => a0.size - w'.iterPos w.heap.size)
    case atStart => exact ⟨0, a0.size, 0, rfl, rfl, by simp, by omega, Nat.le_refl _⟩
    case round =>
      obtain ⟨pos, b, acc, rfl, rfl, hc, hb, ha⟩ := hrel
      by_cases hp : pos < a0.size
      · have hnx : ∀ ty, (Instr.next (.pointer (some ⟨w.heap.size, 0, none⟩)) true ty).run Tryd.prog (w.iter a0 pos) = _ := fun ty => run_next_any w a0 pos ty hp
        have hwd := Lib.decode_width_pos a0 pos hp
        have Hc := Lib.hid hc
        clear hc
        by_cases h0 : 0 < pos
        · by_cases h1 : (pos : Int) ≤ a1
          · go_wp2
            go_roundw
            case rel =>
              cases b with
              | zero => omega
              | succ b =>
                refine ⟨pos + (Utf8.decode a0 pos).2, b, acc + 1, rfl, by go_num, ?_, by omega, by omega⟩
                rw [← Hc.out]
                simp [place_ended.cnt, hp, h0, h1]
                omega
            case measure =>
              simp
              omega
          · go_wp2
            go_roundw
            case rel =>
              cases b with
              | zero => omega
              | succ b =>
                refine ⟨pos + (Utf8.decode a0 pos).2, b, acc, rfl, by go_num, ?_, by omega, by omega⟩
                rw [← Hc.out]
                simp [place_ended.cnt, hp, h0, h1]
            case measure =>
              simp
              omega
        · go_wp2
          go_roundw
          case rel =>
            cases b with
            | zero => omega
            | succ b =>
              refine ⟨pos + (Utf8.decode a0 pos).2, b, acc, rfl, by go_num, ?_, by omega, by omega⟩
              rw [← Hc.out]
              simp [place_ended.cnt, hp, h0]
          case measure =>
            simp
            omega
      · have hnx : ∀ ty, (Instr.next (.pointer (some ⟨w.heap.size, 0, none⟩)) true ty).run Tryd.prog (w.iter a0 pos) = _ := fun ty => run_next_end w a0 pos ty hp
        rw [place_ended.cnt_end a0 a1 b pos hp, Nat.add_zero] at hc
        have hal : acc ≤ a0.size := by rw [hc]; exact place_ended.cnt_le a0 a1 a0.size 0
        have Hc := Lib.hid hc
        clear hc
        have hbw : Below w.heap.size w (w.iter a0 pos) := (Below.refl _ w).alloc (Nat.le_refl _) _
        have Hb := Lib.hid hbw
        clear hbw
        have Hs := Lib.hid hs
        by_cases he : a0.size = 0
        · have he1 : a0.toList = [] := by rw [ByteArray.toList_eq]; exact List.eq_nil_of_length_eq_zero (by rw [data_length]; exact he)
          have He := Lib.hid he
          clear he
          go_wp2
          go_ret
          refine ⟨?_, Hb.out⟩
          rw [← Hr.out, ← Hc.out, if_neg (by have := He.out; omega)]
          simp
        · have hp0 : 0 < a0.size := by omega
          have he1 : ¬ a0.toList = [] := by
            rw [ByteArray.toList_eq]
            intro h0
            have := congrArg List.length h0
            rw [data_length] at this
            exact he this
          have he2 : a0.toList.isEmpty = false := by simpa using he1
          have Hp := Lib.hid hp0
          clear hp0 he
          by_cases h2 : a1 = (a0.size : Int)
          · have H2 := Lib.hid h2
            have h2b : (a1 == (a0.size : Int)) = true := beq_iff_eq.2 h2
            clear h2
            go_wp2
            go_ret
            refine ⟨?_, Hb.out⟩
            rw [← Hr.out, ← Hc.out, if_pos ⟨Hp.out, H2.out⟩]
            go_num
          · have H2 := Lib.hid h2
            have h2b : (a1 == (a0.size : Int)) = false := beq_eq_false_iff_ne.2 h2
            clear h2
            go_wp2
            go_ret
            refine ⟨?_, Hb.out⟩
            rw [← Hr.out, ← Hc.out, if_neg (fun h0 => H2.out h0.2)]
            simp
  · rw [if_neg hs] at h
    cases h

/-! ### place_shown: a rune as a string, by hand -/
def place_shown.s (a0 : Int) : ByteArray := if a0 = 9 then ⟨#[32]⟩ else if (32 ≤ a0 ∧ a0 ≤ 126) ∨ (160 ≤ a0 ∧ a0 ≠ 65533) then Utf8.encode a0 else ⟨#[63]⟩
def place_shown.f (a0 : Int) : Option (ByteArray) := some (place_shown.s a0)
set_option maxHeartbeats 4000000 in
theorem place_shown.plain (a0 : Int) (w : World) :
    Calls Tryd.prog 56 #[.int .i32 a0] w fun e w' => e = .returned (.string (place_shown.s a0)) ∧ w = w' := by
  by_cases h9 : a0 = 9
  · have e9 : place_shown.s a0 = ⟨#[32]⟩ := by unfold place_shown.s; rw [if_pos h9]
    rw [e9]
    have h9b : ((a0 : Int) == 9) = true := beq_iff_eq.2 h9
    clear e9 h9
    go_enter Tryd.func56, Tryd.ntmps56
    go_wp2
    go_ret
    exact ⟨rfl, rfl⟩
  · have h9b : ((a0 : Int) == 9) = false := beq_eq_false_iff_ne.2 h9
    by_cases hc : (32 ≤ a0 ∧ a0 ≤ 126) ∨ (160 ≤ a0 ∧ a0 ≠ 65533)
    · have e9 : place_shown.s a0 = Utf8.encode a0 := by unfold place_shown.s; rw [if_neg h9, if_pos hc]
      rw [e9]
      clear e9 h9
      by_cases h1 : 32 ≤ a0
      · by_cases h2 : a0 ≤ 126
        · clear hc
          go_enter Tryd.func56, Tryd.ntmps56
          go_wp2
          go_ret
          exact ⟨rfl, rfl⟩
        · have h3 : 160 ≤ a0 := by omega
          have h4 : ((a0 : Int) != 65533) = true := bne_iff_ne.2 (by omega)
          clear hc
          go_enter Tryd.func56, Tryd.ntmps56
          go_wp2
          go_ret
          exact ⟨rfl, rfl⟩
      · omega
    · have e9 : place_shown.s a0 = ⟨#[63]⟩ := by unfold place_shown.s; rw [if_neg h9, if_neg hc]
      rw [e9]
      clear e9 h9
      by_cases h1 : 32 ≤ a0
      · have h2 : ¬ a0 ≤ 126 := by omega
        by_cases h3 : 160 ≤ a0
        · have h4 : ((a0 : Int) != 65533) = false := bne_eq_false_iff_eq.2 (by omega)
          clear hc
          go_enter Tryd.func56, Tryd.ntmps56
          go_wp2
          go_ret
          exact ⟨rfl, rfl⟩
        · clear hc
          go_enter Tryd.func56, Tryd.ntmps56
          go_wp2
          go_ret
          exact ⟨rfl, rfl⟩
      · have h3 : ¬ 160 ≤ a0 := by omega
        clear hc
        go_enter Tryd.func56, Tryd.ntmps56
        go_wp2
        go_ret
        exact ⟨rfl, rfl⟩
theorem place_shown.calls (a0 : Int) (r : ByteArray) (w : World) (h : place_shown.f a0 = some r) :
    Calls Tryd.prog 56 #[.int .i32 a0] w fun e w' => e = .returned (.string r) ∧ Drawn0 w w' := by
  obtain rfl := Option.some.inj h
  refine (place_shown.plain a0 w).mono ?_
  rintro e w' ⟨rfl, rfl⟩
  exact ⟨rfl, Drawn0.refl _⟩

/-! ### place_Excerpt: a Builder in a range over a string, by hand -/
def place_Excerpt.piece (first last all n : Int) (r : Nat) : List UInt8 :=
  if n < first then [] else if last < n then [] else if n = first ∧ 1 < first then [60] else if n = last ∧ last < all then [62] else (place_shown.s r).data.toList
def place_Excerpt.from_ (line : ByteArray) (first last all : Int) : Nat → Nat → Int → List UInt8
  | 0, _, _ => []
  | fuel + 1, pos, n => if pos < line.size then place_Excerpt.piece first last all (n + 1) (Utf8.decode line pos).1 ++ place_Excerpt.from_ line first last all fuel (pos + (Utf8.decode line pos).2) (n + 1) else []
theorem place_Excerpt.from_end (line : ByteArray) (first last all : Int) (fuel pos : Nat) (n : Int) (h : ¬ pos < line.size) : place_Excerpt.from_ line first last all fuel pos n = [] := by
  cases fuel <;> simp [place_Excerpt.from_, h]
theorem place_Excerpt.from_step (line : ByteArray) (first last all : Int) (f pos : Nat) (n : Int) (h : pos < line.size) : place_Excerpt.from_ line first last all (f + 1) pos n = place_Excerpt.piece first last all (n + 1) (Utf8.decode line pos).1 ++ place_Excerpt.from_ line first last all f (pos + (Utf8.decode line pos).2) (n + 1) := by
  rw [place_Excerpt.from_, if_pos h]
theorem place_shown.size_le (r : Int) : (place_shown.s r).size ≤ 4 := by
  unfold place_shown.s
  split
  · decide
  · split
    · unfold Utf8.encode
      dsimp only
      repeat' split
      all_goals simp [ByteArray.size]
    · decide
theorem place_Excerpt.piece_le (first last all n : Int) (r : Nat) : (place_Excerpt.piece first last all n r).length ≤ 4 := by
  unfold place_Excerpt.piece
  repeat' split
  any_goals simp
  have := place_shown.size_le r
  exact this
theorem place_Excerpt.from_le (line : ByteArray) (first last all : Int) : ∀ (fuel pos : Nat) (n : Int), (place_Excerpt.from_ line first last all fuel pos n).length ≤ 4 * fuel
  | 0, _, _ => by simp [place_Excerpt.from_]
  | f + 1, pos, n => by
    have ih := place_Excerpt.from_le line first last all f (pos + (Utf8.decode line pos).2) (n + 1)
    have hp := place_Excerpt.piece_le first last all (n + 1) (Utf8.decode line pos).1
    unfold place_Excerpt.from_
    split
    · rw [List.length_append]; omega
    · simp
theorem place_Excerpt.ret {a b : ByteArray} (h : a = b) : Ending.returned (.tuple #[.string a, .int .i64 0]) = Ending.returned (.tuple #[.string b, .int .i64 0]) := by rw [h]
theorem place_Excerpt.rep_eq (c : UInt8) : ∀ n, Lib.repeatL [c] n = List.replicate n c
  | 0 => rfl
  | n + 1 => by rw [Lib.repeatL, place_Excerpt.rep_eq c n]; rfl
def place_Excerpt.first (mark all width : Int) : Int := max 1 (min (mark - width / 2) (all - width + 1))
def place_Excerpt.text (line : ByteArray) (mark all width : Int) : List UInt8 :=
  place_Excerpt.from_ line (place_Excerpt.first mark all width) (place_Excerpt.first mark all width + width - 1) all line.size 0 0 ++ [10] ++ List.replicate (mark - place_Excerpt.first mark all width).toNat 32 ++ [94, 10]
def place_Excerpt.f (a0 : ByteArray) (a1 : Int) (a2 : Int) : Option (ByteArray × Int) :=
  if a1 < 0 ∨ (a0.size : Int) < a1 ∨ a2 < 8 ∨ 200 < a2 then some (⟨#[]⟩, 5)
  else if a0.size ≤ 1099511627776 then
    (place_row.f a0 a1).bind fun p =>
      if 0 ≤ p.1 ∧ p.1 ≤ a1 ∧ p.1 ≤ p.2 ∧ p.2 ≤ a0.size then
        (place_ended.f (a0.extract p.1.toNat p.2.toNat) (a1 - p.1)).bind fun e1 =>
          (place_ended.f (a0.extract p.1.toNat p.2.toNat) ((a0.extract p.1.toNat p.2.toNat).size : Int)).bind fun e2 =>
            if 0 ≤ e1 ∧ e1 ≤ 1099511627777 ∧ 0 ≤ e2 ∧ e2 ≤ 1099511627777 then
              some (⟨(place_Excerpt.text (a0.extract p.1.toNat p.2.toNat) (1 + e1) e2 a2).toArray⟩, 0)
            else none
      else none
  else none
set_option maxHeartbeats 8000000 in
set_option maxRecDepth 100000 in
theorem place_Excerpt.calls (a0 : ByteArray) (a1 : Int) (a2 : Int) (r1 : ByteArray) (r2 : Int) (w : World) (h : place_Excerpt.f a0 a1 a2 = some (r1, r2)) :
    Calls Tryd.prog 25 #[.string a0, .int .i64 a1, .int .i64 a2] w fun e w' => e = .returned (.tuple #[.string r1, .int .i64 r2]) ∧ Below w.heap.size w w' := by
  unfold place_Excerpt.f at h
  by_cases hbad : a1 < 0 ∨ (a0.size : Int) < a1 ∨ a2 < 8 ∨ 200 < a2
  · rw [if_pos hbad] at h
    obtain ⟨rfl, rfl⟩ := Prod.mk.inj (Option.some.inj h)
    clear h
    by_cases h0 : a1 < 0
    · clear hbad
      go_enter Tryd.func25, Tryd.ntmps25
      go_wp2
      go_ret2
      exact ⟨rfl, Below.refl _ _⟩
    · by_cases h1 : (a0.size : Int) < a1
      · clear hbad
        go_enter Tryd.func25, Tryd.ntmps25
        go_wp2
        go_ret2
        exact ⟨rfl, Below.refl _ _⟩
      · by_cases h2 : a2 < 8
        · clear hbad
          go_enter Tryd.func25, Tryd.ntmps25
          go_wp2
          go_ret2
          exact ⟨rfl, Below.refl _ _⟩
        · have h3 : 200 < a2 := by omega
          clear hbad
          go_enter Tryd.func25, Tryd.ntmps25
          go_wp2
          go_ret2
          exact ⟨rfl, Below.refl _ _⟩
  · rw [if_neg hbad] at h
    have h0 : ¬ a1 < 0 := by omega
    have h1 : ¬ (a0.size : Int) < a1 := by omega
    have h2 : ¬ a2 < 8 := by omega
    have h3 : ¬ 200 < a2 := by omega
    clear hbad
    by_cases hs : a0.size ≤ 1099511627776
    · rw [if_pos hs] at h
      cases hrow : place_row.f a0 a1 with
      | none => rw [hrow] at h; cases h
      | some p =>
        obtain ⟨begin_, end_⟩ := p
        rw [hrow, Option.bind_some] at h
        have Hrow := Lib.hid hrow
        clear hrow
        by_cases hb : 0 ≤ begin_ ∧ begin_ ≤ a1 ∧ begin_ ≤ end_ ∧ end_ ≤ a0.size
        · rw [if_pos hb] at h
          obtain ⟨hb1, hb1', hb2, hb3⟩ := hb
          have hln : ((a0.extract begin_.toNat end_.toNat).size : Int) ≤ a0.size := by
            rw [ByteArray.size_extract]
            omega
          generalize hline : a0.extract begin_.toNat end_.toNat = line at h hln
          have Hline := Lib.hid hline
          clear hline
          cases he1 : place_ended.f line (a1 - begin_) with
          | none => rw [he1] at h; cases h
          | some e1 =>
            rw [he1, Option.bind_some] at h
            have He1 := Lib.hid he1
            clear he1
            cases he2 : place_ended.f line (line.size : Int) with
            | none => rw [he2] at h; cases h
            | some e2 =>
              rw [he2, Option.bind_some] at h
              have He2 := Lib.hid he2
              clear he2
              by_cases he : 0 ≤ e1 ∧ e1 ≤ 1099511627777 ∧ 0 ≤ e2 ∧ e2 ≤ 1099511627777
              · rw [if_pos he] at h
                obtain ⟨g1, g2, g3, g4⟩ := he
                obtain ⟨hr1, rfl⟩ := Prod.mk.inj (Option.some.inj h)
                have Hr := Lib.hid hr1
                clear hr1 h
                go_enter Tryd.func25, Tryd.ntmps25
                go_wp2_with (first
                  | (go_at_call 52; refine (place_row.calls a0 a1 begin_ end_ _ Hrow.out).mono ?_; rintro e w1 ⟨rfl, ⟨n1, rfl⟩⟩)
                  | fail)
                rw [Hline.out]
                go_wp2_with (fail)
                refine (place_ended.calls line (a1 - begin_) e1 _ He1.out).mono ?_
                rintro e w2 ⟨rfl, hb2w⟩
                go_wp2_with (fail)
                refine (place_ended.calls line line.size e2 _ He2.out).mono ?_
                rintro e w3 ⟨rfl, hb3w⟩
                have hbw3 : Below w.heap.size w w3 := by
                  have z : Below w.heap.size w (w.drewN n1) := (Drawn0.mk ⟨n1, rfl⟩ : Drawn0 w (w.drewN n1)).below
                  have z2 := z.trans (hb2w.mono z.size)
                  exact z2.trans (hb3w.mono z2.size)
                have HB := Lib.hid hbw3
                clear hbw3 hb3w hb2w
                have hF1 : 1 ≤ place_Excerpt.first (1 + e1) e2 a2 := by unfold place_Excerpt.first; omega
                have hF2 : place_Excerpt.first (1 + e1) e2 a2 ≤ 1 + e1 := by unfold place_Excerpt.first; omega
                have hFe : place_Excerpt.first (1 + e1) e2 a2 = max 1 (min (1 + e1 - a2 / 2) (e2 - a2 + 1)) := rfl
                generalize hF : place_Excerpt.first (1 + e1) e2 a2 = F at hF1 hF2 hFe
                have HF := Lib.hid hF
                have HFe := Lib.hid hFe
                clear hF hFe
                go_upto_region 7 with (fail)
                go_cut [13] (fun s13 wc => s13 = .int .i64 F ∧ wc = w3)
                case first =>
                  go_wp2
                  all_goals
                    go_meet
                    exact ⟨by rw [HFe.out]; go_num, rfl⟩
                case rest =>
                  obtain ⟨rfl, rfl⟩ := hcut
                  go_wp2_with (fail)
                  have HB2 := HB
                  go_loopw [16] (fun n wr => ∃ (pos fuel k : Nat) (acc : List UInt8), n = .int .i64 k ∧ Lib.IsBuilderF 91 5 wc.heap.size wc.heap.size (Lib.byteCells acc) wr ∧ wr.heap[wc.heap.size + 1]? = some (.stringIter line pos) ∧ Below wc.heap.size wc wr ∧ acc ++ place_Excerpt.from_ line F (F + a2 - 1) e2 fuel pos k = place_Excerpt.from_ line F (F + a2 - 1) e2 line.size 0 0 ∧ line.size ≤ pos + fuel ∧ acc.length ≤ 4 * pos ∧ k ≤ pos) (fun _ wr => line.size - wr.iterPos (wc.heap.size + 1))
                  case atStart =>
                    refine ⟨0, line.size, 0, [], rfl, (Lib.IsBuilderF.of (Lib.fresh_isBuilder 91 5 wc)).alloc _, ?_, ((Below.refl _ wc).alloc (Nat.le_refl _) _).alloc (by simp) _, rfl, by omega, by simp, by omega⟩
                    have := World.iter_heap (wc.alloc (.cells #[.pointer none, .slice none 0 0] 91)) line 0
                    simpa using this
                  case round =>
                    obtain ⟨pos, fuel, k, acc, rfl, hI, hit, hbw, hacc, hfu, hal, hkp⟩ := hrel
                    have hsz : wc.heap.size + 1 < wr.heap.size := (Array.getElem?_eq_some_iff.1 hit).1
                    by_cases hp : pos < line.size
                    · have hnx : ∀ ty, (Instr.next (.pointer (some ⟨wc.heap.size + 1, 0, none⟩)) true ty).run Tryd.prog wr = _ := fun ty => Lib.run_next_any_at wr (wc.heap.size + 1) line pos ty hit hp
                      have hwd := Lib.decode_width_pos line pos hp
                      have hd1 := decode_le line pos
                      have hI2 := hI.iterAt hit (pos + (Utf8.decode line pos).2)
                      have hit2 := Lib.iterAt_heap wr (wc.heap.size + 1) line pos (pos + (Utf8.decode line pos).2) hit
                      have hbw2 := Lib.below_iterAt hbw (k := wc.heap.size + 1) (by omega) line (pos + (Utf8.decode line pos).2)
                      have hsz2 : wc.heap.size ≤ (wr.iterAt (wc.heap.size + 1) line (pos + (Utf8.decode line pos).2)).heap.size := by rw [Lib.iterAt_size]; omega
                      obtain ⟨f, rfl⟩ : ∃ f, fuel = f + 1 := ⟨fuel - 1, by omega⟩
                      have hstep := place_Excerpt.from_step line F (F + a2 - 1) e2 f pos k hp
                      rw [hstep, ← List.append_assoc] at hacc
                      clear hstep
                      have hkb : k + 1 ≤ 1099511627776 := by omega
                      have hab : acc.length ≤ 4398046511104 := by omega
                      have Hit := Lib.hid hit
                      have Hit2 := Lib.hid hit2
                      have Hp := Lib.hid hp
                      clear hit2 hit hp
                      by_cases c1 : (k : Int) + 1 < F
                      · have hpc : place_Excerpt.piece F (F + a2 - 1) e2 ((k : Int) + 1) (Utf8.decode line pos).1 = [] := by unfold place_Excerpt.piece; rw [if_pos c1]
                        rw [hpc, List.append_nil] at hacc
                        have Hacc := Lib.hid hacc
                        clear hpc hacc
                        go_wp2
                        go_roundw
                        case rel => exact ⟨pos + (Utf8.decode line pos).2, f, k + 1, acc, by go_num, hI2, Hit2.out, hbw2, by rw [← Hacc.out]; norm_cast, by omega, by omega, by omega⟩
                        case measure =>
                          simp only [World.iterPos, Hit2.out, Hit.out]
                          have := Hp.out
                          omega
                      · by_cases c2 : F + a2 - 1 < (k : Int) + 1
                        · have hpc : place_Excerpt.piece F (F + a2 - 1) e2 ((k : Int) + 1) (Utf8.decode line pos).1 = [] := by unfold place_Excerpt.piece; rw [if_neg c1, if_pos c2]
                          rw [hpc, List.append_nil] at hacc
                          have Hacc := Lib.hid hacc
                          clear hpc hacc
                          go_wp2
                          go_roundw
                          case rel => exact ⟨pos + (Utf8.decode line pos).2, f, k + 1, acc, by go_num, hI2, Hit2.out, hbw2, by rw [← Hacc.out]; norm_cast, by omega, by omega, by omega⟩
                          case measure =>
                            simp only [World.iterPos, Hit2.out, Hit.out]
                            have := Hp.out
                            omega
                        · by_cases c3 : (k : Int) + 1 = F ∧ 1 < F
                          · have hpc : place_Excerpt.piece F (F + a2 - 1) e2 ((k : Int) + 1) (Utf8.decode line pos).1 = [60] := by unfold place_Excerpt.piece; rw [if_neg c1, if_neg c2, if_pos c3]
                            rw [hpc] at hacc
                            have Hacc := Lib.hid hacc
                            have e3 : ((k : Int) + 1 == F) = true := beq_iff_eq.2 c3.1
                            have d3 : 1 < F := c3.2
                            clear hpc hacc c3
                            go_wp2_with (fail)
                            refine (Tryd.Builder_WriteByte_k wc.heap.size wc.heap.size _ 60 _ hI2 (by rw [Lib.byteCells_length]; omega) hsz2).mono ?_
                            rintro e W1 ⟨rfl, q1, b1, k1⟩
                            go_wp2
                            go_roundw
                            case rel =>
                              refine ⟨pos + (Utf8.decode line pos).2, f, k + 1, acc ++ [60], by go_num, ?_, k1.iter Hit2.out (by omega), hbw2.trans b1, by rw [← Hacc.out]; norm_cast, by omega, by simp; omega, by omega⟩
                              rw [Lib.byteCells_append]; exact Or.inr q1
                            case measure =>
                              simp only [World.iterPos, k1.iter Hit2.out (by omega), Hit.out]
                              have := Hp.out
                              omega
                          · by_cases c4 : (k : Int) + 1 = F + a2 - 1 ∧ F + a2 - 1 < e2
                            · have hpc : place_Excerpt.piece F (F + a2 - 1) e2 ((k : Int) + 1) (Utf8.decode line pos).1 = [62] := by unfold place_Excerpt.piece; rw [if_neg c1, if_neg c2, if_neg c3, if_pos c4]
                              rw [hpc] at hacc
                              have Hacc := Lib.hid hacc
                              have e3 : ((k : Int) + 1 == F) = false := beq_eq_false_iff_ne.2 (by omega)
                              have e4 : ((k : Int) + 1 == F + a2 - 1) = true := beq_iff_eq.2 c4.1
                              have d4 : F + a2 - 1 < e2 := c4.2
                              clear hpc hacc c3 c4
                              go_wp2_with (fail)
                              refine (Tryd.Builder_WriteByte_k wc.heap.size wc.heap.size _ 62 _ hI2 (by rw [Lib.byteCells_length]; omega) hsz2).mono ?_
                              rintro e W1 ⟨rfl, q1, b1, k1⟩
                              go_wp2
                              go_roundw
                              case rel =>
                                refine ⟨pos + (Utf8.decode line pos).2, f, k + 1, acc ++ [62], by go_num, ?_, k1.iter Hit2.out (by omega), hbw2.trans b1, by rw [← Hacc.out]; norm_cast, by omega, by simp; omega, by omega⟩
                                rw [Lib.byteCells_append]; exact Or.inr q1
                              case measure =>
                                simp only [World.iterPos, k1.iter Hit2.out (by omega), Hit.out]
                                have := Hp.out
                                omega
                            · have hpc : place_Excerpt.piece F (F + a2 - 1) e2 ((k : Int) + 1) (Utf8.decode line pos).1 = (place_shown.s (Utf8.decode line pos).1).data.toList := by unfold place_Excerpt.piece; rw [if_neg c1, if_neg c2, if_neg c3, if_neg c4]
                              rw [hpc] at hacc
                              have Hacc := Lib.hid hacc
                              have hs4 := place_shown.size_le (Utf8.decode line pos).1
                              have hs5 : (place_shown.s (Utf8.decode line pos).1).data.toList.length = (place_shown.s (Utf8.decode line pos).1).size := data_length _
                              have Hs5 := Lib.hid hs5
                              clear hpc hacc hs5
                              have main : ∀ (e3 : ((k : Int) + 1 == F) = true ∧ ¬ 1 < F ∨ ((k : Int) + 1 == F) = false) (e4 : ((k : Int) + 1 == F + a2 - 1) = true ∧ ¬ F + a2 - 1 < e2 ∨ ((k : Int) + 1 == F + a2 - 1) = false), True := fun _ _ => trivial
                              have e3 : ((k : Int) + 1 == F) = true ∧ ¬ 1 < F ∨ ((k : Int) + 1 == F) = false := by
                                by_cases z : (k : Int) + 1 = F
                                · exact .inl ⟨beq_iff_eq.2 z, fun h => c3 ⟨z, h⟩⟩
                                · exact .inr (beq_eq_false_iff_ne.2 z)
                              have e4 : ((k : Int) + 1 == F + a2 - 1) = true ∧ ¬ F + a2 - 1 < e2 ∨ ((k : Int) + 1 == F + a2 - 1) = false := by
                                by_cases z : (k : Int) + 1 = F + a2 - 1
                                · exact .inl ⟨beq_iff_eq.2 z, fun h => c4 ⟨z, h⟩⟩
                                · exact .inr (beq_eq_false_iff_ne.2 z)
                              clear c3 c4 main
                              rcases e3 with ⟨e3, d3⟩ | e3 <;> rcases e4 with ⟨e4, d4⟩ | e4
                              all_goals
                                go_wp2_with (fail)
                                refine (place_shown.plain (Utf8.decode line pos).1 _).mono ?_
                                rintro e W0 ⟨rfl, rfl⟩
                                go_wp2_with (fail)
                                refine (Tryd.Builder_WriteString_k wc.heap.size wc.heap.size _ (place_shown.s (Utf8.decode line pos).1) _ hI2 (by rw [Lib.byteCells_length]; omega) hsz2).mono ?_
                                rintro e W1 ⟨rfl, q1, b1, k1⟩
                                go_wp2
                                go_roundw
                                case rel =>
                                  refine ⟨pos + (Utf8.decode line pos).2, f, k + 1, acc ++ (place_shown.s (Utf8.decode line pos).1).data.toList, by go_num, ?_, k1.iter Hit2.out (by omega), hbw2.trans b1, by rw [← Hacc.out]; norm_cast, by omega, by rw [List.length_append, Hs5.out]; omega, by omega⟩
                                  rw [Lib.byteCells_append]; exact Or.inr q1
                                case measure =>
                                  simp only [World.iterPos, k1.iter Hit2.out (by omega), Hit.out]
                                  have := Hp.out
                                  omega
                    · have hnx : ∀ ty, (Instr.next (.pointer (some ⟨wc.heap.size + 1, 0, none⟩)) true ty).run Tryd.prog wr = _ := fun ty => Lib.run_next_end_at wr (wc.heap.size + 1) line pos ty hit hp
                      rw [place_Excerpt.from_end line F (F + a2 - 1) e2 fuel pos k hp, List.append_nil] at hacc
                      have hab : acc.length ≤ 4398046511108 := by rw [hacc]; exact Nat.le_trans (place_Excerpt.from_le line F (F + a2 - 1) e2 _ _ _) (by omega)
                      have Hacc := Lib.hid hacc
                      clear hacc
                      obtain ⟨c, hc⟩ : ∃ c : Nat, 1 + e1 - F = c := ⟨(1 + e1 - F).toNat, by omega⟩
                      have hcb : c ≤ 1099511627777 := by omega
                      have Hc := Lib.hid hc
                      clear hc
                      have hsa : (⟨acc.toArray⟩ : ByteArray).size = acc.length := rfl
                      have Hsa := Lib.hid hsa
                      have hsa2 : (⟨acc.toArray⟩ : ByteArray).size ≤ 4398046511108 := by rw [hsa]; exact hab
                      clear hsa
                      generalize hB : (⟨acc.toArray⟩ : ByteArray) = bs at Hsa hsa2
                      go_wp2_with (fail)
                      refine (Tryd.Builder_String_any_k wc.heap.size wc.heap.size acc _ hI (by omega)).mono ?_
                      rintro e W1 ⟨rfl, _, b1, _⟩
                      rw [hB]
                      have HBs := Lib.hid hB
                      clear hB
                      go_wp2_with (fail)
                      rw [Hc.out]
                      refine (Tryd.strings_Repeat ⟨#[32]⟩ c _ (by omega) (by show 1 * c ≤ _; omega)).mono ?_
                      rintro e W2 ⟨rfl, b2⟩
                      have hre : (Lib.repeatL (⟨#[32]⟩ : ByteArray).data.toList c).length = c := by simp [Lib.repeatL_length]
                      go_wp2_with (fail)
                      have hfin : bs ++ (⟨#[10]⟩ : ByteArray) ++ (⟨(Lib.repeatL [32] c).toArray⟩ : ByteArray) ++ (⟨#[94, 10]⟩ : ByteArray) = r1 := by
                        rw [← Hr.out, ← HBs.out]
                        apply Go.WideShapes.bytes_inj
                        simp only [ByteArray.data_append, Array.toList_append, place_Excerpt.text, HF.out, Hacc.out, place_Excerpt.rep_eq]
                        rw [Hc.out, Int.toNat_natCast]
                      go_ret2
                      refine ⟨?_, ?_⟩
                      · exact place_Excerpt.ret hfin
                      · exact HB.out.trans (((hbw.mono HB.out.size).trans (b1.mono HB.out.size)).trans (b2.mono (by have := HB.out.size; have := b1.size; omega)))
              · rw [if_neg he] at h
                cases h
        · rw [if_neg hb] at h
          cases h
    · rw [if_neg hs] at h
      cases h


/-! ### strings_Count: of one byte, by the shelf's contract -/
def strings_Count.f (a0 : ByteArray) (a1 : ByteArray) : Option (Int) := match a1 with
  | ⟨⟨[c]⟩⟩ => some (Lib.countByte a0.data.toList c : Int)
  | _ => none
theorem strings_Count.calls (a0 : ByteArray) (a1 : ByteArray) (r : Int) (w : World) (h : strings_Count.f a0 a1 = some r) :
    Calls Tryd.prog 92 #[.string a0, .string a1] w fun e w' => e = .returned (.int .i64 r) ∧ Drawn0 w w' := by
  obtain ⟨⟨l⟩⟩ := a1
  cases l with
  | nil => simp [strings_Count.f] at h
  | cons c l =>
    cases l with
    | cons d l => simp [strings_Count.f] at h
    | nil =>
      obtain rfl := Option.some.inj h
      refine (Tryd.strings_Count_one a0 c w).mono ?_
      rintro e w' ⟨rfl, rfl⟩
      exact ⟨rfl, Drawn0.refl _⟩

/-! ### place_Lines: function 65 -/
def place_Lines.f (a0 : ByteArray) : Option (Int) := (strings_Count.f a0 (⟨#[10]⟩ : ByteArray)).bind fun t299 => (some (wrap64 (1 + t299)))
set_option maxHeartbeats 8000000 in
set_option maxRecDepth 100000 in
theorem place_Lines.calls (a0 : ByteArray) (r : Int) (w : World) (h : place_Lines.f a0 = some r) :
    Calls Tryd.prog 65 #[.string a0] w fun e w' => e = .returned (.int .i64 r) ∧ Drawn0 w w' := by
  have H : ((strings_Count.f a0 (⟨#[10]⟩ : ByteArray)).bind fun t299 => (some (wrap64 (1 + t299)))) = some r := h
  clear h
  replace H := Option.bind_eq_some_iff.mp H
  obtain ⟨t299, A20, H⟩ := H
  replace H : (some (wrap64 (1 + t299))) = some r := H
  have A2 := Aside0.mk A20
  clear A20
  obtain rfl := Option.some.inj H
  go_enter Tryd.func65, Tryd.ntmps65
  go_wp2_with (first | ((with_reducible refine gate_callee (f := 92) rfl ?_); refine goesL_ (some 4) rfl rfl Tryd.func92 (by kernel_rfl) rfl #[.string a0, .string (⟨#[10]⟩ : ByteArray)] rfl (by (try simp only [List.map_toArray, List.map_cons, List.map_nil]); first | done | rfl | (simp only [List.length_drop, List.length_take]; rfl)) ?_; (with_reducible refine (strings_Count.calls a0 (⟨#[10]⟩ : ByteArray) t299 _ A2.out).mono ?_); rintro e w' ⟨rfl, ⟨nd, rfl⟩⟩; refine ⟨_, rfl, ?_⟩))
  go_ret
  exact ⟨by first | rfl | (simp; done) | (simp [*]; done), by repeat (first | exact Drawn0.refl _ | apply Drawn0.step)⟩

end Go.Proofs.YtloflodbcdlmpaaDoor.Qall
