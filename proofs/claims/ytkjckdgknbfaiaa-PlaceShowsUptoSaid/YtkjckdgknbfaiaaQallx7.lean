-- WRITTEN BY A PROGRAM OF THIS SESSION (wip/tools/myprint.py, over the kit's print); Lean checks it.
import Derived.Test.YtkjckdgknbfaiaaQallx0
import Derived.Test.YtkjckdgknbfaiaaQallx4
import Derived.Test.YtkjckdgknbfaiaaQallx5
import Derived.Test.YtkjckdgknbfaiaaQallx6
namespace Go.Proofs.Ytkjckdgknbfaiaa.Qall
open Go.RowKit Go.Proofs.YtkjckdgknbfaiaaW.PrintWords Go.Proofs.YtkjckdgknbfaiaaW.PrintLast Go.Proofs.YtkjckdgknbfaiaaW.PrintMore
attribute [local go_sem] max2_int min2_int max_two min_two max_three min_three max_four min_four   -- for this text's walks alone
set_option linter.unusedVariables false
set_option linter.unusedSimpArgs false

/-! ### place_Excerpt: a Builder in a range over a string, by hand -/
def place_Excerpt.piece (first last all n : Int) (r : Nat) : List UInt8 :=
  if n < first then [] else if last < n then [] else if n = first ∧ 1 < first then [60] else if n = last ∧ last < all then [62] else (place_shown.s r).data.toList
def place_Excerpt.from_ (line : ByteArray) (first last all : Int) : Nat → Nat → Int → List UInt8
  | 0, _, _ => []
  | fuel + 1, pos, n => if pos < line.size then place_Excerpt.piece first last all (n + 1) (Utf8.decode line pos).1 ++ place_Excerpt.from_ line first last all fuel (pos + (Utf8.decode line pos).2) (n + 1) else []
theorem place_Excerpt.from_end (line : ByteArray) (first last all : Int) (fuel pos : Nat) (n : Int) (h : ¬ pos < line.size) : place_Excerpt.from_ line first last all fuel pos n = [] := by
  cases fuel <;> simp [place_Excerpt.from_, h]
theorem place_Excerpt.from_step (line : ByteArray) (first last all : Int) (f pos : Nat) (n : Int) (h : pos < line.size) : place_Excerpt.from_ line first last all (f + 1) pos n = place_Excerpt.piece first last all (n + 1) (Utf8.decode line pos).1 ++ place_Excerpt.from_ line first last all f (pos + (Utf8.decode line pos).2) (n + 1) := by
  rw [place_Excerpt.from_, if_pos h]
theorem place_shown.size_le (r : Int) : (place_shown.s r).size ≤ 4 := by
  unfold place_shown.s
  split
  · decide
  · split
    · unfold Utf8.encode
      dsimp only
      repeat' split
      all_goals simp [ByteArray.size]
    · decide
theorem place_Excerpt.piece_le (first last all n : Int) (r : Nat) : (place_Excerpt.piece first last all n r).length ≤ 4 := by
  unfold place_Excerpt.piece
  repeat' split
  any_goals simp
  have := place_shown.size_le r
  exact this
theorem place_Excerpt.from_le (line : ByteArray) (first last all : Int) : ∀ (fuel pos : Nat) (n : Int), (place_Excerpt.from_ line first last all fuel pos n).length ≤ 4 * fuel
  | 0, _, _ => by simp [place_Excerpt.from_]
  | f + 1, pos, n => by
    have ih := place_Excerpt.from_le line first last all f (pos + (Utf8.decode line pos).2) (n + 1)
    have hp := place_Excerpt.piece_le first last all (n + 1) (Utf8.decode line pos).1
    unfold place_Excerpt.from_
    split
    · rw [List.length_append]; omega
    · simp
theorem place_Excerpt.ret {a b : ByteArray} (h : a = b) : Ending.returned (.tuple #[.string a, .int .i64 0]) = Ending.returned (.tuple #[.string b, .int .i64 0]) := by rw [h]
theorem place_Excerpt.rep_eq (c : UInt8) : ∀ n, Lib.repeatL [c] n = List.replicate n c
  | 0 => rfl
  | n + 1 => by rw [Lib.repeatL, place_Excerpt.rep_eq c n]; rfl
def place_Excerpt.first (mark all width : Int) : Int := max 1 (min (mark - width / 2) (all - width + 1))
def place_Excerpt.text (line : ByteArray) (mark all width : Int) : List UInt8 :=
  place_Excerpt.from_ line (place_Excerpt.first mark all width) (place_Excerpt.first mark all width + width - 1) all line.size 0 0 ++ [10] ++ List.replicate (mark - place_Excerpt.first mark all width).toNat 32 ++ [94, 10]
def place_Excerpt.f (a0 : ByteArray) (a1 : Int) (a2 : Int) : Option (ByteArray × Int) :=
  if a1 < 0 ∨ (a0.size : Int) < a1 ∨ a2 < 8 ∨ 200 < a2 then some (⟨#[]⟩, 5)
  else if a0.size ≤ 1099511627776 then
    (place_row.f a0 a1).bind fun p =>
      if 0 ≤ p.1 ∧ p.1 ≤ a1 ∧ p.1 ≤ p.2 ∧ p.2 ≤ a0.size then
        (place_ended.f (a0.extract p.1.toNat p.2.toNat) (a1 - p.1)).bind fun e1 =>
          (place_ended.f (a0.extract p.1.toNat p.2.toNat) ((a0.extract p.1.toNat p.2.toNat).size : Int)).bind fun e2 =>
            if 0 ≤ e1 ∧ e1 ≤ 1099511627777 ∧ 0 ≤ e2 ∧ e2 ≤ 1099511627777 then
              some (⟨(place_Excerpt.text (a0.extract p.1.toNat p.2.toNat) (1 + e1) e2 a2).toArray⟩, 0)
            else none
      else none
  else none
set_option maxHeartbeats 8000000 in
set_option maxRecDepth 100000 in
theorem place_Excerpt.calls (a0 : ByteArray) (a1 : Int) (a2 : Int) (r1 : ByteArray) (r2 : Int) (w : World) (h : place_Excerpt.f a0 a1 a2 = some (r1, r2)) :
    Calls Try.prog 24 #[.string a0, .int .i64 a1, .int .i64 a2] w fun e w' => e = .returned (.tuple #[.string r1, .int .i64 r2]) ∧ Below w.heap.size w w' := by
  unfold place_Excerpt.f at h
  by_cases hbad : a1 < 0 ∨ (a0.size : Int) < a1 ∨ a2 < 8 ∨ 200 < a2
  · rw [if_pos hbad] at h
    obtain ⟨rfl, rfl⟩ := Prod.mk.inj (Option.some.inj h)
    clear h
    by_cases h0 : a1 < 0
    · clear hbad
      go_enter Try.func24, Try.ntmps24
      go_wp2
      go_ret2
      exact ⟨rfl, Below.refl _ _⟩
    · by_cases h1 : (a0.size : Int) < a1
      · clear hbad
        go_enter Try.func24, Try.ntmps24
        go_wp2
        go_ret2
        exact ⟨rfl, Below.refl _ _⟩
      · by_cases h2 : a2 < 8
        · clear hbad
          go_enter Try.func24, Try.ntmps24
          go_wp2
          go_ret2
          exact ⟨rfl, Below.refl _ _⟩
        · have h3 : 200 < a2 := by omega
          clear hbad
          go_enter Try.func24, Try.ntmps24
          go_wp2
          go_ret2
          exact ⟨rfl, Below.refl _ _⟩
  · rw [if_neg hbad] at h
    have h0 : ¬ a1 < 0 := by omega
    have h1 : ¬ (a0.size : Int) < a1 := by omega
    have h2 : ¬ a2 < 8 := by omega
    have h3 : ¬ 200 < a2 := by omega
    clear hbad
    by_cases hs : a0.size ≤ 1099511627776
    · rw [if_pos hs] at h
      cases hrow : place_row.f a0 a1 with
      | none => rw [hrow] at h; cases h
      | some p =>
        obtain ⟨begin_, end_⟩ := p
        rw [hrow, Option.bind_some] at h
        have Hrow := Lib.hid hrow
        clear hrow
        by_cases hb : 0 ≤ begin_ ∧ begin_ ≤ a1 ∧ begin_ ≤ end_ ∧ end_ ≤ a0.size
        · rw [if_pos hb] at h
          obtain ⟨hb1, hb1', hb2, hb3⟩ := hb
          have hln : ((a0.extract begin_.toNat end_.toNat).size : Int) ≤ a0.size := by
            rw [ByteArray.size_extract]
            omega
          generalize hline : a0.extract begin_.toNat end_.toNat = line at h hln
          have Hline := Lib.hid hline
          clear hline
          cases he1 : place_ended.f line (a1 - begin_) with
          | none => rw [he1] at h; cases h
          | some e1 =>
            rw [he1, Option.bind_some] at h
            have He1 := Lib.hid he1
            clear he1
            cases he2 : place_ended.f line (line.size : Int) with
            | none => rw [he2] at h; cases h
            | some e2 =>
              rw [he2, Option.bind_some] at h
              have He2 := Lib.hid he2
              clear he2
              by_cases he : 0 ≤ e1 ∧ e1 ≤ 1099511627777 ∧ 0 ≤ e2 ∧ e2 ≤ 1099511627777
              · rw [if_pos he] at h
                obtain ⟨g1, g2, g3, g4⟩ := he
                obtain ⟨hr1, rfl⟩ := Prod.mk.inj (Option.some.inj h)
                have Hr := Lib.hid hr1
                clear hr1 h
                go_enter Try.func24, Try.ntmps24
                go_wp2_with (first
                  | (go_at_call 31; refine (place_row.calls a0 a1 begin_ end_ _ Hrow.out).mono ?_; rintro e w1 ⟨rfl, ⟨n1, rfl⟩⟩)
                  | fail)
                rw [Hline.out]
                go_wp2_with (fail)
                refine (place_ended.calls line (a1 - begin_) e1 _ He1.out).mono ?_
                rintro e w2 ⟨rfl, hb2w⟩
                go_wp2_with (fail)
                refine (place_ended.calls line line.size e2 _ He2.out).mono ?_
                rintro e w3 ⟨rfl, hb3w⟩
                have hbw3 : Below w.heap.size w w3 := by
                  have z : Below w.heap.size w (w.drewN n1) := (Drawn0.mk ⟨n1, rfl⟩ : Drawn0 w (w.drewN n1)).below
                  have z2 := z.trans (hb2w.mono z.size)
                  exact z2.trans (hb3w.mono z2.size)
                have HB := Lib.hid hbw3
                clear hbw3 hb3w hb2w
                have hF1 : 1 ≤ place_Excerpt.first (1 + e1) e2 a2 := by unfold place_Excerpt.first; omega
                have hF2 : place_Excerpt.first (1 + e1) e2 a2 ≤ 1 + e1 := by unfold place_Excerpt.first; omega
                have hFe : place_Excerpt.first (1 + e1) e2 a2 = max 1 (min (1 + e1 - a2 / 2) (e2 - a2 + 1)) := rfl
                generalize hF : place_Excerpt.first (1 + e1) e2 a2 = F at hF1 hF2 hFe
                have HF := Lib.hid hF
                have HFe := Lib.hid hFe
                clear hF hFe
                go_upto_region 7 with (fail)
                go_cut [13] (fun s13 wc => s13 = .int .i64 F ∧ wc = w3)
                case first =>
                  go_wp2
                  all_goals
                    go_meet
                    exact ⟨by rw [HFe.out]; go_num, rfl⟩
                case rest =>
                  obtain ⟨rfl, rfl⟩ := hcut
                  go_wp2_with (fail)
                  have HB2 := HB
                  go_loopw [16] (fun n wr => ∃ (pos fuel k : Nat) (acc : List UInt8), n = .int .i64 k ∧ Lib.IsBuilderF 66 5 wc.heap.size wc.heap.size (Lib.byteCells acc) wr ∧ wr.heap[wc.heap.size + 1]? = some (.stringIter line pos) ∧ Below wc.heap.size wc wr ∧ acc ++ place_Excerpt.from_ line F (F + a2 - 1) e2 fuel pos k = place_Excerpt.from_ line F (F + a2 - 1) e2 line.size 0 0 ∧ line.size ≤ pos + fuel ∧ acc.length ≤ 4 * pos ∧ k ≤ pos) (fun _ wr => line.size - wr.iterPos (wc.heap.size + 1))
                  case atStart =>
                    refine ⟨0, line.size, 0, [], rfl, (Lib.IsBuilderF.of (Lib.fresh_isBuilder 66 5 wc)).alloc _, ?_, ((Below.refl _ wc).alloc (Nat.le_refl _) _).alloc (by simp) _, rfl, by omega, by simp, by omega⟩
                    have := World.iter_heap (wc.alloc (.cells #[.pointer none, .slice none 0 0] 66)) line 0
                    simpa using this
                  case round =>
                    obtain ⟨pos, fuel, k, acc, rfl, hI, hit, hbw, hacc, hfu, hal, hkp⟩ := hrel
                    have hsz : wc.heap.size + 1 < wr.heap.size := (Array.getElem?_eq_some_iff.1 hit).1
                    by_cases hp : pos < line.size
                    · have hnx : ∀ ty, (Instr.next (.pointer (some ⟨wc.heap.size + 1, 0, none⟩)) true ty).run Try.prog wr = _ := fun ty => Lib.run_next_any_at wr (wc.heap.size + 1) line pos ty hit hp
                      have hwd := Lib.decode_width_pos line pos hp
                      have hd1 := decode_le line pos
                      have hI2 := hI.iterAt hit (pos + (Utf8.decode line pos).2)
                      have hit2 := Lib.iterAt_heap wr (wc.heap.size + 1) line pos (pos + (Utf8.decode line pos).2) hit
                      have hbw2 := Lib.below_iterAt hbw (k := wc.heap.size + 1) (by omega) line (pos + (Utf8.decode line pos).2)
                      have hsz2 : wc.heap.size ≤ (wr.iterAt (wc.heap.size + 1) line (pos + (Utf8.decode line pos).2)).heap.size := by rw [Lib.iterAt_size]; omega
                      obtain ⟨f, rfl⟩ : ∃ f, fuel = f + 1 := ⟨fuel - 1, by omega⟩
                      have hstep := place_Excerpt.from_step line F (F + a2 - 1) e2 f pos k hp
                      rw [hstep, ← List.append_assoc] at hacc
                      clear hstep
                      have hkb : k + 1 ≤ 1099511627776 := by omega
                      have hab : acc.length ≤ 4398046511104 := by omega
                      have Hit := Lib.hid hit
                      have Hit2 := Lib.hid hit2
                      have Hp := Lib.hid hp
                      clear hit2 hit hp
                      by_cases c1 : (k : Int) + 1 < F
                      · have hpc : place_Excerpt.piece F (F + a2 - 1) e2 ((k : Int) + 1) (Utf8.decode line pos).1 = [] := by unfold place_Excerpt.piece; rw [if_pos c1]
                        rw [hpc, List.append_nil] at hacc
                        have Hacc := Lib.hid hacc
                        clear hpc hacc
                        go_wp2
                        go_roundw
                        case rel => exact ⟨pos + (Utf8.decode line pos).2, f, k + 1, acc, by go_num, hI2, Hit2.out, hbw2, by rw [← Hacc.out]; norm_cast, by omega, by omega, by omega⟩
                        case measure =>
                          simp only [World.iterPos, Hit2.out, Hit.out]
                          have := Hp.out
                          omega
                      · by_cases c2 : F + a2 - 1 < (k : Int) + 1
                        · have hpc : place_Excerpt.piece F (F + a2 - 1) e2 ((k : Int) + 1) (Utf8.decode line pos).1 = [] := by unfold place_Excerpt.piece; rw [if_neg c1, if_pos c2]
                          rw [hpc, List.append_nil] at hacc
                          have Hacc := Lib.hid hacc
                          clear hpc hacc
                          go_wp2
                          go_roundw
                          case rel => exact ⟨pos + (Utf8.decode line pos).2, f, k + 1, acc, by go_num, hI2, Hit2.out, hbw2, by rw [← Hacc.out]; norm_cast, by omega, by omega, by omega⟩
                          case measure =>
                            simp only [World.iterPos, Hit2.out, Hit.out]
                            have := Hp.out
                            omega
                        · by_cases c3 : (k : Int) + 1 = F ∧ 1 < F
                          · have hpc : place_Excerpt.piece F (F + a2 - 1) e2 ((k : Int) + 1) (Utf8.decode line pos).1 = [60] := by unfold place_Excerpt.piece; rw [if_neg c1, if_neg c2, if_pos c3]
                            rw [hpc] at hacc
                            have Hacc := Lib.hid hacc
                            have e3 : ((k : Int) + 1 == F) = true := beq_iff_eq.2 c3.1
                            have d3 : 1 < F := c3.2
                            clear hpc hacc c3
                            go_wp2_with (fail)
                            refine (Try.Builder_WriteByte_k wc.heap.size wc.heap.size _ 60 _ hI2 (by rw [Lib.byteCells_length]; omega) hsz2).mono ?_
                            rintro e W1 ⟨rfl, q1, b1, k1⟩
                            go_wp2
                            go_roundw
                            case rel =>
                              refine ⟨pos + (Utf8.decode line pos).2, f, k + 1, acc ++ [60], by go_num, ?_, k1.iter Hit2.out (by omega), hbw2.trans b1, by rw [← Hacc.out]; norm_cast, by omega, by simp; omega, by omega⟩
                              rw [Lib.byteCells_append]; exact Or.inr q1
                            case measure =>
                              simp only [World.iterPos, k1.iter Hit2.out (by omega), Hit.out]
                              have := Hp.out
                              omega
                          · by_cases c4 : (k : Int) + 1 = F + a2 - 1 ∧ F + a2 - 1 < e2
                            · have hpc : place_Excerpt.piece F (F + a2 - 1) e2 ((k : Int) + 1) (Utf8.decode line pos).1 = [62] := by unfold place_Excerpt.piece; rw [if_neg c1, if_neg c2, if_neg c3, if_pos c4]
                              rw [hpc] at hacc
                              have Hacc := Lib.hid hacc
                              have e3 : ((k : Int) + 1 == F) = false := beq_eq_false_iff_ne.2 (by omega)
                              have e4 : ((k : Int) + 1 == F + a2 - 1) = true := beq_iff_eq.2 c4.1
                              have d4 : F + a2 - 1 < e2 := c4.2
                              clear hpc hacc c3 c4
                              go_wp2_with (fail)
                              refine (Try.Builder_WriteByte_k wc.heap.size wc.heap.size _ 62 _ hI2 (by rw [Lib.byteCells_length]; omega) hsz2).mono ?_
                              rintro e W1 ⟨rfl, q1, b1, k1⟩
                              go_wp2
                              go_roundw
                              case rel =>
                                refine ⟨pos + (Utf8.decode line pos).2, f, k + 1, acc ++ [62], by go_num, ?_, k1.iter Hit2.out (by omega), hbw2.trans b1, by rw [← Hacc.out]; norm_cast, by omega, by simp; omega, by omega⟩
                                rw [Lib.byteCells_append]; exact Or.inr q1
                              case measure =>
                                simp only [World.iterPos, k1.iter Hit2.out (by omega), Hit.out]
                                have := Hp.out
                                omega
                            · have hpc : place_Excerpt.piece F (F + a2 - 1) e2 ((k : Int) + 1) (Utf8.decode line pos).1 = (place_shown.s (Utf8.decode line pos).1).data.toList := by unfold place_Excerpt.piece; rw [if_neg c1, if_neg c2, if_neg c3, if_neg c4]
                              rw [hpc] at hacc
                              have Hacc := Lib.hid hacc
                              have hs4 := place_shown.size_le (Utf8.decode line pos).1
                              have hs5 : (place_shown.s (Utf8.decode line pos).1).data.toList.length = (place_shown.s (Utf8.decode line pos).1).size := data_length _
                              have Hs5 := Lib.hid hs5
                              clear hpc hacc hs5
                              have main : ∀ (e3 : ((k : Int) + 1 == F) = true ∧ ¬ 1 < F ∨ ((k : Int) + 1 == F) = false) (e4 : ((k : Int) + 1 == F + a2 - 1) = true ∧ ¬ F + a2 - 1 < e2 ∨ ((k : Int) + 1 == F + a2 - 1) = false), True := fun _ _ => trivial
                              have e3 : ((k : Int) + 1 == F) = true ∧ ¬ 1 < F ∨ ((k : Int) + 1 == F) = false := by
                                by_cases z : (k : Int) + 1 = F
                                · exact .inl ⟨beq_iff_eq.2 z, fun h => c3 ⟨z, h⟩⟩
                                · exact .inr (beq_eq_false_iff_ne.2 z)
                              have e4 : ((k : Int) + 1 == F + a2 - 1) = true ∧ ¬ F + a2 - 1 < e2 ∨ ((k : Int) + 1 == F + a2 - 1) = false := by
                                by_cases z : (k : Int) + 1 = F + a2 - 1
                                · exact .inl ⟨beq_iff_eq.2 z, fun h => c4 ⟨z, h⟩⟩
                                · exact .inr (beq_eq_false_iff_ne.2 z)
                              clear c3 c4 main
                              rcases e3 with ⟨e3, d3⟩ | e3 <;> rcases e4 with ⟨e4, d4⟩ | e4
                              all_goals
                                go_wp2_with (fail)
                                refine (place_shown.plain (Utf8.decode line pos).1 _).mono ?_
                                rintro e W0 ⟨rfl, rfl⟩
                                go_wp2_with (fail)
                                refine (Try.Builder_WriteString_k wc.heap.size wc.heap.size _ (place_shown.s (Utf8.decode line pos).1) _ hI2 (by rw [Lib.byteCells_length]; omega) hsz2).mono ?_
                                rintro e W1 ⟨rfl, q1, b1, k1⟩
                                go_wp2
                                go_roundw
                                case rel =>
                                  refine ⟨pos + (Utf8.decode line pos).2, f, k + 1, acc ++ (place_shown.s (Utf8.decode line pos).1).data.toList, by go_num, ?_, k1.iter Hit2.out (by omega), hbw2.trans b1, by rw [← Hacc.out]; norm_cast, by omega, by rw [List.length_append, Hs5.out]; omega, by omega⟩
                                  rw [Lib.byteCells_append]; exact Or.inr q1
                                case measure =>
                                  simp only [World.iterPos, k1.iter Hit2.out (by omega), Hit.out]
                                  have := Hp.out
                                  omega
                    · have hnx : ∀ ty, (Instr.next (.pointer (some ⟨wc.heap.size + 1, 0, none⟩)) true ty).run Try.prog wr = _ := fun ty => Lib.run_next_end_at wr (wc.heap.size + 1) line pos ty hit hp
                      rw [place_Excerpt.from_end line F (F + a2 - 1) e2 fuel pos k hp, List.append_nil] at hacc
                      have hab : acc.length ≤ 4398046511108 := by rw [hacc]; exact Nat.le_trans (place_Excerpt.from_le line F (F + a2 - 1) e2 _ _ _) (by omega)
                      have Hacc := Lib.hid hacc
                      clear hacc
                      obtain ⟨c, hc⟩ : ∃ c : Nat, 1 + e1 - F = c := ⟨(1 + e1 - F).toNat, by omega⟩
                      have hcb : c ≤ 1099511627777 := by omega
                      have Hc := Lib.hid hc
                      clear hc
                      have hsa : (⟨acc.toArray⟩ : ByteArray).size = acc.length := rfl
                      have Hsa := Lib.hid hsa
                      have hsa2 : (⟨acc.toArray⟩ : ByteArray).size ≤ 4398046511108 := by rw [hsa]; exact hab
                      clear hsa
                      generalize hB : (⟨acc.toArray⟩ : ByteArray) = bs at Hsa hsa2
                      go_wp2_with (fail)
                      refine (Try.Builder_String_any_k wc.heap.size wc.heap.size acc _ hI (by omega)).mono ?_
                      rintro e W1 ⟨rfl, _, b1, _⟩
                      rw [hB]
                      have HBs := Lib.hid hB
                      clear hB
                      go_wp2_with (fail)
                      rw [Hc.out]
                      refine (Try.strings_Repeat ⟨#[32]⟩ c _ (by omega) (by show 1 * c ≤ _; omega)).mono ?_
                      rintro e W2 ⟨rfl, b2⟩
                      have hre : (Lib.repeatL (⟨#[32]⟩ : ByteArray).data.toList c).length = c := by simp [Lib.repeatL_length]
                      go_wp2_with (fail)
                      have hfin : bs ++ (⟨#[10]⟩ : ByteArray) ++ (⟨(Lib.repeatL [32] c).toArray⟩ : ByteArray) ++ (⟨#[94, 10]⟩ : ByteArray) = r1 := by
                        rw [← Hr.out, ← HBs.out]
                        apply Go.WideShapes.bytes_inj
                        simp only [ByteArray.data_append, Array.toList_append, place_Excerpt.text, HF.out, Hacc.out, place_Excerpt.rep_eq]
                        rw [Hc.out, Int.toNat_natCast]
                      go_ret2
                      refine ⟨?_, ?_⟩
                      · exact place_Excerpt.ret hfin
                      · exact HB.out.trans (((hbw.mono HB.out.size).trans (b1.mono HB.out.size)).trans (b2.mono (by have := HB.out.size; have := b1.size; omega)))
              · rw [if_neg he] at h
                cases h
        · rw [if_neg hb] at h
          cases h
    · rw [if_neg hs] at h
      cases h

/-! ### dowelref02_shown: function 39 -/
def dowelref02_shown.f (a0 : ByteArray) (a1_0 : Int) (a1_1 : Int) (a1_2 : Int) : Option (ByteArray) := if a1_2 = 9 then (some (⟨#[32]⟩ : ByteArray)) else (if a1_2 ≥ 32 then (if a1_2 ≤ 126 then (if 0 ≤ a1_0 then (if a1_0 ≤ (wrap64 (a1_0 + a1_1)) then (if (wrap64 (a1_0 + a1_1)) ≤ (a0.size : Int) then (some (a0.extract (a1_0 : Int).toNat ((wrap64 (a1_0 + a1_1)) : Int).toNat)) else (none)) else (none)) else (none)) else (if a1_2 ≥ 160 then (if a1_2 = 65533 then (some (⟨#[63]⟩ : ByteArray)) else (if 0 ≤ a1_0 then (if a1_0 ≤ (wrap64 (a1_0 + a1_1)) then (if (wrap64 (a1_0 + a1_1)) ≤ (a0.size : Int) then (some (a0.extract (a1_0 : Int).toNat ((wrap64 (a1_0 + a1_1)) : Int).toNat)) else (none)) else (none)) else (none))) else (some (⟨#[63]⟩ : ByteArray)))) else (if a1_2 ≥ 160 then (if a1_2 = 65533 then (some (⟨#[63]⟩ : ByteArray)) else (if 0 ≤ a1_0 then (if a1_0 ≤ (wrap64 (a1_0 + a1_1)) then (if (wrap64 (a1_0 + a1_1)) ≤ (a0.size : Int) then (some (a0.extract (a1_0 : Int).toNat ((wrap64 (a1_0 + a1_1)) : Int).toNat)) else (none)) else (none)) else (none))) else (some (⟨#[63]⟩ : ByteArray))))
set_option maxHeartbeats 8000000 in
set_option maxRecDepth 100000 in
theorem dowelref02_shown.calls (a0 : ByteArray) (a1_0 : Int) (a1_1 : Int) (a1_2 : Int) (r : ByteArray) (w : World) (h : dowelref02_shown.f a0 a1_0 a1_1 a1_2 = some r) :
    Calls Try.prog 39 #[.string a0, .agg #[.int .i64 a1_0, .int .i64 a1_1, .int .i64 a1_2]] w fun e w' => e = .returned (.string r) ∧ Below w.heap.size w w' := by
  have hu31 := Try.underlying31
  have HB := Aside0.mk (Below.refl w.heap.size w)
  have H : (if a1_2 = 9 then (some (⟨#[32]⟩ : ByteArray)) else (if a1_2 ≥ 32 then (if a1_2 ≤ 126 then (if 0 ≤ a1_0 then (if a1_0 ≤ (wrap64 (a1_0 + a1_1)) then (if (wrap64 (a1_0 + a1_1)) ≤ (a0.size : Int) then (some (a0.extract (a1_0 : Int).toNat ((wrap64 (a1_0 + a1_1)) : Int).toNat)) else (none)) else (none)) else (none)) else (if a1_2 ≥ 160 then (if a1_2 = 65533 then (some (⟨#[63]⟩ : ByteArray)) else (if 0 ≤ a1_0 then (if a1_0 ≤ (wrap64 (a1_0 + a1_1)) then (if (wrap64 (a1_0 + a1_1)) ≤ (a0.size : Int) then (some (a0.extract (a1_0 : Int).toNat ((wrap64 (a1_0 + a1_1)) : Int).toNat)) else (none)) else (none)) else (none))) else (some (⟨#[63]⟩ : ByteArray)))) else (if a1_2 ≥ 160 then (if a1_2 = 65533 then (some (⟨#[63]⟩ : ByteArray)) else (if 0 ≤ a1_0 then (if a1_0 ≤ (wrap64 (a1_0 + a1_1)) then (if (wrap64 (a1_0 + a1_1)) ≤ (a0.size : Int) then (some (a0.extract (a1_0 : Int).toNat ((wrap64 (a1_0 + a1_1)) : Int).toNat)) else (none)) else (none)) else (none))) else (some (⟨#[63]⟩ : ByteArray))))) = some r := h
  clear h
  by_cases c3 : a1_2 = 9
  · rw [if_pos c3] at H
    have c3b0 : (a1_2 == 9) = true := beq_iff_eq.mpr c3
    have c3b1 : (a1_2 != 9) = false := bne_eq_false_iff_eq.mpr c3
    clear c3
    obtain rfl := Option.some.inj H
    go_enter Try.func39, Try.ntmps39
    go_wp2_with (first | ((with_reducible refine gate_dst (N := 3) rfl ?_); refine box_event ?hg (N := 3) ?hd (cs := #[.int .i64 a1_0, .int .i64 a1_1, .int .i64 a1_2]) (t := 31) ?hr ?_; (case hd => rfl); (case hg => rfl); (case hr => first | (go_simp; done) | (go_simp; rfl)); intro gb199 hg w4 hbox hb; have n0_ := Aside0.mk (below_step (by repeat (first | (with_reducible first | exact HB.out | apply below_alloc | apply pw_below_drewN | apply below_drew1) | exact HB.out)) hb); have n1_ := Aside0.mk (hbox); have n2_ := Aside0.mk ((by rw [hg]; exact (below_size (by repeat (first | (with_reducible first | exact HB.out | apply below_alloc | apply pw_below_drewN | apply below_drew1) | exact HB.out))) : w.heap.size ≤ gb199)); have n3_ := Aside0.mk ((by rw [hg]; exact (below_size (by repeat (first | (with_reducible first | exact HB.out | apply below_alloc | apply pw_below_drewN | apply below_drew1) | exact HB.out))) : w.heap.size ≤ gb199)); clear HB; have HB := n0_; have BK199 := n1_; have GW199 := n2_; have GE199 := n3_; clear n0_ n1_ n2_ n3_; clear hb hbox hg; have hcz5_0 : w4.cell? ⟨gb199, 0, none⟩ = some (.int .i64 a1_0) := (blk_cell BK199.out 0).trans rfl; have hcz5_1 : w4.cell? ⟨gb199, 1, none⟩ = some (.int .i64 a1_1) := (blk_cell BK199.out 1).trans rfl; have hcz5_2 : w4.cell? ⟨gb199, 2, none⟩ = some (.int .i64 a1_2) := (blk_cell BK199.out 2).trans rfl; have hfz5_0 := blk_frozen BK199.out 0; have hfz5_1 := blk_frozen BK199.out 1; have hfz5_2 := blk_frozen BK199.out 2))
    go_ret
    exact ⟨by first | rfl | (simp [errW_none, errW_some] <;> rfl) | (simp [*, errW_none, errW_some] <;> rfl), by repeat (first | (with_reducible first | exact HB.out | apply below_alloc | apply pw_below_drewN | apply below_drew1 | refine below_set ?_ GE199.out) | exact HB.out)⟩
  · rw [if_neg c3] at H
    have c3b0 : (a1_2 == 9) = false := beq_eq_false_iff_ne.mpr c3
    have c3b1 : (a1_2 != 9) = true := bne_iff_ne.mpr c3
    by_cases c6 : a1_2 ≥ 32
    · rw [if_pos c6] at H
      have c6b0 : decide (32 ≤ a1_2) = true := decide_eq_true c6
      clear c6
      by_cases c7 : a1_2 ≤ 126
      · rw [if_pos c7] at H
        have c7b0 : decide (a1_2 ≤ 126) = true := decide_eq_true c7
        clear c7
        by_cases c8 : 0 ≤ a1_0
        · rw [if_pos c8] at H
          have c8b0 := eq_true c8
          have c8b1 : decide (0 ≤ a1_0) = true := decide_eq_true c8
          clear c8
          by_cases c9 : a1_0 ≤ (wrap64 (a1_0 + a1_1))
          · rw [if_pos c9] at H
            have c9b0 := eq_true c9
            have c9b1 : decide (a1_0 ≤ (wrap64 (a1_0 + a1_1))) = true := decide_eq_true c9
            by_cases c10 : (wrap64 (a1_0 + a1_1)) ≤ (a0.size : Int)
            · rw [if_pos c10] at H
              have c10b0 := eq_true c10
              have c10b1 : decide ((wrap64 (a1_0 + a1_1)) ≤ (a0.size : Int)) = true := decide_eq_true c10
              obtain rfl := Option.some.inj H
              go_enter Try.func39, Try.ntmps39
              go_wp2_with (first | ((with_reducible refine gate_dst (N := 3) rfl ?_); refine box_event ?hg (N := 3) ?hd (cs := #[.int .i64 a1_0, .int .i64 a1_1, .int .i64 a1_2]) (t := 31) ?hr ?_; (case hd => rfl); (case hg => rfl); (case hr => first | (go_simp; done) | (go_simp; rfl)); intro gb199 hg w11 hbox hb; have n0_ := Aside0.mk (below_step (by repeat (first | (with_reducible first | exact HB.out | apply below_alloc | apply pw_below_drewN | apply below_drew1) | exact HB.out)) hb); have n1_ := Aside0.mk (hbox); have n2_ := Aside0.mk ((by rw [hg]; exact (below_size (by repeat (first | (with_reducible first | exact HB.out | apply below_alloc | apply pw_below_drewN | apply below_drew1) | exact HB.out))) : w.heap.size ≤ gb199)); have n3_ := Aside0.mk ((by rw [hg]; exact (below_size (by repeat (first | (with_reducible first | exact HB.out | apply below_alloc | apply pw_below_drewN | apply below_drew1) | exact HB.out))) : w.heap.size ≤ gb199)); clear HB; have HB := n0_; have BK199 := n1_; have GW199 := n2_; have GE199 := n3_; clear n0_ n1_ n2_ n3_; clear hb hbox hg; have hcz12_0 : w11.cell? ⟨gb199, 0, none⟩ = some (.int .i64 a1_0) := (blk_cell BK199.out 0).trans rfl; have hcz12_1 : w11.cell? ⟨gb199, 1, none⟩ = some (.int .i64 a1_1) := (blk_cell BK199.out 1).trans rfl; have hcz12_2 : w11.cell? ⟨gb199, 2, none⟩ = some (.int .i64 a1_2) := (blk_cell BK199.out 2).trans rfl; have hfz12_0 := blk_frozen BK199.out 0; have hfz12_1 := blk_frozen BK199.out 1; have hfz12_2 := blk_frozen BK199.out 2))
              go_ret
              exact ⟨by first | rfl | (simp [errW_none, errW_some] <;> rfl) | (simp [*, errW_none, errW_some] <;> rfl), by repeat (first | (with_reducible first | exact HB.out | apply below_alloc | apply pw_below_drewN | apply below_drew1 | refine below_set ?_ GE199.out) | exact HB.out)⟩
            · rw [if_neg c10] at H
              exact absurd H (by simp)
          · rw [if_neg c9] at H
            exact absurd H (by simp)
        · rw [if_neg c8] at H
          exact absurd H (by simp)
      · rw [if_neg c7] at H
        have c7b0 : decide (a1_2 ≤ 126) = false := decide_eq_false c7
        clear c7
        by_cases c13 : a1_2 ≥ 160
        · rw [if_pos c13] at H
          have c13b0 : decide (160 ≤ a1_2) = true := decide_eq_true c13
          clear c13
          by_cases c14 : a1_2 = 65533
          · rw [if_pos c14] at H
            have c14b0 : (a1_2 == 65533) = true := beq_iff_eq.mpr c14
            have c14b1 : (a1_2 != 65533) = false := bne_eq_false_iff_eq.mpr c14
            clear c14
            obtain rfl := Option.some.inj H
            go_enter Try.func39, Try.ntmps39
            go_wp2_with (first | ((with_reducible refine gate_dst (N := 3) rfl ?_); refine box_event ?hg (N := 3) ?hd (cs := #[.int .i64 a1_0, .int .i64 a1_1, .int .i64 a1_2]) (t := 31) ?hr ?_; (case hd => rfl); (case hg => rfl); (case hr => first | (go_simp; done) | (go_simp; rfl)); intro gb199 hg w15 hbox hb; have n0_ := Aside0.mk (below_step (by repeat (first | (with_reducible first | exact HB.out | apply below_alloc | apply pw_below_drewN | apply below_drew1) | exact HB.out)) hb); have n1_ := Aside0.mk (hbox); have n2_ := Aside0.mk ((by rw [hg]; exact (below_size (by repeat (first | (with_reducible first | exact HB.out | apply below_alloc | apply pw_below_drewN | apply below_drew1) | exact HB.out))) : w.heap.size ≤ gb199)); have n3_ := Aside0.mk ((by rw [hg]; exact (below_size (by repeat (first | (with_reducible first | exact HB.out | apply below_alloc | apply pw_below_drewN | apply below_drew1) | exact HB.out))) : w.heap.size ≤ gb199)); clear HB; have HB := n0_; have BK199 := n1_; have GW199 := n2_; have GE199 := n3_; clear n0_ n1_ n2_ n3_; clear hb hbox hg; have hcz16_0 : w15.cell? ⟨gb199, 0, none⟩ = some (.int .i64 a1_0) := (blk_cell BK199.out 0).trans rfl; have hcz16_1 : w15.cell? ⟨gb199, 1, none⟩ = some (.int .i64 a1_1) := (blk_cell BK199.out 1).trans rfl; have hcz16_2 : w15.cell? ⟨gb199, 2, none⟩ = some (.int .i64 a1_2) := (blk_cell BK199.out 2).trans rfl; have hfz16_0 := blk_frozen BK199.out 0; have hfz16_1 := blk_frozen BK199.out 1; have hfz16_2 := blk_frozen BK199.out 2))
            go_ret
            exact ⟨by first | rfl | (simp [errW_none, errW_some] <;> rfl) | (simp [*, errW_none, errW_some] <;> rfl), by repeat (first | (with_reducible first | exact HB.out | apply below_alloc | apply pw_below_drewN | apply below_drew1 | refine below_set ?_ GE199.out) | exact HB.out)⟩
          · rw [if_neg c14] at H
            have c14b0 : (a1_2 == 65533) = false := beq_eq_false_iff_ne.mpr c14
            have c14b1 : (a1_2 != 65533) = true := bne_iff_ne.mpr c14
            by_cases c17 : 0 ≤ a1_0
            · rw [if_pos c17] at H
              have c17b0 := eq_true c17
              have c17b1 : decide (0 ≤ a1_0) = true := decide_eq_true c17
              clear c17
              by_cases c18 : a1_0 ≤ (wrap64 (a1_0 + a1_1))
              · rw [if_pos c18] at H
                have c18b0 := eq_true c18
                have c18b1 : decide (a1_0 ≤ (wrap64 (a1_0 + a1_1))) = true := decide_eq_true c18
                by_cases c19 : (wrap64 (a1_0 + a1_1)) ≤ (a0.size : Int)
                · rw [if_pos c19] at H
                  have c19b0 := eq_true c19
                  have c19b1 : decide ((wrap64 (a1_0 + a1_1)) ≤ (a0.size : Int)) = true := decide_eq_true c19
                  obtain rfl := Option.some.inj H
                  go_enter Try.func39, Try.ntmps39
                  go_wp2_with (first | ((with_reducible refine gate_dst (N := 3) rfl ?_); refine box_event ?hg (N := 3) ?hd (cs := #[.int .i64 a1_0, .int .i64 a1_1, .int .i64 a1_2]) (t := 31) ?hr ?_; (case hd => rfl); (case hg => rfl); (case hr => first | (go_simp; done) | (go_simp; rfl)); intro gb199 hg w20 hbox hb; have n0_ := Aside0.mk (below_step (by repeat (first | (with_reducible first | exact HB.out | apply below_alloc | apply pw_below_drewN | apply below_drew1) | exact HB.out)) hb); have n1_ := Aside0.mk (hbox); have n2_ := Aside0.mk ((by rw [hg]; exact (below_size (by repeat (first | (with_reducible first | exact HB.out | apply below_alloc | apply pw_below_drewN | apply below_drew1) | exact HB.out))) : w.heap.size ≤ gb199)); have n3_ := Aside0.mk ((by rw [hg]; exact (below_size (by repeat (first | (with_reducible first | exact HB.out | apply below_alloc | apply pw_below_drewN | apply below_drew1) | exact HB.out))) : w.heap.size ≤ gb199)); clear HB; have HB := n0_; have BK199 := n1_; have GW199 := n2_; have GE199 := n3_; clear n0_ n1_ n2_ n3_; clear hb hbox hg; have hcz21_0 : w20.cell? ⟨gb199, 0, none⟩ = some (.int .i64 a1_0) := (blk_cell BK199.out 0).trans rfl; have hcz21_1 : w20.cell? ⟨gb199, 1, none⟩ = some (.int .i64 a1_1) := (blk_cell BK199.out 1).trans rfl; have hcz21_2 : w20.cell? ⟨gb199, 2, none⟩ = some (.int .i64 a1_2) := (blk_cell BK199.out 2).trans rfl; have hfz21_0 := blk_frozen BK199.out 0; have hfz21_1 := blk_frozen BK199.out 1; have hfz21_2 := blk_frozen BK199.out 2))
                  go_ret
                  exact ⟨by first | rfl | (simp [errW_none, errW_some] <;> rfl) | (simp [*, errW_none, errW_some] <;> rfl), by repeat (first | (with_reducible first | exact HB.out | apply below_alloc | apply pw_below_drewN | apply below_drew1 | refine below_set ?_ GE199.out) | exact HB.out)⟩
                · rw [if_neg c19] at H
                  exact absurd H (by simp)
              · rw [if_neg c18] at H
                exact absurd H (by simp)
            · rw [if_neg c17] at H
              exact absurd H (by simp)
        · rw [if_neg c13] at H
          have c13b0 : decide (160 ≤ a1_2) = false := decide_eq_false c13
          clear c13
          obtain rfl := Option.some.inj H
          go_enter Try.func39, Try.ntmps39
          go_wp2_with (first | ((with_reducible refine gate_dst (N := 3) rfl ?_); refine box_event ?hg (N := 3) ?hd (cs := #[.int .i64 a1_0, .int .i64 a1_1, .int .i64 a1_2]) (t := 31) ?hr ?_; (case hd => rfl); (case hg => rfl); (case hr => first | (go_simp; done) | (go_simp; rfl)); intro gb199 hg w22 hbox hb; have n0_ := Aside0.mk (below_step (by repeat (first | (with_reducible first | exact HB.out | apply below_alloc | apply pw_below_drewN | apply below_drew1) | exact HB.out)) hb); have n1_ := Aside0.mk (hbox); have n2_ := Aside0.mk ((by rw [hg]; exact (below_size (by repeat (first | (with_reducible first | exact HB.out | apply below_alloc | apply pw_below_drewN | apply below_drew1) | exact HB.out))) : w.heap.size ≤ gb199)); have n3_ := Aside0.mk ((by rw [hg]; exact (below_size (by repeat (first | (with_reducible first | exact HB.out | apply below_alloc | apply pw_below_drewN | apply below_drew1) | exact HB.out))) : w.heap.size ≤ gb199)); clear HB; have HB := n0_; have BK199 := n1_; have GW199 := n2_; have GE199 := n3_; clear n0_ n1_ n2_ n3_; clear hb hbox hg; have hcz23_0 : w22.cell? ⟨gb199, 0, none⟩ = some (.int .i64 a1_0) := (blk_cell BK199.out 0).trans rfl; have hcz23_1 : w22.cell? ⟨gb199, 1, none⟩ = some (.int .i64 a1_1) := (blk_cell BK199.out 1).trans rfl; have hcz23_2 : w22.cell? ⟨gb199, 2, none⟩ = some (.int .i64 a1_2) := (blk_cell BK199.out 2).trans rfl; have hfz23_0 := blk_frozen BK199.out 0; have hfz23_1 := blk_frozen BK199.out 1; have hfz23_2 := blk_frozen BK199.out 2))
          go_ret
          exact ⟨by first | rfl | (simp [errW_none, errW_some] <;> rfl) | (simp [*, errW_none, errW_some] <;> rfl), by repeat (first | (with_reducible first | exact HB.out | apply below_alloc | apply pw_below_drewN | apply below_drew1 | refine below_set ?_ GE199.out) | exact HB.out)⟩
    · rw [if_neg c6] at H
      have c6b0 : decide (32 ≤ a1_2) = false := decide_eq_false c6
      clear c6
      by_cases c24 : a1_2 ≥ 160
      · rw [if_pos c24] at H
        have c24b0 : decide (160 ≤ a1_2) = true := decide_eq_true c24
        clear c24
        by_cases c25 : a1_2 = 65533
        · rw [if_pos c25] at H
          have c25b0 : (a1_2 == 65533) = true := beq_iff_eq.mpr c25
          have c25b1 : (a1_2 != 65533) = false := bne_eq_false_iff_eq.mpr c25
          clear c25
          obtain rfl := Option.some.inj H
          go_enter Try.func39, Try.ntmps39
          go_wp2_with (first | ((with_reducible refine gate_dst (N := 3) rfl ?_); refine box_event ?hg (N := 3) ?hd (cs := #[.int .i64 a1_0, .int .i64 a1_1, .int .i64 a1_2]) (t := 31) ?hr ?_; (case hd => rfl); (case hg => rfl); (case hr => first | (go_simp; done) | (go_simp; rfl)); intro gb199 hg w26 hbox hb; have n0_ := Aside0.mk (below_step (by repeat (first | (with_reducible first | exact HB.out | apply below_alloc | apply pw_below_drewN | apply below_drew1) | exact HB.out)) hb); have n1_ := Aside0.mk (hbox); have n2_ := Aside0.mk ((by rw [hg]; exact (below_size (by repeat (first | (with_reducible first | exact HB.out | apply below_alloc | apply pw_below_drewN | apply below_drew1) | exact HB.out))) : w.heap.size ≤ gb199)); have n3_ := Aside0.mk ((by rw [hg]; exact (below_size (by repeat (first | (with_reducible first | exact HB.out | apply below_alloc | apply pw_below_drewN | apply below_drew1) | exact HB.out))) : w.heap.size ≤ gb199)); clear HB; have HB := n0_; have BK199 := n1_; have GW199 := n2_; have GE199 := n3_; clear n0_ n1_ n2_ n3_; clear hb hbox hg; have hcz27_0 : w26.cell? ⟨gb199, 0, none⟩ = some (.int .i64 a1_0) := (blk_cell BK199.out 0).trans rfl; have hcz27_1 : w26.cell? ⟨gb199, 1, none⟩ = some (.int .i64 a1_1) := (blk_cell BK199.out 1).trans rfl; have hcz27_2 : w26.cell? ⟨gb199, 2, none⟩ = some (.int .i64 a1_2) := (blk_cell BK199.out 2).trans rfl; have hfz27_0 := blk_frozen BK199.out 0; have hfz27_1 := blk_frozen BK199.out 1; have hfz27_2 := blk_frozen BK199.out 2))
          go_ret
          exact ⟨by first | rfl | (simp [errW_none, errW_some] <;> rfl) | (simp [*, errW_none, errW_some] <;> rfl), by repeat (first | (with_reducible first | exact HB.out | apply below_alloc | apply pw_below_drewN | apply below_drew1 | refine below_set ?_ GE199.out) | exact HB.out)⟩
        · rw [if_neg c25] at H
          have c25b0 : (a1_2 == 65533) = false := beq_eq_false_iff_ne.mpr c25
          have c25b1 : (a1_2 != 65533) = true := bne_iff_ne.mpr c25
          by_cases c28 : 0 ≤ a1_0
          · rw [if_pos c28] at H
            have c28b0 := eq_true c28
            have c28b1 : decide (0 ≤ a1_0) = true := decide_eq_true c28
            clear c28
            by_cases c29 : a1_0 ≤ (wrap64 (a1_0 + a1_1))
            · rw [if_pos c29] at H
              have c29b0 := eq_true c29
              have c29b1 : decide (a1_0 ≤ (wrap64 (a1_0 + a1_1))) = true := decide_eq_true c29
              by_cases c30 : (wrap64 (a1_0 + a1_1)) ≤ (a0.size : Int)
              · rw [if_pos c30] at H
                have c30b0 := eq_true c30
                have c30b1 : decide ((wrap64 (a1_0 + a1_1)) ≤ (a0.size : Int)) = true := decide_eq_true c30
                obtain rfl := Option.some.inj H
                go_enter Try.func39, Try.ntmps39
                go_wp2_with (first | ((with_reducible refine gate_dst (N := 3) rfl ?_); refine box_event ?hg (N := 3) ?hd (cs := #[.int .i64 a1_0, .int .i64 a1_1, .int .i64 a1_2]) (t := 31) ?hr ?_; (case hd => rfl); (case hg => rfl); (case hr => first | (go_simp; done) | (go_simp; rfl)); intro gb199 hg w31 hbox hb; have n0_ := Aside0.mk (below_step (by repeat (first | (with_reducible first | exact HB.out | apply below_alloc | apply pw_below_drewN | apply below_drew1) | exact HB.out)) hb); have n1_ := Aside0.mk (hbox); have n2_ := Aside0.mk ((by rw [hg]; exact (below_size (by repeat (first | (with_reducible first | exact HB.out | apply below_alloc | apply pw_below_drewN | apply below_drew1) | exact HB.out))) : w.heap.size ≤ gb199)); have n3_ := Aside0.mk ((by rw [hg]; exact (below_size (by repeat (first | (with_reducible first | exact HB.out | apply below_alloc | apply pw_below_drewN | apply below_drew1) | exact HB.out))) : w.heap.size ≤ gb199)); clear HB; have HB := n0_; have BK199 := n1_; have GW199 := n2_; have GE199 := n3_; clear n0_ n1_ n2_ n3_; clear hb hbox hg; have hcz32_0 : w31.cell? ⟨gb199, 0, none⟩ = some (.int .i64 a1_0) := (blk_cell BK199.out 0).trans rfl; have hcz32_1 : w31.cell? ⟨gb199, 1, none⟩ = some (.int .i64 a1_1) := (blk_cell BK199.out 1).trans rfl; have hcz32_2 : w31.cell? ⟨gb199, 2, none⟩ = some (.int .i64 a1_2) := (blk_cell BK199.out 2).trans rfl; have hfz32_0 := blk_frozen BK199.out 0; have hfz32_1 := blk_frozen BK199.out 1; have hfz32_2 := blk_frozen BK199.out 2))
                go_ret
                exact ⟨by first | rfl | (simp [errW_none, errW_some] <;> rfl) | (simp [*, errW_none, errW_some] <;> rfl), by repeat (first | (with_reducible first | exact HB.out | apply below_alloc | apply pw_below_drewN | apply below_drew1 | refine below_set ?_ GE199.out) | exact HB.out)⟩
              · rw [if_neg c30] at H
                exact absurd H (by simp)
            · rw [if_neg c29] at H
              exact absurd H (by simp)
          · rw [if_neg c28] at H
            exact absurd H (by simp)
      · rw [if_neg c24] at H
        have c24b0 : decide (160 ≤ a1_2) = false := decide_eq_false c24
        clear c24
        obtain rfl := Option.some.inj H
        go_enter Try.func39, Try.ntmps39
        go_wp2_with (first | ((with_reducible refine gate_dst (N := 3) rfl ?_); refine box_event ?hg (N := 3) ?hd (cs := #[.int .i64 a1_0, .int .i64 a1_1, .int .i64 a1_2]) (t := 31) ?hr ?_; (case hd => rfl); (case hg => rfl); (case hr => first | (go_simp; done) | (go_simp; rfl)); intro gb199 hg w33 hbox hb; have n0_ := Aside0.mk (below_step (by repeat (first | (with_reducible first | exact HB.out | apply below_alloc | apply pw_below_drewN | apply below_drew1) | exact HB.out)) hb); have n1_ := Aside0.mk (hbox); have n2_ := Aside0.mk ((by rw [hg]; exact (below_size (by repeat (first | (with_reducible first | exact HB.out | apply below_alloc | apply pw_below_drewN | apply below_drew1) | exact HB.out))) : w.heap.size ≤ gb199)); have n3_ := Aside0.mk ((by rw [hg]; exact (below_size (by repeat (first | (with_reducible first | exact HB.out | apply below_alloc | apply pw_below_drewN | apply below_drew1) | exact HB.out))) : w.heap.size ≤ gb199)); clear HB; have HB := n0_; have BK199 := n1_; have GW199 := n2_; have GE199 := n3_; clear n0_ n1_ n2_ n3_; clear hb hbox hg; have hcz34_0 : w33.cell? ⟨gb199, 0, none⟩ = some (.int .i64 a1_0) := (blk_cell BK199.out 0).trans rfl; have hcz34_1 : w33.cell? ⟨gb199, 1, none⟩ = some (.int .i64 a1_1) := (blk_cell BK199.out 1).trans rfl; have hcz34_2 : w33.cell? ⟨gb199, 2, none⟩ = some (.int .i64 a1_2) := (blk_cell BK199.out 2).trans rfl; have hfz34_0 := blk_frozen BK199.out 0; have hfz34_1 := blk_frozen BK199.out 1; have hfz34_2 := blk_frozen BK199.out 2))
        go_ret
        exact ⟨by first | rfl | (simp [errW_none, errW_some] <;> rfl) | (simp [*, errW_none, errW_some] <;> rfl), by repeat (first | (with_reducible first | exact HB.out | apply below_alloc | apply pw_below_drewN | apply below_drew1 | refine below_set ?_ GE199.out) | exact HB.out)⟩

end Go.Proofs.Ytkjckdgknbfaiaa.Qall
