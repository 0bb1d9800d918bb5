/- forest.Cut tells a node with all below it, in new memory; the document tells the same. Conditions: a list of at most 2^21 nodes. -/
import Derived.Test.YtkebableanenkaaForE
import Derived.Test.YtkebableanenkaaLendB
namespace Go.Proofs.Ytkebableanenkaa.Fo
open Go.RowKit Go.Proofs.Ytkebableanenkaa.Qall Go.Proofs.YtkebableanenkaaW.PrintWords Go.Proofs.YtkebableanenkaaW.PrintLast Go.Proofs.YtkebableanenkaaW.PrintMore
set_option linter.unusedSimpArgs false
set_option linter.unusedVariables false
def cutAns (f : List S34) (i : Int) : List S34 := if 0 ≤ i ∧ i < (f.length : Int) then (match hd ((ex (K f)).drop i.toNat) with | none => [] | some m => (f.take (i.toNat + m)).drop i.toNat) else []
set_option maxRecDepth 100000 in
set_option maxHeartbeats 4000000 in
theorem cut_calls (l : List S34) (hn : l.length ≤ 2097152) (A : Option Addr) (c0 : Nat) (i : Int) (w : World) (hC : Kd.C k34 w A l.length l) (hc0 : l.length ≤ c0) :
    Calls Try.prog 17 #[.slice A l.length c0, .int .i64 i] w fun e w' => ∃ v, e = .returned v ∧ Kd.R k34 34 w' w.heap.size (fun _ => True) v (cutAns l i) ∧ Below w.heap.size w w' := by
  obtain ⟨K1, h1⟩ : ∃ K1, ∀ k, K1 ≤ k → forest_ends.f k l = some (absZ (-1) (ex (K l)) 0) := ends_ev l hn
  have hen := h1 K1 (Nat.le_refl _)
  have hl : (ex (K l)).length = l.length := by rw [ex_length, K_length]
  have hal : (absZ (-1) (ex (K l)) 0).length = l.length := by rw [absZ_length, hl]
  by_cases hin : 0 ≤ i ∧ i < (l.length : Int)
  · obtain ⟨n, rfl⟩ : ∃ n : Nat, i = (n : Int) := ⟨i.toNat, by omega⟩
    have hn2 : n < l.length := by omega
    have hge : ¬ (n : Int) ≥ (l.length : Int) := by omega
    have hrd := abs_rd (-1) (ex (K l)) n (by omega)
    cases hh : hd ((ex (K l)).drop n) with
    | none =>
      rw [hh] at hrd
      have hrd2 : rd (absZ (-1) (ex (K l)) 0) (n : Int) = -1 := hrd
      have hans : cutAns l (n : Int) = [] := by unfold cutAns; rw [if_pos hin, Int.toNat_natCast, hh]
      rw [hans]
      go_enter Try.func17, Try.ntmps17
      go_wp2_with (go_at_call 28; refine (forest_ends.calls K1 A c0 l _ w hC hc0 hen).mono ?_; rintro e w1 ⟨v0, rfl, hR, hb⟩; obtain ⟨Ae, ce, rfl⟩ := Kd.R_slice hR; obtain ⟨ad, he, hx⟩ := Kd.at_int (Kd.R_reads' hR).2.2 (n : Int) (by omega) (by omega); cases he; rw [hrd2] at hx; rw [Int.toNat_natCast] at hx)
      go_ret
      exact ⟨_, rfl, Kd.R_nil _ _ _ _ _, hb⟩
    | some m =>
      rw [hh] at hrd
      have hrd2 : rd (absZ (-1) (ex (K l)) 0) (n : Int) = ((n + m : Nat) : Int) := hrd
      obtain ⟨x, _, _, hm1, _, him⟩ := kids_some l n hn2 m hh
      have hans : cutAns l (n : Int) = (l.take (n + m)).drop n := by unfold cutAns; rw [if_pos hin, Int.toNat_natCast, hh]
      rw [hans]
      have hys : ((l.take (n + m)).drop n).length = m := by rw [List.length_drop, List.length_take]; omega
      obtain ⟨i0, hi0, _, hsz0, _⟩ := info_parts info34
      have hcut := cut_mid (P := Try.prog) 23 34 .i64 .i64 Try.underlying23 hi0 4 hsz0 A l.length c0 (n : Int) ((n + m : Nat) : Int) (by omega) (by omega) (by omega) hc0
      have hlt : ¬ ((n + m : Nat) : Int) < 0 := by omega
      go_enter Try.func17, Try.ntmps17
      go_wp2_with (first | (go_at_call 28; refine (forest_ends.calls K1 A c0 l _ w hC hc0 hen).mono ?_; rintro e w1 ⟨v0, rfl, hR, hb⟩; obtain ⟨Ae, ce, rfl⟩ := Kd.R_slice hR; obtain ⟨ad, he, hx⟩ := Kd.at_int (Kd.R_reads' hR).2.2 (n : Int) (by omega) (by omega); cases he; rw [hrd2] at hx; rw [Int.toNat_natCast] at hx; have hmid := Kd.C_mid (lo := n) (hi := n + m) (Kd.C_below hC hb) (by omega) (by omega) hc0; rw [if_neg (by omega), hys] at hmid) | ((with_reducible refine gate_builtin (b := .append) (xs := #[.const (.slice none 0 0), .tmp 24]) rfl ?_); at_builtin; refine Kd.R_append_rows k34 (Rr := k34.K w1) (w0 := w) w.heap.size rfl (.const (.slice none 0 0)) (.tmp 24) 23 34 (.agg #[(.string ⟨#[]⟩), (.int .i64 0), (.int .i64 0), (.int .i64 0)]) 40 rfl Try.underlying23 info34 rfl (by decide) (by omega) (.slice none 0 0) [] ((l.take (n + m)).drop n) (A.map (·.add (n * 4))) m (c0 - n) (fun _ => True) (fun _ => True) rfl (by show Value.slice (A.map (fun x => x.add (n * 4))) (n + m - n) (c0 - n) = _; rw [Nat.add_sub_cancel_left]) (Kd.R_nil _ _ _ _ _) hmid (fun x cs h => by rw [k34_open h]; exact k34_mkM _ _ _ x) (fun k hk => ⟨hk, by simp [Value.ownBlock]⟩) (fun _ _ => trivial) hb hb.size (by simp; omega) ?_; intro v1 w2 hR2 hb2 hg2 hat2))
      go_ret
      exact ⟨_, rfl, hR2, hb2⟩
  · have hans : cutAns l i = [] := by unfold cutAns; rw [if_neg hin]
    rw [hans]
    by_cases hneg : i < 0
    · go_enter Try.func17, Try.ntmps17
      go_wp2
      go_ret
      exact ⟨_, rfl, Kd.R_nil _ _ _ _ _, Below.refl _ _⟩
    · have hge : (l.length : Int) ≤ i := by omega
      go_enter Try.func17, Try.ntmps17
      go_wp2
      go_ret
      exact ⟨_, rfl, Kd.R_nil _ _ _ _ _, Below.refl _ _⟩
theorem refCut_ev (f : List S34) (hn : f.length ≤ 2097152) (hb : ∀ c ∈ f, c.f3 ≤ 9223372036854775807) (i : Int) : Ev (fun k => dowelref12_Cut.f k f i) (cutAns f i) := by
  have hl : (ex (K f)).length = f.length := by rw [ex_length, K_length]
  have hal := absZ_length 0 (ex (K f)) 0
  obtain ⟨K1, h1⟩ : ∃ K1, ∀ k, K1 ≤ k → dowelref12_Ends.f k f = some (absZ 0 (ex (K f)) 0) := refEnds_ev f hn hb
  refine ⟨K1 + 1, fun k hk => ?_⟩
  obtain ⟨k, rfl⟩ : ∃ j, k = j + 1 := ⟨k - 1, by omega⟩
  show dowelref12_Cut.f (k + 1) f i = _
  unfold dowelref12_Cut.f cutAns
  by_cases hin : 0 ≤ i ∧ i < (f.length : Int)
  · obtain ⟨n, rfl⟩ : ∃ n : Nat, i = (n : Int) := ⟨i.toNat, by omega⟩
    have hn2 : n < f.length := by omega
    have hv := abs_rd 0 (ex (K f)) n (by omega)
    rw [if_neg (by omega), decide_eq_false (by omega), dowelref12_Cut.j0, if_neg (by simp), h1 k (by omega), Option.bind_some, if_pos (by omega), if_pos (by omega), hv, if_pos hin, Int.toNat_natCast]
    cases hh : hd ((ex (K f)).drop n) with
    | none => rw [if_pos (by simp [val])]
    | some m =>
      obtain ⟨x, _, _, hm1, _, him⟩ := kids_some f n hn2 m hh
      have e : val 0 n (some m) = ((n + m : Nat) : Int) := rfl
      rw [e, if_neg (by omega), Option.bind_some, if_pos (by omega), if_pos (by omega), Option.bind_some, Int.toNat_natCast, if_pos (by rw [List.length_drop, List.length_take]; simp; omega), List.nil_append]
  · rw [if_neg hin]
    by_cases hneg : i < 0
    · rw [if_pos hneg, dowelref12_Cut.j0, if_pos rfl]
    · rw [if_neg hneg, decide_eq_true (by omega), dowelref12_Cut.j0, if_pos rfl]
end Go.Proofs.Ytkebableanenkaa.Fo
