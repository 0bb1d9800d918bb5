/- The iterator that forest.Walk answers: what it hands to the body of a range over it: each place with its level, in order. Conditions: at most 2^21 levels. -/
import Derived.Test.YtkebableanenkaaWalk
namespace Go.Proofs.Ytkebableanenkaa.Fo
open Go.RowKit Go.Shelf Go.Proofs.Ytkebableanenkaa.Qall Go.Proofs.YtkebableanenkaaW.PrintWords Go.Proofs.YtkebableanenkaaW.PrintLast Go.Proofs.YtkebableanenkaaW.PrintMore
set_option linter.unusedSimpArgs false
set_option linter.unusedVariables false
attribute [local go_sem] Oper.semAt_some
/-- What has come when k rounds are over. -/
def came (zs : List Int) (k : Nat) : List (Nat × Int) := (List.range k).map fun j => (j, zs[j]?.getD 0)
theorem came_length (zs : List Int) (k : Nat) : (came zs k).length = k := by simp [came]
theorem came_succ (zs : List Int) (k : Nat) : came zs (k + 1) = came zs k ++ [(k, zs[k]?.getD 0)] := by simp [came, List.range_succ]
set_option maxRecDepth 100000 in
set_option maxHeartbeats 4000000 in
theorem walk1_in (F : Fence) (n : Nat) (hf : F.fn 31) (hro : F.round = none) (hn : 1 ≤ n) (l Bs n₀ : Nat) (A : Option Addr) (cap : Nat) (zs : List Int) (hz : zs.length ≤ 2097152) (J Jx : List (Nat × Int) → World → Prop)
    (hY : ∀ pre x W, J pre W → pre.length < zs.length → YieldAt F (n - 1) Try.prog l #[.int .i64 (x.1 : Int), .int .i64 x.2] W fun e W' =>
      (e = .returned (.bool true) ∧ J (pre ++ [x]) W' ∧ Below n₀ W W') ∨ (e = .returned (.bool false) ∧ Jx (pre ++ [x]) W'))
    (W : World) (hBs : W.cell? ⟨Bs, 0, none⟩ = some (.slice A zs.length cap)) (hc : ∀ j, j < zs.length → ∃ ad, A = some ad ∧ ad.block < n₀ ∧ W.cell? (ad.add j) = some (.int .i64 (zs[j]?.getD 0))) (h0 : J [] W) :
    CallsIn F n Try.prog 31 #[.func (.yield l) #[] #[], .pointer (some ⟨Bs, 0, none⟩)] W fun e W' => (∃ v, e = .returned v) ∧
      ((∃ ys, ys = came zs zs.length ∧ J ys W') ∨ (∃ pre, (∃ k, k ≤ zs.length ∧ pre = came zs k) ∧ Jx pre W')) := by
  refine callsIn_of_wp Try.func31 rfl hf ?_ hro
  simp only [Try.ntmps31, List.size_toArray, List.length_cons, List.length_nil, Nat.reduceAdd, Nat.reduceSub, Array.replicate_succ, Array.replicate_zero, List.push_toArray, List.append_toArray, List.nil_append, List.cons_append]
  gi_wp2
  gi_loopw [7] (fun i wr => ∃ k : Nat, k ≤ zs.length ∧ i = .int .i64 k ∧ J (came zs k) wr ∧ Below n₀ W wr)
    (fun i _ => zs.length - (intOf i).toNat)
  case atStart => exact ⟨0, Nat.zero_le _, rfl, h0, Below.refl _ _⟩
  case round =>
    obtain ⟨k, hk, rfl, hJs, hnx⟩ := hrel
    by_cases hlt : k < zs.length
    · obtain ⟨ad, rfl, hb, hcx⟩ := hc k hlt
      have hcs := came_succ zs k
      obtain ⟨z, hz2⟩ : ∃ z, zs[k]?.getD 0 = z := ⟨_, rfl⟩
      rw [hz2] at hcx hcs
      obtain ⟨fn, tmps, assign, body, hy, hR⟩ := hY _ (k, z) wr hJs (by rw [came_length]; exact hlt)
      have HCS := Aside0.mk hcs
      clear hcs
      clear hz2
      dsimp only at hy
      have hcx' := (hnx.cell (p := ad.add k) (by unfold Addr.add; split <;> exact hb)).trans hcx
      clear hc hcx
      gi_wp2
      refine hR.mono ?_
      rintro e W3 (⟨rfl, hJ3, hk3⟩ | ⟨rfl, hJx3⟩)
      · gi_wp2
        go_roundw
        case rel => exact ⟨k + 1, by omega, by simp, by rw [HCS.out]; exact hJ3, hnx.trans hk3⟩
        case measure => simp [intOf]; omega
      · gi_wp2
        refine bodyPost_ret (results_none rfl _ _ _) rfl ?_
        exact ⟨⟨_, rfl⟩, .inr ⟨_, ⟨k + 1, by omega, HCS.out.symm⟩, hJx3⟩⟩
    · obtain rfl : k = zs.length := by omega
      gi_wp2
      go_end0
      exact ⟨⟨_, rfl⟩, .inl ⟨_, rfl, hJs⟩⟩
/-- w₁: a world ahead of the caller's own cells, in which the levels lie already: what a round keeps is what lay there. -/
theorem walk_stops (F : Fence) (n : Nat) (hf : F.fn 31) (hro : F.round = none) (hn : 1 ≤ n) (Bs : Nat) (A : Option Addr) (cap : Nat) (zs : List Int) (hz : zs.length ≤ 2097152) (w₁ w : World) (hw : Below w₁.heap.size w₁ w) (hBs : Bs < w.heap.size)
    (hc : w.cell? ⟨Bs, 0, none⟩ = some (.slice A zs.length cap)) (hC : Kd.C (Kd.int .i64) w₁ A zs.length zs) :
    SeqStopsK F n Try.prog 31 #[.pointer (some ⟨Bs, 0, none⟩)] (fun x : Nat × Int => #[Value.int .i64 (x.1 : Int), Value.int .i64 x.2]) (Below w₁.heap.size) (fun ys => ys = came zs zs.length)
      (fun pre => ∃ k, k ≤ zs.length ∧ pre = came zs k) zs.length w := fun l J Jx W hW _ _ hY h0 => by
  refine walk1_in F n hf hro hn l Bs w₁.heap.size A cap zs hz J Jx hY W ((hW.cell (p := ⟨Bs, 0, none⟩) hBs).trans hc) (fun j hj => ?_) h0
  obtain ⟨ad, rfl, hx⟩ := Kd.at_int hC (j : Int) (by omega) (by omega)
  rw [Int.toNat_natCast] at hx
  have hlt := World.block_lt_of_cell? w₁ _ hx
  have hbl : (ad.add j).block = ad.block := by unfold Addr.add; split <;> rfl
  refine ⟨ad, rfl, by rw [← hbl]; exact hlt, ?_⟩
  rw [hW.cell (p := ad.add j) (Nat.lt_of_lt_of_le hlt hw.size), hw.cell (p := ad.add j) hlt, hx]
  unfold rd
  rw [Int.toNat_natCast, List.getD_eq_getElem?_getD]
end Go.Proofs.Ytkebableanenkaa.Fo
