/- The law ForestChecks answers true wherever what it reads is of bulk at most 1048576 (ForestChecksUptoSaid). Conditions: none but the types and the bulk that the statement names. -/

import Derived.Test.YtkebableanenkaaRows
import Derived.Test.YtkebableanenkaaOpen
import Derived.Test.YtkebableanenkaaLawChecks
import Derived.WalkKit
import Derived.ProofKit
import Derived.OpenShut
import Derived.ShutString
import Derived.ChangeOld
import Derived.JoinedCond
import Derived.Carry
import Derived.Below
import Derived.SizedLaws
namespace Go.Proofs.Ytkebableanenkaa.forestChecks
open Go.ChangeShapes Go.WideShapes Go.ChangeAt Go.RowKit Go.Proofs.Ytkebableanenkaa.Qall Go.Proofs.YtkebableanenkaaW.PrintWords Go.Proofs.YtkebableanenkaaW.PrintLast Go.Proofs.YtkebableanenkaaW.PrintMore
open Go.ChangeMaps (open_string shut_string)
set_option linter.unusedVariables false
set_option linter.unusedSimpArgs false
theorem own : ownKnob Try.prog.godebug = none := by kernel_rfl
theorem laidOut : laidOutB Try.prog = true := by kernel_rfl
set_option maxRecDepth 100000 in
theorem contract (H : Type) (enc : TypeId × Value → H) (W : World) (base : Nat) (args : Array Value) (ds gs : List (DataW H)) (before : List MemPlace)
    (hval : ∀ (j : Nat) t v, Try.f6.params[j]? = some t → args[j]? = some v → Value.okWide Try.prog W .any base t v)
    (hW : DataW.Whole enc Try.prog Try.f6.params.toList Rows.forestChecksSpec.vars false W args.toList ds gs before) (hk : Rows.uptoSmall H (ds ++ gs) = true) :
    Calls Try.prog 6 args W fun e W' => ∃ v, e = .returned v ∧ Rows.forestChecksSpec.post enc Try.prog Try.f6 false true false false W args v W' := by
  have hW' := hW
  obtain ⟨p, q, hA0, hV, rfl, hfz, hnd⟩ := hW
  have hA : DataW.TrodAll enc Try.prog W 0 (fun _ => true) true Try.f6.params.toList args.toList ds p := hA0
  rw [Try.params6] at hA hval
  obtain ⟨v0, vs0, d0, ds0, p0, q0, hargs, rfl, rfl, h0, r0⟩ := trodAll_cons hA
  obtain ⟨v1, vs1, d1, ds1, p1, q1, rfl, rfl, rfl, h1, r1⟩ := trodAll_cons r0
  obtain ⟨rfl, rfl, rfl⟩ := trodAll_nil r1
  obtain rfl : args = #[v0, v1] := by cases args; simp_all
  obtain ⟨rfl, rfl⟩ := trodVars_none hV
  have hb := Open.bound hk
  simp only [List.append_nil, List.nil_append, List.cons_append, Rows.uptoBulkAll] at hb
  clear hA0
  have b0 := h0
  have lt0 : ∀ x ∈ p0, x.block < W.heap.size := by obtain ⟨m, hm⟩ := b0; exact DataW.trod_lt m _ _ _ hm
  obtain ⟨x0, K0, M0, Q0⟩ := Open.open_arg (Open.opens_slice Try.underlying23 (by kernel_rfl) (Open.opens_struct (f := fun x : S34 => (x.f0, x.f1, x.f2, x.f3)) (fun y => (⟨y.1, y.2.1, y.2.2.1, y.2.2.2⟩ : S34)) (fun y => rfl) Try.underlying34 (by kernel_rfl) (Open.opensF_cons 0 rfl (by kernel_rfl) (Open.opens_string Try.underlying9) (Open.opensF_cons 1 rfl (by kernel_rfl) (Open.opens_int Try.underlying3) (Open.opensF_cons 2 rfl (by kernel_rfl) (Open.opens_int Try.underlying3) (Open.opensF_one 3 rfl (by kernel_rfl) (Open.opens_int Try.underlying3))))))) h0
  obtain ⟨a0, len0, cap0, rfl⟩ := okWide_slice Try.underlying23 (hval 0 23 v0 rfl rfl)
  obtain ⟨A0, c0, hcs0, hl0, hC0⟩ := K0
  simp only [Value.cells, List.cons.injEq, Value.slice.injEq, and_true] at hcs0
  obtain ⟨rfl, rfl, rfl⟩ := hcs0
  have b1 := h1
  have lt1 : ∀ x ∈ p1, x.block < W.heap.size := by obtain ⟨m, hm⟩ := b1; exact DataW.trod_lt m _ _ _ hm
  obtain ⟨x1, K1, M1, Q1⟩ := Open.open_arg (Open.opens_int Try.underlying3) h1
  obtain ⟨y1, rfl⟩ := okWide_int Try.underlying3 (hval 1 3 v1 rfl rfl)
  obtain rfl : x1 = y1 := by have z : [Value.int .i64 y1] = [Value.int .i64 x1] := K1; injection z with z1; first | exact z1.symm | (injection z1 with z2; exact z2.symm) | (injection z1 with z2 z3; exact z3.symm)
  have hm : ((x0.map (fun y => ((y.f0.size + 1) + (1 + (1 + (1))) + 1))).sum + 1) + 1 ≤ 1048576 := by
    have z0 := M0
    have z1 := M1
    have y_0 : ((x0.map (fun y => ((y.f0.size + 1) + (1 + (1 + (1))) + 1))).sum + 1) ≤ Rows.uptoBulk d0 := z0
    have y_1 : 1 ≤ Rows.uptoBulk d1 := z1
    omega
  refine (LawChecks.Checks_walk x0 (by have := Lend.len_sum x0; omega) (fun x hx => by have := Lend.name_sum x0 x hx; omega) (fun c hc => Lend.wf_le (Q0 c hc).2.2.2) _ _ x1 W hC0 hl0).mono ?_
  rintro e W' ⟨rfl, bel0⟩
  have bel : Below W.heap.size W W' := bel0
  exact ⟨_, rfl, _, _, _, [], _, [], hW', trodAll_mk1 (shut_bool Try.underlying4 _), (trodAll_cons_mk (Below.trod laidOut (by kernel_rfl) (of_decide_eq_true (by kernel_rfl)) b0 bel lt0) (trodAll_cons_mk (Below.trod laidOut (by kernel_rfl) (of_decide_eq_true (by kernel_rfl)) b1 bel lt1) trodAll_mk0)), rfl, bel.frame _, fun h => by cases h⟩
set_option maxRecDepth 100000 in
theorem lifted (os : Os) (started : os.Started) (H : Type) (enc : TypeId × Value → H) (F : Stop.Interp) :
    ReturnsInHanded {} Try.checked os 6 .any ((Rows.OpenSpec.upto Rows.forestChecksSpec).pre6 enc Try.prog Try.f6 Rows.forestChecksUptoRow.domain false) (((Rows.OpenSpec.upto Rows.forestChecksSpec).at F).post enc Try.prog Try.f6 false true false false) := by
  refine returnsInHanded_of_cond (C := Try.checked) (s := Rows.OpenSpec.upto Rows.forestChecksSpec) (k := Rows.uptoSmall) rfl own started (by kernel_rfl) Try.func6
    (OpenSpec.witness (enc := enc) (C := Try.checked) (s := Rows.OpenSpec.upto Rows.forestChecksSpec) (k := Rows.uptoSmall) rfl false ⟨#[], #[.slice none 0 0, .int .i64 0], []⟩ 8 (by kernel_rfl) (by kernel_rfl) (by kernel_rfl)
      (x := ([.nil, .lit (.int .i64 0)], [], [])) (by kernel_rfl) rfl (by kernel_rfl)) ?_
  intro W base args ds gs before hval hW _ hk _
  exact contract H enc W base args ds gs before hval hW hk
theorem proved : Rows.ForestChecksUptoSaid :=
  OpenClaim.holds_of_cond 6 Try.f6 rfl rfl rfl rfl rfl rfl rfl ⟨rfl, rfl, rfl, rfl, rfl⟩ rfl rfl rfl rfl rfl (by kernel_rfl) Try.func6 (by kernel_rfl)
    (of_decide_eq_true (by kernel_rfl)) (by unfold Func.isWrapper; first | (rw [if_pos (by decide +kernel)]; kernel_rfl) | (rw [if_neg (by decide +kernel)]; exact ⟨rfl, rfl⟩))
    (fun os started H enc _ F => lifted os started H enc F)
#print axioms proved
end Go.Proofs.Ytkebableanenkaa.forestChecks
namespace Go.Proofs.Ytkebableanenkaa
/-- The row, under a short name, for the claim. -/
theorem forestChecks_holds : Rows.ForestChecksUptoSaid := forestChecks.proved
end Go.Proofs.Ytkebableanenkaa
