/- The law ReportTexts answers true wherever what it reads is of bulk at most 1048576 (ReportTextsUptoSaid). Conditions: none but the types and the bulk that the statement names. -/

import Derived.Test.YtloflodbcdlmpaaDoorOpen
import Derived.Test.YtloflodbcdlmpaaDoorDoor
import Derived.Test.YtloflodbcdlmpaaDoorLawTextsR
import Derived.WalkKit
import Derived.ProofKit
import Derived.OpenShut
import Derived.ShutString
import Derived.ChangeOld
import Derived.JoinedCond
import Derived.Carry
import Derived.Below
import Derived.SizedLaws
namespace Go.Proofs.YtloflodbcdlmpaaDoor.reportTexts
open Go.ChangeShapes Go.WideShapes Go.ChangeAt Go.RowKit Go.Proofs.YtloflodbcdlmpaaDoor.Qall Go.Proofs.YtloflodbcdlmpaaDoorW.PrintWords Go.Proofs.YtloflodbcdlmpaaDoorW.PrintLast Go.Proofs.YtloflodbcdlmpaaDoorW.PrintMore
open Go.ChangeMaps (open_string shut_string)
set_option linter.unusedVariables false
set_option linter.unusedSimpArgs false
theorem own : ownKnob Tryd.prog.godebug = none := by kernel_rfl
theorem laidOut : laidOutB Tryd.prog = true := by kernel_rfl
set_option maxRecDepth 100000 in
theorem contract (H : Type) (enc : TypeId × Value → H) (W : World) (base : Nat) (args : Array Value) (ds gs : List (DataW H)) (before : List MemPlace)
    (hval : ∀ (j : Nat) t v, Tryd.f3.params[j]? = some t → args[j]? = some v → Value.okWide Tryd.prog W .any base t v)
    (hW : DataW.Whole enc Tryd.prog Tryd.f3.params.toList Rows.reportTextsSpec.vars false W args.toList ds gs before) (hk : Rows.uptoSmall H (ds ++ gs) = true) (hL : laidMetH Tryd.prog Rows.reportTextsUptoRow.laid W) :
    Calls Tryd.prog 3 args W fun e W' => ∃ v, e = .returned v ∧ Rows.reportTextsSpec.post enc Tryd.prog Tryd.f3 false true false false W args v W' := by
  have hW' := hW
  obtain ⟨p, q, hA0, hV, rfl, hfz, hnd⟩ := hW
  have hA : DataW.TrodAll enc Tryd.prog W 0 (fun _ => true) true Tryd.f3.params.toList args.toList ds p := hA0
  rw [Tryd.params3] at hA hval
  obtain ⟨v0, vs0, d0, ds0, p0, q0, hargs, rfl, rfl, h0, r0⟩ := trodAll_cons hA
  obtain ⟨rfl, rfl, rfl⟩ := trodAll_nil r0
  obtain rfl : args = #[v0] := by cases args; simp_all
  obtain ⟨rfl, rfl⟩ := trodVars_none hV
  have hb := Open.bound hk
  simp only [List.append_nil, List.nil_append, List.cons_append, Rows.uptoBulkAll] at hb
  clear hA0
  have b0 := h0
  have lt0 : ∀ x ∈ p0, x.block < W.heap.size := by obtain ⟨m, hm⟩ := b0; exact DataW.trod_lt m _ _ _ hm
  obtain ⟨x0, K0, M0, Q0⟩ := Open.open_arg (Open.opens_struct (f := fun x : S24 => (x.f0, x.f1, x.f2, x.f3)) (fun y => (⟨y.1, y.2.1, y.2.2.1, y.2.2.2⟩ : S24)) (fun y => rfl) Tryd.underlying24 (by kernel_rfl) (Open.opensF_cons 0 rfl (by kernel_rfl) (Open.opens_int Tryd.underlying3) (Open.opensF_cons 1 rfl (by kernel_rfl) (Open.opens_int Tryd.underlying3) (Open.opensF_cons 2 rfl (by kernel_rfl) (Open.opens_string Tryd.underlying9) (Open.opensF_one 3 rfl (by kernel_rfl) (Open.opens_slice Tryd.underlying22 (by kernel_rfl) (Open.opens_struct (f := fun x : S60 => (x.f0, x.f1, x.f2, x.f3)) (fun y => (⟨y.1, y.2.1, y.2.2.1, y.2.2.2⟩ : S60)) (fun y => rfl) Tryd.underlying60 (by kernel_rfl) (Open.opensF_cons 0 rfl (by kernel_rfl) (Open.opens_string Tryd.underlying9) (Open.opensF_cons 1 rfl (by kernel_rfl) (Open.opens_int Tryd.underlying3) (Open.opensF_cons 2 rfl (by kernel_rfl) (Open.opens_int Tryd.underlying3) (Open.opensF_one 3 rfl (by kernel_rfl) (Open.opens_int Tryd.underlying3)))))))))))) h0
  obtain ⟨cs0, rfl, _⟩ := okWide_struct Tryd.underlying24 (hval 0 24 v0 rfl rfl)
  have K0' : k24.K W x0 cs0.toList := K0
  obtain ⟨Ax0_3, cx0_3, e0, hl0_3, hC0_3⟩ := k24_open K0'
  obtain rfl : cs0 = #[.int .i64 x0.f0, .int .i64 x0.f1, .string x0.f2, .slice Ax0_3 x0.f3.length cx0_3] := by apply Array.toList_inj.1; exact e0
  have hm : (1 + (1 + ((x0.f2.size + 1) + (((x0.f3.map (fun y => ((y.f0.size + 1) + (1 + (1 + (1))) + 1))).sum + 1)))) + 1) ≤ 1048576 := by
    have z0 := M0
    have y_0 : (1 + (1 + ((x0.f2.size + 1) + (((x0.f3.map (fun y => ((y.f0.size + 1) + (1 + (1 + (1))) + 1))).sum + 1)))) + 1) ≤ Rows.uptoBulk d0 := z0
    omega
  refine (LawTx.Texts_walk _ _ _ x0.f3 (by have := Lend.len_sum x0.f3; omega) (by omega) (fun x hx => by have := Lend.name_sum x0.f3 x hx; omega) (fun c hc => ⟨Lend.wf_ge (Q0.2.2.2 c hc).2.1, Lend.wf_le (Q0.2.2.2 c hc).2.1⟩) (fun c hc => ⟨Lend.wf_ge (Q0.2.2.2 c hc).2.2.1, Lend.wf_le (Q0.2.2.2 c hc).2.2.1⟩) (fun c hc => Lend.wf_le (Q0.2.2.2 c hc).2.2.2) _ _ W hC0_3 hl0_3 (Open.tab (Open.vars_tail (Open.vars_tail (Open.vars_of hL))))).mono ?_
  rintro e W' ⟨rfl, bel0⟩
  have bel : Below W.heap.size W W' := bel0
  exact ⟨_, rfl, _, _, _, [], _, [], hW', trodAll_mk1 (shut_bool Tryd.underlying4 _), (trodAll_cons_mk (Below.trod laidOut (by kernel_rfl) (of_decide_eq_true (by kernel_rfl)) b0 bel lt0) trodAll_mk0), rfl, bel.frame _, fun h => by cases h⟩
/-- A world for the witness: the settled one, with what the row lists. -/
noncomputable def laidWorld (os : Os) : World := { World.holding Tryd.prog os ⟨#[], #[], []⟩ with heap := Open.lay 1 (Open.cells Rows.laid_internal_strconv_uint64pow10) (Open.lay 3 (Open.cells Rows.laid_math_bits_deBruijn64tab) (Open.lay 2 (Open.cells Rows.laid_math_bits_deBruijn32tab) ((World.holding Tryd.prog os ⟨#[], #[], []⟩).heap))) }
theorem laid_met (os : Os) : laidMet Tryd.prog Rows.reportTextsUptoRow.laid ((laidWorld os).forCall (fun _ _ => 0) ⟨#[], #[.agg #[.int .i64 0, .int .i64 0, .string .empty, .slice none 0 0]], []⟩).memory :=
  laidMet_of_run' 8 (by kernel_rfl) (by kernel_rfl)
theorem reads (os : Os) {H : Type} (enc : TypeId × Value → H) : ∃ places, DataW.whole enc Tryd.prog ((laidWorld os).forCall (fun _ _ => 0) ⟨#[], #[.agg #[.int .i64 0, .int .i64 0, .string .empty, .slice none 0 0]], []⟩).memory Tryd.f3.params.toList Rows.reportTextsSpec.vars false #[Value.agg #[.int .i64 0, .int .i64 0, .string .empty, .slice none 0 0]].toList 8 = some ([.agg [.lit (.int .i64 0), .lit (.int .i64 0), .lit (.string []), .nil]], [], places) :=
  ⟨[], by kernel_rfl⟩
set_option maxRecDepth 100000 in
theorem liftedUpto (os : Os) (started : os.Started) (H : Type) (enc : TypeId × Value → H) (F : Stop.Interp) :
    ReturnsInHanded {} Tryd.checked os 3 .any ((Rows.OpenSpec.upto Rows.reportTextsSpec).preRow enc Tryd.prog Tryd.f3 Rows.reportTextsUptoRow.domain false Rows.reportTextsUptoRow.laid) (((Rows.OpenSpec.upto Rows.reportTextsSpec).at F).post enc Tryd.prog Tryd.f3 false true false false) := by
  obtain ⟨places, hx⟩ := reads os enc
  refine returnsInHanded_of_row (C := Tryd.checked) (s := Rows.OpenSpec.upto Rows.reportTextsSpec) own started (by kernel_rfl) Tryd.func3
    (witness_row_at (enc := enc) (C := Tryd.checked) false (laidWorld os) #[.agg #[.int .i64 0, .int .i64 0, .string .empty, .slice none 0 0]] rfl (by kernel_rfl) (by kernel_rfl) (by kernel_rfl)
      (OpenSpec.preRow_of_cond 8 hx (by kernel_rfl) (fun k hk => by cases hk; kernel_rfl) (by kernel_rfl) (laid_met os))) ?_
  intro W base args ds gs before hval hW hk0 hcnd _ hL _ _
  exact contract H enc W base args ds gs before hval hW (by first | exact hcnd _ rfl | exact hk0 _ rfl) hL
theorem saidUpto : Rows.ReportTextsUptoSaid :=
  OpenClaim.holds_of_cond 3 Tryd.f3 rfl rfl rfl rfl rfl rfl rfl ⟨rfl, rfl, rfl, rfl, rfl⟩ rfl rfl rfl rfl rfl (by kernel_rfl) Tryd.func3 (by kernel_rfl)
    (of_decide_eq_true (by kernel_rfl)) (by unfold Func.isWrapper; first | (rw [if_pos (by decide +kernel)]; kernel_rfl) | (rw [if_neg (by decide +kernel)]; exact ⟨rfl, rfl⟩))
    (fun os started H enc _ F => by rw [OpenClaim.pre_eq_preRow]; exact liftedUpto os started H enc F)
theorem plain (f : FuncId) (fn : Func) (hf : Tryd.pinned.checked.prog.funcNamed "dowel/dowellaw28.ReportTexts" = some f) (hfn : Tryd.pinned.checked.prog.funcs[f]? = some fn) :
    false = Tryd.pinned.checked.prog.looks [] ∧ ∀ (j : Nat) t, fn.params[j]? = some t → Tryd.pinned.checked.prog.wantsStandIn t = false := by
  obtain rfl : f = 3 := Option.some.inj ((show Tryd.prog.funcNamed "dowel/dowellaw28.ReportTexts" = some 3 by kernel_rfl).symm.trans hf) |>.symm
  obtain rfl : fn = Tryd.f3 := (Option.some.inj (Tryd.func3.symm.trans hfn)).symm
  refine ⟨by kernel_rfl, fun j t ht => ?_⟩
  rw [Tryd.params3] at ht
  have hm : t = 24 := by simpa using Array.mem_of_getElem? ht
  rcases hm with rfl
  all_goals exact (show Tryd.prog.wantsStandIn _ = false by kernel_rfl)
theorem cardUpto : Rows.ReportTextsUptoCardSaid :=
  Claim7.holds_tied_plain_at .later [] _ _ _ _ saidUpto (fun _ h => by cases h) (by kernel_rfl) (fun _ h => by cases h) reportTextsUpto_row_tie rfl ⟨rfl, rfl⟩ (by kernel_rfl) rfl plain (by kernel_rfl)
#print axioms cardUpto
end Go.Proofs.YtloflodbcdlmpaaDoor.reportTexts
namespace Go.Proofs.YtloflodbcdlmpaaDoor
/-- The card, under a short name, for the claim. -/
theorem reportTexts_holds : Rows.ReportTextsUptoCardSaid := reportTexts.cardUpto
end Go.Proofs.YtloflodbcdlmpaaDoor
