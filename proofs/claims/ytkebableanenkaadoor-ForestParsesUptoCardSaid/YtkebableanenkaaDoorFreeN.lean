/- dowelbook.FreeInts and FreeSpans of three and of four lists, and lists that are equal are told to be. Conditions: lists of at most 2^21 elements. -/
import Derived.Test.YtkebableanenkaaDoorFreeS
import Derived.Test.YtkebableanenkaaDoorLendY
namespace Go.Proofs.YtkebableanenkaaDoor.Free
open Go.RowKit Go.Proofs.YtkebableanenkaaDoor.Qall Go.Proofs.YtkebableanenkaaDoorW.PrintWords Go.Proofs.YtkebableanenkaaDoorW.PrintLast Go.Proofs.YtkebableanenkaaDoorW.PrintMore
set_option linter.unusedSimpArgs false
set_option linter.unusedVariables false
def Ap (u v : Value) : Prop := ∀ k, u.ownBlock = some k → v.ownBlock ≠ some k
theorem Ap.symm {u v : Value} (h : Ap u v) : Ap v u := fun k hk he => h k he hk
theorem Ap.of {α β : Type} {d : Kd α} {d' : Kd β} {e e' b b' : Nat} {ok ok' : Nat → Prop} {W W' : World} {u v : Value} {xs : List α} {ys : List β} (hu : d.R e W b ok u xs) (hv : d'.R e' W' b' ok' v ys) (hb : W.heap.size ≤ b') : Ap u v := fun k hk he => by
  have h1 := Kd.R_lt hu k hk
  have h2 := Kd.R_base hv k he
  omega
def three {β : Type} (a b c : β) : Nat → β := fun i => if i = 0 then a else if i = 1 then b else c
def four {β : Type} (a b c d : β) : Nat → β := fun i => if i = 0 then a else if i = 1 then b else if i = 2 then c else d
theorem three_all {β : Type} {P : Nat → Prop} (h0 : P 0) (h1 : P 1) (h2 : P 2) : ∀ i, i < 3 → P i := fun i hi => by
  obtain rfl | rfl | rfl : i = 0 ∨ i = 1 ∨ i = 2 := by omega
  · exact h0
  · exact h1
  · exact h2
theorem four_all {P : Nat → Prop} (h0 : P 0) (h1 : P 1) (h2 : P 2) (h3 : P 3) : ∀ i, i < 4 → P i := fun i hi => by
  obtain rfl | rfl | rfl | rfl : i = 0 ∨ i = 1 ∨ i = 2 ∨ i = 3 := by omega
  · exact h0
  · exact h1
  · exact h2
  · exact h3
theorem apart3 {a b c : Value} (ab : Ap a b) (ac : Ap a c) (bc : Ap b c) : Apart 3 (three a b c) (three a b c) := fun i j hi hj hij => by
  obtain rfl | rfl | rfl : i = 0 ∨ i = 1 ∨ i = 2 := by omega
  · obtain rfl | rfl : j = 1 ∨ j = 2 := by omega
    · exact ab
    · exact ac
  · obtain rfl | rfl : j = 0 ∨ j = 2 := by omega
    · exact ab.symm
    · exact bc
  · obtain rfl | rfl : j = 0 ∨ j = 1 := by omega
    · exact ac.symm
    · exact bc.symm
theorem apart4 {a b c d : Value} (ab : Ap a b) (ac : Ap a c) (ad : Ap a d) (bc : Ap b c) (bd : Ap b d) (cd : Ap c d) : Apart 4 (four a b c d) (four a b c d) := fun i j hi hj hij => by
  obtain rfl | rfl | rfl | rfl : i = 0 ∨ i = 1 ∨ i = 2 ∨ i = 3 := by omega
  · obtain rfl | rfl | rfl : j = 1 ∨ j = 2 ∨ j = 3 := by omega
    · exact ab
    · exact ac
    · exact ad
  · obtain rfl | rfl | rfl : j = 0 ∨ j = 2 ∨ j = 3 := by omega
    · exact ab.symm
    · exact bc
    · exact bd
  · obtain rfl | rfl | rfl : j = 0 ∨ j = 1 ∨ j = 3 := by omega
    · exact ac.symm
    · exact bc.symm
    · exact cd
  · obtain rfl | rfl | rfl : j = 0 ∨ j = 1 ∨ j = 2 := by omega
    · exact ad.symm
    · exact bd.symm
    · exact cd.symm
theorem freeSpans3 {va vb vc : Value} {ka kb kc : List S37} (base b : Nat) (w : World) (hbk : w.heap[b]? = some (.cells #[va, vb, vc] 22 (0, 0))) (Ra : Kd.R k37 37 w base (fun _ => True) va ka) (Rb : Kd.R k37 37 w base (fun _ => True) vb kb) (Rc : Kd.R k37 37 w base (fun _ => True) vc kc)
    (ab : Ap va vb) (ac : Ap va vc) (bc : Ap vb vc) (la : ka.length ≤ 2097152) (lb : kb.length ≤ 2097152) (lc : kc.length ≤ 2097152) (hbase : base ≤ w.heap.size) :
    Calls Tryd.prog 14 #[.slice (some ⟨b, 0, none⟩) 3 3] w fun e w' => e = .returned (.bool true) ∧ Below base w w' :=
  freeSpans 3 (by decide) b _ (three va vb vc) (three ka kb kc) base w hbk (three_all (β := Unit) rfl rfl rfl) (three_all (β := Unit) Ra Rb Rc) (apart3 ab ac bc) (three_all (β := Unit) la lb lc) hbase
theorem freeSpans4 {va vb vc vd : Value} {ka kb kc kd : List S37} (base b : Nat) (w : World) (hbk : w.heap[b]? = some (.cells #[va, vb, vc, vd] 22 (0, 0))) (Ra : Kd.R k37 37 w base (fun _ => True) va ka) (Rb : Kd.R k37 37 w base (fun _ => True) vb kb) (Rc : Kd.R k37 37 w base (fun _ => True) vc kc) (Rd : Kd.R k37 37 w base (fun _ => True) vd kd)
    (ab : Ap va vb) (ac : Ap va vc) (ad : Ap va vd) (bc : Ap vb vc) (bd : Ap vb vd) (cd : Ap vc vd) (la : ka.length ≤ 2097152) (lb : kb.length ≤ 2097152) (lc : kc.length ≤ 2097152) (ld : kd.length ≤ 2097152) (hbase : base ≤ w.heap.size) :
    Calls Tryd.prog 14 #[.slice (some ⟨b, 0, none⟩) 4 4] w fun e w' => e = .returned (.bool true) ∧ Below base w w' :=
  freeSpans 4 (by decide) b _ (four va vb vc vd) (four ka kb kc kd) base w hbk (four_all rfl rfl rfl rfl) (four_all Ra Rb Rc Rd) (apart4 ab ac ad bc bd cd) (four_all la lb lc ld) hbase
end Go.Proofs.YtkebableanenkaaDoor.Free
