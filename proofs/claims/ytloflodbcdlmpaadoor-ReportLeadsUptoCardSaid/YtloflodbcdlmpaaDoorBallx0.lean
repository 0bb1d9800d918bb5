-- WRITTEN BY A PROGRAM OF THIS SESSION (wip/tools/myprint.py, over the kit's print); Lean checks it.
import Derived.Test.YtloflodbcdlmpaaDoorQallx0
import Derived.Test.YtloflodbcdlmpaaDoorQallx1
import Derived.Test.YtloflodbcdlmpaaDoorRep2
import Derived.Test.YtloflodbcdlmpaaDoorQx42
import Derived.Test.YtloflodbcdlmpaaDoorByd2
import Derived.Test.YtloflodbcdlmpaaDoorOutc2
import Derived.Test.YtloflodbcdlmpaaDoorWWords
import Derived.Test.YtloflodbcdlmpaaDoorWLast
import Derived.Test.YtloflodbcdlmpaaDoorWTab
import Derived.Test.YtloflodbcdlmpaaDoorWFour
import Derived.Test.YtloflodbcdlmpaaDoorWQPut
import Derived.Test.YtloflodbcdlmpaaDoorWApart
import Derived.Test.YtloflodbcdlmpaaDoorWArr
import Derived.Test.YtloflodbcdlmpaaDoorWZeros
import Derived.Test.YtloflodbcdlmpaaDoorWFoot
import Derived.Test.YtloflodbcdlmpaaDoorWKept
import Derived.Test.YtloflodbcdlmpaaDoorWShare
import Derived.Test.YtloflodbcdlmpaaDoorWN
import Derived.Test.YtloflodbcdlmpaaDoorWFootNe
import Derived.Test.YtloflodbcdlmpaaDoorWAt
import Derived.Test.YtloflodbcdlmpaaDoorWEqStruct
import Derived.Test.YtloflodbcdlmpaaDoorWRepsOne
import Derived.Test.YtloflodbcdlmpaaDoorWInv
import Derived.Test.YtloflodbcdlmpaaDoorWInvWords
import Derived.Test.YtloflodbcdlmpaaDoorWGuard
import Derived.Test.YtloflodbcdlmpaaDoorWNEv
import Derived.Test.YtloflodbcdlmpaaDoorWMore
namespace Go.Proofs.YtloflodbcdlmpaaDoor.Qall
open Go.RowKit Go.Proofs.YtloflodbcdlmpaaDoorW.PrintWords Go.Proofs.YtloflodbcdlmpaaDoorW.PrintLast Go.Proofs.YtloflodbcdlmpaaDoorW.PrintMore
attribute [local go_sem] max2_int min2_int max_two min_two max_three min_three max_four min_four   -- for this text's walks alone
set_option linter.unusedVariables false
set_option linter.unusedSimpArgs false



/-! #### struct type 60 -/
def rd_L3 (xs : List (List S60)) (i : Int) : (List S60) := xs.getD i.toNat ([] : List S60)
theorem at_L3 {w : World} {A : Option Addr} {n : Nat} {xs : List (List S60)} (h : Kd.C (Kd.slice 60 k60) w A n xs) (i : Int) (h0 : 0 ≤ i) (h1 : i < n) : ∃ ad A0 c0, A = some ad ∧ w.cell? (ad.add i.toNat) = some (.slice A0 (rd_L3 xs i).length c0) ∧ (rd_L3 xs i).length ≤ c0 ∧ k60.C w A0 (rd_L3 xs i).length (rd_L3 xs i) := by
  obtain ⟨ad, c, e, _, hK, hc0⟩ := Kd.C_get h ([] : List S60) i h0 h1
  have hc : ∀ j u, c[j]? = some u → w.cell? (ad.add (i.toNat * 1 + j)) = some u := hc0
  obtain ⟨A0, c0, rfl, l0, g0⟩ := hK
  exact ⟨ad, A0, c0, e, by have hq := hc 0 _ rfl; rwa [Nat.mul_one, Nat.add_zero] at hq, l0, g0⟩

theorem szm_0_ : (⟨#[]⟩ : ByteArray).size = 0 := rfl
theorem szm_1_ : (⟨#[109, 97, 116, 99, 104, 101, 100, 32, 52, 10, 97, 32, 48, 32, 53, 10]⟩ : ByteArray).size = 16 := rfl
theorem szm_2_ : (⟨#[109, 97, 116, 99, 104, 101, 100, 32, 52, 10, 110, 117, 109, 32, 48, 32, 49, 10, 110, 117, 109, 32, 50, 32, 52, 10]⟩ : ByteArray).size = 26 := rfl
end Go.Proofs.YtloflodbcdlmpaaDoor.Qall
