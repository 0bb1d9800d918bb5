/- What a row's list of package variables gives: the library's table of powers of ten lies in memory. Conditions: the row's own list. -/
import Derived.Test.YtloflodbcdlmpaaDoorCards
import Derived.Test.YtloflodbcdlmpaaDoorTie
import Derived.WalkKit
import Derived.ProofKit
import Derived.OpenShut
import Derived.Deep.DeepHandedRow
import Derived.Lib.LaidTab
import Derived.Lib.ItoaNum
namespace Go.Proofs.YtloflodbcdlmpaaDoor.Open
open Go.ChangeShapes Go.WideShapes Go.ChangeAt Go.RowKit

theorem vars_of {P : Program} {W : World} {l : List (String × DataW Unit)} (h : laidMet P l W) : ∃ ps, DataW.LaidVars P W l ps := by
  obtain ⟨ps, h, _, _⟩ := h
  exact ⟨ps, h⟩
theorem vars_tail {P : Program} {W : World} {x : String × DataW Unit} {rest : List (String × DataW Unit)} (h : ∃ ps, DataW.LaidVars P W (x :: rest) ps) : ∃ ps, DataW.LaidVars P W rest ps := by
  obtain ⟨ps, g', t', cs, fuel, p, q, hg', ht', hvar, hd, h1, h2⟩ := h
  first | exact ⟨q, h1⟩ | exact ⟨q, h2⟩
theorem tab_vars {P : Program} {W : World} {name : String} {k : IntKind} {zs : List Int} {rest : List (String × DataW Unit)} {g : Nat} {t e : TypeId} {n : Nat}
    (hg : P.globalNamed name = some g) (hty : (P.globals[g]?).map (·.type) = some t) (ht : P.underlying t = some (.array n e)) (he : P.underlying e = some (.int k)) (hce : P.cellsOf e = 1) (hct : P.cellsOf t = n)
    (h : ∃ ps, DataW.LaidVars P W ((name, Lib.tabData k zs) :: rest) ps) : Lib.TabIs P W name k zs := by
  obtain ⟨ps, g', t', cs, fuel, p, q, hg', ht', hvar, hd, _, _⟩ := h
  obtain rfl := Option.some.inj (hg.symm.trans hg')
  obtain rfl := Option.some.inj (hty.symm.trans ht')
  unfold Lib.TabIs
  rw [hvar, ← Lib.cells_of_tab ht he hce hct hd]
theorem gTab : Tryd.prog.globalNamed "internal/strconv.uint64pow10" = some 1 := by kernel_rfl
theorem gTabType : (Tryd.prog.globals[1]?).map (·.type) = some 172 := by kernel_rfl
theorem cellsTab : Tryd.prog.cellsOf 172 = 20 := by kernel_rfl
theorem cellsOne : Tryd.prog.cellsOf 157 = 1 := by kernel_rfl
theorem laidTab : (Rows.laid_internal_strconv_uint64pow10 : DataW Unit) = Lib.tabData .u64 Lib.pow10Tab := by kernel_rfl
/-- The table, where it heads what is left of the list. -/
theorem tab {W : World} {rest : List (String × DataW Unit)} (h : ∃ ps, DataW.LaidVars Tryd.prog W (("internal/strconv.uint64pow10", Rows.laid_internal_strconv_uint64pow10) :: rest) ps) : Lib.TabIs Tryd.prog W "internal/strconv.uint64pow10" .u64 Lib.pow10Tab := by
  rw [laidTab] at h
  exact tab_vars gTab gTabType Tryd.underlying172 Tryd.underlying157 cellsOne cellsTab h
def lits : List (DataW Unit) → List Value
  | .lit (.int k n) :: r => .int k n :: lits r
  | .agg l :: r => litsIn l ++ lits r
  | _ :: r => lits r
  | [] => []
where litsIn : List (DataW Unit) → List Value
  | .lit (.int k n) :: r => .int k n :: litsIn r
  | _ :: r => litsIn r
  | [] => []
/-- A listed array of integers (or of small structs of integers): its cells. -/
def cells : DataW Unit → Array Value
  | .agg l => (lits l).toArray
  | _ => #[]
/-- A variable's block is filled. -/
def lay (g : Nat) (cs : Array Value) (h : Array Obj) : Array Obj := h.modify g fun
  | .cells _ t frozen => .cells cs t frozen
  | o => o
end Go.Proofs.YtloflodbcdlmpaaDoor.Open
