-- PRINTED BY print.sh 35421559b90ae4d0a3588c463048766b98c2df88dd9212a6774a882060cdf62d: not written by this session
import Derived.Test.YtkhpjcahncepnaaPBlameNamesx0
namespace Go.Proofs.Ytkhpjcahncepnaa.PBlameNames
open Go.RowKit Go.Proofs.YtkhpjcahncepnaaW.PrintWords Go.Proofs.YtkhpjcahncepnaaW.PrintLast Go.Proofs.YtkhpjcahncepnaaW.PrintMore
attribute [local go_sem] max2_int min2_int max_two min_two max_three min_three max_four min_four   -- for this text's walks alone
set_option linter.unusedVariables false
set_option linter.unusedSimpArgs false

/-! ### dowellaw15_BlameNames: function 3 -/
def dowellaw15_BlameNames.f  : Option (Bool) := some true
set_option maxHeartbeats 8000000 in
set_option maxRecDepth 100000 in
theorem dowellaw15_BlameNames.calls  (r : Bool) (w : World) (h : dowellaw15_BlameNames.f  = some r) :
    Calls Try.prog 3 #[] w fun e w' => e = .returned (.bool r) ∧ Drawn0 w w' := by
  have H : (some true) = some r := h
  clear h
  obtain rfl := Option.some.inj H
  go_enter Try.func3, Try.ntmps3
  go_wp2
  go_ret
  exact ⟨by first | rfl | (simp; done) | (simp [*]; done), by repeat (first | exact Drawn0.refl _ | apply Drawn0.step)⟩

/-- THE ONE PURE STATEMENT of dowellaw15_BlameNames: yours. -/
def dowellaw15_BlameNames.Pure : Prop := dowellaw15_BlameNames.f  = some true
theorem dowellaw15_BlameNames.walk (P : dowellaw15_BlameNames.Pure)  (w : World)  :
    Calls Try.prog 3 #[] w fun e w' => e = .returned (.bool true) ∧ Below w.heap.size w w' := by
  have h := P  
  refine (dowellaw15_BlameNames.calls  true w h).mono ?_
  rintro e w' ⟨rfl, hd⟩
  exact ⟨rfl, hd.below⟩

end Go.Proofs.Ytkhpjcahncepnaa.PBlameNames
