/- What functions of the program compute, in plain Lean, as the value machine runs them. Conditions: none. -/
import Derived.Test.YtfnkhejoihnlnaaPFo
set_option linter.unusedVariables false
set_option linter.unusedSimpArgs false
namespace Go.Proofs.Ytfnkhejoihnlnaa.Pl
open Vm
noncomputable section


def impl_copyFunctions_t {α : Type} (bad : α) (k_ : Rows → α) (list_ : Rows) : α :=
  bif andt true (room2 64 [] list_) then
    k_ list_
  else bad
theorem impl_copyFunctions_c {α : Type} (bad : α) (k_ : Rows → α) (list_ : Rows) (h_list_ : WtC (.sl [.int .i64, .int .i64, .int .i64, .int .i64, .int .i64, .bool, .int .i64, .int .i64]) (.sl list_)) (hok : sm list_ = true) : impl_copyFunctions_t bad k_ list_ = k_ (idf list_) := by
  unfold impl_copyFunctions_t
  rw [room2_sm hok (show 64 ≤ 8388608 by omega)]
  rfl

end
end Go.Proofs.Ytfnkhejoihnlnaa.Pl
