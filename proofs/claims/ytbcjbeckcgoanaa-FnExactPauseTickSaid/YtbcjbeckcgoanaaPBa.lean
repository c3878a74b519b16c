/- What functions of the program compute, in plain Lean, as the value machine runs them. Conditions: none. -/
import Derived.Test.YtbcjbeckcgoanaaPLs
set_option linter.unusedVariables false
set_option linter.unusedSimpArgs false
namespace Go.Proofs.Ytbcjbeckcgoanaa.Pl
open Vm
noncomputable section


def impl_between_t {α : Type} (k_ : Bool → α) (n : Int) (low : Int) (high : Int) : α :=
  k_ (bif decide (low ≤ n) then decide (n ≤ high) else false)
def between (n : Int) (low : Int) (high : Int) : Bool := impl_between_t id n low high
theorem impl_between_c {α : Type} (k_ : Bool → α) (n : Int) (low : Int) (high : Int) : impl_between_t k_ n low high = k_ (between n low high) := by
  rfl

def spec_l01In_t {α : Type} (k_ : Bool → α) (x : Int) (least : Int) (most : Int) : α :=
  k_ (bif decide (least ≤ x) then decide (x ≤ most) else false)
theorem spec_l01In_c {α : Type} (k_ : Bool → α) (x : Int) (least : Int) (most : Int) (h_x : WtC (.int .i64) (.int x)) (h_least : WtC (.int .i64) (.int least)) (h_most : WtC (.int .i64) (.int most)) : spec_l01In_t k_ x least most = k_ (between x least most) := by
  exact rfl

end
end Go.Proofs.Ytbcjbeckcgoanaa.Pl
