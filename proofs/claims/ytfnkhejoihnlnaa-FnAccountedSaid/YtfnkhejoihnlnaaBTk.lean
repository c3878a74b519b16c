/- The contracts of functions of the program: each computes what its plain form says. Conditions: none. -/
import Derived.Test.YtfnkhejoihnlnaaPTk
import Derived.Test.YtfnkhejoihnlnaaRows
import Derived.Test.YtfnkhejoihnlnaaBFo
set_option linter.unusedVariables false
set_option linter.unusedSimpArgs false
set_option maxRecDepth 100000
namespace Go.Proofs.Ytfnkhejoihnlnaa.Pl
open Vm
noncomputable section

def impl_copyFunctions_s : Sum := { ps := [⟨[.sl [.int .i64, .int .i64, .int .i64, .int .i64, .int .i64, .bool, .int .i64, .int .i64]], false⟩], rs := [⟨[.own 66 [.int .i64, .int .i64, .int .i64, .int .i64, .int .i64, .bool, .int .i64, .int .i64]], false⟩], fn := fun ds => (sm (rR ds 0), [.sl (idf (rR ds 0))]) }
def impl_copyFunctions_G : Ctx := []
theorem impl_copyFunctions_x : CtxHolds Try.prog impl_copyFunctions_G := ctx_nil
def impl_copyFunctions_A : List (Nat × Ann) := []
theorem impl_copyFunctions_r (N : Nat) (list_ : Rows) : runF Try.prog impl_copyFunctions_G impl_copyFunctions_A N Try.f56 impl_copyFunctions_s (.sl list_ :: ([])) = impl_copyFunctions_t Vm.bad (fun r0 => ((true, [.sl r0]) : Res)) list_ := by kernel_rfl
theorem impl_copyFunctions_h : Holds Try.prog 56 impl_copyFunctions_s := by
  refine holds_of_run (A := impl_copyFunctions_A) impl_copyFunctions_x Try.func56 rfl (by kernel_rfl) (of_decide_eq_true (by kernel_rfl)) (of_decide_eq_true (by kernel_rfl)) ?_
  intro ds hw hok
  replace hw : WtL ((.sl [.int .i64, .int .i64, .int .i64, .int .i64, .int .i64, .bool, .int .i64, .int .i64]) :: ([])) ds := hw
  obtain ⟨list_, ds, rfl, h_list_, hw⟩ := of_wt_sl hw
  obtain rfl := of_wt_nil hw
  exact ⟨0, ((impl_copyFunctions_r 0 list_).trans (impl_copyFunctions_c Vm.bad _ list_ h_list_ hok)).trans (by kernel_rfl)⟩

end
end Go.Proofs.Ytfnkhejoihnlnaa.Pl
