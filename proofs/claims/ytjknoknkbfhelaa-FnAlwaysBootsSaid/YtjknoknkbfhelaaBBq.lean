/- The contracts of functions of the program: each computes what its plain form says. Conditions: none. -/
import Derived.Test.YtjknoknkbfhelaaPBq
import Derived.Test.YtjknoknkbfhelaaRows
import Derived.Test.YtjknoknkbfhelaaBBo
set_option linter.unusedVariables false
set_option linter.unusedSimpArgs false
set_option maxRecDepth 100000
namespace Go.Proofs.Ytjknoknkbfhelaa.Pl
open Vm
noncomputable section

def laws_FnAlwaysBoots_s : Sum := { ps := [⟨[.sl [.int .u8]], false⟩], rs := [⟨[.imm .bool], false⟩], fn := fun ds => (fitL ((.sl [.int .u8]) :: ([])) ds, [.bool true]) }
def laws_FnAlwaysBoots_G : Ctx := [(21, impl_FlashOk_s), (25, spec_ImageVersion_s), (27, laws_big_s), (37, spec_BootVersion_s), (38, impl_BootVersion_s), (42, impl_RunUpdate_s), (45, spec_DrawUpdate_s), (46, impl_UpdateSteps_s)]
theorem laws_FnAlwaysBoots_x : CtxHolds Try.prog laws_FnAlwaysBoots_G := ctx_cons impl_FlashOk_h (ctx_cons spec_ImageVersion_h (ctx_cons laws_big_h (ctx_cons spec_BootVersion_h (ctx_cons impl_BootVersion_h (ctx_cons impl_RunUpdate_h (ctx_cons spec_DrawUpdate_h (ctx_cons impl_UpdateSteps_h ctx_nil)))))))
def laws_FnAlwaysBoots_A : List (Nat × Ann) := []
theorem laws_FnAlwaysBoots_r (N : Nat) (code : Rows) : runF Try.prog laws_FnAlwaysBoots_G laws_FnAlwaysBoots_A N Try.f12 laws_FnAlwaysBoots_s (.sl code :: ([])) = laws_FnAlwaysBoots_t Vm.bad (fun r0 => ((true, [.bool r0]) : Res)) code := by kernel_rfl
theorem laws_FnAlwaysBoots_h : Holds Try.prog 12 laws_FnAlwaysBoots_s := by
  refine holds_of_run (A := laws_FnAlwaysBoots_A) laws_FnAlwaysBoots_x Try.func12 rfl (by kernel_rfl) (of_decide_eq_true (by kernel_rfl)) (of_decide_eq_true (by kernel_rfl)) ?_
  intro ds hw hok
  replace hw : WtL ((.sl [.int .u8]) :: ([])) ds := hw
  obtain ⟨code, ds, rfl, h_code, hw⟩ := of_wt_sl hw
  obtain rfl := of_wt_nil hw
  exact ⟨0, ((laws_FnAlwaysBoots_r 0 code).trans (laws_FnAlwaysBoots_c Vm.bad _ code h_code hok)).trans (by kernel_rfl)⟩

end
end Go.Proofs.Ytjknoknkbfhelaa.Pl
