/- The contracts of functions of the program: each computes what its plain form says. Conditions: none. -/
import Derived.Test.YtjmgpcfmcdlnpaaPMo
import Derived.Test.YtjmgpcfmcdlnpaaRows
import Derived.Test.YtjmgpcfmcdlnpaaBMl
import Derived.Test.YtjmgpcfmcdlnpaaBMc
set_option linter.unusedVariables false
set_option linter.unusedSimpArgs false
set_option maxRecDepth 100000
namespace Go.Proofs.Ytjmgpcfmcdlnpaa.Pl
open Vm
noncomputable section

def laws_FnMailOnce_s : Sum := { ps := [⟨[.sl [.int .u8]], false⟩], rs := [⟨[.imm .bool], false⟩], fn := fun ds => (fitL ((.sl [.int .u8]) :: ([])) ds, [.bool true]) }
def laws_FnMailOnce_G : Ctx := [(11, impl_MailboxOk_s), (13, laws_big_s), (14, spec_DrawMailbox_s), (15, impl_HandleMessage_s), (16, laws_sameInts_s), (18, impl_SendCommands_s)]
theorem laws_FnMailOnce_x : CtxHolds Try.prog laws_FnMailOnce_G := ctx_cons impl_MailboxOk_h (ctx_cons laws_big_h (ctx_cons spec_DrawMailbox_h (ctx_cons impl_HandleMessage_h (ctx_cons laws_sameInts_h (ctx_cons impl_SendCommands_h ctx_nil)))))
def laws_FnMailOnce_A : List (Nat × Ann) := []
theorem laws_FnMailOnce_r (N : Nat) (code : Rows) : runF Try.prog laws_FnMailOnce_G laws_FnMailOnce_A N Try.f5 laws_FnMailOnce_s (.sl code :: ([])) = laws_FnMailOnce_t Vm.bad (fun r0 => ((true, [.bool r0]) : Res)) code := by kernel_rfl
theorem laws_FnMailOnce_h : Holds Try.prog 5 laws_FnMailOnce_s := by
  refine holds_of_run (A := laws_FnMailOnce_A) laws_FnMailOnce_x Try.func5 rfl (by kernel_rfl) (of_decide_eq_true (by kernel_rfl)) (of_decide_eq_true (by kernel_rfl)) ?_
  intro ds hw hok
  replace hw : WtL ((.sl [.int .u8]) :: ([])) ds := hw
  obtain ⟨code, ds, rfl, h_code, hw⟩ := of_wt_sl hw
  obtain rfl := of_wt_nil hw
  exact ⟨0, ((laws_FnMailOnce_r 0 code).trans (laws_FnMailOnce_c Vm.bad _ code h_code hok)).trans (by kernel_rfl)⟩

end
end Go.Proofs.Ytjmgpcfmcdlnpaa.Pl
