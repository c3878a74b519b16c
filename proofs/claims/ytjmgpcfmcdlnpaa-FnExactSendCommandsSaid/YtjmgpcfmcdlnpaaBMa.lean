/- The contracts of functions of the program: each computes what its plain form says. Conditions: none. -/
import Derived.Test.YtjmgpcfmcdlnpaaPMa
import Derived.Test.YtjmgpcfmcdlnpaaRows
import Derived.Test.YtjmgpcfmcdlnpaaBBa
set_option linter.unusedVariables false
set_option linter.unusedSimpArgs false
set_option maxRecDepth 100000
namespace Go.Proofs.Ytjmgpcfmcdlnpaa.Pl
open Vm
noncomputable section

def impl_MailboxOk_s : Sum := { ps := [⟨[.int .i64, .bool, .sl [.int .i64], .int .i64, .int .i64, .int .i64], true⟩], rs := [⟨[.imm .bool], false⟩], fn := fun ds => (true, [.bool (MailboxOk (SMailbox.decAt ds 0))]) }
def impl_MailboxOk_G : Ctx := [(17, impl_FilterOk_s), (38, impl_between_s)]
theorem impl_MailboxOk_x : CtxHolds Try.prog impl_MailboxOk_G := ctx_cons impl_FilterOk_h (ctx_cons impl_between_h ctx_nil)
def impl_MailboxOk_A : List (Nat × Ann) := []
theorem impl_MailboxOk_r (N : Nat) (b : SMailbox) : runF Try.prog impl_MailboxOk_G impl_MailboxOk_A N Try.f11 impl_MailboxOk_s (b.enc ++ ([])) = impl_MailboxOk_t (fun r0 => ((true, [.bool r0]) : Res)) b := by kernel_rfl
theorem impl_MailboxOk_h : Holds Try.prog 11 impl_MailboxOk_s := by
  refine holds_of_run (A := impl_MailboxOk_A) impl_MailboxOk_x Try.func11 rfl (by kernel_rfl) (of_decide_eq_true (by kernel_rfl)) (of_decide_eq_true (by kernel_rfl)) ?_
  intro ds hw hok
  replace hw : WtL (SMailbox.ct ++ ([])) ds := hw
  obtain ⟨b, ds, rfl, h_b, hw⟩ := SMailbox.of_wt (r := _) hw
  obtain rfl := of_wt_nil hw
  exact ⟨0, ((impl_MailboxOk_r 0 b).trans (impl_MailboxOk_c _ b)).trans (by kernel_rfl)⟩

def spec_MailboxOk_s : Sum := { ps := [⟨[.int .i64, .bool, .sl [.int .i64], .int .i64, .int .i64, .int .i64], true⟩], rs := [⟨[.imm .bool], false⟩], fn := fun ds => (true, [.bool (MailboxOk (SMailbox.decAt ds 0))]) }
def spec_MailboxOk_G : Ctx := [(35, spec_FilterOk_s), (36, spec_l01In_s)]
theorem spec_MailboxOk_x : CtxHolds Try.prog spec_MailboxOk_G := ctx_cons spec_FilterOk_h (ctx_cons spec_l01In_h ctx_nil)
def spec_MailboxOk_A : List (Nat × Ann) := []
theorem spec_MailboxOk_r (N : Nat) (b : SMailbox) : runF Try.prog spec_MailboxOk_G spec_MailboxOk_A N Try.f9 spec_MailboxOk_s (b.enc ++ ([])) = spec_MailboxOk_t (fun r0 => ((true, [.bool r0]) : Res)) b := by kernel_rfl
theorem spec_MailboxOk_h : Holds Try.prog 9 spec_MailboxOk_s := by
  refine holds_of_run (A := spec_MailboxOk_A) spec_MailboxOk_x Try.func9 rfl (by kernel_rfl) (of_decide_eq_true (by kernel_rfl)) (of_decide_eq_true (by kernel_rfl)) ?_
  intro ds hw hok
  replace hw : WtL (SMailbox.ct ++ ([])) ds := hw
  obtain ⟨b, ds, rfl, h_b, hw⟩ := SMailbox.of_wt (r := _) hw
  obtain rfl := of_wt_nil hw
  exact ⟨0, ((spec_MailboxOk_r 0 b).trans (spec_MailboxOk_c _ b h_b)).trans (by kernel_rfl)⟩

def laws_FnExactMailboxOk_s : Sum := { ps := [⟨[.int .i64, .bool, .sl [.int .i64], .int .i64, .int .i64, .int .i64], true⟩], rs := [⟨[.imm .bool], false⟩], fn := fun ds => (fitL (SMailbox.ct ++ ([])) ds, [.bool true]) }
def laws_FnExactMailboxOk_G : Ctx := [(8, laws_szMailbox_s), (9, spec_MailboxOk_s), (10, laws_toMailbox_s), (11, impl_MailboxOk_s), (12, laws_eqMailbox_s)]
theorem laws_FnExactMailboxOk_x : CtxHolds Try.prog laws_FnExactMailboxOk_G := ctx_cons laws_szMailbox_h (ctx_cons spec_MailboxOk_h (ctx_cons laws_toMailbox_h (ctx_cons impl_MailboxOk_h (ctx_cons laws_eqMailbox_h ctx_nil))))
def laws_FnExactMailboxOk_A : List (Nat × Ann) := []
theorem laws_FnExactMailboxOk_r (N : Nat) (aB : SMailbox) : runF Try.prog laws_FnExactMailboxOk_G laws_FnExactMailboxOk_A N Try.f3 laws_FnExactMailboxOk_s (aB.enc ++ ([])) = laws_FnExactMailboxOk_t Vm.bad (fun r0 => ((true, [.bool r0]) : Res)) aB := by kernel_rfl
theorem laws_FnExactMailboxOk_h : Holds Try.prog 3 laws_FnExactMailboxOk_s := by
  refine holds_of_run (A := laws_FnExactMailboxOk_A) laws_FnExactMailboxOk_x Try.func3 rfl (by kernel_rfl) (of_decide_eq_true (by kernel_rfl)) (of_decide_eq_true (by kernel_rfl)) ?_
  intro ds hw hok
  replace hw : WtL (SMailbox.ct ++ ([])) ds := hw
  obtain ⟨aB, ds, rfl, h_aB, hw⟩ := SMailbox.of_wt (r := _) hw
  obtain rfl := of_wt_nil hw
  exact ⟨0, ((laws_FnExactMailboxOk_r 0 aB).trans (laws_FnExactMailboxOk_c Vm.bad _ aB h_aB hok)).trans (by kernel_rfl)⟩

end
end Go.Proofs.Ytjmgpcfmcdlnpaa.Pl
