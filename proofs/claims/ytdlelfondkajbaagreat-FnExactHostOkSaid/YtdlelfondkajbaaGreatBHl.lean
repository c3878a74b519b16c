/- The contracts of functions of the program: each computes what its plain form says. Conditions: none. -/
import Derived.Test.YtdlelfondkajbaaGreatPHl
import Derived.Test.YtdlelfondkajbaaGreatRows
import Derived.Test.YtdlelfondkajbaaGreatBHo
set_option linter.unusedVariables false
set_option linter.unusedSimpArgs false
set_option maxRecDepth 100000
namespace Go.Proofs.YtdlelfondkajbaaGreat.Pl
open Vm
noncomputable section

def laws_FnExactHostOk_s : Sum := { ps := [⟨[.sl [.str], .sl [.int .i64, .int .i64, .int .i64, .bool], .int .i64, .int .i64, .int .i64, .int .i64, .int .i64, .int .i64, .int .i64, .sl [.int .i64], .sl [.int .i64, .int .i64, .sl [.int .i64]], .int .i64, .sl [.int .i64, .int .i64, .int .i64, .int .i64, .int .i64, .int .i64, .int .i64, .int .i64, .int .i64, .int .i64, .int .i64, .int .i64, .int .i64, .int .i64, .int .i64, .int .i64, .int .i64, .int .i64, .int .i64, .int .i64, .int .i64, .int .i64, .int .i64, .int .i64, .int .i64, .str, .int .i64, .int .i64, .bool, .int .i64], .sl [.int .i64, .int .i64, .int .i64, .sl [.int .i64]], .sl [.int .i64, .int .i64, .int .i64, .int .i64, .bool, .bool], .sl [.bool], .int .i64, .bool, .sl [.int .i64], .sl [.int .i64, .int .i64, .int .i64, .int .i64, .int .i64, .int .i64, .int .i64, .int .i64, .int .i64], .sl [.int .i64, .int .i64, .int .i64, .int .i64, .int .i64, .int .i64, .int .i64], .str, .sl [.int .i64], .sl [.int .i64, .int .i64, .int .i64, .int .i64, .int .i64, .int .i64, .str, .bool], .bool, .sl [.str], .sl [.int .i64], .sl [.int .i64], .int .i64, .int .i64, .int .i64, .int .i64, .int .i64], true⟩], rs := [⟨[.imm .bool], false⟩], fn := fun ds => (fitL (SHost.ct ++ ([])) ds, [.bool true]) }
def laws_FnExactHostOk_G : Ctx := [(6, laws_szHost_s), (8, laws_toHost_s), (11, laws_eqHost_s), (15, spec_HostOk_s), (16, impl_HostOk_s)]
theorem laws_FnExactHostOk_x : CtxHolds Tryz.prog laws_FnExactHostOk_G := ctx_cons laws_szHost_h (ctx_cons laws_toHost_h (ctx_cons laws_eqHost_h (ctx_cons spec_HostOk_h (ctx_cons impl_HostOk_h ctx_nil))))
def laws_FnExactHostOk_A : List (Nat × Ann) := []
theorem laws_FnExactHostOk_r (N : Nat) (aH : SHost) : runF Tryz.prog laws_FnExactHostOk_G laws_FnExactHostOk_A N Tryz.f4 laws_FnExactHostOk_s (aH.enc ++ ([])) = laws_FnExactHostOk_t Vm.bad (fun r0 => ((true, [.bool r0]) : Res)) aH := by kernel_rfl
theorem laws_FnExactHostOk_h : Holds Tryz.prog 4 laws_FnExactHostOk_s := by
  refine holds_of_run (A := laws_FnExactHostOk_A) laws_FnExactHostOk_x Tryz.func4 rfl (by kernel_rfl) (of_decide_eq_true (by kernel_rfl)) (of_decide_eq_true (by kernel_rfl)) ?_
  intro ds hw hok
  replace hw : WtL (SHost.ct ++ ([])) ds := hw
  obtain ⟨aH, ds, rfl, h_aH, hw⟩ := SHost.of_wt (r := _) hw
  obtain rfl := of_wt_nil hw
  exact ⟨0, ((laws_FnExactHostOk_r 0 aH).trans (laws_FnExactHostOk_c Vm.bad _ aH h_aH hok)).trans (by kernel_rfl)⟩

end
end Go.Proofs.YtdlelfondkajbaaGreat.Pl
