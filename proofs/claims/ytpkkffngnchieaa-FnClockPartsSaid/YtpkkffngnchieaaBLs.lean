/- The contracts of functions of the program: each computes what its plain form says. Conditions: none. -/
import Derived.Test.YtpkkffngnchieaaPLs
import Derived.Test.YtpkkffngnchieaaRows
set_option linter.unusedVariables false
set_option linter.unusedSimpArgs false
set_option maxRecDepth 100000
namespace Go.Proofs.Ytpkkffngnchieaa.Pl
open Vm
noncomputable section

def laws_toClock_s : Sum := { ps := [⟨[.int .i64, .int .i64, .int .i64, .int .i64], true⟩], rs := [⟨[.imm (.int .i64), .imm (.int .i64), .imm (.int .i64), .imm (.int .i64)], true⟩], fn := fun ds => (true, SClock.enc (idf (SClock.decAt ds 0))) }
def laws_toClock_G : Ctx := []
theorem laws_toClock_x : CtxHolds Try.prog laws_toClock_G := ctx_nil
def laws_toClock_A : List (Nat × Ann) := []
theorem laws_toClock_r (N : Nat) (a : SClock) : runF Try.prog laws_toClock_G laws_toClock_A N Try.f13 laws_toClock_s (a.enc ++ ([])) = laws_toClock_t (fun r0 => ((true, SClock.enc r0) : Res)) a := by kernel_rfl
theorem laws_toClock_h : Holds Try.prog 13 laws_toClock_s := by
  refine holds_of_run (A := laws_toClock_A) laws_toClock_x Try.func13 rfl (by kernel_rfl) (of_decide_eq_true (by kernel_rfl)) (of_decide_eq_true (by kernel_rfl)) ?_
  intro ds hw hok
  replace hw : WtL (SClock.ct ++ ([])) ds := hw
  obtain ⟨a, ds, rfl, h_a, hw⟩ := SClock.of_wt (r := _) hw
  obtain rfl := of_wt_nil hw
  exact ⟨0, ((laws_toClock_r 0 a).trans (laws_toClock_c _ a h_a)).trans (by kernel_rfl)⟩

def laws_eqClock_s : Sum := { ps := [⟨[.int .i64, .int .i64, .int .i64, .int .i64], true⟩, ⟨[.int .i64, .int .i64, .int .i64, .int .i64], true⟩], rs := [⟨[.imm .bool], false⟩], fn := fun ds => (same (SClock.decAt ds 0) (SClock.decAt ds 4), [.bool (yes2 (SClock.decAt ds 0) (SClock.decAt ds 4))]) }
def laws_eqClock_G : Ctx := []
theorem laws_eqClock_x : CtxHolds Try.prog laws_eqClock_G := ctx_nil
def laws_eqClock_A : List (Nat × Ann) := []
theorem laws_eqClock_r (N : Nat) (a : SClock) (b : SClock) : runF Try.prog laws_eqClock_G laws_eqClock_A N Try.f23 laws_eqClock_s (a.enc ++ (b.enc ++ ([]))) = laws_eqClock_t (fun r0 => ((true, [.bool r0]) : Res)) a b := by kernel_rfl
theorem laws_eqClock_h : Holds Try.prog 23 laws_eqClock_s := by
  refine holds_of_run (A := laws_eqClock_A) laws_eqClock_x Try.func23 rfl (by kernel_rfl) (of_decide_eq_true (by kernel_rfl)) (of_decide_eq_true (by kernel_rfl)) ?_
  intro ds hw hok
  replace hw : WtL (SClock.ct ++ (SClock.ct ++ ([]))) ds := hw
  obtain ⟨a, ds, rfl, h_a, hw⟩ := SClock.of_wt (r := _) hw
  obtain ⟨b, ds, rfl, h_b, hw⟩ := SClock.of_wt (r := _) hw
  obtain rfl := of_wt_nil hw
  exact ⟨0, ((laws_eqClock_r 0 a b).trans (laws_eqClock_c _ a b h_a h_b hok)).trans (by kernel_rfl)⟩

end
end Go.Proofs.Ytpkkffngnchieaa.Pl
