/- The contracts of functions of the program: each computes what its plain form says. Conditions: none. -/
import Derived.Test.YtfnkhejoihnlnaaPCl
import Derived.Test.YtfnkhejoihnlnaaRows
import Derived.Test.YtfnkhejoihnlnaaBBa
set_option linter.unusedVariables false
set_option linter.unusedSimpArgs false
set_option maxRecDepth 100000
namespace Go.Proofs.Ytfnkhejoihnlnaa.Pl
open Vm
noncomputable section

def laws_big_s : Sum := { ps := [⟨[.sl [.int .u8]], false⟩], rs := [⟨[.imm .bool], false⟩], fn := fun ds => (true, [.bool (big (rR ds 0))]) }
def laws_big_G : Ctx := []
theorem laws_big_x : CtxHolds Try.prog laws_big_G := ctx_nil
def laws_big_A : List (Nat × Ann) := []
theorem laws_big_r (N : Nat) (code : Rows) : runF Try.prog laws_big_G laws_big_A N Try.f37 laws_big_s (.sl code :: ([])) = laws_big_t (fun r0 => ((true, [.bool r0]) : Res)) code := by kernel_rfl
theorem laws_big_h : Holds Try.prog 37 laws_big_s := by
  refine holds_of_run (A := laws_big_A) laws_big_x Try.func37 rfl (by kernel_rfl) (of_decide_eq_true (by kernel_rfl)) (of_decide_eq_true (by kernel_rfl)) ?_
  intro ds hw hok
  replace hw : WtL ((.sl [.int .u8]) :: ([])) ds := hw
  obtain ⟨code, ds, rfl, h_code, hw⟩ := of_wt_sl hw
  obtain rfl := of_wt_nil hw
  exact ⟨0, ((laws_big_r 0 code).trans (laws_big_c _ code)).trans (by kernel_rfl)⟩

def laws_at_s : Sum := { ps := [⟨[.sl [.int .u8]], false⟩, ⟨[.int .i64], false⟩], rs := [⟨[.imm (.int .i64)], false⟩], fn := fun ds => (cAt_ok (rR ds 0) (rI ds 1), [.int (cAt (rR ds 0) (rI ds 1))]) }
def laws_at_G : Ctx := []
theorem laws_at_x : CtxHolds Try.prog laws_at_G := ctx_nil
def laws_at_A : List (Nat × Ann) := []
theorem laws_at_r (N : Nat) (code : Rows) (i : Int) : runF Try.prog laws_at_G laws_at_A N Try.f40 laws_at_s (.sl code :: (.int i :: ([]))) = laws_at_t Vm.bad (fun r0 => ((true, [.int r0]) : Res)) code i := by kernel_rfl
theorem laws_at_h : Holds Try.prog 40 laws_at_s := by
  refine holds_of_run (A := laws_at_A) laws_at_x Try.func40 rfl (by kernel_rfl) (of_decide_eq_true (by kernel_rfl)) (of_decide_eq_true (by kernel_rfl)) ?_
  intro ds hw hok
  replace hw : WtL ((.sl [.int .u8]) :: ((.int .i64) :: ([]))) ds := hw
  obtain ⟨code, ds, rfl, h_code, hw⟩ := of_wt_sl hw
  obtain ⟨i, ds, rfl, h_i, hw⟩ := of_wt_int hw
  obtain rfl := of_wt_nil hw
  exact ⟨0, ((laws_at_r 0 code i).trans (laws_at_c Vm.bad _ code i h_code h_i hok)).trans (by kernel_rfl)⟩

end
end Go.Proofs.Ytfnkhejoihnlnaa.Pl
