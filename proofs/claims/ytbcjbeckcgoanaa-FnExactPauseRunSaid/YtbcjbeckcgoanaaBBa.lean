/- The contracts of functions of the program: each computes what its plain form says. Conditions: none. -/
import Derived.Test.YtbcjbeckcgoanaaPBa
import Derived.Test.YtbcjbeckcgoanaaRows
import Derived.Test.YtbcjbeckcgoanaaBLs
set_option linter.unusedVariables false
set_option linter.unusedSimpArgs false
set_option maxRecDepth 100000
namespace Go.Proofs.Ytbcjbeckcgoanaa.Pl
open Vm
noncomputable section

def impl_between_s : Sum := { ps := [⟨[.int .i64], false⟩, ⟨[.int .i64], false⟩, ⟨[.int .i64], false⟩], rs := [⟨[.imm .bool], false⟩], fn := fun ds => (true, [.bool (between (rI ds 0) (rI ds 1) (rI ds 2))]) }
def impl_between_G : Ctx := []
theorem impl_between_x : CtxHolds Try.prog impl_between_G := ctx_nil
def impl_between_A : List (Nat × Ann) := []
theorem impl_between_r (N : Nat) (n : Int) (low : Int) (high : Int) : runF Try.prog impl_between_G impl_between_A N Try.f27 impl_between_s (.int n :: (.int low :: (.int high :: ([])))) = impl_between_t (fun r0 => ((true, [.bool r0]) : Res)) n low high := by kernel_rfl
theorem impl_between_h : Holds Try.prog 27 impl_between_s := by
  refine holds_of_run (A := impl_between_A) impl_between_x Try.func27 rfl (by kernel_rfl) (of_decide_eq_true (by kernel_rfl)) (of_decide_eq_true (by kernel_rfl)) ?_
  intro ds hw hok
  replace hw : WtL ((.int .i64) :: ((.int .i64) :: ((.int .i64) :: ([])))) ds := hw
  obtain ⟨n, ds, rfl, h_n, hw⟩ := of_wt_int hw
  obtain ⟨low, ds, rfl, h_low, hw⟩ := of_wt_int hw
  obtain ⟨high, ds, rfl, h_high, hw⟩ := of_wt_int hw
  obtain rfl := of_wt_nil hw
  exact ⟨0, ((impl_between_r 0 n low high).trans (impl_between_c _ n low high)).trans (by kernel_rfl)⟩

def spec_l01In_s : Sum := { ps := [⟨[.int .i64], false⟩, ⟨[.int .i64], false⟩, ⟨[.int .i64], false⟩], rs := [⟨[.imm .bool], false⟩], fn := fun ds => (true, [.bool (between (rI ds 0) (rI ds 1) (rI ds 2))]) }
def spec_l01In_G : Ctx := []
theorem spec_l01In_x : CtxHolds Try.prog spec_l01In_G := ctx_nil
def spec_l01In_A : List (Nat × Ann) := []
theorem spec_l01In_r (N : Nat) (x : Int) (least : Int) (most : Int) : runF Try.prog spec_l01In_G spec_l01In_A N Try.f25 spec_l01In_s (.int x :: (.int least :: (.int most :: ([])))) = spec_l01In_t (fun r0 => ((true, [.bool r0]) : Res)) x least most := by kernel_rfl
theorem spec_l01In_h : Holds Try.prog 25 spec_l01In_s := by
  refine holds_of_run (A := spec_l01In_A) spec_l01In_x Try.func25 rfl (by kernel_rfl) (of_decide_eq_true (by kernel_rfl)) (of_decide_eq_true (by kernel_rfl)) ?_
  intro ds hw hok
  replace hw : WtL ((.int .i64) :: ((.int .i64) :: ((.int .i64) :: ([])))) ds := hw
  obtain ⟨x, ds, rfl, h_x, hw⟩ := of_wt_int hw
  obtain ⟨least, ds, rfl, h_least, hw⟩ := of_wt_int hw
  obtain ⟨most, ds, rfl, h_most, hw⟩ := of_wt_int hw
  obtain rfl := of_wt_nil hw
  exact ⟨0, ((spec_l01In_r 0 x least most).trans (spec_l01In_c _ x least most h_x h_least h_most)).trans (by kernel_rfl)⟩

end
end Go.Proofs.Ytbcjbeckcgoanaa.Pl
