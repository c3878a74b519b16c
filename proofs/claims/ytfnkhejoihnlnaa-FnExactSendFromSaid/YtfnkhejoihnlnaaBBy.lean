/- The contracts of functions of the program: each computes what its plain form says. Conditions: none. -/
import Derived.Test.YtfnkhejoihnlnaaPBy
import Derived.Test.YtfnkhejoihnlnaaRows
import Derived.Test.YtfnkhejoihnlnaaBBa
set_option linter.unusedVariables false
set_option linter.unusedSimpArgs false
set_option maxRecDepth 100000
namespace Go.Proofs.Ytfnkhejoihnlnaa.Pl
open Vm
noncomputable section

def impl_Word32_s : Sum := { ps := [⟨[.int .i64], false⟩], rs := [⟨[.imm .str], false⟩], fn := fun ds => (true, [.str (Word32 (rI ds 0))]) }
def impl_Word32_G : Ctx := [(68, impl_between_s)]
theorem impl_Word32_x : CtxHolds Try.prog impl_Word32_G := ctx_cons impl_between_h ctx_nil
def impl_Word32_A : List (Nat × Ann) := []
theorem impl_Word32_r (N : Nat) (v : Int) : runF Try.prog impl_Word32_G impl_Word32_A N Try.f152 impl_Word32_s (.int v :: ([])) = impl_Word32_t (fun r0 => ((true, [.str r0]) : Res)) v := by kernel_rfl
theorem impl_Word32_h : Holds Try.prog 152 impl_Word32_s := by
  refine holds_of_run (A := impl_Word32_A) impl_Word32_x Try.func152 rfl (by kernel_rfl) (of_decide_eq_true (by kernel_rfl)) (of_decide_eq_true (by kernel_rfl)) ?_
  intro ds hw hok
  replace hw : WtL ((.int .i64) :: ([])) ds := hw
  obtain ⟨v, ds, rfl, h_v, hw⟩ := of_wt_int hw
  obtain rfl := of_wt_nil hw
  exact ⟨0, ((impl_Word32_r 0 v).trans (impl_Word32_c _ v)).trans (by kernel_rfl)⟩

def spec_Word32_s : Sum := { ps := [⟨[.int .i64], false⟩], rs := [⟨[.imm .str], false⟩], fn := fun ds => (true, [.str (Word32 (rI ds 0))]) }
def spec_Word32_G : Ctx := [(64, spec_l01In_s)]
theorem spec_Word32_x : CtxHolds Try.prog spec_Word32_G := ctx_cons spec_l01In_h ctx_nil
def spec_Word32_A : List (Nat × Ann) := []
theorem spec_Word32_r (N : Nat) (v : Int) : runF Try.prog spec_Word32_G spec_Word32_A N Try.f122 spec_Word32_s (.int v :: ([])) = spec_Word32_t (fun r0 => ((true, [.str r0]) : Res)) v := by kernel_rfl
theorem spec_Word32_h : Holds Try.prog 122 spec_Word32_s := by
  refine holds_of_run (A := spec_Word32_A) spec_Word32_x Try.func122 rfl (by kernel_rfl) (of_decide_eq_true (by kernel_rfl)) (of_decide_eq_true (by kernel_rfl)) ?_
  intro ds hw hok
  replace hw : WtL ((.int .i64) :: ([])) ds := hw
  obtain ⟨v, ds, rfl, h_v, hw⟩ := of_wt_int hw
  obtain rfl := of_wt_nil hw
  exact ⟨0, ((spec_Word32_r 0 v).trans (spec_Word32_c _ v h_v)).trans (by kernel_rfl)⟩

end
end Go.Proofs.Ytfnkhejoihnlnaa.Pl
