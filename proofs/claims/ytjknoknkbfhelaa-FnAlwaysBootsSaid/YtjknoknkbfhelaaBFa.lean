/- The contracts of functions of the program: each computes what its plain form says. Conditions: none. -/
import Derived.Test.YtjknoknkbfhelaaPFa
import Derived.Test.YtjknoknkbfhelaaRows
import Derived.Test.YtjknoknkbfhelaaBBy
set_option linter.unusedVariables false
set_option linter.unusedSimpArgs false
set_option maxRecDepth 100000
namespace Go.Proofs.Ytjknoknkbfhelaa.Pl
open Vm
noncomputable section

def impl_FlashStepOk_s : Sum := { ps := [⟨[.int .i64, .int .i64, .int .i64, .str], true⟩], rs := [⟨[.imm .bool], false⟩], fn := fun ds => (true, [.bool (FlashStepOk (SFlashStep.decAt ds 0))]) }
def impl_FlashStepOk_G : Ctx := [(50, impl_between_s)]
theorem impl_FlashStepOk_x : CtxHolds Try.prog impl_FlashStepOk_G := ctx_cons impl_between_h ctx_nil
def impl_FlashStepOk_A : List (Nat × Ann) := []
theorem impl_FlashStepOk_r (N : Nat) (x : SFlashStep) : runF Try.prog impl_FlashStepOk_G impl_FlashStepOk_A N Try.f17 impl_FlashStepOk_s (x.enc ++ ([])) = impl_FlashStepOk_t (fun r0 => ((true, [.bool r0]) : Res)) x := by kernel_rfl
theorem impl_FlashStepOk_h : Holds Try.prog 17 impl_FlashStepOk_s := by
  refine holds_of_run (A := impl_FlashStepOk_A) impl_FlashStepOk_x Try.func17 rfl (by kernel_rfl) (of_decide_eq_true (by kernel_rfl)) (of_decide_eq_true (by kernel_rfl)) ?_
  intro ds hw hok
  replace hw : WtL (SFlashStep.ct ++ ([])) ds := hw
  obtain ⟨x, ds, rfl, h_x, hw⟩ := SFlashStep.of_wt (r := _) hw
  obtain rfl := of_wt_nil hw
  exact ⟨0, ((impl_FlashStepOk_r 0 x).trans (impl_FlashStepOk_c _ x)).trans (by kernel_rfl)⟩

def spec_FlashStepOk_s : Sum := { ps := [⟨[.int .i64, .int .i64, .int .i64, .str], true⟩], rs := [⟨[.imm .bool], false⟩], fn := fun ds => (true, [.bool (FlashStepOk (SFlashStep.decAt ds 0))]) }
def spec_FlashStepOk_G : Ctx := [(49, spec_l01In_s)]
theorem spec_FlashStepOk_x : CtxHolds Try.prog spec_FlashStepOk_G := ctx_cons spec_l01In_h ctx_nil
def spec_FlashStepOk_A : List (Nat × Ann) := []
theorem spec_FlashStepOk_r (N : Nat) (x : SFlashStep) : runF Try.prog spec_FlashStepOk_G spec_FlashStepOk_A N Try.f15 spec_FlashStepOk_s (x.enc ++ ([])) = spec_FlashStepOk_t (fun r0 => ((true, [.bool r0]) : Res)) x := by kernel_rfl
theorem spec_FlashStepOk_h : Holds Try.prog 15 spec_FlashStepOk_s := by
  refine holds_of_run (A := spec_FlashStepOk_A) spec_FlashStepOk_x Try.func15 rfl (by kernel_rfl) (of_decide_eq_true (by kernel_rfl)) (of_decide_eq_true (by kernel_rfl)) ?_
  intro ds hw hok
  replace hw : WtL (SFlashStep.ct ++ ([])) ds := hw
  obtain ⟨x, ds, rfl, h_x, hw⟩ := SFlashStep.of_wt (r := _) hw
  obtain rfl := of_wt_nil hw
  exact ⟨0, ((spec_FlashStepOk_r 0 x).trans (spec_FlashStepOk_c _ x h_x)).trans (by kernel_rfl)⟩

def laws_FnExactFlashStepOk_s : Sum := { ps := [⟨[.int .i64, .int .i64, .int .i64, .str], true⟩], rs := [⟨[.imm .bool], false⟩], fn := fun ds => (fitL (SFlashStep.ct ++ ([])) ds, [.bool true]) }
def laws_FnExactFlashStepOk_G : Ctx := [(14, laws_szFlashStep_s), (15, spec_FlashStepOk_s), (16, laws_toFlashStep_s), (17, impl_FlashStepOk_s)]
theorem laws_FnExactFlashStepOk_x : CtxHolds Try.prog laws_FnExactFlashStepOk_G := ctx_cons laws_szFlashStep_h (ctx_cons spec_FlashStepOk_h (ctx_cons laws_toFlashStep_h (ctx_cons impl_FlashStepOk_h ctx_nil)))
def laws_FnExactFlashStepOk_A : List (Nat × Ann) := []
theorem laws_FnExactFlashStepOk_r (N : Nat) (aX : SFlashStep) : runF Try.prog laws_FnExactFlashStepOk_G laws_FnExactFlashStepOk_A N Try.f3 laws_FnExactFlashStepOk_s (aX.enc ++ ([])) = laws_FnExactFlashStepOk_t (fun r0 => ((true, [.bool r0]) : Res)) aX := by kernel_rfl
theorem laws_FnExactFlashStepOk_h : Holds Try.prog 3 laws_FnExactFlashStepOk_s := by
  refine holds_of_run (A := laws_FnExactFlashStepOk_A) laws_FnExactFlashStepOk_x Try.func3 rfl (by kernel_rfl) (of_decide_eq_true (by kernel_rfl)) (of_decide_eq_true (by kernel_rfl)) ?_
  intro ds hw hok
  replace hw : WtL (SFlashStep.ct ++ ([])) ds := hw
  obtain ⟨aX, ds, rfl, h_aX, hw⟩ := SFlashStep.of_wt (r := _) hw
  obtain rfl := of_wt_nil hw
  exact ⟨0, ((laws_FnExactFlashStepOk_r 0 aX).trans (laws_FnExactFlashStepOk_c _ aX h_aX hok)).trans (by kernel_rfl)⟩

def impl_FlashOk_s : Sum := { ps := [⟨[.sl [.str]], true⟩], rs := [⟨[.imm .bool], false⟩], fn := fun ds => (true, [.bool (FlashOk (SFlash.decAt ds 0))]) }
def impl_FlashOk_G : Ctx := []
theorem impl_FlashOk_x : CtxHolds Try.prog impl_FlashOk_G := ctx_nil
def impl_FlashOk_A : List (Nat × Ann) := []
theorem impl_FlashOk_r (N : Nat) (f : SFlash) : runF Try.prog impl_FlashOk_G impl_FlashOk_A N Try.f21 impl_FlashOk_s (f.enc ++ ([])) = impl_FlashOk_t Vm.bad (fun r0 => ((true, [.bool r0]) : Res)) f := by kernel_rfl
theorem impl_FlashOk_h : Holds Try.prog 21 impl_FlashOk_s := by
  refine holds_of_run (A := impl_FlashOk_A) impl_FlashOk_x Try.func21 rfl (by kernel_rfl) (of_decide_eq_true (by kernel_rfl)) (of_decide_eq_true (by kernel_rfl)) ?_
  intro ds hw hok
  replace hw : WtL (SFlash.ct ++ ([])) ds := hw
  obtain ⟨f, ds, rfl, h_f, hw⟩ := SFlash.of_wt (r := _) hw
  obtain rfl := of_wt_nil hw
  exact ⟨0, ((impl_FlashOk_r 0 f).trans (impl_FlashOk_c Vm.bad _ f h_f)).trans (by kernel_rfl)⟩

def spec_FlashOk_s : Sum := { ps := [⟨[.sl [.str]], true⟩], rs := [⟨[.imm .bool], false⟩], fn := fun ds => (true, [.bool (FlashOk (SFlash.decAt ds 0))]) }
def spec_FlashOk_G : Ctx := []
theorem spec_FlashOk_x : CtxHolds Try.prog spec_FlashOk_G := ctx_nil
def spec_FlashOk_A : List (Nat × Ann) := []
theorem spec_FlashOk_r (N : Nat) (f : SFlash) : runF Try.prog spec_FlashOk_G spec_FlashOk_A N Try.f19 spec_FlashOk_s (f.enc ++ ([])) = spec_FlashOk_t Vm.bad (fun r0 => ((true, [.bool r0]) : Res)) f := by kernel_rfl
theorem spec_FlashOk_h : Holds Try.prog 19 spec_FlashOk_s := by
  refine holds_of_run (A := spec_FlashOk_A) spec_FlashOk_x Try.func19 rfl (by kernel_rfl) (of_decide_eq_true (by kernel_rfl)) (of_decide_eq_true (by kernel_rfl)) ?_
  intro ds hw hok
  replace hw : WtL (SFlash.ct ++ ([])) ds := hw
  obtain ⟨f, ds, rfl, h_f, hw⟩ := SFlash.of_wt (r := _) hw
  obtain rfl := of_wt_nil hw
  exact ⟨0, ((spec_FlashOk_r 0 f).trans (spec_FlashOk_c Vm.bad _ f h_f)).trans (by kernel_rfl)⟩

def laws_FnExactFlashOk_s : Sum := { ps := [⟨[.sl [.str]], true⟩], rs := [⟨[.imm .bool], false⟩], fn := fun ds => (fitL (SFlash.ct ++ ([])) ds, [.bool true]) }
def laws_FnExactFlashOk_G : Ctx := [(18, laws_szFlash_s), (19, spec_FlashOk_s), (20, laws_toFlash_s), (21, impl_FlashOk_s), (22, laws_eqFlash_s)]
theorem laws_FnExactFlashOk_x : CtxHolds Try.prog laws_FnExactFlashOk_G := ctx_cons laws_szFlash_h (ctx_cons spec_FlashOk_h (ctx_cons laws_toFlash_h (ctx_cons impl_FlashOk_h (ctx_cons laws_eqFlash_h ctx_nil))))
def laws_FnExactFlashOk_A : List (Nat × Ann) := []
theorem laws_FnExactFlashOk_r (N : Nat) (aF : SFlash) : runF Try.prog laws_FnExactFlashOk_G laws_FnExactFlashOk_A N Try.f4 laws_FnExactFlashOk_s (aF.enc ++ ([])) = laws_FnExactFlashOk_t Vm.bad (fun r0 => ((true, [.bool r0]) : Res)) aF := by kernel_rfl
theorem laws_FnExactFlashOk_h : Holds Try.prog 4 laws_FnExactFlashOk_s := by
  refine holds_of_run (A := laws_FnExactFlashOk_A) laws_FnExactFlashOk_x Try.func4 rfl (by kernel_rfl) (of_decide_eq_true (by kernel_rfl)) (of_decide_eq_true (by kernel_rfl)) ?_
  intro ds hw hok
  replace hw : WtL (SFlash.ct ++ ([])) ds := hw
  obtain ⟨aF, ds, rfl, h_aF, hw⟩ := SFlash.of_wt (r := _) hw
  obtain rfl := of_wt_nil hw
  exact ⟨0, ((laws_FnExactFlashOk_r 0 aF).trans (laws_FnExactFlashOk_c Vm.bad _ aF h_aF hok)).trans (by kernel_rfl)⟩

end
end Go.Proofs.Ytjknoknkbfhelaa.Pl
