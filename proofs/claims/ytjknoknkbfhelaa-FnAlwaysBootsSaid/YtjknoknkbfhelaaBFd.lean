/- The contracts of functions of the program: each computes what its plain form says. Conditions: none. -/
import Derived.Test.YtjknoknkbfhelaaPFd
import Derived.Test.YtjknoknkbfhelaaRows
import Derived.Test.YtjknoknkbfhelaaBFc
set_option linter.unusedVariables false
set_option linter.unusedSimpArgs false
set_option maxRecDepth 100000
namespace Go.Proofs.Ytjknoknkbfhelaa.Pl
open Vm
noncomputable section

def impl_RunUpdate_s : Sum := { ps := [⟨[.sl [.str]], true⟩, ⟨[.sl [.int .i64, .int .i64, .int .i64, .str]], false⟩, ⟨[.int .i64], false⟩, ⟨[.int .i64], false⟩], rs := [⟨[.own 9 [.str]], true⟩], fn := fun ds => (RunUpdate_ok (SFlash.decAt ds 0) (rR ds 1) (rI ds 2) (rI ds 3), SFlash.enc (RunUpdate (SFlash.decAt ds 0) (rR ds 1) (rI ds 2) (rI ds 3))) }
def impl_RunUpdate_G : Ctx := [(34, impl_DoFlashStep_s), (64, impl_copyFlash_s)]
theorem impl_RunUpdate_x : CtxHolds Try.prog impl_RunUpdate_G := ctx_cons impl_DoFlashStep_h (ctx_cons impl_copyFlash_h ctx_nil)
def impl_RunUpdate_A : List (Nat × Ann) := [(5, { slots := [(1, .asis), (2, .asis), (3, .asis), (8, .asis), (9, .asis), (10, .asis)], boxes := [(256, []), (512, []), (576, [])] })]
def impl_RunUpdate_K : SFlash → Res := (fun r0 => ((true, SFlash.enc r0) : Res))
def impl_RunUpdate_m0 (steps : Rows) (n : Int) (part : Int) (i : Int) (f_1 : Rows) (out_0 : Rows) : St := { n := 49, sl := [(1, .sl [.int .i64, .int .i64, .int .i64, .str] steps), (2, .int .i64 n), (3, .int .i64 part), (8, .ptr 512 0), (9, .ptr 576 0), (10, .int .i64 i)], hp := [(256, .box 34 [.sl [.str] f_1]), (512, .box 34 [.nil]), (576, .box 34 [.own 1427456]), (1427456, .row 9 [.str] out_0 false true)], ok := true, ls := [], lm := [] }
noncomputable def impl_RunUpdate_B0 (N : Nat) : (St → Res) → St → Res := loopB Try.prog impl_RunUpdate_G impl_RunUpdate_A N Try.f42 impl_RunUpdate_s [true, true, true, false, true, false] []
theorem impl_RunUpdate_b0 (N : Nat) (steps : Rows) (n : Int) (part : Int) (f_1 : Rows) (ih : St → Res) (i : Int) (out_0 : Rows) : impl_RunUpdate_B0 N ih (impl_RunUpdate_m0 steps n part i f_1 out_0) = impl_RunUpdate_l0 Vm.bad impl_RunUpdate_K steps n part (fun i out_0 => ih (impl_RunUpdate_m0 steps n part i f_1 out_0)) i out_0 := by kernel_rfl
theorem impl_RunUpdate_n0 (N : Nat) (steps : Rows) (n : Int) (part : Int) (f_1 : Rows) (m_ : Nat) : (fun i out_0 => loopN (impl_RunUpdate_B0 N) m_ (impl_RunUpdate_m0 steps n part i f_1 out_0)) = impl_RunUpdate_L0 Vm.bad impl_RunUpdate_K N steps n part m_ := by
  induction m_ with
  | zero => rfl
  | succ m_ ih =>
    funext i out_0
    show impl_RunUpdate_B0 N (loopN (impl_RunUpdate_B0 N) m_) (impl_RunUpdate_m0 steps n part i f_1 out_0) = _
    rw [impl_RunUpdate_b0 N steps n part f_1]
    rw [ih]
    rfl
theorem impl_RunUpdate_r (N : Nat) (f : SFlash) (steps : Rows) (n : Int) (part : Int) : runF Try.prog impl_RunUpdate_G impl_RunUpdate_A N Try.f42 impl_RunUpdate_s (f.enc ++ (.sl steps :: (.int n :: (.int part :: ([]))))) = impl_RunUpdate_f Vm.bad impl_RunUpdate_K N f steps n part := by
  have h : runF Try.prog impl_RunUpdate_G impl_RunUpdate_A N Try.f42 impl_RunUpdate_s (f.enc ++ (.sl steps :: (.int n :: (.int part :: ([]))))) = impl_RunUpdate_t Vm.bad impl_RunUpdate_K (fun i out_0 => loopN (impl_RunUpdate_B0 N) N (impl_RunUpdate_m0 steps n part i f.Banks out_0)) f steps n part := by kernel_rfl
  refine h.trans ?_
  unfold impl_RunUpdate_f
  have e0 : (fun i out_0 => loopN (impl_RunUpdate_B0 N) N (impl_RunUpdate_m0 steps n part i f.Banks out_0)) = (impl_RunUpdate_L0 Vm.bad impl_RunUpdate_K N steps n part N) := by
    exact impl_RunUpdate_n0 N steps n part f.Banks N
  exact congrArg (fun l_ => impl_RunUpdate_t Vm.bad impl_RunUpdate_K l_ f steps n part) e0
theorem impl_RunUpdate_h : Holds Try.prog 42 impl_RunUpdate_s := by
  refine holds_of_run (A := impl_RunUpdate_A) impl_RunUpdate_x Try.func42 rfl (by kernel_rfl) (of_decide_eq_true (by kernel_rfl)) (of_decide_eq_true (by kernel_rfl)) ?_
  intro ds hw hok
  replace hw : WtL (SFlash.ct ++ ((.sl [.int .i64, .int .i64, .int .i64, .str]) :: ((.int .i64) :: ((.int .i64) :: ([]))))) ds := hw
  obtain ⟨f, ds, rfl, h_f, hw⟩ := SFlash.of_wt (r := _) hw
  obtain ⟨steps, ds, rfl, h_steps, hw⟩ := of_wt_sl hw
  obtain ⟨n, ds, rfl, h_n, hw⟩ := of_wt_int hw
  obtain ⟨part, ds, rfl, h_part, hw⟩ := of_wt_int hw
  obtain rfl := of_wt_nil hw
  obtain ⟨N, hN⟩ := impl_RunUpdate_c Vm.bad impl_RunUpdate_K f steps n part h_f h_steps h_n h_part hok
  exact ⟨N, ((impl_RunUpdate_r N f steps n part).trans hN).trans (by kernel_rfl)⟩

def spec_RunUpdate_s : Sum := { ps := [⟨[.sl [.str]], true⟩, ⟨[.sl [.int .i64, .int .i64, .int .i64, .str]], false⟩, ⟨[.int .i64], false⟩, ⟨[.int .i64], false⟩], rs := [⟨[.own 9 [.str]], true⟩], fn := fun ds => (RunUpdate_ok (SFlash.decAt ds 0) (rR ds 1) (rI ds 2) (rI ds 3), SFlash.enc (RunUpdate (SFlash.decAt ds 0) (rR ds 1) (rI ds 2) (rI ds 3))) }
def spec_RunUpdate_G : Ctx := [(33, spec_DoFlashStep_s)]
theorem spec_RunUpdate_x : CtxHolds Try.prog spec_RunUpdate_G := ctx_cons spec_DoFlashStep_h ctx_nil
def spec_RunUpdate_A : List (Nat × Ann) := [(5, { slots := [(1, .asis), (2, .asis), (3, .asis), (8, .asis), (9, .asis), (10, .asis)], boxes := [(256, []), (512, []), (576, [])] })]
def spec_RunUpdate_K : SFlash → Res := (fun r0 => ((true, SFlash.enc r0) : Res))
def spec_RunUpdate_m0 (steps : Rows) (n : Int) (part : Int) (k : Int) (f_1 : Rows) (out_0 : Rows) : St := { n := 51, sl := [(1, .sl [.int .i64, .int .i64, .int .i64, .str] steps), (2, .int .i64 n), (3, .int .i64 part), (8, .ptr 512 0), (9, .ptr 576 0), (10, .int .i64 k)], hp := [(256, .box 34 [.sl [.str] f_1]), (512, .box 34 [.nil]), (576, .box 34 [.own 1427456]), (1427456, .row 9 [.str] out_0 false true)], ok := true, ls := [], lm := [] }
noncomputable def spec_RunUpdate_B0 (N : Nat) : (St → Res) → St → Res := loopB Try.prog spec_RunUpdate_G spec_RunUpdate_A N Try.f40 spec_RunUpdate_s [true, true, true, false, true, false] []
theorem spec_RunUpdate_b0 (N : Nat) (steps : Rows) (n : Int) (part : Int) (f_1 : Rows) (ih : St → Res) (k : Int) (out_0 : Rows) : spec_RunUpdate_B0 N ih (spec_RunUpdate_m0 steps n part k f_1 out_0) = spec_RunUpdate_l0 Vm.bad spec_RunUpdate_K steps n part (fun k out_0 => ih (spec_RunUpdate_m0 steps n part k f_1 out_0)) k out_0 := by kernel_rfl
theorem spec_RunUpdate_n0 (N : Nat) (steps : Rows) (n : Int) (part : Int) (f_1 : Rows) (m_ : Nat) : (fun k out_0 => loopN (spec_RunUpdate_B0 N) m_ (spec_RunUpdate_m0 steps n part k f_1 out_0)) = spec_RunUpdate_L0 Vm.bad spec_RunUpdate_K N steps n part m_ := by
  induction m_ with
  | zero => rfl
  | succ m_ ih =>
    funext k out_0
    show spec_RunUpdate_B0 N (loopN (spec_RunUpdate_B0 N) m_) (spec_RunUpdate_m0 steps n part k f_1 out_0) = _
    rw [spec_RunUpdate_b0 N steps n part f_1]
    rw [ih]
    rfl
theorem spec_RunUpdate_r (N : Nat) (f : SFlash) (steps : Rows) (n : Int) (part : Int) : runF Try.prog spec_RunUpdate_G spec_RunUpdate_A N Try.f40 spec_RunUpdate_s (f.enc ++ (.sl steps :: (.int n :: (.int part :: ([]))))) = spec_RunUpdate_f Vm.bad spec_RunUpdate_K N f steps n part := by
  have h : runF Try.prog spec_RunUpdate_G spec_RunUpdate_A N Try.f40 spec_RunUpdate_s (f.enc ++ (.sl steps :: (.int n :: (.int part :: ([]))))) = spec_RunUpdate_t Vm.bad spec_RunUpdate_K (fun k out_0 => loopN (spec_RunUpdate_B0 N) N (spec_RunUpdate_m0 steps n part k f.Banks out_0)) f steps n part := by kernel_rfl
  refine h.trans ?_
  unfold spec_RunUpdate_f
  have e0 : (fun k out_0 => loopN (spec_RunUpdate_B0 N) N (spec_RunUpdate_m0 steps n part k f.Banks out_0)) = (spec_RunUpdate_L0 Vm.bad spec_RunUpdate_K N steps n part N) := by
    exact spec_RunUpdate_n0 N steps n part f.Banks N
  exact congrArg (fun l_ => spec_RunUpdate_t Vm.bad spec_RunUpdate_K l_ f steps n part) e0
theorem spec_RunUpdate_h : Holds Try.prog 40 spec_RunUpdate_s := by
  refine holds_of_run (A := spec_RunUpdate_A) spec_RunUpdate_x Try.func40 rfl (by kernel_rfl) (of_decide_eq_true (by kernel_rfl)) (of_decide_eq_true (by kernel_rfl)) ?_
  intro ds hw hok
  replace hw : WtL (SFlash.ct ++ ((.sl [.int .i64, .int .i64, .int .i64, .str]) :: ((.int .i64) :: ((.int .i64) :: ([]))))) ds := hw
  obtain ⟨f, ds, rfl, h_f, hw⟩ := SFlash.of_wt (r := _) hw
  obtain ⟨steps, ds, rfl, h_steps, hw⟩ := of_wt_sl hw
  obtain ⟨n, ds, rfl, h_n, hw⟩ := of_wt_int hw
  obtain ⟨part, ds, rfl, h_part, hw⟩ := of_wt_int hw
  obtain rfl := of_wt_nil hw
  obtain ⟨N, hN⟩ := spec_RunUpdate_c Vm.bad spec_RunUpdate_K f steps n part h_f h_steps h_n h_part hok
  exact ⟨N, ((spec_RunUpdate_r N f steps n part).trans hN).trans (by kernel_rfl)⟩

def laws_FnExactRunUpdate_s : Sum := { ps := [⟨[.sl [.str]], true⟩, ⟨[.sl [.int .i64, .int .i64, .int .i64, .str]], false⟩, ⟨[.int .i64], false⟩, ⟨[.int .i64], false⟩], rs := [⟨[.imm .bool], false⟩], fn := fun ds => (fitL (SFlash.ct ++ ((.sl [.int .i64, .int .i64, .int .i64, .str]) :: ((.int .i64) :: ((.int .i64) :: ([]))))) ds, [.bool true]) }
def laws_FnExactRunUpdate_G : Ctx := [(18, laws_szFlash_s), (20, laws_toFlash_s), (22, laws_eqFlash_s), (35, laws_markFlash_s), (36, laws_heldFlash_s), (39, laws_szFlashStepS_s), (40, spec_RunUpdate_s), (41, laws_toFlashStepS_s), (42, impl_RunUpdate_s), (43, laws_eqFlashStepS_s), (44, laws_markFlashStepS_s)]
theorem laws_FnExactRunUpdate_x : CtxHolds Try.prog laws_FnExactRunUpdate_G := ctx_cons laws_szFlash_h (ctx_cons laws_toFlash_h (ctx_cons laws_eqFlash_h (ctx_cons laws_markFlash_h (ctx_cons laws_heldFlash_h (ctx_cons laws_szFlashStepS_h (ctx_cons spec_RunUpdate_h (ctx_cons laws_toFlashStepS_h (ctx_cons impl_RunUpdate_h (ctx_cons laws_eqFlashStepS_h (ctx_cons laws_markFlashStepS_h ctx_nil))))))))))
def laws_FnExactRunUpdate_A : List (Nat × Ann) := []
theorem laws_FnExactRunUpdate_r (N : Nat) (aF : SFlash) (aSteps : Rows) (aN : Int) (aPart : Int) : runF Try.prog laws_FnExactRunUpdate_G laws_FnExactRunUpdate_A N Try.f11 laws_FnExactRunUpdate_s (aF.enc ++ (.sl aSteps :: (.int aN :: (.int aPart :: ([]))))) = laws_FnExactRunUpdate_t Vm.bad (fun r0 => ((true, [.bool r0]) : Res)) aF aSteps aN aPart := by kernel_rfl
theorem laws_FnExactRunUpdate_h : Holds Try.prog 11 laws_FnExactRunUpdate_s := by
  refine holds_of_run (A := laws_FnExactRunUpdate_A) laws_FnExactRunUpdate_x Try.func11 rfl (by kernel_rfl) (of_decide_eq_true (by kernel_rfl)) (of_decide_eq_true (by kernel_rfl)) ?_
  intro ds hw hok
  replace hw : WtL (SFlash.ct ++ ((.sl [.int .i64, .int .i64, .int .i64, .str]) :: ((.int .i64) :: ((.int .i64) :: ([]))))) ds := hw
  obtain ⟨aF, ds, rfl, h_aF, hw⟩ := SFlash.of_wt (r := _) hw
  obtain ⟨aSteps, ds, rfl, h_aSteps, hw⟩ := of_wt_sl hw
  obtain ⟨aN, ds, rfl, h_aN, hw⟩ := of_wt_int hw
  obtain ⟨aPart, ds, rfl, h_aPart, hw⟩ := of_wt_int hw
  obtain rfl := of_wt_nil hw
  exact ⟨0, ((laws_FnExactRunUpdate_r 0 aF aSteps aN aPart).trans (laws_FnExactRunUpdate_c Vm.bad _ aF aSteps aN aPart h_aF h_aSteps h_aN h_aPart hok)).trans (by kernel_rfl)⟩

end
end Go.Proofs.Ytjknoknkbfhelaa.Pl
