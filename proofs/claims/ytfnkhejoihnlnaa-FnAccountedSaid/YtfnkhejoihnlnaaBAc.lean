/- The contracts of functions of the program: each computes what its plain form says. Conditions: none. -/
import Derived.Test.YtfnkhejoihnlnaaPAc
import Derived.Test.YtfnkhejoihnlnaaRows
import Derived.Test.YtfnkhejoihnlnaaBSf
import Derived.Test.YtfnkhejoihnlnaaBDc
import Derived.Test.YtfnkhejoihnlnaaBDq
import Derived.Test.YtfnkhejoihnlnaaBCl
set_option linter.unusedVariables false
set_option linter.unusedSimpArgs false
set_option maxRecDepth 100000
namespace Go.Proofs.Ytfnkhejoihnlnaa.Pl
open Vm
noncomputable section

def spec_DrawPackets_s : Sum := { ps := [⟨[.sl [.int .u8]], false⟩], rs := [⟨[.own 75 [.int .i64, .int .i64, .int .i64, .int .i64, .int .i64, .int .i64, .int .i64, .int .i64, .int .i64, .int .i64, .int .i64, .int .i64, .int .i64, .int .i64, .int .i64, .str]], false⟩], fn := fun ds => (true, [.sl (DrawPackets (rR ds 0))]) }
def spec_DrawPackets_G : Ctx := [(74, spec_l01New_s), (79, spec_l09List_s)]
theorem spec_DrawPackets_x : CtxHolds Try.prog spec_DrawPackets_G := ctx_cons spec_l01New_h (ctx_cons spec_l09List_h ctx_nil)
def spec_DrawPackets_A : List (Nat × Ann) := []
theorem spec_DrawPackets_r (N : Nat) (code : Rows) : runF Try.prog spec_DrawPackets_G spec_DrawPackets_A N Try.f45 spec_DrawPackets_s (.sl code :: ([])) = spec_DrawPackets_t Vm.bad (fun r0 => ((true, [.sl r0]) : Res)) code := by kernel_rfl
theorem spec_DrawPackets_h : Holds Try.prog 45 spec_DrawPackets_s := by
  refine holds_of_run (A := spec_DrawPackets_A) spec_DrawPackets_x Try.func45 rfl (by kernel_rfl) (of_decide_eq_true (by kernel_rfl)) (of_decide_eq_true (by kernel_rfl)) ?_
  intro ds hw hok
  replace hw : WtL ((.sl [.int .u8]) :: ([])) ds := hw
  obtain ⟨code, ds, rfl, h_code, hw⟩ := of_wt_sl hw
  obtain rfl := of_wt_nil hw
  exact ⟨0, ((spec_DrawPackets_r 0 code).trans (spec_DrawPackets_c Vm.bad _ code h_code)).trans (by kernel_rfl)⟩

def laws_FnAccounted_s : Sum := { ps := [⟨[.sl [.int .u8]], false⟩], rs := [⟨[.imm .bool], false⟩], fn := fun ds => (fitL ((.sl [.int .u8]) :: ([])) ds, [.bool true]) }
def laws_FnAccounted_G : Ctx := [(14, impl_FunctionAt_s), (37, laws_big_s), (38, spec_DrawFunctions_s), (40, laws_at_s), (45, spec_DrawPackets_s), (46, impl_SendFrom_s), (47, spec_BuildImage_s)]
theorem laws_FnAccounted_x : CtxHolds Try.prog laws_FnAccounted_G := ctx_cons impl_FunctionAt_h (ctx_cons laws_big_h (ctx_cons spec_DrawFunctions_h (ctx_cons laws_at_h (ctx_cons spec_DrawPackets_h (ctx_cons impl_SendFrom_h (ctx_cons spec_BuildImage_h ctx_nil))))))
def laws_FnAccounted_A : List (Nat × Ann) := [(9, { slots := [(0, .asis), (3, .asis), (4, .asis), (6, .asis), (7, .asis), (8, .asis), (9, .asis), (10, .asis)], boxes := [] })]
def laws_FnAccounted_K : Bool → Res := (fun r0 => ((true, [.bool r0]) : Res))
def laws_FnAccounted_m0 (code : Rows) (k : Int) (sum : Int) (spent : Int) (i : Int) (list_ : Rows) (ports : Rows) (packets : Rows) : St := { n := 146, sl := [(0, .sl [.int .u8] code), (3, .own 640192), (4, .own 640256), (6, .own 640384), (7, .int .i64 k), (8, .int .i64 sum), (9, .int .i64 spent), (10, .int .i64 i)], hp := [(640192, .row 66 [.int .i64, .int .i64, .int .i64, .int .i64, .int .i64, .bool, .int .i64, .int .i64] list_ false true), (640256, .row 105 [.int .i64, .sl [.int .i64], .int .i64, .bool] ports false true), (640384, .row 75 [.int .i64, .int .i64, .int .i64, .int .i64, .int .i64, .int .i64, .int .i64, .int .i64, .int .i64, .int .i64, .int .i64, .int .i64, .int .i64, .int .i64, .int .i64, .str] packets false true)], ok := true, ls := [], lm := [] }
noncomputable def laws_FnAccounted_B0 (N : Nat) : (St → Res) → St → Res := loopB Try.prog laws_FnAccounted_G laws_FnAccounted_A N Try.f9 laws_FnAccounted_s [true, true, true, true, true, true, true, false, true, false] []
theorem laws_FnAccounted_b0 (N : Nat) (code : Rows) (k : Int) (ports : Rows) (packets : Rows) (ih : St → Res) (sum : Int) (spent : Int) (i : Int) (list_ : Rows) : laws_FnAccounted_B0 N ih (laws_FnAccounted_m0 code k sum spent i list_ ports packets) = laws_FnAccounted_l0 Vm.bad laws_FnAccounted_K code k ports packets (fun sum spent i list_ => ih (laws_FnAccounted_m0 code k sum spent i list_ ports packets)) sum spent i list_ := by kernel_rfl
theorem laws_FnAccounted_n0 (N : Nat) (code : Rows) (k : Int) (ports : Rows) (packets : Rows) (m_ : Nat) : (fun sum spent i list_ => loopN (laws_FnAccounted_B0 N) m_ (laws_FnAccounted_m0 code k sum spent i list_ ports packets)) = laws_FnAccounted_L0 Vm.bad laws_FnAccounted_K N code k ports packets m_ := by
  induction m_ with
  | zero => rfl
  | succ m_ ih =>
    funext sum spent i list_
    show laws_FnAccounted_B0 N (loopN (laws_FnAccounted_B0 N) m_) (laws_FnAccounted_m0 code k sum spent i list_ ports packets) = _
    rw [laws_FnAccounted_b0 N code k ports packets]
    rw [ih]
    rfl
theorem laws_FnAccounted_r (N : Nat) (code : Rows) : runF Try.prog laws_FnAccounted_G laws_FnAccounted_A N Try.f9 laws_FnAccounted_s (.sl code :: ([])) = laws_FnAccounted_f Vm.bad laws_FnAccounted_K N code := by
  have h : runF Try.prog laws_FnAccounted_G laws_FnAccounted_A N Try.f9 laws_FnAccounted_s (.sl code :: ([])) = laws_FnAccounted_t Vm.bad laws_FnAccounted_K (fun k ports packets sum spent i list_ => loopN (laws_FnAccounted_B0 N) N (laws_FnAccounted_m0 code k sum spent i list_ ports packets)) code := by kernel_rfl
  refine h.trans ?_
  unfold laws_FnAccounted_f
  have e0 : (fun k ports packets sum spent i list_ => loopN (laws_FnAccounted_B0 N) N (laws_FnAccounted_m0 code k sum spent i list_ ports packets)) = (fun k ports packets => laws_FnAccounted_L0 Vm.bad laws_FnAccounted_K N code k ports packets N) := by
    funext k ports packets
    exact laws_FnAccounted_n0 N code k ports packets N
  exact congrArg (fun l_ => laws_FnAccounted_t Vm.bad laws_FnAccounted_K l_ code) e0
theorem laws_FnAccounted_h : Holds Try.prog 9 laws_FnAccounted_s := by
  refine holds_of_run (A := laws_FnAccounted_A) laws_FnAccounted_x Try.func9 rfl (by kernel_rfl) (of_decide_eq_true (by kernel_rfl)) (of_decide_eq_true (by kernel_rfl)) ?_
  intro ds hw hok
  replace hw : WtL ((.sl [.int .u8]) :: ([])) ds := hw
  obtain ⟨code, ds, rfl, h_code, hw⟩ := of_wt_sl hw
  obtain rfl := of_wt_nil hw
  obtain ⟨N, hN⟩ := laws_FnAccounted_c Vm.bad laws_FnAccounted_K code h_code hok
  exact ⟨N, ((laws_FnAccounted_r N code).trans hN).trans (by kernel_rfl)⟩

end
end Go.Proofs.Ytfnkhejoihnlnaa.Pl
