/- The contracts of functions of the program: each computes what its plain form says. Conditions: none. -/
import Derived.Test.YtfnkhejoihnlnaaPDc
import Derived.Test.YtfnkhejoihnlnaaRows
import Derived.Test.YtfnkhejoihnlnaaBDb
set_option linter.unusedVariables false
set_option linter.unusedSimpArgs false
set_option maxRecDepth 100000
namespace Go.Proofs.Ytfnkhejoihnlnaa.Pl
open Vm
noncomputable section

def spec_DrawFunctions_s : Sum := { ps := [⟨[.sl [.int .u8]], false⟩], rs := [⟨[.own 66 [.int .i64, .int .i64, .int .i64, .int .i64, .int .i64, .bool, .int .i64, .int .i64]], false⟩, ⟨[.own 105 [.int .i64, .sl [.int .i64], .int .i64, .bool]], false⟩, ⟨[.own 95 [.int .i64, .int .i64, .int .i64, .bool]], false⟩], fn := fun ds => (true, [.sl (DrawFunctions (rR ds 0)).1] ++ [.sl (DrawFunctions (rR ds 0)).2.1] ++ [.sl (DrawFunctions (rR ds 0)).2.2]) }
def spec_DrawFunctions_G : Ctx := [(30, spec_GrantPages_s), (74, spec_l01New_s), (75, spec_l33Functions_s)]
theorem spec_DrawFunctions_x : CtxHolds Try.prog spec_DrawFunctions_G := ctx_cons spec_GrantPages_h (ctx_cons spec_l01New_h (ctx_cons spec_l33Functions_h ctx_nil))
def spec_DrawFunctions_A : List (Nat × Ann) := [(5, { slots := [(6, .asis), (7, .asis), (8, .asis), (9, .asis)], boxes := [(704, [])] })]
def spec_DrawFunctions_K : Rows → Rows → Rows → Res := (fun r0 r1 r2 => ((true, [.sl r0] ++ [.sl r1] ++ [.sl r2]) : Res))
def spec_DrawFunctions_m0 (k : Int) (b11 : Rows) (b11_1 : Int) (b11_2 : Int) (list_ : Rows) (ports : Rows) (maps : Rows) : St := { n := 40, sl := [(6, .own 640384), (7, .own 640448), (8, .own 640512), (9, .int .i64 k)], hp := [(704, .box 141 [.sl [.int .u8] b11, .int .i64 b11_1, .int .i64 b11_2]), (640384, .row 66 [.int .i64, .int .i64, .int .i64, .int .i64, .int .i64, .bool, .int .i64, .int .i64] list_ false true), (640448, .row 105 [.int .i64, .sl [.int .i64], .int .i64, .bool] ports false true), (640512, .row 95 [.int .i64, .int .i64, .int .i64, .bool] maps false true)], ok := true, ls := [], lm := [] }
noncomputable def spec_DrawFunctions_B0 (N : Nat) : (St → Res) → St → Res := loopB Try.prog spec_DrawFunctions_G spec_DrawFunctions_A N Try.f38 spec_DrawFunctions_s [true, true, true, true, false, true, false] []
theorem spec_DrawFunctions_b0 (N : Nat) (b11 : Rows) (b11_1 : Int) (b11_2 : Int) (list_ : Rows) (ports : Rows) (ih : St → Res) (k : Int) (maps : Rows) : spec_DrawFunctions_B0 N ih (spec_DrawFunctions_m0 k b11 b11_1 b11_2 list_ ports maps) = spec_DrawFunctions_l0 Vm.bad spec_DrawFunctions_K list_ ports (fun k maps => ih (spec_DrawFunctions_m0 k b11 b11_1 b11_2 list_ ports maps)) k maps := by kernel_rfl
theorem spec_DrawFunctions_n0 (N : Nat) (b11 : Rows) (b11_1 : Int) (b11_2 : Int) (list_ : Rows) (ports : Rows) (m_ : Nat) : (fun k maps => loopN (spec_DrawFunctions_B0 N) m_ (spec_DrawFunctions_m0 k b11 b11_1 b11_2 list_ ports maps)) = spec_DrawFunctions_L0 Vm.bad spec_DrawFunctions_K N list_ ports m_ := by
  induction m_ with
  | zero => rfl
  | succ m_ ih =>
    funext k maps
    show spec_DrawFunctions_B0 N (loopN (spec_DrawFunctions_B0 N) m_) (spec_DrawFunctions_m0 k b11 b11_1 b11_2 list_ ports maps) = _
    rw [spec_DrawFunctions_b0 N b11 b11_1 b11_2 list_ ports]
    rw [ih]
    rfl
theorem spec_DrawFunctions_r (N : Nat) (code : Rows) : runF Try.prog spec_DrawFunctions_G spec_DrawFunctions_A N Try.f38 spec_DrawFunctions_s (.sl code :: ([])) = spec_DrawFunctions_f Vm.bad spec_DrawFunctions_K N code := by
  have run_ : runF Try.prog spec_DrawFunctions_G spec_DrawFunctions_A N Try.f38 spec_DrawFunctions_s (.sl code :: ([])) = spec_DrawFunctions_t Vm.bad spec_DrawFunctions_K (fun list_ ports k maps => loopN (spec_DrawFunctions_B0 N) N (spec_DrawFunctions_m0 k (((l33Functions (l01New code)).2.2).b) (((l33Functions (l01New code)).2.2).i) (((l33Functions (l01New code)).2.2).h) list_ ports maps)) code := by kernel_rfl
  refine run_.trans ?_
  unfold spec_DrawFunctions_f
  have e0 : (fun list_ ports k maps => loopN (spec_DrawFunctions_B0 N) N (spec_DrawFunctions_m0 k (((l33Functions (l01New code)).2.2).b) (((l33Functions (l01New code)).2.2).i) (((l33Functions (l01New code)).2.2).h) list_ ports maps)) = (fun list_ ports => spec_DrawFunctions_L0 Vm.bad spec_DrawFunctions_K N list_ ports N) := by
    funext list_ ports
    exact spec_DrawFunctions_n0 N (((l33Functions (l01New code)).2.2).b) (((l33Functions (l01New code)).2.2).i) (((l33Functions (l01New code)).2.2).h) list_ ports N
  exact congrArg (fun l_ => spec_DrawFunctions_t Vm.bad spec_DrawFunctions_K l_ code) e0
theorem spec_DrawFunctions_h : Holds Try.prog 38 spec_DrawFunctions_s := by
  refine holds_of_run (A := spec_DrawFunctions_A) spec_DrawFunctions_x Try.func38 rfl (by kernel_rfl) (of_decide_eq_true (by kernel_rfl)) (of_decide_eq_true (by kernel_rfl)) ?_
  intro ds hw hok
  replace hw : WtL ((.sl [.int .u8]) :: ([])) ds := hw
  obtain ⟨code, ds, rfl, h_code, hw⟩ := of_wt_sl hw
  obtain rfl := of_wt_nil hw
  obtain ⟨N, hN⟩ := spec_DrawFunctions_c Vm.bad spec_DrawFunctions_K code h_code
  exact ⟨N, ((spec_DrawFunctions_r N code).trans hN).trans (by kernel_rfl)⟩

end
end Go.Proofs.Ytfnkhejoihnlnaa.Pl
