/- The contracts of functions of the program: each computes what its plain form says. Conditions: none. -/
import Derived.Test.YtfnkhejoihnlnaaPLo
import Derived.Test.YtfnkhejoihnlnaaRows
import Derived.Test.YtfnkhejoihnlnaaBBa
set_option linter.unusedVariables false
set_option linter.unusedSimpArgs false
set_option maxRecDepth 100000
namespace Go.Proofs.Ytfnkhejoihnlnaa.Pl
open Vm
noncomputable section

def spec_l01Long_s : Sum := { ps := [⟨[.int .i64], false⟩, ⟨[.int .u8], false⟩], rs := [⟨[.imm .str], false⟩], fn := fun ds => (l01Long_ok (rI ds 0) (rI ds 1), [.str (l01Long (rI ds 0) (rI ds 1))]) }
def spec_l01Long_G : Ctx := []
theorem spec_l01Long_x : CtxHolds Try.prog spec_l01Long_G := ctx_nil
def spec_l01Long_A : List (Nat × Ann) := [(3, { slots := [(0, .asis), (1, .asis), (5, .asis), (6, .asis)], boxes := [] })]
def spec_l01Long_K : Bytes → Res := (fun r0 => ((true, [.str r0]) : Res))
def spec_l01Long_m0 (n : Int) (x : Int) (i : Int) (out_ : Rows) : St := { n := 20, sl := [(0, .int .i64 n), (1, .int .u8 x), (5, .own 640320), (6, .int .i64 i)], hp := [(640320, .row 5 [.int .u8] out_ false true)], ok := true, ls := [], lm := [] }
noncomputable def spec_l01Long_B0 (N : Nat) : (St → Res) → St → Res := loopB Try.prog spec_l01Long_G spec_l01Long_A N Try.f76 spec_l01Long_s [true, true, false, true, false] []
theorem spec_l01Long_b0 (N : Nat) (n : Int) (x : Int) (ih : St → Res) (i : Int) (out_ : Rows) : spec_l01Long_B0 N ih (spec_l01Long_m0 n x i out_) = spec_l01Long_l0 Vm.bad spec_l01Long_K n x (fun i out_ => ih (spec_l01Long_m0 n x i out_)) i out_ := by kernel_rfl
theorem spec_l01Long_n0 (N : Nat) (n : Int) (x : Int) (m_ : Nat) : (fun i out_ => loopN (spec_l01Long_B0 N) m_ (spec_l01Long_m0 n x i out_)) = spec_l01Long_L0 Vm.bad spec_l01Long_K N n x m_ := by
  induction m_ with
  | zero => rfl
  | succ m_ ih =>
    funext i out_
    show spec_l01Long_B0 N (loopN (spec_l01Long_B0 N) m_) (spec_l01Long_m0 n x i out_) = _
    rw [spec_l01Long_b0 N n x]
    rw [ih]
    rfl
theorem spec_l01Long_r (N : Nat) (n : Int) (x : Int) : runF Try.prog spec_l01Long_G spec_l01Long_A N Try.f76 spec_l01Long_s (.int n :: (.int x :: ([]))) = spec_l01Long_f Vm.bad spec_l01Long_K N n x := by
  have run_ : runF Try.prog spec_l01Long_G spec_l01Long_A N Try.f76 spec_l01Long_s (.int n :: (.int x :: ([]))) = spec_l01Long_t Vm.bad spec_l01Long_K (fun i out_ => loopN (spec_l01Long_B0 N) N (spec_l01Long_m0 n x i out_)) n x := by kernel_rfl
  refine run_.trans ?_
  unfold spec_l01Long_f
  have e0 : (fun i out_ => loopN (spec_l01Long_B0 N) N (spec_l01Long_m0 n x i out_)) = (spec_l01Long_L0 Vm.bad spec_l01Long_K N n x N) := by
    exact spec_l01Long_n0 N n x N
  exact congrArg (fun l_ => spec_l01Long_t Vm.bad spec_l01Long_K l_ n x) e0
theorem spec_l01Long_h : Holds Try.prog 76 spec_l01Long_s := by
  refine holds_of_run (A := spec_l01Long_A) spec_l01Long_x Try.func76 rfl (by kernel_rfl) (of_decide_eq_true (by kernel_rfl)) (of_decide_eq_true (by kernel_rfl)) ?_
  intro ds hw hok
  replace hw : WtL ((.int .i64) :: ((.int .u8) :: ([]))) ds := hw
  obtain ⟨n, ds, rfl, h_n, hw⟩ := of_wt_int hw
  obtain ⟨x, ds, rfl, h_x, hw⟩ := of_wt_int hw
  obtain rfl := of_wt_nil hw
  obtain ⟨N, hN⟩ := spec_l01Long_c Vm.bad spec_l01Long_K n x h_n h_x hok
  exact ⟨N, ((spec_l01Long_r N n x).trans hN).trans (by kernel_rfl)⟩

end
end Go.Proofs.Ytfnkhejoihnlnaa.Pl
