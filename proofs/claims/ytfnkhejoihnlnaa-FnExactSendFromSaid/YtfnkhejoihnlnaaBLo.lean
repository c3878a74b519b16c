/- The contracts of functions of the program: each computes what its plain form says. Conditions: none. -/
import Derived.Test.YtfnkhejoihnlnaaPLo
import Derived.Test.YtfnkhejoihnlnaaRows
import Derived.Test.YtfnkhejoihnlnaaBBa
set_option linter.unusedVariables false
set_option linter.unusedSimpArgs false
set_option maxRecDepth 100000
namespace Go.Proofs.Ytfnkhejoihnlnaa.Pl
open Vm
noncomputable section

def spec_l01Long_s : Sum := { ps := [⟨[.int .i64], false⟩, ⟨[.int .u8], false⟩], rs := [⟨[.imm .str], false⟩], fn := fun ds => (l01Long_ok (rI ds 0) (rI ds 1), [.str (l01Long (rI ds 0) (rI ds 1))]) }
def spec_l01Long_G : Ctx := []
theorem spec_l01Long_x : CtxHolds Try.prog spec_l01Long_G := ctx_nil
def spec_l01Long_A : List (Nat × Ann) := [(3, { slots := [(0, .asis), (1, .asis), (5, .asis), (6, .asis)], boxes := [] })]
def spec_l01Long_K : Bytes → Res := (fun r0 => ((true, [.str r0]) : Res))
def spec_l01Long_m0 (n : Int) (x : Int) (i : Int) (out_ : Rows) : St := { n := 20, sl := [(0, .int .i64 n), (1, .int .u8 x), (5, .own 640320), (6, .int .i64 i)], hp := [(640320, .row 5 [.int .u8] out_ false true)], ok := true, ls := [], lm := [] }
noncomputable def spec_l01Long_B0 (N : Nat) : (St → Res) → St → Res := loopB Try.prog spec_l01Long_G spec_l01Long_A N Try.f76 spec_l01Long_s [true, true, false, true, false] []
theorem spec_l01Long_b0 (N : Nat) (n : Int) (x : Int) (ih : St → Res) (i : Int) (out_ : Rows) : spec_l01Long_B0 N ih (spec_l01Long_m0 n x i out_) = spec_l01Long_l0 Vm.bad spec_l01Long_K n x (fun i out_ => ih (spec_l01Long_m0 n x i out_)) i out_ := by kernel_rfl
theorem spec_l01Long_n0 (N : Nat) (n : Int) (x : Int) (m_ : Nat) : (fun i out_ => loopN (spec_l01Long_B0 N) m_ (spec_l01Long_m0 n x i out_)) = spec_l01Long_L0 Vm.bad spec_l01Long_K N n x m_ := by
  induction m_ with
  | zero => rfl
  | succ m_ ih =>
    funext i out_
    show spec_l01Long_B0 N (loopN (spec_l01Long_B0 N) m_) (spec_l01Long_m0 n x i out_) = _
    rw [spec_l01Long_b0 N n x]
    rw [ih]
    rfl
theorem spec_l01Long_r (N : Nat) (n : Int) (x : Int) : runF Try.prog spec_l01Long_G spec_l01Long_A N Try.f76 spec_l01Long_s (.int n :: (.int x :: ([]))) = spec_l01Long_f Vm.bad spec_l01Long_K N n x := by
  have run_ : runF Try.prog spec_l01Long_G spec_l01Long_A N Try.f76 spec_l01Long_s (.int n :: (.int x :: ([]))) = spec_l01Long_t Vm.bad spec_l01Long_K (fun i out_ => loopN (spec_l01Long_B0 N) N (spec_l01Long_m0 n x i out_)) n x := by kernel_rfl
  refine run_.trans ?_
  unfold spec_l01Long_f
  have e0 : (fun i out_ => loopN (spec_l01Long_B0 N) N (spec_l01Long_m0 n x i out_)) = (spec_l01Long_L0 Vm.bad spec_l01Long_K N n x N) := by
    exact spec_l01Long_n0 N n x N
  exact congrArg (fun l_ => spec_l01Long_t Vm.bad spec_l01Long_K l_ n x) e0
theorem spec_l01Long_h : Holds Try.prog 76 spec_l01Long_s := by
  refine holds_of_run (A := spec_l01Long_A) spec_l01Long_x Try.func76 rfl (by kernel_rfl) (of_decide_eq_true (by kernel_rfl)) (of_decide_eq_true (by kernel_rfl)) ?_
  intro ds hw hok
  replace hw : WtL ((.int .i64) :: ((.int .u8) :: ([]))) ds := hw
  obtain ⟨n, ds, rfl, h_n, hw⟩ := of_wt_int hw
  obtain ⟨x, ds, rfl, h_x, hw⟩ := of_wt_int hw
  obtain rfl := of_wt_nil hw
  obtain ⟨N, hN⟩ := spec_l01Long_c Vm.bad spec_l01Long_K n x h_n h_x hok
  exact ⟨N, ((spec_l01Long_r N n x).trans hN).trans (by kernel_rfl)⟩

def impl_repeat_s : Sum := { ps := [⟨[.int .u8], false⟩, ⟨[.int .i64], false⟩], rs := [⟨[.imm .str], false⟩], fn := fun ds => (repeat_ok (rI ds 0) (rI ds 1), [.str (repeatB (rI ds 0) (rI ds 1))]) }
def impl_repeat_G : Ctx := []
theorem impl_repeat_x : CtxHolds Try.prog impl_repeat_G := ctx_nil
def impl_repeat_A : List (Nat × Ann) := [(3, { slots := [(0, .asis), (5, .asis), (10, .asis), (11, .asis)], boxes := [] })]
def impl_repeat_K : Bytes → Res := (fun r0 => ((true, [.str r0]) : Res))
def impl_repeat_m0 (b : Int) (x : Int) (x_1 : Int) (out_ : Rows) : St := { n := 21, sl := [(0, .int .u8 b), (5, .own 640320), (10, .int .i64 x), (11, .int .i64 x_1)], hp := [(640320, .row 5 [.int .u8] out_ false true)], ok := true, ls := [], lm := [] }
noncomputable def impl_repeat_B0 (N : Nat) : (St → Res) → St → Res := loopB Try.prog impl_repeat_G impl_repeat_A N Try.f147 impl_repeat_s [true, true, false, true, false] []
theorem impl_repeat_b0 (N : Nat) (b : Int) (x : Int) (ih : St → Res) (x_1 : Int) (out_ : Rows) : impl_repeat_B0 N ih (impl_repeat_m0 b x x_1 out_) = impl_repeat_l0 Vm.bad impl_repeat_K b x (fun x_1 out_ => ih (impl_repeat_m0 b x x_1 out_)) x_1 out_ := by kernel_rfl
theorem impl_repeat_n0 (N : Nat) (b : Int) (x : Int) (m_ : Nat) : (fun x_1 out_ => loopN (impl_repeat_B0 N) m_ (impl_repeat_m0 b x x_1 out_)) = impl_repeat_L0 Vm.bad impl_repeat_K N b x m_ := by
  induction m_ with
  | zero => rfl
  | succ m_ ih =>
    funext x_1 out_
    show impl_repeat_B0 N (loopN (impl_repeat_B0 N) m_) (impl_repeat_m0 b x x_1 out_) = _
    rw [impl_repeat_b0 N b x]
    rw [ih]
    rfl
theorem impl_repeat_r (N : Nat) (b : Int) (n : Int) : runF Try.prog impl_repeat_G impl_repeat_A N Try.f147 impl_repeat_s (.int b :: (.int n :: ([]))) = impl_repeat_f Vm.bad impl_repeat_K N b n := by
  have run_ : runF Try.prog impl_repeat_G impl_repeat_A N Try.f147 impl_repeat_s (.int b :: (.int n :: ([]))) = impl_repeat_t Vm.bad impl_repeat_K (fun x x_1 out_ => loopN (impl_repeat_B0 N) N (impl_repeat_m0 b x x_1 out_)) b n := by kernel_rfl
  refine run_.trans ?_
  unfold impl_repeat_f
  have e0 : (fun x x_1 out_ => loopN (impl_repeat_B0 N) N (impl_repeat_m0 b x x_1 out_)) = (fun x => impl_repeat_L0 Vm.bad impl_repeat_K N b x N) := by
    funext x
    exact impl_repeat_n0 N b x N
  exact congrArg (fun l_ => impl_repeat_t Vm.bad impl_repeat_K l_ b n) e0
theorem impl_repeat_h : Holds Try.prog 147 impl_repeat_s := by
  refine holds_of_run (A := impl_repeat_A) impl_repeat_x Try.func147 rfl (by kernel_rfl) (of_decide_eq_true (by kernel_rfl)) (of_decide_eq_true (by kernel_rfl)) ?_
  intro ds hw hok
  replace hw : WtL ((.int .u8) :: ((.int .i64) :: ([]))) ds := hw
  obtain ⟨b, ds, rfl, h_b, hw⟩ := of_wt_int hw
  obtain ⟨n, ds, rfl, h_n, hw⟩ := of_wt_int hw
  obtain rfl := of_wt_nil hw
  obtain ⟨N, hN⟩ := impl_repeat_c Vm.bad impl_repeat_K b n h_b h_n hok
  exact ⟨N, ((impl_repeat_r N b n).trans hN).trans (by kernel_rfl)⟩

end
end Go.Proofs.Ytfnkhejoihnlnaa.Pl
