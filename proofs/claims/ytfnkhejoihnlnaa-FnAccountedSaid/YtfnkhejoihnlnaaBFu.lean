/- The contracts of functions of the program: each computes what its plain form says. Conditions: none. -/
import Derived.Test.YtfnkhejoihnlnaaPFu
import Derived.Test.YtfnkhejoihnlnaaRows
import Derived.Test.YtfnkhejoihnlnaaBBa
set_option linter.unusedVariables false
set_option linter.unusedSimpArgs false
set_option maxRecDepth 100000
namespace Go.Proofs.Ytfnkhejoihnlnaa.Pl
open Vm
noncomputable section

def impl_FunctionAt_s : Sum := { ps := [⟨[.sl [.int .i64, .int .i64, .int .i64, .int .i64, .int .i64, .bool, .int .i64, .int .i64]], false⟩, ⟨[.int .i64], false⟩], rs := [⟨[.imm (.int .i64)], false⟩], fn := fun ds => (true, [.int (FunctionAt (rR ds 0) (rI ds 1))]) }
def impl_FunctionAt_G : Ctx := []
theorem impl_FunctionAt_x : CtxHolds Try.prog impl_FunctionAt_G := ctx_nil
def impl_FunctionAt_A : List (Nat × Ann) := [(2, { slots := [(1, .asis), (7, .asis), (8, .asis), (9, .asis)], boxes := [] })]
def impl_FunctionAt_K : Int → Res := (fun r0 => ((true, [.int r0]) : Res))
def impl_FunctionAt_m0 (port : Int) (list_ : Rows) (x_1 : Int) (x_2 : Int) : St := { n := 20, sl := [(1, .int .i64 port), (7, .sl [.int .i64, .int .i64, .int .i64, .int .i64, .int .i64, .bool, .int .i64, .int .i64] list_), (8, .int .i64 x_1), (9, .int .i64 x_2)], hp := [], ok := true, ls := [], lm := [] }
noncomputable def impl_FunctionAt_B0 (N : Nat) : (St → Res) → St → Res := loopB Try.prog impl_FunctionAt_G impl_FunctionAt_A N Try.f14 impl_FunctionAt_s [true, false, true, false] []
theorem impl_FunctionAt_b0 (N : Nat) (port : Int) (list_ : Rows) (x_1 : Int) (ih : St → Res) (x_2 : Int) : impl_FunctionAt_B0 N ih (impl_FunctionAt_m0 port list_ x_1 x_2) = impl_FunctionAt_l0 Vm.bad impl_FunctionAt_K port list_ x_1 (fun x_2 => ih (impl_FunctionAt_m0 port list_ x_1 x_2)) x_2 := by kernel_rfl
theorem impl_FunctionAt_n0 (N : Nat) (port : Int) (list_ : Rows) (x_1 : Int) (m_ : Nat) : (fun x_2 => loopN (impl_FunctionAt_B0 N) m_ (impl_FunctionAt_m0 port list_ x_1 x_2)) = impl_FunctionAt_L0 Vm.bad impl_FunctionAt_K N port list_ x_1 m_ := by
  induction m_ with
  | zero => rfl
  | succ m_ ih =>
    funext x_2
    show impl_FunctionAt_B0 N (loopN (impl_FunctionAt_B0 N) m_) (impl_FunctionAt_m0 port list_ x_1 x_2) = _
    rw [impl_FunctionAt_b0 N port list_ x_1]
    rw [ih]
    rfl
theorem impl_FunctionAt_r (N : Nat) (list_ : Rows) (port : Int) : runF Try.prog impl_FunctionAt_G impl_FunctionAt_A N Try.f14 impl_FunctionAt_s (.sl list_ :: (.int port :: ([]))) = impl_FunctionAt_f Vm.bad impl_FunctionAt_K N list_ port := by
  have h : runF Try.prog impl_FunctionAt_G impl_FunctionAt_A N Try.f14 impl_FunctionAt_s (.sl list_ :: (.int port :: ([]))) = impl_FunctionAt_t Vm.bad impl_FunctionAt_K (fun x_1 x_2 => loopN (impl_FunctionAt_B0 N) N (impl_FunctionAt_m0 port list_ x_1 x_2)) list_ port := by kernel_rfl
  refine h.trans ?_
  unfold impl_FunctionAt_f
  have e0 : (fun x_1 x_2 => loopN (impl_FunctionAt_B0 N) N (impl_FunctionAt_m0 port list_ x_1 x_2)) = (fun x_1 => impl_FunctionAt_L0 Vm.bad impl_FunctionAt_K N port list_ x_1 N) := by
    funext x_1
    exact impl_FunctionAt_n0 N port list_ x_1 N
  exact congrArg (fun l_ => impl_FunctionAt_t Vm.bad impl_FunctionAt_K l_ list_ port) e0
theorem impl_FunctionAt_h : Holds Try.prog 14 impl_FunctionAt_s := by
  refine holds_of_run (A := impl_FunctionAt_A) impl_FunctionAt_x Try.func14 rfl (by kernel_rfl) (of_decide_eq_true (by kernel_rfl)) (of_decide_eq_true (by kernel_rfl)) ?_
  intro ds hw hok
  replace hw : WtL ((.sl [.int .i64, .int .i64, .int .i64, .int .i64, .int .i64, .bool, .int .i64, .int .i64]) :: ((.int .i64) :: ([]))) ds := hw
  obtain ⟨list_, ds, rfl, h_list_, hw⟩ := of_wt_sl hw
  obtain ⟨port, ds, rfl, h_port, hw⟩ := of_wt_int hw
  obtain rfl := of_wt_nil hw
  obtain ⟨N, hN⟩ := impl_FunctionAt_c Vm.bad impl_FunctionAt_K list_ port h_list_ h_port
  exact ⟨N, ((impl_FunctionAt_r N list_ port).trans hN).trans (by kernel_rfl)⟩

end
end Go.Proofs.Ytfnkhejoihnlnaa.Pl
