/- The contracts of functions of the program: each computes what its plain form says. Conditions: none. -/
import Derived.Test.YtfnkhejoihnlnaaPFu
import Derived.Test.YtfnkhejoihnlnaaRows
import Derived.Test.YtfnkhejoihnlnaaBBa
set_option linter.unusedVariables false
set_option linter.unusedSimpArgs false
set_option maxRecDepth 100000
namespace Go.Proofs.Ytfnkhejoihnlnaa.Pl
open Vm
noncomputable section

def impl_FunctionAt_s : Sum := { ps := [⟨[.sl [.int .i64, .int .i64, .int .i64, .int .i64, .int .i64, .bool, .int .i64, .int .i64]], false⟩, ⟨[.int .i64], false⟩], rs := [⟨[.imm (.int .i64)], false⟩], fn := fun ds => (true, [.int (FunctionAt (rR ds 0) (rI ds 1))]) }
def impl_FunctionAt_G : Ctx := []
theorem impl_FunctionAt_x : CtxHolds Try.prog impl_FunctionAt_G := ctx_nil
def impl_FunctionAt_A : List (Nat × Ann) := [(2, { slots := [(1, .asis), (7, .asis), (8, .asis), (9, .asis)], boxes := [] })]
def impl_FunctionAt_K : Int → Res := (fun r0 => ((true, [.int r0]) : Res))
def impl_FunctionAt_m0 (port : Int) (list_ : Rows) (x_1 : Int) (x_2 : Int) : St := { n := 20, sl := [(1, .int .i64 port), (7, .sl [.int .i64, .int .i64, .int .i64, .int .i64, .int .i64, .bool, .int .i64, .int .i64] list_), (8, .int .i64 x_1), (9, .int .i64 x_2)], hp := [], ok := true, ls := [], lm := [] }
noncomputable def impl_FunctionAt_B0 (N : Nat) : (St → Res) → St → Res := loopB Try.prog impl_FunctionAt_G impl_FunctionAt_A N Try.f14 impl_FunctionAt_s [true, false, true, false] []
theorem impl_FunctionAt_b0 (N : Nat) (port : Int) (list_ : Rows) (x_1 : Int) (ih : St → Res) (x_2 : Int) : impl_FunctionAt_B0 N ih (impl_FunctionAt_m0 port list_ x_1 x_2) = impl_FunctionAt_l0 Vm.bad impl_FunctionAt_K port list_ x_1 (fun x_2 => ih (impl_FunctionAt_m0 port list_ x_1 x_2)) x_2 := by kernel_rfl
theorem impl_FunctionAt_n0 (N : Nat) (port : Int) (list_ : Rows) (x_1 : Int) (m_ : Nat) : (fun x_2 => loopN (impl_FunctionAt_B0 N) m_ (impl_FunctionAt_m0 port list_ x_1 x_2)) = impl_FunctionAt_L0 Vm.bad impl_FunctionAt_K N port list_ x_1 m_ := by
  induction m_ with
  | zero => rfl
  | succ m_ ih =>
    funext x_2
    show impl_FunctionAt_B0 N (loopN (impl_FunctionAt_B0 N) m_) (impl_FunctionAt_m0 port list_ x_1 x_2) = _
    rw [impl_FunctionAt_b0 N port list_ x_1]
    rw [ih]
    rfl
theorem impl_FunctionAt_r (N : Nat) (list_ : Rows) (port : Int) : runF Try.prog impl_FunctionAt_G impl_FunctionAt_A N Try.f14 impl_FunctionAt_s (.sl list_ :: (.int port :: ([]))) = impl_FunctionAt_f Vm.bad impl_FunctionAt_K N list_ port := by
  have h : runF Try.prog impl_FunctionAt_G impl_FunctionAt_A N Try.f14 impl_FunctionAt_s (.sl list_ :: (.int port :: ([]))) = impl_FunctionAt_t Vm.bad impl_FunctionAt_K (fun x_1 x_2 => loopN (impl_FunctionAt_B0 N) N (impl_FunctionAt_m0 port list_ x_1 x_2)) list_ port := by kernel_rfl
  refine h.trans ?_
  unfold impl_FunctionAt_f
  have e0 : (fun x_1 x_2 => loopN (impl_FunctionAt_B0 N) N (impl_FunctionAt_m0 port list_ x_1 x_2)) = (fun x_1 => impl_FunctionAt_L0 Vm.bad impl_FunctionAt_K N port list_ x_1 N) := by
    funext x_1
    exact impl_FunctionAt_n0 N port list_ x_1 N
  exact congrArg (fun l_ => impl_FunctionAt_t Vm.bad impl_FunctionAt_K l_ list_ port) e0
theorem impl_FunctionAt_h : Holds Try.prog 14 impl_FunctionAt_s := by
  refine holds_of_run (A := impl_FunctionAt_A) impl_FunctionAt_x Try.func14 rfl (by kernel_rfl) (of_decide_eq_true (by kernel_rfl)) (of_decide_eq_true (by kernel_rfl)) ?_
  intro ds hw hok
  replace hw : WtL ((.sl [.int .i64, .int .i64, .int .i64, .int .i64, .int .i64, .bool, .int .i64, .int .i64]) :: ((.int .i64) :: ([]))) ds := hw
  obtain ⟨list_, ds, rfl, h_list_, hw⟩ := of_wt_sl hw
  obtain ⟨port, ds, rfl, h_port, hw⟩ := of_wt_int hw
  obtain rfl := of_wt_nil hw
  obtain ⟨N, hN⟩ := impl_FunctionAt_c Vm.bad impl_FunctionAt_K list_ port h_list_ h_port
  exact ⟨N, ((impl_FunctionAt_r N list_ port).trans hN).trans (by kernel_rfl)⟩

def spec_FunctionAt_s : Sum := { ps := [⟨[.sl [.int .i64, .int .i64, .int .i64, .int .i64, .int .i64, .bool, .int .i64, .int .i64]], false⟩, ⟨[.int .i64], false⟩], rs := [⟨[.imm (.int .i64)], false⟩], fn := fun ds => (true, [.int (FunctionAt (rR ds 0) (rI ds 1))]) }
def spec_FunctionAt_G : Ctx := []
theorem spec_FunctionAt_x : CtxHolds Try.prog spec_FunctionAt_G := ctx_nil
def spec_FunctionAt_A : List (Nat × Ann) := [(2, { slots := [(0, .asis), (1, .asis), (5, .asis)], boxes := [] })]
def spec_FunctionAt_K : Int → Res := (fun r0 => ((true, [.int r0]) : Res))
def spec_FunctionAt_m0 (list_ : Rows) (port : Int) (k : Int) : St := { n := 20, sl := [(0, .sl [.int .i64, .int .i64, .int .i64, .int .i64, .int .i64, .bool, .int .i64, .int .i64] list_), (1, .int .i64 port), (5, .int .i64 k)], hp := [], ok := true, ls := [], lm := [] }
noncomputable def spec_FunctionAt_B0 (N : Nat) : (St → Res) → St → Res := loopB Try.prog spec_FunctionAt_G spec_FunctionAt_A N Try.f12 spec_FunctionAt_s [true, false, true, false] []
theorem spec_FunctionAt_b0 (N : Nat) (list_ : Rows) (port : Int) (ih : St → Res) (k : Int) : spec_FunctionAt_B0 N ih (spec_FunctionAt_m0 list_ port k) = spec_FunctionAt_l0 Vm.bad spec_FunctionAt_K list_ port (fun k => ih (spec_FunctionAt_m0 list_ port k)) k := by kernel_rfl
theorem spec_FunctionAt_n0 (N : Nat) (list_ : Rows) (port : Int) (m_ : Nat) : (fun k => loopN (spec_FunctionAt_B0 N) m_ (spec_FunctionAt_m0 list_ port k)) = spec_FunctionAt_L0 Vm.bad spec_FunctionAt_K N list_ port m_ := by
  induction m_ with
  | zero => rfl
  | succ m_ ih =>
    funext k
    show spec_FunctionAt_B0 N (loopN (spec_FunctionAt_B0 N) m_) (spec_FunctionAt_m0 list_ port k) = _
    rw [spec_FunctionAt_b0 N list_ port]
    rw [ih]
    rfl
theorem spec_FunctionAt_r (N : Nat) (list_ : Rows) (port : Int) : runF Try.prog spec_FunctionAt_G spec_FunctionAt_A N Try.f12 spec_FunctionAt_s (.sl list_ :: (.int port :: ([]))) = spec_FunctionAt_f Vm.bad spec_FunctionAt_K N list_ port := by
  have h : runF Try.prog spec_FunctionAt_G spec_FunctionAt_A N Try.f12 spec_FunctionAt_s (.sl list_ :: (.int port :: ([]))) = spec_FunctionAt_t Vm.bad spec_FunctionAt_K (fun k => loopN (spec_FunctionAt_B0 N) N (spec_FunctionAt_m0 list_ port k)) list_ port := by kernel_rfl
  refine h.trans ?_
  unfold spec_FunctionAt_f
  have e0 : (fun k => loopN (spec_FunctionAt_B0 N) N (spec_FunctionAt_m0 list_ port k)) = (spec_FunctionAt_L0 Vm.bad spec_FunctionAt_K N list_ port N) := by
    exact spec_FunctionAt_n0 N list_ port N
  exact congrArg (fun l_ => spec_FunctionAt_t Vm.bad spec_FunctionAt_K l_ list_ port) e0
theorem spec_FunctionAt_h : Holds Try.prog 12 spec_FunctionAt_s := by
  refine holds_of_run (A := spec_FunctionAt_A) spec_FunctionAt_x Try.func12 rfl (by kernel_rfl) (of_decide_eq_true (by kernel_rfl)) (of_decide_eq_true (by kernel_rfl)) ?_
  intro ds hw hok
  replace hw : WtL ((.sl [.int .i64, .int .i64, .int .i64, .int .i64, .int .i64, .bool, .int .i64, .int .i64]) :: ((.int .i64) :: ([]))) ds := hw
  obtain ⟨list_, ds, rfl, h_list_, hw⟩ := of_wt_sl hw
  obtain ⟨port, ds, rfl, h_port, hw⟩ := of_wt_int hw
  obtain rfl := of_wt_nil hw
  obtain ⟨N, hN⟩ := spec_FunctionAt_c Vm.bad spec_FunctionAt_K list_ port h_list_ h_port
  exact ⟨N, ((spec_FunctionAt_r N list_ port).trans hN).trans (by kernel_rfl)⟩

def laws_FnExactFunctionAt_s : Sum := { ps := [⟨[.sl [.int .i64, .int .i64, .int .i64, .int .i64, .int .i64, .bool, .int .i64, .int .i64]], false⟩, ⟨[.int .i64], false⟩], rs := [⟨[.imm .bool], false⟩], fn := fun ds => (fitL ((.sl [.int .i64, .int .i64, .int .i64, .int .i64, .int .i64, .bool, .int .i64, .int .i64]) :: ((.int .i64) :: ([]))) ds, [.bool true]) }
def laws_FnExactFunctionAt_G : Ctx := [(11, laws_szVirtualFunctionS_s), (12, spec_FunctionAt_s), (13, laws_toVirtualFunctionS_s), (14, impl_FunctionAt_s), (15, laws_eqVirtualFunctionS_s)]
theorem laws_FnExactFunctionAt_x : CtxHolds Try.prog laws_FnExactFunctionAt_G := ctx_cons laws_szVirtualFunctionS_h (ctx_cons spec_FunctionAt_h (ctx_cons laws_toVirtualFunctionS_h (ctx_cons impl_FunctionAt_h (ctx_cons laws_eqVirtualFunctionS_h ctx_nil))))
def laws_FnExactFunctionAt_A : List (Nat × Ann) := []
theorem laws_FnExactFunctionAt_r (N : Nat) (aList : Rows) (aPort : Int) : runF Try.prog laws_FnExactFunctionAt_G laws_FnExactFunctionAt_A N Try.f3 laws_FnExactFunctionAt_s (.sl aList :: (.int aPort :: ([]))) = laws_FnExactFunctionAt_t Vm.bad (fun r0 => ((true, [.bool r0]) : Res)) aList aPort := by kernel_rfl
theorem laws_FnExactFunctionAt_h : Holds Try.prog 3 laws_FnExactFunctionAt_s := by
  refine holds_of_run (A := laws_FnExactFunctionAt_A) laws_FnExactFunctionAt_x Try.func3 rfl (by kernel_rfl) (of_decide_eq_true (by kernel_rfl)) (of_decide_eq_true (by kernel_rfl)) ?_
  intro ds hw hok
  replace hw : WtL ((.sl [.int .i64, .int .i64, .int .i64, .int .i64, .int .i64, .bool, .int .i64, .int .i64]) :: ((.int .i64) :: ([]))) ds := hw
  obtain ⟨aList, ds, rfl, h_aList, hw⟩ := of_wt_sl hw
  obtain ⟨aPort, ds, rfl, h_aPort, hw⟩ := of_wt_int hw
  obtain rfl := of_wt_nil hw
  exact ⟨0, ((laws_FnExactFunctionAt_r 0 aList aPort).trans (laws_FnExactFunctionAt_c Vm.bad _ aList aPort h_aList h_aPort hok)).trans (by kernel_rfl)⟩

end
end Go.Proofs.Ytfnkhejoihnlnaa.Pl
