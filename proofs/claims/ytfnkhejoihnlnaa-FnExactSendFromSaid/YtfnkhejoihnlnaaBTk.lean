/- The contracts of functions of the program: each computes what its plain form says. Conditions: none. -/
import Derived.Test.YtfnkhejoihnlnaaPTk
import Derived.Test.YtfnkhejoihnlnaaRows
import Derived.Test.YtfnkhejoihnlnaaBFo
set_option linter.unusedVariables false
set_option linter.unusedSimpArgs false
set_option maxRecDepth 100000
namespace Go.Proofs.Ytfnkhejoihnlnaa.Pl
open Vm
noncomputable section

def laws_markVirtualFunctionS_s : Sum := { ps := [⟨[.sl [.int .i64, .int .i64, .int .i64, .int .i64, .int .i64, .bool, .int .i64, .int .i64]], false⟩, ⟨[.int .i64], false⟩], rs := [⟨[.imm (.int .i64)], false⟩], fn := fun ds => (mko 8 (rR ds 0) (rI ds 1), [.int (markVirtualFunctionS (rR ds 0) (rI ds 1)).1] ++ [.sl (markVirtualFunctionS (rR ds 0) (rI ds 1)).2]), ms := [some (.rows [.flat 66]), none] }
def laws_markVirtualFunctionS_G : Ctx := []
theorem laws_markVirtualFunctionS_x : CtxHolds Try.prog laws_markVirtualFunctionS_G := ctx_nil
def laws_markVirtualFunctionS_A : List (Nat × Ann) := [(2, { slots := [(0, .asis), (1, .asis), (5, .asis)], boxes := [] })]
def laws_markVirtualFunctionS_K : Int → Rows → Res := (fun r0 r1 => ((true, [.int r0] ++ [.sl r1]) : Res))
def laws_markVirtualFunctionS_m0 (k_1 : Int) (i : Int) (a_1 : Rows) : St := { n := 1099511627850, sl := [(0, .own 640000), (1, .int .i64 k_1), (5, .int .i64 i)], hp := [(640000, .row 66 [.int .i64, .int .i64, .int .i64, .int .i64, .int .i64, .bool, .int .i64, .int .i64] a_1 false true)], ok := true, ls := [], lm := [] }
noncomputable def laws_markVirtualFunctionS_B0 (N : Nat) : (St → Res) → St → Res := loopBM Try.prog laws_markVirtualFunctionS_G laws_markVirtualFunctionS_A N Try.f18 laws_markVirtualFunctionS_s [true, false, true, false] []
theorem laws_markVirtualFunctionS_b0 (N : Nat) (ih : St → Res) (k_1 : Int) (i : Int) (a_1 : Rows) : laws_markVirtualFunctionS_B0 N ih (laws_markVirtualFunctionS_m0 k_1 i a_1) = laws_markVirtualFunctionS_l0 Vm.bad laws_markVirtualFunctionS_K (fun k_1 i a_1 => ih (laws_markVirtualFunctionS_m0 k_1 i a_1)) k_1 i a_1 := by kernel_rfl
theorem laws_markVirtualFunctionS_n0 (N : Nat) (m_ : Nat) : (fun k_1 i a_1 => loopN (laws_markVirtualFunctionS_B0 N) m_ (laws_markVirtualFunctionS_m0 k_1 i a_1)) = laws_markVirtualFunctionS_L0 Vm.bad laws_markVirtualFunctionS_K N m_ := by
  induction m_ with
  | zero => rfl
  | succ m_ ih =>
    funext k_1 i a_1
    show laws_markVirtualFunctionS_B0 N (loopN (laws_markVirtualFunctionS_B0 N) m_) (laws_markVirtualFunctionS_m0 k_1 i a_1) = _
    rw [laws_markVirtualFunctionS_b0 N]
    rw [ih]
    rfl
theorem laws_markVirtualFunctionS_r (N : Nat) (a : Rows) (k : Int) : runFM Try.prog laws_markVirtualFunctionS_G laws_markVirtualFunctionS_A N Try.f18 laws_markVirtualFunctionS_s (.sl a :: (.int k :: ([]))) = laws_markVirtualFunctionS_f Vm.bad laws_markVirtualFunctionS_K N a k := by
  have run_ : runFM Try.prog laws_markVirtualFunctionS_G laws_markVirtualFunctionS_A N Try.f18 laws_markVirtualFunctionS_s (.sl a :: (.int k :: ([]))) = laws_markVirtualFunctionS_t Vm.bad laws_markVirtualFunctionS_K (fun k_1 i a_1 => loopN (laws_markVirtualFunctionS_B0 N) N (laws_markVirtualFunctionS_m0 k_1 i a_1)) a k := by kernel_rfl
  refine run_.trans ?_
  unfold laws_markVirtualFunctionS_f
  have e0 : (fun k_1 i a_1 => loopN (laws_markVirtualFunctionS_B0 N) N (laws_markVirtualFunctionS_m0 k_1 i a_1)) = (laws_markVirtualFunctionS_L0 Vm.bad laws_markVirtualFunctionS_K N N) := by
    exact laws_markVirtualFunctionS_n0 N N
  exact congrArg (fun l_ => laws_markVirtualFunctionS_t Vm.bad laws_markVirtualFunctionS_K l_ a k) e0
theorem laws_markVirtualFunctionS_h : HoldsM Try.prog 18 laws_markVirtualFunctionS_s := by
  refine holdsM_of_run (A := laws_markVirtualFunctionS_A) laws_markVirtualFunctionS_x Try.func18 rfl (by kernel_rfl) (of_decide_eq_true (by kernel_rfl)) (of_decide_eq_true (by kernel_rfl)) (by kernel_rfl) (fun ds => by kernel_rfl) ?_
  intro ds hw hok
  replace hw : WtL ((.sl [.int .i64, .int .i64, .int .i64, .int .i64, .int .i64, .bool, .int .i64, .int .i64]) :: ((.int .i64) :: ([]))) ds := hw
  obtain ⟨a, ds, rfl, h_a, hw⟩ := of_wt_sl hw
  obtain ⟨k, ds, rfl, h_k, hw⟩ := of_wt_int hw
  obtain rfl := of_wt_nil hw
  obtain ⟨N, hN⟩ := laws_markVirtualFunctionS_c Vm.bad laws_markVirtualFunctionS_K a k h_a h_k hok
  exact ⟨N, ((laws_markVirtualFunctionS_r N a k).trans hN).trans (by kernel_rfl)⟩

def laws_heldVirtualFunctionS_s : Sum := { ps := [⟨[.sl [.int .i64, .int .i64, .int .i64, .int .i64, .int .i64, .bool, .int .i64, .int .i64]], false⟩, ⟨[.int .i64], false⟩], rs := [⟨[.imm (.int .i64)], false⟩], fn := fun ds => (hdo fVirtualFunctionS 8 (rR ds 0) (rI ds 1), [.int (heldVirtualFunctionS (rR ds 0) (rI ds 1))]) }
def laws_heldVirtualFunctionS_G : Ctx := []
theorem laws_heldVirtualFunctionS_x : CtxHolds Try.prog laws_heldVirtualFunctionS_G := ctx_nil
def laws_heldVirtualFunctionS_A : List (Nat × Ann) := [(2, { slots := [(0, .asis), (1, .asis), (5, .asis)], boxes := [] })]
def laws_heldVirtualFunctionS_K : Int → Res := (fun r0 => ((true, [.int r0]) : Res))
def laws_heldVirtualFunctionS_m0 (a : Rows) (k_1 : Int) (i : Int) : St := { n := 90, sl := [(0, .sl [.int .i64, .int .i64, .int .i64, .int .i64, .int .i64, .bool, .int .i64, .int .i64] a), (1, .int .i64 k_1), (5, .int .i64 i)], hp := [], ok := true, ls := [], lm := [] }
noncomputable def laws_heldVirtualFunctionS_B0 (N : Nat) : (St → Res) → St → Res := loopB Try.prog laws_heldVirtualFunctionS_G laws_heldVirtualFunctionS_A N Try.f19 laws_heldVirtualFunctionS_s [true, false, true, false] []
theorem laws_heldVirtualFunctionS_b0 (N : Nat) (a : Rows) (ih : St → Res) (k_1 : Int) (i : Int) : laws_heldVirtualFunctionS_B0 N ih (laws_heldVirtualFunctionS_m0 a k_1 i) = laws_heldVirtualFunctionS_l0 Vm.bad laws_heldVirtualFunctionS_K a (fun k_1 i => ih (laws_heldVirtualFunctionS_m0 a k_1 i)) k_1 i := by kernel_rfl
theorem laws_heldVirtualFunctionS_n0 (N : Nat) (a : Rows) (m_ : Nat) : (fun k_1 i => loopN (laws_heldVirtualFunctionS_B0 N) m_ (laws_heldVirtualFunctionS_m0 a k_1 i)) = laws_heldVirtualFunctionS_L0 Vm.bad laws_heldVirtualFunctionS_K N a m_ := by
  induction m_ with
  | zero => rfl
  | succ m_ ih =>
    funext k_1 i
    show laws_heldVirtualFunctionS_B0 N (loopN (laws_heldVirtualFunctionS_B0 N) m_) (laws_heldVirtualFunctionS_m0 a k_1 i) = _
    rw [laws_heldVirtualFunctionS_b0 N a]
    rw [ih]
    rfl
theorem laws_heldVirtualFunctionS_r (N : Nat) (a : Rows) (k : Int) : runF Try.prog laws_heldVirtualFunctionS_G laws_heldVirtualFunctionS_A N Try.f19 laws_heldVirtualFunctionS_s (.sl a :: (.int k :: ([]))) = laws_heldVirtualFunctionS_f Vm.bad laws_heldVirtualFunctionS_K N a k := by
  have run_ : runF Try.prog laws_heldVirtualFunctionS_G laws_heldVirtualFunctionS_A N Try.f19 laws_heldVirtualFunctionS_s (.sl a :: (.int k :: ([]))) = laws_heldVirtualFunctionS_t Vm.bad laws_heldVirtualFunctionS_K (fun k_1 i => loopN (laws_heldVirtualFunctionS_B0 N) N (laws_heldVirtualFunctionS_m0 a k_1 i)) a k := by kernel_rfl
  refine run_.trans ?_
  unfold laws_heldVirtualFunctionS_f
  have e0 : (fun k_1 i => loopN (laws_heldVirtualFunctionS_B0 N) N (laws_heldVirtualFunctionS_m0 a k_1 i)) = (laws_heldVirtualFunctionS_L0 Vm.bad laws_heldVirtualFunctionS_K N a N) := by
    exact laws_heldVirtualFunctionS_n0 N a N
  exact congrArg (fun l_ => laws_heldVirtualFunctionS_t Vm.bad laws_heldVirtualFunctionS_K l_ a k) e0
theorem laws_heldVirtualFunctionS_h : Holds Try.prog 19 laws_heldVirtualFunctionS_s := by
  refine holds_of_run (A := laws_heldVirtualFunctionS_A) laws_heldVirtualFunctionS_x Try.func19 rfl (by kernel_rfl) (of_decide_eq_true (by kernel_rfl)) (of_decide_eq_true (by kernel_rfl)) ?_
  intro ds hw hok
  replace hw : WtL ((.sl [.int .i64, .int .i64, .int .i64, .int .i64, .int .i64, .bool, .int .i64, .int .i64]) :: ((.int .i64) :: ([]))) ds := hw
  obtain ⟨a, ds, rfl, h_a, hw⟩ := of_wt_sl hw
  obtain ⟨k, ds, rfl, h_k, hw⟩ := of_wt_int hw
  obtain rfl := of_wt_nil hw
  obtain ⟨N, hN⟩ := laws_heldVirtualFunctionS_c Vm.bad laws_heldVirtualFunctionS_K a k h_a h_k hok
  exact ⟨N, ((laws_heldVirtualFunctionS_r N a k).trans hN).trans (by kernel_rfl)⟩

def impl_copyFunctions_s : Sum := { ps := [⟨[.sl [.int .i64, .int .i64, .int .i64, .int .i64, .int .i64, .bool, .int .i64, .int .i64]], false⟩], rs := [⟨[.own 66 [.int .i64, .int .i64, .int .i64, .int .i64, .int .i64, .bool, .int .i64, .int .i64]], false⟩], fn := fun ds => (sm (rR ds 0), [.sl (idf (rR ds 0))]) }
def impl_copyFunctions_G : Ctx := []
theorem impl_copyFunctions_x : CtxHolds Try.prog impl_copyFunctions_G := ctx_nil
def impl_copyFunctions_A : List (Nat × Ann) := []
theorem impl_copyFunctions_r (N : Nat) (list_ : Rows) : runF Try.prog impl_copyFunctions_G impl_copyFunctions_A N Try.f56 impl_copyFunctions_s (.sl list_ :: ([])) = impl_copyFunctions_t Vm.bad (fun r0 => ((true, [.sl r0]) : Res)) list_ := by kernel_rfl
theorem impl_copyFunctions_h : Holds Try.prog 56 impl_copyFunctions_s := by
  refine holds_of_run (A := impl_copyFunctions_A) impl_copyFunctions_x Try.func56 rfl (by kernel_rfl) (of_decide_eq_true (by kernel_rfl)) (of_decide_eq_true (by kernel_rfl)) ?_
  intro ds hw hok
  replace hw : WtL ((.sl [.int .i64, .int .i64, .int .i64, .int .i64, .int .i64, .bool, .int .i64, .int .i64]) :: ([])) ds := hw
  obtain ⟨list_, ds, rfl, h_list_, hw⟩ := of_wt_sl hw
  obtain rfl := of_wt_nil hw
  exact ⟨0, ((impl_copyFunctions_r 0 list_).trans (impl_copyFunctions_c Vm.bad _ list_ h_list_ hok)).trans (by kernel_rfl)⟩

end
end Go.Proofs.Ytfnkhejoihnlnaa.Pl
