/- The contracts of functions of the program: each computes what its plain form says. Conditions: none. -/
import Derived.Test.YtdlelfondkajbaaGreatPTq
import Derived.Test.YtdlelfondkajbaaGreatRows
import Derived.Test.YtdlelfondkajbaaGreatBRg
set_option linter.unusedVariables false
set_option linter.unusedSimpArgs false
set_option maxRecDepth 100000
namespace Go.Proofs.YtdlelfondkajbaaGreat.Pl
open Vm
noncomputable section

def impl_TxOk_s : Sum := { ps := [⟨[.int .i64, .int .i64, .int .i64, .int .i64, .int .i64, .int .i64, .int .i64, .sl [.int .i64], .sl [.int .i64, .int .i64, .sl [.int .i64]], .int .i64], true⟩], rs := [⟨[.imm .bool], false⟩], fn := fun ds => (txSm (STxQueue.decAt ds 0), [.bool (TxOk (STxQueue.decAt ds 0))]) }
def impl_TxOk_G : Ctx := [(82, impl_between_s), (84, impl_PoolOk_s), (153, impl_RingOk_s), (154, impl_GiveBuffers_s)]
theorem impl_TxOk_x : CtxHolds Tryz.prog impl_TxOk_G := ctx_cons impl_between_h (ctx_cons impl_PoolOk_h (ctx_cons impl_RingOk_h (ctx_cons impl_GiveBuffers_h ctx_nil)))
def impl_TxOk_A : List (Nat × Ann) := [(6, { slots := [(1, .asis), (3, .asis), (4, .asis), (30, .asis), (31, .asis), (32, .asis)], boxes := [(64, [])] })]
def impl_TxOk_K : Bool → Res := (fun r0 => ((true, [.bool r0]) : Res))
def impl_TxOk_m0 (left : Int) (x : Rows) (x_1 : Int) (x_2 : Int) (q_1 : Int) (q_2 : Int) (q_3 : Int) (q_4 : Int) (q_5 : Int) (q_6 : Int) (q_7 : Int) (q_8 : Rows) (q_9 : Rows) (q_10 : Int) (all : Rows) : St := { n := 68, sl := [(1, .ptr 64 0), (3, .int .i64 left), (4, .own 640256), (30, .sl [.int .i64, .int .i64, .sl [.int .i64]] x), (31, .int .i64 x_1), (32, .int .i64 x_2)], hp := [(64, .box 61 [.int .i64 q_1, .int .i64 q_2, .int .i64 q_3, .int .i64 q_4, .int .i64 q_5, .int .i64 q_6, .int .i64 q_7, .sl [.int .i64] q_8, .sl [.int .i64, .int .i64, .sl [.int .i64]] q_9, .int .i64 q_10]), (640256, .row 3 [.int .i64] all false true)], ok := true, ls := [], lm := [] }
noncomputable def impl_TxOk_B0 (N : Nat) : (St → Res) → St → Res := loopB Tryz.prog impl_TxOk_G impl_TxOk_A N Tryz.f80 impl_TxOk_s [true, true, true, true, false, true, false] []
theorem impl_TxOk_b0 (N : Nat) (x : Rows) (x_1 : Int) (q_1 : Int) (q_2 : Int) (q_3 : Int) (q_4 : Int) (q_5 : Int) (q_6 : Int) (q_7 : Int) (q_8 : Rows) (q_9 : Rows) (q_10 : Int) (ih : St → Res) (left : Int) (x_2 : Int) (all : Rows) : impl_TxOk_B0 N ih (impl_TxOk_m0 left x x_1 x_2 q_1 q_2 q_3 q_4 q_5 q_6 q_7 q_8 q_9 q_10 all) = impl_TxOk_l0 Vm.bad impl_TxOk_K x x_1 q_5 q_6 q_7 q_8 (fun left x_2 all => ih (impl_TxOk_m0 left x x_1 x_2 q_1 q_2 q_3 q_4 q_5 q_6 q_7 q_8 q_9 q_10 all)) left x_2 all := by kernel_rfl
theorem impl_TxOk_n0 (N : Nat) (x : Rows) (x_1 : Int) (q_1 : Int) (q_2 : Int) (q_3 : Int) (q_4 : Int) (q_5 : Int) (q_6 : Int) (q_7 : Int) (q_8 : Rows) (q_9 : Rows) (q_10 : Int) (m_ : Nat) : (fun left x_2 all => loopN (impl_TxOk_B0 N) m_ (impl_TxOk_m0 left x x_1 x_2 q_1 q_2 q_3 q_4 q_5 q_6 q_7 q_8 q_9 q_10 all)) = impl_TxOk_L0 Vm.bad impl_TxOk_K N x x_1 q_5 q_6 q_7 q_8 m_ := by
  induction m_ with
  | zero => rfl
  | succ m_ ih =>
    funext left x_2 all
    show impl_TxOk_B0 N (loopN (impl_TxOk_B0 N) m_) (impl_TxOk_m0 left x x_1 x_2 q_1 q_2 q_3 q_4 q_5 q_6 q_7 q_8 q_9 q_10 all) = _
    rw [impl_TxOk_b0 N x x_1 q_1 q_2 q_3 q_4 q_5 q_6 q_7 q_8 q_9 q_10]
    rw [ih]
    rfl
theorem impl_TxOk_r (N : Nat) (q : STxQueue) : runF Tryz.prog impl_TxOk_G impl_TxOk_A N Tryz.f80 impl_TxOk_s (q.enc ++ ([])) = impl_TxOk_f Vm.bad impl_TxOk_K N q := by
  have run_ : runF Tryz.prog impl_TxOk_G impl_TxOk_A N Tryz.f80 impl_TxOk_s (q.enc ++ ([])) = impl_TxOk_t Vm.bad impl_TxOk_K (fun x x_1 q_5 q_6 q_7 q_8 left x_2 all => loopN (impl_TxOk_B0 N) N (impl_TxOk_m0 left x x_1 x_2 q.Ring.Base q.Ring.Size q.Ring.Head q.Ring.Tail q_5 q_6 q_7 q_8 q.Waiting q.Next all)) q := by kernel_rfl
  refine run_.trans ?_
  unfold impl_TxOk_f
  have e0 : (fun x x_1 q_5 q_6 q_7 q_8 left x_2 all => loopN (impl_TxOk_B0 N) N (impl_TxOk_m0 left x x_1 x_2 q.Ring.Base q.Ring.Size q.Ring.Head q.Ring.Tail q_5 q_6 q_7 q_8 q.Waiting q.Next all)) = (fun x x_1 q_5 q_6 q_7 q_8 => impl_TxOk_L0 Vm.bad impl_TxOk_K N x x_1 q_5 q_6 q_7 q_8 N) := by
    funext x x_1 q_5 q_6 q_7 q_8
    exact impl_TxOk_n0 N x x_1 q.Ring.Base q.Ring.Size q.Ring.Head q.Ring.Tail q_5 q_6 q_7 q_8 q.Waiting q.Next N
  exact congrArg (fun l_ => impl_TxOk_t Vm.bad impl_TxOk_K l_ q) e0
theorem impl_TxOk_h : Holds Tryz.prog 80 impl_TxOk_s := by
  refine holds_of_run (A := impl_TxOk_A) impl_TxOk_x Tryz.func80 rfl (by kernel_rfl) (of_decide_eq_true (by kernel_rfl)) (of_decide_eq_true (by kernel_rfl)) ?_
  intro ds hw hok
  replace hw : WtL (STxQueue.ct ++ ([])) ds := hw
  obtain ⟨q, ds, rfl, h_q, hw⟩ := STxQueue.of_wt (r := _) hw
  obtain rfl := of_wt_nil hw
  obtain ⟨N, hN⟩ := impl_TxOk_c Vm.bad impl_TxOk_K q h_q hok
  exact ⟨N, ((impl_TxOk_r N q).trans hN).trans (by kernel_rfl)⟩

def spec_TxOk_s : Sum := { ps := [⟨[.int .i64, .int .i64, .int .i64, .int .i64, .int .i64, .int .i64, .int .i64, .sl [.int .i64], .sl [.int .i64, .int .i64, .sl [.int .i64]], .int .i64], true⟩], rs := [⟨[.imm .bool], false⟩], fn := fun ds => (txSm (STxQueue.decAt ds 0), [.bool (TxOk (STxQueue.decAt ds 0))]) }
def spec_TxOk_G : Ctx := [(73, spec_l01In_s), (76, spec_PoolOk_s), (144, spec_RingOk_s), (145, spec_GiveBuffers_s)]
theorem spec_TxOk_x : CtxHolds Tryz.prog spec_TxOk_G := ctx_cons spec_l01In_h (ctx_cons spec_PoolOk_h (ctx_cons spec_RingOk_h (ctx_cons spec_GiveBuffers_h ctx_nil)))
def spec_TxOk_A : List (Nat × Ann) := [(6, { slots := [(1, .asis), (3, .asis), (4, .asis), (5, .asis)], boxes := [(64, [])] })]
def spec_TxOk_K : Bool → Res := (fun r0 => ((true, [.bool r0]) : Res))
def spec_TxOk_m0 (slots : Int) (k : Int) (q_1 : Int) (q_2 : Int) (q_3 : Int) (q_4 : Int) (q_5 : Int) (q_6 : Int) (q_7 : Int) (q_8 : Rows) (q_9 : Rows) (q_10 : Int) (all : Rows) : St := { n := 74, sl := [(1, .ptr 64 0), (3, .int .i64 slots), (4, .own 640256), (5, .int .i64 k)], hp := [(64, .box 61 [.int .i64 q_1, .int .i64 q_2, .int .i64 q_3, .int .i64 q_4, .int .i64 q_5, .int .i64 q_6, .int .i64 q_7, .sl [.int .i64] q_8, .sl [.int .i64, .int .i64, .sl [.int .i64]] q_9, .int .i64 q_10]), (640256, .row 3 [.int .i64] all false true)], ok := true, ls := [], lm := [] }
noncomputable def spec_TxOk_B0 (N : Nat) : (St → Res) → St → Res := loopB Tryz.prog spec_TxOk_G spec_TxOk_A N Tryz.f71 spec_TxOk_s [true, true, true, true, false, true, false] []
theorem spec_TxOk_b0 (N : Nat) (q_1 : Int) (q_2 : Int) (q_3 : Int) (q_4 : Int) (q_5 : Int) (q_6 : Int) (q_7 : Int) (q_8 : Rows) (q_9 : Rows) (q_10 : Int) (ih : St → Res) (slots : Int) (k : Int) (all : Rows) : spec_TxOk_B0 N ih (spec_TxOk_m0 slots k q_1 q_2 q_3 q_4 q_5 q_6 q_7 q_8 q_9 q_10 all) = spec_TxOk_l0 Vm.bad spec_TxOk_K q_2 q_5 q_6 q_7 q_8 q_9 (fun slots k all => ih (spec_TxOk_m0 slots k q_1 q_2 q_3 q_4 q_5 q_6 q_7 q_8 q_9 q_10 all)) slots k all := by kernel_rfl
theorem spec_TxOk_n0 (N : Nat) (q_1 : Int) (q_2 : Int) (q_3 : Int) (q_4 : Int) (q_5 : Int) (q_6 : Int) (q_7 : Int) (q_8 : Rows) (q_9 : Rows) (q_10 : Int) (m_ : Nat) : (fun slots k all => loopN (spec_TxOk_B0 N) m_ (spec_TxOk_m0 slots k q_1 q_2 q_3 q_4 q_5 q_6 q_7 q_8 q_9 q_10 all)) = spec_TxOk_L0 Vm.bad spec_TxOk_K N q_2 q_5 q_6 q_7 q_8 q_9 m_ := by
  induction m_ with
  | zero => rfl
  | succ m_ ih =>
    funext slots k all
    show spec_TxOk_B0 N (loopN (spec_TxOk_B0 N) m_) (spec_TxOk_m0 slots k q_1 q_2 q_3 q_4 q_5 q_6 q_7 q_8 q_9 q_10 all) = _
    rw [spec_TxOk_b0 N q_1 q_2 q_3 q_4 q_5 q_6 q_7 q_8 q_9 q_10]
    rw [ih]
    rfl
theorem spec_TxOk_r (N : Nat) (q : STxQueue) : runF Tryz.prog spec_TxOk_G spec_TxOk_A N Tryz.f71 spec_TxOk_s (q.enc ++ ([])) = spec_TxOk_f Vm.bad spec_TxOk_K N q := by
  have run_ : runF Tryz.prog spec_TxOk_G spec_TxOk_A N Tryz.f71 spec_TxOk_s (q.enc ++ ([])) = spec_TxOk_t Vm.bad spec_TxOk_K (fun q_2 q_5 q_6 q_7 q_8 q_9 slots k all => loopN (spec_TxOk_B0 N) N (spec_TxOk_m0 slots k q.Ring.Base q_2 q.Ring.Head q.Ring.Tail q_5 q_6 q_7 q_8 q_9 q.Next all)) q := by kernel_rfl
  refine run_.trans ?_
  unfold spec_TxOk_f
  have e0 : (fun q_2 q_5 q_6 q_7 q_8 q_9 slots k all => loopN (spec_TxOk_B0 N) N (spec_TxOk_m0 slots k q.Ring.Base q_2 q.Ring.Head q.Ring.Tail q_5 q_6 q_7 q_8 q_9 q.Next all)) = (fun q_2 q_5 q_6 q_7 q_8 q_9 => spec_TxOk_L0 Vm.bad spec_TxOk_K N q_2 q_5 q_6 q_7 q_8 q_9 N) := by
    funext q_2 q_5 q_6 q_7 q_8 q_9
    exact spec_TxOk_n0 N q.Ring.Base q_2 q.Ring.Head q.Ring.Tail q_5 q_6 q_7 q_8 q_9 q.Next N
  exact congrArg (fun l_ => spec_TxOk_t Vm.bad spec_TxOk_K l_ q) e0
theorem spec_TxOk_h : Holds Tryz.prog 71 spec_TxOk_s := by
  refine holds_of_run (A := spec_TxOk_A) spec_TxOk_x Tryz.func71 rfl (by kernel_rfl) (of_decide_eq_true (by kernel_rfl)) (of_decide_eq_true (by kernel_rfl)) ?_
  intro ds hw hok
  replace hw : WtL (STxQueue.ct ++ ([])) ds := hw
  obtain ⟨q, ds, rfl, h_q, hw⟩ := STxQueue.of_wt (r := _) hw
  obtain rfl := of_wt_nil hw
  obtain ⟨N, hN⟩ := spec_TxOk_c Vm.bad spec_TxOk_K q h_q hok
  exact ⟨N, ((spec_TxOk_r N q).trans hN).trans (by kernel_rfl)⟩

end
end Go.Proofs.YtdlelfondkajbaaGreat.Pl
