/- The contracts of functions of the program: each computes what its plain form says. Conditions: none. -/
import Derived.Test.YthpmalpdnnbkgaaGreatPDm
import Derived.Test.YthpmalpdnnbkgaaGreatRows
import Derived.Test.YthpmalpdnnbkgaaGreatBLs
set_option linter.unusedVariables false
set_option linter.unusedSimpArgs false
set_option maxRecDepth 100000
namespace Go.Proofs.YthpmalpdnnbkgaaGreat.Pl
open Vm
noncomputable section

def laws_markPoolS_s : Sum := { ps := [⟨[.sl [.int .i64, .int .i64, .int .i64, .sl [.int .i64]]], false⟩, ⟨[.int .i64], false⟩], rs := [⟨[.imm (.int .i64)], false⟩], fn := fun ds => (mkdOk fPoolS gPoolS (rR ds 0) (rI ds 1), [.int (markPoolS (rR ds 0) (rI ds 1)).1] ++ [.sl (markPoolS (rR ds 0) (rI ds 1)).2]), ms := [some (.rows [.deep 58 [3]]), none] }
def laws_markPoolS_G : Ctx := [(1125899906842661, annS), (12, laws_markIntS_s)]
theorem laws_markPoolS_x : CtxHolds Tryz.prog laws_markPoolS_G := ctx_cons ann_h (ctx_cons laws_markIntS_h ctx_nil)
def laws_markPoolS_A : List (Nat × Ann) := [(2, { slots := [(0, .asis), (1, .asis), (5, .asis)], boxes := [] })]
def laws_markPoolS_K : Int → Rows → Res := (fun r0 r1 => ((true, [.int r0] ++ [.sl r1]) : Res))
def laws_markPoolS_m0 (k_1 : Int) (i : Int) (a_1 : Rows) : St := { n := 1099511627817, sl := [(0, .own 640000), (1, .int .i64 k_1), (5, .int .i64 i)], hp := [(640000, .deep 58 [.int .i64, .int .i64, .int .i64, .sl [.int .i64]] [3] a_1 none)], ok := true, ls := [], lm := [] }
noncomputable def laws_markPoolS_B0 (N : Nat) : (St → Res) → St → Res := loopBM Tryz.prog laws_markPoolS_G laws_markPoolS_A N Tryz.f59 laws_markPoolS_s [true, false, true, false] []
theorem laws_markPoolS_b0 (N : Nat) (ih : St → Res) (k_1 : Int) (i : Int) (a_1 : Rows) : laws_markPoolS_B0 N ih (laws_markPoolS_m0 k_1 i a_1) = laws_markPoolS_l0 Vm.bad laws_markPoolS_K (fun k_1 i a_1 => ih (laws_markPoolS_m0 k_1 i a_1)) k_1 i a_1 := by kernel_rfl
theorem laws_markPoolS_n0 (N : Nat) (m_ : Nat) : (fun k_1 i a_1 => loopN (laws_markPoolS_B0 N) m_ (laws_markPoolS_m0 k_1 i a_1)) = laws_markPoolS_L0 Vm.bad laws_markPoolS_K N m_ := by
  induction m_ with
  | zero => rfl
  | succ m_ ih =>
    funext k_1 i a_1
    show laws_markPoolS_B0 N (loopN (laws_markPoolS_B0 N) m_) (laws_markPoolS_m0 k_1 i a_1) = _
    rw [laws_markPoolS_b0 N]
    rw [ih]
    rfl
theorem laws_markPoolS_r (N : Nat) (a : Rows) (k : Int) : runFM Tryz.prog laws_markPoolS_G laws_markPoolS_A N Tryz.f59 laws_markPoolS_s (.sl a :: (.int k :: ([]))) = laws_markPoolS_f Vm.bad laws_markPoolS_K N a k := by
  have run_ : runFM Tryz.prog laws_markPoolS_G laws_markPoolS_A N Tryz.f59 laws_markPoolS_s (.sl a :: (.int k :: ([]))) = laws_markPoolS_t Vm.bad laws_markPoolS_K (fun k_1 i a_1 => loopN (laws_markPoolS_B0 N) N (laws_markPoolS_m0 k_1 i a_1)) a k := by kernel_rfl
  refine run_.trans ?_
  unfold laws_markPoolS_f
  have e0 : (fun k_1 i a_1 => loopN (laws_markPoolS_B0 N) N (laws_markPoolS_m0 k_1 i a_1)) = (laws_markPoolS_L0 Vm.bad laws_markPoolS_K N N) := by
    exact laws_markPoolS_n0 N N
  exact congrArg (fun l_ => laws_markPoolS_t Vm.bad laws_markPoolS_K l_ a k) e0
theorem laws_markPoolS_h : HoldsM Tryz.prog 59 laws_markPoolS_s := by
  refine holdsM_of_run (A := laws_markPoolS_A) laws_markPoolS_x Tryz.func59 rfl (by kernel_rfl) (of_decide_eq_true (by kernel_rfl)) (of_decide_eq_true (by kernel_rfl)) (by kernel_rfl) (fun ds => by kernel_rfl) ?_
  intro ds hw hok
  replace hw : WtL ((.sl [.int .i64, .int .i64, .int .i64, .sl [.int .i64]]) :: ((.int .i64) :: ([]))) ds := hw
  obtain ⟨a, ds, rfl, h_a, hw⟩ := of_wt_sl hw
  obtain ⟨k, ds, rfl, h_k, hw⟩ := of_wt_int hw
  obtain rfl := of_wt_nil hw
  obtain ⟨N, hN⟩ := laws_markPoolS_c Vm.bad laws_markPoolS_K a k h_a h_k hok
  exact ⟨N, ((laws_markPoolS_r N a k).trans hN).trans (by kernel_rfl)⟩

def laws_markSentS_s : Sum := { ps := [⟨[.sl [.int .i64, .int .i64, .sl [.int .i64]]], false⟩, ⟨[.int .i64], false⟩], rs := [⟨[.imm (.int .i64)], false⟩], fn := fun ds => (mkdOk fSentS gSentS (rR ds 0) (rI ds 1), [.int (markSentS (rR ds 0) (rI ds 1)).1] ++ [.sl (markSentS (rR ds 0) (rI ds 1)).2]), ms := [some (.rows [.deep 96 [3]]), none] }
def laws_markSentS_G : Ctx := [(1125899906842654, annS), (12, laws_markIntS_s)]
theorem laws_markSentS_x : CtxHolds Tryz.prog laws_markSentS_G := ctx_cons ann_h (ctx_cons laws_markIntS_h ctx_nil)
def laws_markSentS_A : List (Nat × Ann) := [(2, { slots := [(0, .asis), (1, .asis), (5, .asis)], boxes := [] })]
def laws_markSentS_K : Int → Rows → Res := (fun r0 r1 => ((true, [.int r0] ++ [.sl r1]) : Res))
def laws_markSentS_m0 (k_1 : Int) (i : Int) (a_1 : Rows) : St := { n := 1099511627810, sl := [(0, .own 640000), (1, .int .i64 k_1), (5, .int .i64 i)], hp := [(640000, .deep 96 [.int .i64, .int .i64, .sl [.int .i64]] [3] a_1 none)], ok := true, ls := [], lm := [] }
noncomputable def laws_markSentS_B0 (N : Nat) : (St → Res) → St → Res := loopBM Tryz.prog laws_markSentS_G laws_markSentS_A N Tryz.f111 laws_markSentS_s [true, false, true, false] []
theorem laws_markSentS_b0 (N : Nat) (ih : St → Res) (k_1 : Int) (i : Int) (a_1 : Rows) : laws_markSentS_B0 N ih (laws_markSentS_m0 k_1 i a_1) = laws_markSentS_l0 Vm.bad laws_markSentS_K (fun k_1 i a_1 => ih (laws_markSentS_m0 k_1 i a_1)) k_1 i a_1 := by kernel_rfl
theorem laws_markSentS_n0 (N : Nat) (m_ : Nat) : (fun k_1 i a_1 => loopN (laws_markSentS_B0 N) m_ (laws_markSentS_m0 k_1 i a_1)) = laws_markSentS_L0 Vm.bad laws_markSentS_K N m_ := by
  induction m_ with
  | zero => rfl
  | succ m_ ih =>
    funext k_1 i a_1
    show laws_markSentS_B0 N (loopN (laws_markSentS_B0 N) m_) (laws_markSentS_m0 k_1 i a_1) = _
    rw [laws_markSentS_b0 N]
    rw [ih]
    rfl
theorem laws_markSentS_r (N : Nat) (a : Rows) (k : Int) : runFM Tryz.prog laws_markSentS_G laws_markSentS_A N Tryz.f111 laws_markSentS_s (.sl a :: (.int k :: ([]))) = laws_markSentS_f Vm.bad laws_markSentS_K N a k := by
  have run_ : runFM Tryz.prog laws_markSentS_G laws_markSentS_A N Tryz.f111 laws_markSentS_s (.sl a :: (.int k :: ([]))) = laws_markSentS_t Vm.bad laws_markSentS_K (fun k_1 i a_1 => loopN (laws_markSentS_B0 N) N (laws_markSentS_m0 k_1 i a_1)) a k := by kernel_rfl
  refine run_.trans ?_
  unfold laws_markSentS_f
  have e0 : (fun k_1 i a_1 => loopN (laws_markSentS_B0 N) N (laws_markSentS_m0 k_1 i a_1)) = (laws_markSentS_L0 Vm.bad laws_markSentS_K N N) := by
    exact laws_markSentS_n0 N N
  exact congrArg (fun l_ => laws_markSentS_t Vm.bad laws_markSentS_K l_ a k) e0
theorem laws_markSentS_h : HoldsM Tryz.prog 111 laws_markSentS_s := by
  refine holdsM_of_run (A := laws_markSentS_A) laws_markSentS_x Tryz.func111 rfl (by kernel_rfl) (of_decide_eq_true (by kernel_rfl)) (of_decide_eq_true (by kernel_rfl)) (by kernel_rfl) (fun ds => by kernel_rfl) ?_
  intro ds hw hok
  replace hw : WtL ((.sl [.int .i64, .int .i64, .sl [.int .i64]]) :: ((.int .i64) :: ([]))) ds := hw
  obtain ⟨a, ds, rfl, h_a, hw⟩ := of_wt_sl hw
  obtain ⟨k, ds, rfl, h_k, hw⟩ := of_wt_int hw
  obtain rfl := of_wt_nil hw
  obtain ⟨N, hN⟩ := laws_markSentS_c Vm.bad laws_markSentS_K a k h_a h_k hok
  exact ⟨N, ((laws_markSentS_r N a k).trans hN).trans (by kernel_rfl)⟩

def laws_markStreamS_s : Sum := { ps := [⟨[.sl [.int .i64, .int .i64, .int .i64, .int .i64, .int .i64, .int .i64, .str, .bool]], false⟩, ⟨[.int .i64], false⟩], rs := [⟨[.imm (.int .i64)], false⟩], fn := fun ds => (mko 8 (rR ds 0) (rI ds 1), [.int (markStreamS (rR ds 0) (rI ds 1)).1] ++ [.sl (markStreamS (rR ds 0) (rI ds 1)).2]), ms := [some (.rows [.flat 179]), none] }
def laws_markStreamS_G : Ctx := [(112, laws_markText_s)]
theorem laws_markStreamS_x : CtxHolds Tryz.prog laws_markStreamS_G := ctx_cons laws_markText_h ctx_nil
def laws_markStreamS_A : List (Nat × Ann) := [(2, { slots := [(0, .asis), (1, .asis), (5, .asis)], boxes := [] })]
def laws_markStreamS_K : Int → Rows → Res := (fun r0 r1 => ((true, [.int r0] ++ [.sl r1]) : Res))
def laws_markStreamS_m0 (k_1 : Int) (i : Int) (a_1 : Rows) : St := { n := 1099511627853, sl := [(0, .own 640000), (1, .int .i64 k_1), (5, .int .i64 i)], hp := [(640000, .row 179 [.int .i64, .int .i64, .int .i64, .int .i64, .int .i64, .int .i64, .str, .bool] a_1 false true)], ok := true, ls := [], lm := [] }
noncomputable def laws_markStreamS_B0 (N : Nat) : (St → Res) → St → Res := loopBM Tryz.prog laws_markStreamS_G laws_markStreamS_A N Tryz.f64 laws_markStreamS_s [true, false, true, false] []
theorem laws_markStreamS_b0 (N : Nat) (ih : St → Res) (k_1 : Int) (i : Int) (a_1 : Rows) : laws_markStreamS_B0 N ih (laws_markStreamS_m0 k_1 i a_1) = laws_markStreamS_l0 Vm.bad laws_markStreamS_K (fun k_1 i a_1 => ih (laws_markStreamS_m0 k_1 i a_1)) k_1 i a_1 := by kernel_rfl
theorem laws_markStreamS_n0 (N : Nat) (m_ : Nat) : (fun k_1 i a_1 => loopN (laws_markStreamS_B0 N) m_ (laws_markStreamS_m0 k_1 i a_1)) = laws_markStreamS_L0 Vm.bad laws_markStreamS_K N m_ := by
  induction m_ with
  | zero => rfl
  | succ m_ ih =>
    funext k_1 i a_1
    show laws_markStreamS_B0 N (loopN (laws_markStreamS_B0 N) m_) (laws_markStreamS_m0 k_1 i a_1) = _
    rw [laws_markStreamS_b0 N]
    rw [ih]
    rfl
theorem laws_markStreamS_r (N : Nat) (a : Rows) (k : Int) : runFM Tryz.prog laws_markStreamS_G laws_markStreamS_A N Tryz.f64 laws_markStreamS_s (.sl a :: (.int k :: ([]))) = laws_markStreamS_f Vm.bad laws_markStreamS_K N a k := by
  have run_ : runFM Tryz.prog laws_markStreamS_G laws_markStreamS_A N Tryz.f64 laws_markStreamS_s (.sl a :: (.int k :: ([]))) = laws_markStreamS_t Vm.bad laws_markStreamS_K (fun k_1 i a_1 => loopN (laws_markStreamS_B0 N) N (laws_markStreamS_m0 k_1 i a_1)) a k := by kernel_rfl
  refine run_.trans ?_
  unfold laws_markStreamS_f
  have e0 : (fun k_1 i a_1 => loopN (laws_markStreamS_B0 N) N (laws_markStreamS_m0 k_1 i a_1)) = (laws_markStreamS_L0 Vm.bad laws_markStreamS_K N N) := by
    exact laws_markStreamS_n0 N N
  exact congrArg (fun l_ => laws_markStreamS_t Vm.bad laws_markStreamS_K l_ a k) e0
theorem laws_markStreamS_h : HoldsM Tryz.prog 64 laws_markStreamS_s := by
  refine holdsM_of_run (A := laws_markStreamS_A) laws_markStreamS_x Tryz.func64 rfl (by kernel_rfl) (of_decide_eq_true (by kernel_rfl)) (of_decide_eq_true (by kernel_rfl)) (by kernel_rfl) (fun ds => by kernel_rfl) ?_
  intro ds hw hok
  replace hw : WtL ((.sl [.int .i64, .int .i64, .int .i64, .int .i64, .int .i64, .int .i64, .str, .bool]) :: ((.int .i64) :: ([]))) ds := hw
  obtain ⟨a, ds, rfl, h_a, hw⟩ := of_wt_sl hw
  obtain ⟨k, ds, rfl, h_k, hw⟩ := of_wt_int hw
  obtain rfl := of_wt_nil hw
  obtain ⟨N, hN⟩ := laws_markStreamS_c Vm.bad laws_markStreamS_K a k h_a h_k hok
  exact ⟨N, ((laws_markStreamS_r N a k).trans hN).trans (by kernel_rfl)⟩

def laws_markRxQueueS_s : Sum := { ps := [⟨[.sl [.int .i64, .int .i64, .int .i64, .int .i64, .int .i64, .int .i64, .int .i64, .int .i64, .int .i64, .int .i64, .int .i64, .int .i64, .int .i64, .int .i64, .int .i64, .int .i64, .int .i64, .int .i64, .int .i64, .int .i64, .int .i64, .int .i64, .int .i64, .int .i64, .int .i64, .str, .int .i64, .int .i64, .bool, .int .i64]], false⟩, ⟨[.int .i64], false⟩], rs := [⟨[.imm (.int .i64)], false⟩], fn := fun ds => (mko 30 (rR ds 0) (rI ds 1), [.int (markRxQueueS (rR ds 0) (rI ds 1)).1] ++ [.sl (markRxQueueS (rR ds 0) (rI ds 1)).2]), ms := [some (.rows [.flat 170]), none] }
def laws_markRxQueueS_G : Ctx := [(112, laws_markText_s)]
theorem laws_markRxQueueS_x : CtxHolds Tryz.prog laws_markRxQueueS_G := ctx_cons laws_markText_h ctx_nil
def laws_markRxQueueS_A : List (Nat × Ann) := [(2, { slots := [(0, .asis), (1, .asis), (5, .asis)], boxes := [] })]
def laws_markRxQueueS_K : Int → Rows → Res := (fun r0 r1 => ((true, [.int r0] ++ [.sl r1]) : Res))
def laws_markRxQueueS_m0 (k_1 : Int) (i : Int) (a_1 : Rows) : St := { n := 1099511628054, sl := [(0, .own 640000), (1, .int .i64 k_1), (5, .int .i64 i)], hp := [(640000, .row 170 [.int .i64, .int .i64, .int .i64, .int .i64, .int .i64, .int .i64, .int .i64, .int .i64, .int .i64, .int .i64, .int .i64, .int .i64, .int .i64, .int .i64, .int .i64, .int .i64, .int .i64, .int .i64, .int .i64, .int .i64, .int .i64, .int .i64, .int .i64, .int .i64, .int .i64, .str, .int .i64, .int .i64, .bool, .int .i64] a_1 false true)], ok := true, ls := [], lm := [] }
noncomputable def laws_markRxQueueS_B0 (N : Nat) : (St → Res) → St → Res := loopBM Tryz.prog laws_markRxQueueS_G laws_markRxQueueS_A N Tryz.f58 laws_markRxQueueS_s [true, false, true, false] []
theorem laws_markRxQueueS_b0 (N : Nat) (ih : St → Res) (k_1 : Int) (i : Int) (a_1 : Rows) : laws_markRxQueueS_B0 N ih (laws_markRxQueueS_m0 k_1 i a_1) = laws_markRxQueueS_l0 Vm.bad laws_markRxQueueS_K (fun k_1 i a_1 => ih (laws_markRxQueueS_m0 k_1 i a_1)) k_1 i a_1 := by kernel_rfl
theorem laws_markRxQueueS_n0 (N : Nat) (m_ : Nat) : (fun k_1 i a_1 => loopN (laws_markRxQueueS_B0 N) m_ (laws_markRxQueueS_m0 k_1 i a_1)) = laws_markRxQueueS_L0 Vm.bad laws_markRxQueueS_K N m_ := by
  induction m_ with
  | zero => rfl
  | succ m_ ih =>
    funext k_1 i a_1
    show laws_markRxQueueS_B0 N (loopN (laws_markRxQueueS_B0 N) m_) (laws_markRxQueueS_m0 k_1 i a_1) = _
    rw [laws_markRxQueueS_b0 N]
    rw [ih]
    rfl
theorem laws_markRxQueueS_r (N : Nat) (a : Rows) (k : Int) : runFM Tryz.prog laws_markRxQueueS_G laws_markRxQueueS_A N Tryz.f58 laws_markRxQueueS_s (.sl a :: (.int k :: ([]))) = laws_markRxQueueS_f Vm.bad laws_markRxQueueS_K N a k := by
  have run_ : runFM Tryz.prog laws_markRxQueueS_G laws_markRxQueueS_A N Tryz.f58 laws_markRxQueueS_s (.sl a :: (.int k :: ([]))) = laws_markRxQueueS_t Vm.bad laws_markRxQueueS_K (fun k_1 i a_1 => loopN (laws_markRxQueueS_B0 N) N (laws_markRxQueueS_m0 k_1 i a_1)) a k := by kernel_rfl
  refine run_.trans ?_
  unfold laws_markRxQueueS_f
  have e0 : (fun k_1 i a_1 => loopN (laws_markRxQueueS_B0 N) N (laws_markRxQueueS_m0 k_1 i a_1)) = (laws_markRxQueueS_L0 Vm.bad laws_markRxQueueS_K N N) := by
    exact laws_markRxQueueS_n0 N N
  exact congrArg (fun l_ => laws_markRxQueueS_t Vm.bad laws_markRxQueueS_K l_ a k) e0
theorem laws_markRxQueueS_h : HoldsM Tryz.prog 58 laws_markRxQueueS_s := by
  refine holdsM_of_run (A := laws_markRxQueueS_A) laws_markRxQueueS_x Tryz.func58 rfl (by kernel_rfl) (of_decide_eq_true (by kernel_rfl)) (of_decide_eq_true (by kernel_rfl)) (by kernel_rfl) (fun ds => by kernel_rfl) ?_
  intro ds hw hok
  replace hw : WtL ((.sl [.int .i64, .int .i64, .int .i64, .int .i64, .int .i64, .int .i64, .int .i64, .int .i64, .int .i64, .int .i64, .int .i64, .int .i64, .int .i64, .int .i64, .int .i64, .int .i64, .int .i64, .int .i64, .int .i64, .int .i64, .int .i64, .int .i64, .int .i64, .int .i64, .int .i64, .str, .int .i64, .int .i64, .bool, .int .i64]) :: ((.int .i64) :: ([]))) ds := hw
  obtain ⟨a, ds, rfl, h_a, hw⟩ := of_wt_sl hw
  obtain ⟨k, ds, rfl, h_k, hw⟩ := of_wt_int hw
  obtain rfl := of_wt_nil hw
  obtain ⟨N, hN⟩ := laws_markRxQueueS_c Vm.bad laws_markRxQueueS_K a k h_a h_k hok
  exact ⟨N, ((laws_markRxQueueS_r N a k).trans hN).trans (by kernel_rfl)⟩

def laws_markRuleS_s : Sum := { ps := [⟨[.sl [.int .i64, .int .i64, .int .i64, .int .i64, .int .i64, .int .i64, .int .i64, .int .i64, .int .i64]], false⟩, ⟨[.int .i64], false⟩], rs := [⟨[.imm (.int .i64)], false⟩], fn := fun ds => (mko 9 (rR ds 0) (rI ds 1), [.int (markRuleS (rR ds 0) (rI ds 1)).1] ++ [.sl (markRuleS (rR ds 0) (rI ds 1)).2]), ms := [some (.rows [.flat 221]), none] }
def laws_markRuleS_G : Ctx := []
theorem laws_markRuleS_x : CtxHolds Tryz.prog laws_markRuleS_G := ctx_nil
def laws_markRuleS_A : List (Nat × Ann) := [(2, { slots := [(0, .asis), (1, .asis), (5, .asis)], boxes := [] })]
def laws_markRuleS_K : Int → Rows → Res := (fun r0 r1 => ((true, [.int r0] ++ [.sl r1]) : Res))
def laws_markRuleS_m0 (k_1 : Int) (i : Int) (a_1 : Rows) : St := { n := 1099511627852, sl := [(0, .own 640000), (1, .int .i64 k_1), (5, .int .i64 i)], hp := [(640000, .row 221 [.int .i64, .int .i64, .int .i64, .int .i64, .int .i64, .int .i64, .int .i64, .int .i64, .int .i64] a_1 false true)], ok := true, ls := [], lm := [] }
noncomputable def laws_markRuleS_B0 (N : Nat) : (St → Res) → St → Res := loopBM Tryz.prog laws_markRuleS_G laws_markRuleS_A N Tryz.f113 laws_markRuleS_s [true, false, true, false] []
theorem laws_markRuleS_b0 (N : Nat) (ih : St → Res) (k_1 : Int) (i : Int) (a_1 : Rows) : laws_markRuleS_B0 N ih (laws_markRuleS_m0 k_1 i a_1) = laws_markRuleS_l0 Vm.bad laws_markRuleS_K (fun k_1 i a_1 => ih (laws_markRuleS_m0 k_1 i a_1)) k_1 i a_1 := by kernel_rfl
theorem laws_markRuleS_n0 (N : Nat) (m_ : Nat) : (fun k_1 i a_1 => loopN (laws_markRuleS_B0 N) m_ (laws_markRuleS_m0 k_1 i a_1)) = laws_markRuleS_L0 Vm.bad laws_markRuleS_K N m_ := by
  induction m_ with
  | zero => rfl
  | succ m_ ih =>
    funext k_1 i a_1
    show laws_markRuleS_B0 N (loopN (laws_markRuleS_B0 N) m_) (laws_markRuleS_m0 k_1 i a_1) = _
    rw [laws_markRuleS_b0 N]
    rw [ih]
    rfl
theorem laws_markRuleS_r (N : Nat) (a : Rows) (k : Int) : runFM Tryz.prog laws_markRuleS_G laws_markRuleS_A N Tryz.f113 laws_markRuleS_s (.sl a :: (.int k :: ([]))) = laws_markRuleS_f Vm.bad laws_markRuleS_K N a k := by
  have run_ : runFM Tryz.prog laws_markRuleS_G laws_markRuleS_A N Tryz.f113 laws_markRuleS_s (.sl a :: (.int k :: ([]))) = laws_markRuleS_t Vm.bad laws_markRuleS_K (fun k_1 i a_1 => loopN (laws_markRuleS_B0 N) N (laws_markRuleS_m0 k_1 i a_1)) a k := by kernel_rfl
  refine run_.trans ?_
  unfold laws_markRuleS_f
  have e0 : (fun k_1 i a_1 => loopN (laws_markRuleS_B0 N) N (laws_markRuleS_m0 k_1 i a_1)) = (laws_markRuleS_L0 Vm.bad laws_markRuleS_K N N) := by
    exact laws_markRuleS_n0 N N
  exact congrArg (fun l_ => laws_markRuleS_t Vm.bad laws_markRuleS_K l_ a k) e0
theorem laws_markRuleS_h : HoldsM Tryz.prog 113 laws_markRuleS_s := by
  refine holdsM_of_run (A := laws_markRuleS_A) laws_markRuleS_x Tryz.func113 rfl (by kernel_rfl) (of_decide_eq_true (by kernel_rfl)) (of_decide_eq_true (by kernel_rfl)) (by kernel_rfl) (fun ds => by kernel_rfl) ?_
  intro ds hw hok
  replace hw : WtL ((.sl [.int .i64, .int .i64, .int .i64, .int .i64, .int .i64, .int .i64, .int .i64, .int .i64, .int .i64]) :: ((.int .i64) :: ([]))) ds := hw
  obtain ⟨a, ds, rfl, h_a, hw⟩ := of_wt_sl hw
  obtain ⟨k, ds, rfl, h_k, hw⟩ := of_wt_int hw
  obtain rfl := of_wt_nil hw
  obtain ⟨N, hN⟩ := laws_markRuleS_c Vm.bad laws_markRuleS_K a k h_a h_k hok
  exact ⟨N, ((laws_markRuleS_r N a k).trans hN).trans (by kernel_rfl)⟩

def laws_markMappingS_s : Sum := { ps := [⟨[.sl [.int .i64, .int .i64, .int .i64, .bool]], false⟩, ⟨[.int .i64], false⟩], rs := [⟨[.imm (.int .i64)], false⟩], fn := fun ds => (mko 4 (rR ds 0) (rI ds 1), [.int (markMappingS (rR ds 0) (rI ds 1)).1] ++ [.sl (markMappingS (rR ds 0) (rI ds 1)).2]), ms := [some (.rows [.flat 157]), none] }
def laws_markMappingS_G : Ctx := []
theorem laws_markMappingS_x : CtxHolds Tryz.prog laws_markMappingS_G := ctx_nil
def laws_markMappingS_A : List (Nat × Ann) := [(2, { slots := [(0, .asis), (1, .asis), (5, .asis)], boxes := [] })]
def laws_markMappingS_K : Int → Rows → Res := (fun r0 r1 => ((true, [.int r0] ++ [.sl r1]) : Res))
def laws_markMappingS_m0 (k_1 : Int) (i : Int) (a_1 : Rows) : St := { n := 1099511627819, sl := [(0, .own 640000), (1, .int .i64 k_1), (5, .int .i64 i)], hp := [(640000, .row 157 [.int .i64, .int .i64, .int .i64, .bool] a_1 false true)], ok := true, ls := [], lm := [] }
noncomputable def laws_markMappingS_B0 (N : Nat) : (St → Res) → St → Res := loopBM Tryz.prog laws_markMappingS_G laws_markMappingS_A N Tryz.f56 laws_markMappingS_s [true, false, true, false] []
theorem laws_markMappingS_b0 (N : Nat) (ih : St → Res) (k_1 : Int) (i : Int) (a_1 : Rows) : laws_markMappingS_B0 N ih (laws_markMappingS_m0 k_1 i a_1) = laws_markMappingS_l0 Vm.bad laws_markMappingS_K (fun k_1 i a_1 => ih (laws_markMappingS_m0 k_1 i a_1)) k_1 i a_1 := by kernel_rfl
theorem laws_markMappingS_n0 (N : Nat) (m_ : Nat) : (fun k_1 i a_1 => loopN (laws_markMappingS_B0 N) m_ (laws_markMappingS_m0 k_1 i a_1)) = laws_markMappingS_L0 Vm.bad laws_markMappingS_K N m_ := by
  induction m_ with
  | zero => rfl
  | succ m_ ih =>
    funext k_1 i a_1
    show laws_markMappingS_B0 N (loopN (laws_markMappingS_B0 N) m_) (laws_markMappingS_m0 k_1 i a_1) = _
    rw [laws_markMappingS_b0 N]
    rw [ih]
    rfl
theorem laws_markMappingS_r (N : Nat) (a : Rows) (k : Int) : runFM Tryz.prog laws_markMappingS_G laws_markMappingS_A N Tryz.f56 laws_markMappingS_s (.sl a :: (.int k :: ([]))) = laws_markMappingS_f Vm.bad laws_markMappingS_K N a k := by
  have run_ : runFM Tryz.prog laws_markMappingS_G laws_markMappingS_A N Tryz.f56 laws_markMappingS_s (.sl a :: (.int k :: ([]))) = laws_markMappingS_t Vm.bad laws_markMappingS_K (fun k_1 i a_1 => loopN (laws_markMappingS_B0 N) N (laws_markMappingS_m0 k_1 i a_1)) a k := by kernel_rfl
  refine run_.trans ?_
  unfold laws_markMappingS_f
  have e0 : (fun k_1 i a_1 => loopN (laws_markMappingS_B0 N) N (laws_markMappingS_m0 k_1 i a_1)) = (laws_markMappingS_L0 Vm.bad laws_markMappingS_K N N) := by
    exact laws_markMappingS_n0 N N
  exact congrArg (fun l_ => laws_markMappingS_t Vm.bad laws_markMappingS_K l_ a k) e0
theorem laws_markMappingS_h : HoldsM Tryz.prog 56 laws_markMappingS_s := by
  refine holdsM_of_run (A := laws_markMappingS_A) laws_markMappingS_x Tryz.func56 rfl (by kernel_rfl) (of_decide_eq_true (by kernel_rfl)) (of_decide_eq_true (by kernel_rfl)) (by kernel_rfl) (fun ds => by kernel_rfl) ?_
  intro ds hw hok
  replace hw : WtL ((.sl [.int .i64, .int .i64, .int .i64, .bool]) :: ((.int .i64) :: ([]))) ds := hw
  obtain ⟨a, ds, rfl, h_a, hw⟩ := of_wt_sl hw
  obtain ⟨k, ds, rfl, h_k, hw⟩ := of_wt_int hw
  obtain rfl := of_wt_nil hw
  obtain ⟨N, hN⟩ := laws_markMappingS_c Vm.bad laws_markMappingS_K a k h_a h_k hok
  exact ⟨N, ((laws_markMappingS_r N a k).trans hN).trans (by kernel_rfl)⟩

def laws_markVectorS_s : Sum := { ps := [⟨[.sl [.int .i64, .int .i64, .int .i64, .int .i64, .bool, .bool]], false⟩, ⟨[.int .i64], false⟩], rs := [⟨[.imm (.int .i64)], false⟩], fn := fun ds => (mko 6 (rR ds 0) (rI ds 1), [.int (markVectorS (rR ds 0) (rI ds 1)).1] ++ [.sl (markVectorS (rR ds 0) (rI ds 1)).2]), ms := [some (.rows [.flat 133]), none] }
def laws_markVectorS_G : Ctx := []
theorem laws_markVectorS_x : CtxHolds Tryz.prog laws_markVectorS_G := ctx_nil
def laws_markVectorS_A : List (Nat × Ann) := [(2, { slots := [(0, .asis), (1, .asis), (5, .asis)], boxes := [] })]
def laws_markVectorS_K : Int → Rows → Res := (fun r0 r1 => ((true, [.int r0] ++ [.sl r1]) : Res))
def laws_markVectorS_m0 (k_1 : Int) (i : Int) (a_1 : Rows) : St := { n := 1099511627835, sl := [(0, .own 640000), (1, .int .i64 k_1), (5, .int .i64 i)], hp := [(640000, .row 133 [.int .i64, .int .i64, .int .i64, .int .i64, .bool, .bool] a_1 false true)], ok := true, ls := [], lm := [] }
noncomputable def laws_markVectorS_B0 (N : Nat) : (St → Res) → St → Res := loopBM Tryz.prog laws_markVectorS_G laws_markVectorS_A N Tryz.f60 laws_markVectorS_s [true, false, true, false] []
theorem laws_markVectorS_b0 (N : Nat) (ih : St → Res) (k_1 : Int) (i : Int) (a_1 : Rows) : laws_markVectorS_B0 N ih (laws_markVectorS_m0 k_1 i a_1) = laws_markVectorS_l0 Vm.bad laws_markVectorS_K (fun k_1 i a_1 => ih (laws_markVectorS_m0 k_1 i a_1)) k_1 i a_1 := by kernel_rfl
theorem laws_markVectorS_n0 (N : Nat) (m_ : Nat) : (fun k_1 i a_1 => loopN (laws_markVectorS_B0 N) m_ (laws_markVectorS_m0 k_1 i a_1)) = laws_markVectorS_L0 Vm.bad laws_markVectorS_K N m_ := by
  induction m_ with
  | zero => rfl
  | succ m_ ih =>
    funext k_1 i a_1
    show laws_markVectorS_B0 N (loopN (laws_markVectorS_B0 N) m_) (laws_markVectorS_m0 k_1 i a_1) = _
    rw [laws_markVectorS_b0 N]
    rw [ih]
    rfl
theorem laws_markVectorS_r (N : Nat) (a : Rows) (k : Int) : runFM Tryz.prog laws_markVectorS_G laws_markVectorS_A N Tryz.f60 laws_markVectorS_s (.sl a :: (.int k :: ([]))) = laws_markVectorS_f Vm.bad laws_markVectorS_K N a k := by
  have run_ : runFM Tryz.prog laws_markVectorS_G laws_markVectorS_A N Tryz.f60 laws_markVectorS_s (.sl a :: (.int k :: ([]))) = laws_markVectorS_t Vm.bad laws_markVectorS_K (fun k_1 i a_1 => loopN (laws_markVectorS_B0 N) N (laws_markVectorS_m0 k_1 i a_1)) a k := by kernel_rfl
  refine run_.trans ?_
  unfold laws_markVectorS_f
  have e0 : (fun k_1 i a_1 => loopN (laws_markVectorS_B0 N) N (laws_markVectorS_m0 k_1 i a_1)) = (laws_markVectorS_L0 Vm.bad laws_markVectorS_K N N) := by
    exact laws_markVectorS_n0 N N
  exact congrArg (fun l_ => laws_markVectorS_t Vm.bad laws_markVectorS_K l_ a k) e0
theorem laws_markVectorS_h : HoldsM Tryz.prog 60 laws_markVectorS_s := by
  refine holdsM_of_run (A := laws_markVectorS_A) laws_markVectorS_x Tryz.func60 rfl (by kernel_rfl) (of_decide_eq_true (by kernel_rfl)) (of_decide_eq_true (by kernel_rfl)) (by kernel_rfl) (fun ds => by kernel_rfl) ?_
  intro ds hw hok
  replace hw : WtL ((.sl [.int .i64, .int .i64, .int .i64, .int .i64, .bool, .bool]) :: ((.int .i64) :: ([]))) ds := hw
  obtain ⟨a, ds, rfl, h_a, hw⟩ := of_wt_sl hw
  obtain ⟨k, ds, rfl, h_k, hw⟩ := of_wt_int hw
  obtain rfl := of_wt_nil hw
  obtain ⟨N, hN⟩ := laws_markVectorS_c Vm.bad laws_markVectorS_K a k h_a h_k hok
  exact ⟨N, ((laws_markVectorS_r N a k).trans hN).trans (by kernel_rfl)⟩

def laws_markSlotS_s : Sum := { ps := [⟨[.sl [.int .i64, .int .i64, .int .i64, .int .i64, .int .i64, .int .i64, .int .i64]], false⟩, ⟨[.int .i64], false⟩], rs := [⟨[.imm (.int .i64)], false⟩], fn := fun ds => (mko 7 (rR ds 0) (rI ds 1), [.int (markSlotS (rR ds 0) (rI ds 1)).1] ++ [.sl (markSlotS (rR ds 0) (rI ds 1)).2]), ms := [some (.rows [.flat 242]), none] }
def laws_markSlotS_G : Ctx := []
theorem laws_markSlotS_x : CtxHolds Tryz.prog laws_markSlotS_G := ctx_nil
def laws_markSlotS_A : List (Nat × Ann) := [(2, { slots := [(0, .asis), (1, .asis), (5, .asis)], boxes := [] })]
def laws_markSlotS_K : Int → Rows → Res := (fun r0 r1 => ((true, [.int r0] ++ [.sl r1]) : Res))
def laws_markSlotS_m0 (k_1 : Int) (i : Int) (a_1 : Rows) : St := { n := 1099511627843, sl := [(0, .own 640000), (1, .int .i64 k_1), (5, .int .i64 i)], hp := [(640000, .row 242 [.int .i64, .int .i64, .int .i64, .int .i64, .int .i64, .int .i64, .int .i64] a_1 false true)], ok := true, ls := [], lm := [] }
noncomputable def laws_markSlotS_B0 (N : Nat) : (St → Res) → St → Res := loopBM Tryz.prog laws_markSlotS_G laws_markSlotS_A N Tryz.f169 laws_markSlotS_s [true, false, true, false] []
theorem laws_markSlotS_b0 (N : Nat) (ih : St → Res) (k_1 : Int) (i : Int) (a_1 : Rows) : laws_markSlotS_B0 N ih (laws_markSlotS_m0 k_1 i a_1) = laws_markSlotS_l0 Vm.bad laws_markSlotS_K (fun k_1 i a_1 => ih (laws_markSlotS_m0 k_1 i a_1)) k_1 i a_1 := by kernel_rfl
theorem laws_markSlotS_n0 (N : Nat) (m_ : Nat) : (fun k_1 i a_1 => loopN (laws_markSlotS_B0 N) m_ (laws_markSlotS_m0 k_1 i a_1)) = laws_markSlotS_L0 Vm.bad laws_markSlotS_K N m_ := by
  induction m_ with
  | zero => rfl
  | succ m_ ih =>
    funext k_1 i a_1
    show laws_markSlotS_B0 N (loopN (laws_markSlotS_B0 N) m_) (laws_markSlotS_m0 k_1 i a_1) = _
    rw [laws_markSlotS_b0 N]
    rw [ih]
    rfl
theorem laws_markSlotS_r (N : Nat) (a : Rows) (k : Int) : runFM Tryz.prog laws_markSlotS_G laws_markSlotS_A N Tryz.f169 laws_markSlotS_s (.sl a :: (.int k :: ([]))) = laws_markSlotS_f Vm.bad laws_markSlotS_K N a k := by
  have run_ : runFM Tryz.prog laws_markSlotS_G laws_markSlotS_A N Tryz.f169 laws_markSlotS_s (.sl a :: (.int k :: ([]))) = laws_markSlotS_t Vm.bad laws_markSlotS_K (fun k_1 i a_1 => loopN (laws_markSlotS_B0 N) N (laws_markSlotS_m0 k_1 i a_1)) a k := by kernel_rfl
  refine run_.trans ?_
  unfold laws_markSlotS_f
  have e0 : (fun k_1 i a_1 => loopN (laws_markSlotS_B0 N) N (laws_markSlotS_m0 k_1 i a_1)) = (laws_markSlotS_L0 Vm.bad laws_markSlotS_K N N) := by
    exact laws_markSlotS_n0 N N
  exact congrArg (fun l_ => laws_markSlotS_t Vm.bad laws_markSlotS_K l_ a k) e0
theorem laws_markSlotS_h : HoldsM Tryz.prog 169 laws_markSlotS_s := by
  refine holdsM_of_run (A := laws_markSlotS_A) laws_markSlotS_x Tryz.func169 rfl (by kernel_rfl) (of_decide_eq_true (by kernel_rfl)) (of_decide_eq_true (by kernel_rfl)) (by kernel_rfl) (fun ds => by kernel_rfl) ?_
  intro ds hw hok
  replace hw : WtL ((.sl [.int .i64, .int .i64, .int .i64, .int .i64, .int .i64, .int .i64, .int .i64]) :: ((.int .i64) :: ([]))) ds := hw
  obtain ⟨a, ds, rfl, h_a, hw⟩ := of_wt_sl hw
  obtain ⟨k, ds, rfl, h_k, hw⟩ := of_wt_int hw
  obtain rfl := of_wt_nil hw
  obtain ⟨N, hN⟩ := laws_markSlotS_c Vm.bad laws_markSlotS_K a k h_a h_k hok
  exact ⟨N, ((laws_markSlotS_r N a k).trans hN).trans (by kernel_rfl)⟩

end
end Go.Proofs.YthpmalpdnnbkgaaGreat.Pl
