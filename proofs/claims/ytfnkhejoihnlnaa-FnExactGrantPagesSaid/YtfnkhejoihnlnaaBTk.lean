/- The contracts of functions of the program: each computes what its plain form says. Conditions: none. -/
import Derived.Test.YtfnkhejoihnlnaaPTk
import Derived.Test.YtfnkhejoihnlnaaRows
import Derived.Test.YtfnkhejoihnlnaaBFo
set_option linter.unusedVariables false
set_option linter.unusedSimpArgs false
set_option maxRecDepth 100000
namespace Go.Proofs.Ytfnkhejoihnlnaa.Pl
open Vm
noncomputable section

def laws_markVirtualFunctionS_s : Sum := { ps := [⟨[.sl [.int .i64, .int .i64, .int .i64, .int .i64, .int .i64, .bool, .int .i64, .int .i64]], false⟩, ⟨[.int .i64], false⟩], rs := [⟨[.imm (.int .i64)], false⟩], fn := fun ds => (mko 8 (rR ds 0) (rI ds 1), [.int (markVirtualFunctionS (rR ds 0) (rI ds 1)).1] ++ [.sl (markVirtualFunctionS (rR ds 0) (rI ds 1)).2]), ms := [some (.rows [66]), none] }
def laws_markVirtualFunctionS_G : Ctx := []
theorem laws_markVirtualFunctionS_x : CtxHolds Try.prog laws_markVirtualFunctionS_G := ctx_nil
def laws_markVirtualFunctionS_A : List (Nat × Ann) := [(2, { slots := [(0, .asis), (1, .asis), (5, .asis)], boxes := [] })]
def laws_markVirtualFunctionS_K : Int → Rows → Res := (fun r0 r1 => ((true, [.int r0] ++ [.sl r1]) : Res))
def laws_markVirtualFunctionS_m0 (k_1 : Int) (i : Int) (a_1 : Rows) : St := { n := 1099511627850, sl := [(0, .own 640000), (1, .int .i64 k_1), (5, .int .i64 i)], hp := [(640000, .row 66 [.int .i64, .int .i64, .int .i64, .int .i64, .int .i64, .bool, .int .i64, .int .i64] a_1 false true)], ok := true, ls := [], lm := [] }
noncomputable def laws_markVirtualFunctionS_B0 (N : Nat) : (St → Res) → St → Res := loopBM Try.prog laws_markVirtualFunctionS_G laws_markVirtualFunctionS_A N Try.f18 laws_markVirtualFunctionS_s [true, false, true, false] []
theorem laws_markVirtualFunctionS_b0 (N : Nat) (ih : St → Res) (k_1 : Int) (i : Int) (a_1 : Rows) : laws_markVirtualFunctionS_B0 N ih (laws_markVirtualFunctionS_m0 k_1 i a_1) = laws_markVirtualFunctionS_l0 Vm.bad laws_markVirtualFunctionS_K (fun k_1 i a_1 => ih (laws_markVirtualFunctionS_m0 k_1 i a_1)) k_1 i a_1 := by kernel_rfl
theorem laws_markVirtualFunctionS_n0 (N : Nat) (m_ : Nat) : (fun k_1 i a_1 => loopN (laws_markVirtualFunctionS_B0 N) m_ (laws_markVirtualFunctionS_m0 k_1 i a_1)) = laws_markVirtualFunctionS_L0 Vm.bad laws_markVirtualFunctionS_K N m_ := by
  induction m_ with
  | zero => rfl
  | succ m_ ih =>
    funext k_1 i a_1
    show laws_markVirtualFunctionS_B0 N (loopN (laws_markVirtualFunctionS_B0 N) m_) (laws_markVirtualFunctionS_m0 k_1 i a_1) = _
    rw [laws_markVirtualFunctionS_b0 N]
    rw [ih]
    rfl
theorem laws_markVirtualFunctionS_r (N : Nat) (a : Rows) (k : Int) : runFM Try.prog laws_markVirtualFunctionS_G laws_markVirtualFunctionS_A N Try.f18 laws_markVirtualFunctionS_s (.sl a :: (.int k :: ([]))) = laws_markVirtualFunctionS_f Vm.bad laws_markVirtualFunctionS_K N a k := by
  have h : runFM Try.prog laws_markVirtualFunctionS_G laws_markVirtualFunctionS_A N Try.f18 laws_markVirtualFunctionS_s (.sl a :: (.int k :: ([]))) = laws_markVirtualFunctionS_t Vm.bad laws_markVirtualFunctionS_K (fun k_1 i a_1 => loopN (laws_markVirtualFunctionS_B0 N) N (laws_markVirtualFunctionS_m0 k_1 i a_1)) a k := by kernel_rfl
  refine h.trans ?_
  unfold laws_markVirtualFunctionS_f
  have e0 : (fun k_1 i a_1 => loopN (laws_markVirtualFunctionS_B0 N) N (laws_markVirtualFunctionS_m0 k_1 i a_1)) = (laws_markVirtualFunctionS_L0 Vm.bad laws_markVirtualFunctionS_K N N) := by
    exact laws_markVirtualFunctionS_n0 N N
  exact congrArg (fun l_ => laws_markVirtualFunctionS_t Vm.bad laws_markVirtualFunctionS_K l_ a k) e0
theorem laws_markVirtualFunctionS_h : HoldsM Try.prog 18 laws_markVirtualFunctionS_s := by
  refine holdsM_of_run (A := laws_markVirtualFunctionS_A) laws_markVirtualFunctionS_x Try.func18 rfl (by kernel_rfl) (of_decide_eq_true (by kernel_rfl)) (of_decide_eq_true (by kernel_rfl)) (by kernel_rfl) (fun ds => by kernel_rfl) ?_
  intro ds hw hok
  replace hw : WtL ((.sl [.int .i64, .int .i64, .int .i64, .int .i64, .int .i64, .bool, .int .i64, .int .i64]) :: ((.int .i64) :: ([]))) ds := hw
  obtain ⟨a, ds, rfl, h_a, hw⟩ := of_wt_sl hw
  obtain ⟨k, ds, rfl, h_k, hw⟩ := of_wt_int hw
  obtain rfl := of_wt_nil hw
  obtain ⟨N, hN⟩ := laws_markVirtualFunctionS_c Vm.bad laws_markVirtualFunctionS_K a k h_a h_k hok
  exact ⟨N, ((laws_markVirtualFunctionS_r N a k).trans hN).trans (by kernel_rfl)⟩

def laws_heldVirtualFunctionS_s : Sum := { ps := [⟨[.sl [.int .i64, .int .i64, .int .i64, .int .i64, .int .i64, .bool, .int .i64, .int .i64]], false⟩, ⟨[.int .i64], false⟩], rs := [⟨[.imm (.int .i64)], false⟩], fn := fun ds => (hdo fVirtualFunctionS 8 (rR ds 0) (rI ds 1), [.int (heldVirtualFunctionS (rR ds 0) (rI ds 1))]) }
def laws_heldVirtualFunctionS_G : Ctx := []
theorem laws_heldVirtualFunctionS_x : CtxHolds Try.prog laws_heldVirtualFunctionS_G := ctx_nil
def laws_heldVirtualFunctionS_A : List (Nat × Ann) := [(2, { slots := [(0, .asis), (1, .asis), (5, .asis)], boxes := [] })]
def laws_heldVirtualFunctionS_K : Int → Res := (fun r0 => ((true, [.int r0]) : Res))
def laws_heldVirtualFunctionS_m0 (a : Rows) (k_1 : Int) (i : Int) : St := { n := 90, sl := [(0, .sl [.int .i64, .int .i64, .int .i64, .int .i64, .int .i64, .bool, .int .i64, .int .i64] a), (1, .int .i64 k_1), (5, .int .i64 i)], hp := [], ok := true, ls := [], lm := [] }
noncomputable def laws_heldVirtualFunctionS_B0 (N : Nat) : (St → Res) → St → Res := loopB Try.prog laws_heldVirtualFunctionS_G laws_heldVirtualFunctionS_A N Try.f19 laws_heldVirtualFunctionS_s [true, false, true, false] []
theorem laws_heldVirtualFunctionS_b0 (N : Nat) (a : Rows) (ih : St → Res) (k_1 : Int) (i : Int) : laws_heldVirtualFunctionS_B0 N ih (laws_heldVirtualFunctionS_m0 a k_1 i) = laws_heldVirtualFunctionS_l0 Vm.bad laws_heldVirtualFunctionS_K a (fun k_1 i => ih (laws_heldVirtualFunctionS_m0 a k_1 i)) k_1 i := by kernel_rfl
theorem laws_heldVirtualFunctionS_n0 (N : Nat) (a : Rows) (m_ : Nat) : (fun k_1 i => loopN (laws_heldVirtualFunctionS_B0 N) m_ (laws_heldVirtualFunctionS_m0 a k_1 i)) = laws_heldVirtualFunctionS_L0 Vm.bad laws_heldVirtualFunctionS_K N a m_ := by
  induction m_ with
  | zero => rfl
  | succ m_ ih =>
    funext k_1 i
    show laws_heldVirtualFunctionS_B0 N (loopN (laws_heldVirtualFunctionS_B0 N) m_) (laws_heldVirtualFunctionS_m0 a k_1 i) = _
    rw [laws_heldVirtualFunctionS_b0 N a]
    rw [ih]
    rfl
theorem laws_heldVirtualFunctionS_r (N : Nat) (a : Rows) (k : Int) : runF Try.prog laws_heldVirtualFunctionS_G laws_heldVirtualFunctionS_A N Try.f19 laws_heldVirtualFunctionS_s (.sl a :: (.int k :: ([]))) = laws_heldVirtualFunctionS_f Vm.bad laws_heldVirtualFunctionS_K N a k := by
  have h : runF Try.prog laws_heldVirtualFunctionS_G laws_heldVirtualFunctionS_A N Try.f19 laws_heldVirtualFunctionS_s (.sl a :: (.int k :: ([]))) = laws_heldVirtualFunctionS_t Vm.bad laws_heldVirtualFunctionS_K (fun k_1 i => loopN (laws_heldVirtualFunctionS_B0 N) N (laws_heldVirtualFunctionS_m0 a k_1 i)) a k := by kernel_rfl
  refine h.trans ?_
  unfold laws_heldVirtualFunctionS_f
  have e0 : (fun k_1 i => loopN (laws_heldVirtualFunctionS_B0 N) N (laws_heldVirtualFunctionS_m0 a k_1 i)) = (laws_heldVirtualFunctionS_L0 Vm.bad laws_heldVirtualFunctionS_K N a N) := by
    exact laws_heldVirtualFunctionS_n0 N a N
  exact congrArg (fun l_ => laws_heldVirtualFunctionS_t Vm.bad laws_heldVirtualFunctionS_K l_ a k) e0
theorem laws_heldVirtualFunctionS_h : Holds Try.prog 19 laws_heldVirtualFunctionS_s := by
  refine holds_of_run (A := laws_heldVirtualFunctionS_A) laws_heldVirtualFunctionS_x Try.func19 rfl (by kernel_rfl) (of_decide_eq_true (by kernel_rfl)) (of_decide_eq_true (by kernel_rfl)) ?_
  intro ds hw hok
  replace hw : WtL ((.sl [.int .i64, .int .i64, .int .i64, .int .i64, .int .i64, .bool, .int .i64, .int .i64]) :: ((.int .i64) :: ([]))) ds := hw
  obtain ⟨a, ds, rfl, h_a, hw⟩ := of_wt_sl hw
  obtain ⟨k, ds, rfl, h_k, hw⟩ := of_wt_int hw
  obtain rfl := of_wt_nil hw
  obtain ⟨N, hN⟩ := laws_heldVirtualFunctionS_c Vm.bad laws_heldVirtualFunctionS_K a k h_a h_k hok
  exact ⟨N, ((laws_heldVirtualFunctionS_r N a k).trans hN).trans (by kernel_rfl)⟩

def laws_markMappingS_s : Sum := { ps := [⟨[.sl [.int .i64, .int .i64, .int .i64, .bool]], false⟩, ⟨[.int .i64], false⟩], rs := [⟨[.imm (.int .i64)], false⟩], fn := fun ds => (mko 4 (rR ds 0) (rI ds 1), [.int (markMappingS (rR ds 0) (rI ds 1)).1] ++ [.sl (markMappingS (rR ds 0) (rI ds 1)).2]), ms := [some (.rows [95]), none] }
def laws_markMappingS_G : Ctx := []
theorem laws_markMappingS_x : CtxHolds Try.prog laws_markMappingS_G := ctx_nil
def laws_markMappingS_A : List (Nat × Ann) := [(2, { slots := [(0, .asis), (1, .asis), (5, .asis)], boxes := [] })]
def laws_markMappingS_K : Int → Rows → Res := (fun r0 r1 => ((true, [.int r0] ++ [.sl r1]) : Res))
def laws_markMappingS_m0 (k_1 : Int) (i : Int) (a_1 : Rows) : St := { n := 1099511627819, sl := [(0, .own 640000), (1, .int .i64 k_1), (5, .int .i64 i)], hp := [(640000, .row 95 [.int .i64, .int .i64, .int .i64, .bool] a_1 false true)], ok := true, ls := [], lm := [] }
noncomputable def laws_markMappingS_B0 (N : Nat) : (St → Res) → St → Res := loopBM Try.prog laws_markMappingS_G laws_markMappingS_A N Try.f34 laws_markMappingS_s [true, false, true, false] []
theorem laws_markMappingS_b0 (N : Nat) (ih : St → Res) (k_1 : Int) (i : Int) (a_1 : Rows) : laws_markMappingS_B0 N ih (laws_markMappingS_m0 k_1 i a_1) = laws_markMappingS_l0 Vm.bad laws_markMappingS_K (fun k_1 i a_1 => ih (laws_markMappingS_m0 k_1 i a_1)) k_1 i a_1 := by kernel_rfl
theorem laws_markMappingS_n0 (N : Nat) (m_ : Nat) : (fun k_1 i a_1 => loopN (laws_markMappingS_B0 N) m_ (laws_markMappingS_m0 k_1 i a_1)) = laws_markMappingS_L0 Vm.bad laws_markMappingS_K N m_ := by
  induction m_ with
  | zero => rfl
  | succ m_ ih =>
    funext k_1 i a_1
    show laws_markMappingS_B0 N (loopN (laws_markMappingS_B0 N) m_) (laws_markMappingS_m0 k_1 i a_1) = _
    rw [laws_markMappingS_b0 N]
    rw [ih]
    rfl
theorem laws_markMappingS_r (N : Nat) (a : Rows) (k : Int) : runFM Try.prog laws_markMappingS_G laws_markMappingS_A N Try.f34 laws_markMappingS_s (.sl a :: (.int k :: ([]))) = laws_markMappingS_f Vm.bad laws_markMappingS_K N a k := by
  have h : runFM Try.prog laws_markMappingS_G laws_markMappingS_A N Try.f34 laws_markMappingS_s (.sl a :: (.int k :: ([]))) = laws_markMappingS_t Vm.bad laws_markMappingS_K (fun k_1 i a_1 => loopN (laws_markMappingS_B0 N) N (laws_markMappingS_m0 k_1 i a_1)) a k := by kernel_rfl
  refine h.trans ?_
  unfold laws_markMappingS_f
  have e0 : (fun k_1 i a_1 => loopN (laws_markMappingS_B0 N) N (laws_markMappingS_m0 k_1 i a_1)) = (laws_markMappingS_L0 Vm.bad laws_markMappingS_K N N) := by
    exact laws_markMappingS_n0 N N
  exact congrArg (fun l_ => laws_markMappingS_t Vm.bad laws_markMappingS_K l_ a k) e0
theorem laws_markMappingS_h : HoldsM Try.prog 34 laws_markMappingS_s := by
  refine holdsM_of_run (A := laws_markMappingS_A) laws_markMappingS_x Try.func34 rfl (by kernel_rfl) (of_decide_eq_true (by kernel_rfl)) (of_decide_eq_true (by kernel_rfl)) (by kernel_rfl) (fun ds => by kernel_rfl) ?_
  intro ds hw hok
  replace hw : WtL ((.sl [.int .i64, .int .i64, .int .i64, .bool]) :: ((.int .i64) :: ([]))) ds := hw
  obtain ⟨a, ds, rfl, h_a, hw⟩ := of_wt_sl hw
  obtain ⟨k, ds, rfl, h_k, hw⟩ := of_wt_int hw
  obtain rfl := of_wt_nil hw
  obtain ⟨N, hN⟩ := laws_markMappingS_c Vm.bad laws_markMappingS_K a k h_a h_k hok
  exact ⟨N, ((laws_markMappingS_r N a k).trans hN).trans (by kernel_rfl)⟩

def laws_heldMappingS_s : Sum := { ps := [⟨[.sl [.int .i64, .int .i64, .int .i64, .bool]], false⟩, ⟨[.int .i64], false⟩], rs := [⟨[.imm (.int .i64)], false⟩], fn := fun ds => (hdo fMappingS 4 (rR ds 0) (rI ds 1), [.int (heldMappingS (rR ds 0) (rI ds 1))]) }
def laws_heldMappingS_G : Ctx := []
theorem laws_heldMappingS_x : CtxHolds Try.prog laws_heldMappingS_G := ctx_nil
def laws_heldMappingS_A : List (Nat × Ann) := [(2, { slots := [(0, .asis), (1, .asis), (5, .asis)], boxes := [] })]
def laws_heldMappingS_K : Int → Res := (fun r0 => ((true, [.int r0]) : Res))
def laws_heldMappingS_m0 (a : Rows) (k_1 : Int) (i : Int) : St := { n := 51, sl := [(0, .sl [.int .i64, .int .i64, .int .i64, .bool] a), (1, .int .i64 k_1), (5, .int .i64 i)], hp := [], ok := true, ls := [], lm := [] }
noncomputable def laws_heldMappingS_B0 (N : Nat) : (St → Res) → St → Res := loopB Try.prog laws_heldMappingS_G laws_heldMappingS_A N Try.f36 laws_heldMappingS_s [true, false, true, false] []
theorem laws_heldMappingS_b0 (N : Nat) (a : Rows) (ih : St → Res) (k_1 : Int) (i : Int) : laws_heldMappingS_B0 N ih (laws_heldMappingS_m0 a k_1 i) = laws_heldMappingS_l0 Vm.bad laws_heldMappingS_K a (fun k_1 i => ih (laws_heldMappingS_m0 a k_1 i)) k_1 i := by kernel_rfl
theorem laws_heldMappingS_n0 (N : Nat) (a : Rows) (m_ : Nat) : (fun k_1 i => loopN (laws_heldMappingS_B0 N) m_ (laws_heldMappingS_m0 a k_1 i)) = laws_heldMappingS_L0 Vm.bad laws_heldMappingS_K N a m_ := by
  induction m_ with
  | zero => rfl
  | succ m_ ih =>
    funext k_1 i
    show laws_heldMappingS_B0 N (loopN (laws_heldMappingS_B0 N) m_) (laws_heldMappingS_m0 a k_1 i) = _
    rw [laws_heldMappingS_b0 N a]
    rw [ih]
    rfl
theorem laws_heldMappingS_r (N : Nat) (a : Rows) (k : Int) : runF Try.prog laws_heldMappingS_G laws_heldMappingS_A N Try.f36 laws_heldMappingS_s (.sl a :: (.int k :: ([]))) = laws_heldMappingS_f Vm.bad laws_heldMappingS_K N a k := by
  have h : runF Try.prog laws_heldMappingS_G laws_heldMappingS_A N Try.f36 laws_heldMappingS_s (.sl a :: (.int k :: ([]))) = laws_heldMappingS_t Vm.bad laws_heldMappingS_K (fun k_1 i => loopN (laws_heldMappingS_B0 N) N (laws_heldMappingS_m0 a k_1 i)) a k := by kernel_rfl
  refine h.trans ?_
  unfold laws_heldMappingS_f
  have e0 : (fun k_1 i => loopN (laws_heldMappingS_B0 N) N (laws_heldMappingS_m0 a k_1 i)) = (laws_heldMappingS_L0 Vm.bad laws_heldMappingS_K N a N) := by
    exact laws_heldMappingS_n0 N a N
  exact congrArg (fun l_ => laws_heldMappingS_t Vm.bad laws_heldMappingS_K l_ a k) e0
theorem laws_heldMappingS_h : Holds Try.prog 36 laws_heldMappingS_s := by
  refine holds_of_run (A := laws_heldMappingS_A) laws_heldMappingS_x Try.func36 rfl (by kernel_rfl) (of_decide_eq_true (by kernel_rfl)) (of_decide_eq_true (by kernel_rfl)) ?_
  intro ds hw hok
  replace hw : WtL ((.sl [.int .i64, .int .i64, .int .i64, .bool]) :: ((.int .i64) :: ([]))) ds := hw
  obtain ⟨a, ds, rfl, h_a, hw⟩ := of_wt_sl hw
  obtain ⟨k, ds, rfl, h_k, hw⟩ := of_wt_int hw
  obtain rfl := of_wt_nil hw
  obtain ⟨N, hN⟩ := laws_heldMappingS_c Vm.bad laws_heldMappingS_K a k h_a h_k hok
  exact ⟨N, ((laws_heldMappingS_r N a k).trans hN).trans (by kernel_rfl)⟩

def impl_RefillBucket_s : Sum := { ps := [⟨[.int .i64, .int .i64, .int .i64], true⟩, ⟨[.int .i64], false⟩], rs := [⟨[.imm (.int .i64), .imm (.int .i64), .imm (.int .i64)], true⟩], fn := fun ds => (true, SBucket.enc (RefillBucket (SBucket.decAt ds 0) (rI ds 3))) }
def impl_RefillBucket_G : Ctx := [(68, impl_between_s), (69, impl_BucketOk_s)]
theorem impl_RefillBucket_x : CtxHolds Try.prog impl_RefillBucket_G := ctx_cons impl_between_h (ctx_cons impl_BucketOk_h ctx_nil)
def impl_RefillBucket_A : List (Nat × Ann) := []
theorem impl_RefillBucket_r (N : Nat) (b : SBucket) (ticks : Int) : runF Try.prog impl_RefillBucket_G impl_RefillBucket_A N Try.f57 impl_RefillBucket_s (b.enc ++ (.int ticks :: ([]))) = impl_RefillBucket_t (fun r0 => ((true, SBucket.enc r0) : Res)) b ticks := by kernel_rfl
theorem impl_RefillBucket_h : Holds Try.prog 57 impl_RefillBucket_s := by
  refine holds_of_run (A := impl_RefillBucket_A) impl_RefillBucket_x Try.func57 rfl (by kernel_rfl) (of_decide_eq_true (by kernel_rfl)) (of_decide_eq_true (by kernel_rfl)) ?_
  intro ds hw hok
  replace hw : WtL (SBucket.ct ++ ((.int .i64) :: ([]))) ds := hw
  obtain ⟨b, ds, rfl, h_b, hw⟩ := SBucket.of_wt (r := _) hw
  obtain ⟨ticks, ds, rfl, h_ticks, hw⟩ := of_wt_int hw
  obtain rfl := of_wt_nil hw
  exact ⟨0, ((impl_RefillBucket_r 0 b ticks).trans (impl_RefillBucket_c _ b ticks)).trans (by kernel_rfl)⟩

def spec_RefillBucket_s : Sum := { ps := [⟨[.int .i64, .int .i64, .int .i64], true⟩, ⟨[.int .i64], false⟩], rs := [⟨[.imm (.int .i64), .imm (.int .i64), .imm (.int .i64)], true⟩], fn := fun ds => (true, SBucket.enc (RefillBucket (SBucket.decAt ds 0) (rI ds 3))) }
def spec_RefillBucket_G : Ctx := [(64, spec_l01In_s), (65, spec_BucketOk_s)]
theorem spec_RefillBucket_x : CtxHolds Try.prog spec_RefillBucket_G := ctx_cons spec_l01In_h (ctx_cons spec_BucketOk_h ctx_nil)
def spec_RefillBucket_A : List (Nat × Ann) := []
theorem spec_RefillBucket_r (N : Nat) (b : SBucket) (ticks : Int) : runF Try.prog spec_RefillBucket_G spec_RefillBucket_A N Try.f55 spec_RefillBucket_s (b.enc ++ (.int ticks :: ([]))) = spec_RefillBucket_t (fun r0 => ((true, SBucket.enc r0) : Res)) b ticks := by kernel_rfl
theorem spec_RefillBucket_h : Holds Try.prog 55 spec_RefillBucket_s := by
  refine holds_of_run (A := spec_RefillBucket_A) spec_RefillBucket_x Try.func55 rfl (by kernel_rfl) (of_decide_eq_true (by kernel_rfl)) (of_decide_eq_true (by kernel_rfl)) ?_
  intro ds hw hok
  replace hw : WtL (SBucket.ct ++ ((.int .i64) :: ([]))) ds := hw
  obtain ⟨b, ds, rfl, h_b, hw⟩ := SBucket.of_wt (r := _) hw
  obtain ⟨ticks, ds, rfl, h_ticks, hw⟩ := of_wt_int hw
  obtain rfl := of_wt_nil hw
  exact ⟨0, ((spec_RefillBucket_r 0 b ticks).trans (spec_RefillBucket_c _ b ticks h_b h_ticks)).trans (by kernel_rfl)⟩

def impl_copyFunctions_s : Sum := { ps := [⟨[.sl [.int .i64, .int .i64, .int .i64, .int .i64, .int .i64, .bool, .int .i64, .int .i64]], false⟩], rs := [⟨[.own 66 [.int .i64, .int .i64, .int .i64, .int .i64, .int .i64, .bool, .int .i64, .int .i64]], false⟩], fn := fun ds => (sm (rR ds 0), [.sl (idf (rR ds 0))]) }
def impl_copyFunctions_G : Ctx := []
theorem impl_copyFunctions_x : CtxHolds Try.prog impl_copyFunctions_G := ctx_nil
def impl_copyFunctions_A : List (Nat × Ann) := []
theorem impl_copyFunctions_r (N : Nat) (list_ : Rows) : runF Try.prog impl_copyFunctions_G impl_copyFunctions_A N Try.f56 impl_copyFunctions_s (.sl list_ :: ([])) = impl_copyFunctions_t Vm.bad (fun r0 => ((true, [.sl r0]) : Res)) list_ := by kernel_rfl
theorem impl_copyFunctions_h : Holds Try.prog 56 impl_copyFunctions_s := by
  refine holds_of_run (A := impl_copyFunctions_A) impl_copyFunctions_x Try.func56 rfl (by kernel_rfl) (of_decide_eq_true (by kernel_rfl)) (of_decide_eq_true (by kernel_rfl)) ?_
  intro ds hw hok
  replace hw : WtL ((.sl [.int .i64, .int .i64, .int .i64, .int .i64, .int .i64, .bool, .int .i64, .int .i64]) :: ([])) ds := hw
  obtain ⟨list_, ds, rfl, h_list_, hw⟩ := of_wt_sl hw
  obtain rfl := of_wt_nil hw
  exact ⟨0, ((impl_copyFunctions_r 0 list_).trans (impl_copyFunctions_c Vm.bad _ list_ h_list_ hok)).trans (by kernel_rfl)⟩

def impl_TickFunctions_s : Sum := { ps := [⟨[.sl [.int .i64, .int .i64, .int .i64, .int .i64, .int .i64, .bool, .int .i64, .int .i64]], false⟩, ⟨[.int .i64], false⟩], rs := [⟨[.own 66 [.int .i64, .int .i64, .int .i64, .int .i64, .int .i64, .bool, .int .i64, .int .i64]], false⟩], fn := fun ds => (TickFunctions_ok (rR ds 0) (rI ds 1), [.sl (TickFunctions (rR ds 0) (rI ds 1))]) }
def impl_TickFunctions_G : Ctx := [(56, impl_copyFunctions_s), (57, impl_RefillBucket_s)]
theorem impl_TickFunctions_x : CtxHolds Try.prog impl_TickFunctions_G := ctx_cons impl_copyFunctions_h (ctx_cons impl_RefillBucket_h ctx_nil)
def impl_TickFunctions_A : List (Nat × Ann) := [(3, { slots := [(1, .asis), (5, .asis), (10, .asis), (11, .asis)], boxes := [] })]
def impl_TickFunctions_K : Rows → Res := (fun r0 => ((true, [.sl r0]) : Res))
def impl_TickFunctions_m0 (ticks : Int) (x : Int) (x_1 : Int) (out_ : Rows) : St := { n := 27, sl := [(1, .int .i64 ticks), (5, .own 640320), (10, .int .i64 x), (11, .int .i64 x_1)], hp := [(640320, .row 66 [.int .i64, .int .i64, .int .i64, .int .i64, .int .i64, .bool, .int .i64, .int .i64] out_ false true)], ok := true, ls := [], lm := [] }
noncomputable def impl_TickFunctions_B0 (N : Nat) : (St → Res) → St → Res := loopB Try.prog impl_TickFunctions_G impl_TickFunctions_A N Try.f17 impl_TickFunctions_s [true, true, false, true, false] []
theorem impl_TickFunctions_b0 (N : Nat) (ticks : Int) (x : Int) (ih : St → Res) (x_1 : Int) (out_ : Rows) : impl_TickFunctions_B0 N ih (impl_TickFunctions_m0 ticks x x_1 out_) = impl_TickFunctions_l0 Vm.bad impl_TickFunctions_K ticks x (fun x_1 out_ => ih (impl_TickFunctions_m0 ticks x x_1 out_)) x_1 out_ := by kernel_rfl
theorem impl_TickFunctions_n0 (N : Nat) (ticks : Int) (x : Int) (m_ : Nat) : (fun x_1 out_ => loopN (impl_TickFunctions_B0 N) m_ (impl_TickFunctions_m0 ticks x x_1 out_)) = impl_TickFunctions_L0 Vm.bad impl_TickFunctions_K N ticks x m_ := by
  induction m_ with
  | zero => rfl
  | succ m_ ih =>
    funext x_1 out_
    show impl_TickFunctions_B0 N (loopN (impl_TickFunctions_B0 N) m_) (impl_TickFunctions_m0 ticks x x_1 out_) = _
    rw [impl_TickFunctions_b0 N ticks x]
    rw [ih]
    rfl
theorem impl_TickFunctions_r (N : Nat) (list_ : Rows) (ticks : Int) : runF Try.prog impl_TickFunctions_G impl_TickFunctions_A N Try.f17 impl_TickFunctions_s (.sl list_ :: (.int ticks :: ([]))) = impl_TickFunctions_f Vm.bad impl_TickFunctions_K N list_ ticks := by
  have h : runF Try.prog impl_TickFunctions_G impl_TickFunctions_A N Try.f17 impl_TickFunctions_s (.sl list_ :: (.int ticks :: ([]))) = impl_TickFunctions_t Vm.bad impl_TickFunctions_K (fun x x_1 out_ => loopN (impl_TickFunctions_B0 N) N (impl_TickFunctions_m0 ticks x x_1 out_)) list_ ticks := by kernel_rfl
  refine h.trans ?_
  unfold impl_TickFunctions_f
  have e0 : (fun x x_1 out_ => loopN (impl_TickFunctions_B0 N) N (impl_TickFunctions_m0 ticks x x_1 out_)) = (fun x => impl_TickFunctions_L0 Vm.bad impl_TickFunctions_K N ticks x N) := by
    funext x
    exact impl_TickFunctions_n0 N ticks x N
  exact congrArg (fun l_ => impl_TickFunctions_t Vm.bad impl_TickFunctions_K l_ list_ ticks) e0
theorem impl_TickFunctions_h : Holds Try.prog 17 impl_TickFunctions_s := by
  refine holds_of_run (A := impl_TickFunctions_A) impl_TickFunctions_x Try.func17 rfl (by kernel_rfl) (of_decide_eq_true (by kernel_rfl)) (of_decide_eq_true (by kernel_rfl)) ?_
  intro ds hw hok
  replace hw : WtL ((.sl [.int .i64, .int .i64, .int .i64, .int .i64, .int .i64, .bool, .int .i64, .int .i64]) :: ((.int .i64) :: ([]))) ds := hw
  obtain ⟨list_, ds, rfl, h_list_, hw⟩ := of_wt_sl hw
  obtain ⟨ticks, ds, rfl, h_ticks, hw⟩ := of_wt_int hw
  obtain rfl := of_wt_nil hw
  obtain ⟨N, hN⟩ := impl_TickFunctions_c Vm.bad impl_TickFunctions_K list_ ticks h_list_ h_ticks hok
  exact ⟨N, ((impl_TickFunctions_r N list_ ticks).trans hN).trans (by kernel_rfl)⟩

def spec_TickFunctions_s : Sum := { ps := [⟨[.sl [.int .i64, .int .i64, .int .i64, .int .i64, .int .i64, .bool, .int .i64, .int .i64]], false⟩, ⟨[.int .i64], false⟩], rs := [⟨[.own 66 [.int .i64, .int .i64, .int .i64, .int .i64, .int .i64, .bool, .int .i64, .int .i64]], false⟩], fn := fun ds => (TickFunctions_ok (rR ds 0) (rI ds 1), [.sl (TickFunctions (rR ds 0) (rI ds 1))]) }
def spec_TickFunctions_G : Ctx := [(55, spec_RefillBucket_s)]
theorem spec_TickFunctions_x : CtxHolds Try.prog spec_TickFunctions_G := ctx_cons spec_RefillBucket_h ctx_nil
def spec_TickFunctions_A : List (Nat × Ann) := [(3, { slots := [(1, .asis), (5, .asis), (6, .asis)], boxes := [] })]
def spec_TickFunctions_K : Rows → Res := (fun r0 => ((true, [.sl r0]) : Res))
def spec_TickFunctions_m0 (ticks : Int) (k : Int) (out_ : Rows) : St := { n := 28, sl := [(1, .int .i64 ticks), (5, .own 640320), (6, .int .i64 k)], hp := [(640320, .row 66 [.int .i64, .int .i64, .int .i64, .int .i64, .int .i64, .bool, .int .i64, .int .i64] out_ false true)], ok := true, ls := [], lm := [] }
noncomputable def spec_TickFunctions_B0 (N : Nat) : (St → Res) → St → Res := loopB Try.prog spec_TickFunctions_G spec_TickFunctions_A N Try.f16 spec_TickFunctions_s [true, true, false, true, false] []
theorem spec_TickFunctions_b0 (N : Nat) (ticks : Int) (ih : St → Res) (k : Int) (out_ : Rows) : spec_TickFunctions_B0 N ih (spec_TickFunctions_m0 ticks k out_) = spec_TickFunctions_l0 Vm.bad spec_TickFunctions_K ticks (fun k out_ => ih (spec_TickFunctions_m0 ticks k out_)) k out_ := by kernel_rfl
theorem spec_TickFunctions_n0 (N : Nat) (ticks : Int) (m_ : Nat) : (fun k out_ => loopN (spec_TickFunctions_B0 N) m_ (spec_TickFunctions_m0 ticks k out_)) = spec_TickFunctions_L0 Vm.bad spec_TickFunctions_K N ticks m_ := by
  induction m_ with
  | zero => rfl
  | succ m_ ih =>
    funext k out_
    show spec_TickFunctions_B0 N (loopN (spec_TickFunctions_B0 N) m_) (spec_TickFunctions_m0 ticks k out_) = _
    rw [spec_TickFunctions_b0 N ticks]
    rw [ih]
    rfl
theorem spec_TickFunctions_r (N : Nat) (list_ : Rows) (ticks : Int) : runF Try.prog spec_TickFunctions_G spec_TickFunctions_A N Try.f16 spec_TickFunctions_s (.sl list_ :: (.int ticks :: ([]))) = spec_TickFunctions_f Vm.bad spec_TickFunctions_K N list_ ticks := by
  have h : runF Try.prog spec_TickFunctions_G spec_TickFunctions_A N Try.f16 spec_TickFunctions_s (.sl list_ :: (.int ticks :: ([]))) = spec_TickFunctions_t Vm.bad spec_TickFunctions_K (fun k out_ => loopN (spec_TickFunctions_B0 N) N (spec_TickFunctions_m0 ticks k out_)) list_ ticks := by kernel_rfl
  refine h.trans ?_
  unfold spec_TickFunctions_f
  have e0 : (fun k out_ => loopN (spec_TickFunctions_B0 N) N (spec_TickFunctions_m0 ticks k out_)) = (spec_TickFunctions_L0 Vm.bad spec_TickFunctions_K N ticks N) := by
    exact spec_TickFunctions_n0 N ticks N
  exact congrArg (fun l_ => spec_TickFunctions_t Vm.bad spec_TickFunctions_K l_ list_ ticks) e0
theorem spec_TickFunctions_h : Holds Try.prog 16 spec_TickFunctions_s := by
  refine holds_of_run (A := spec_TickFunctions_A) spec_TickFunctions_x Try.func16 rfl (by kernel_rfl) (of_decide_eq_true (by kernel_rfl)) (of_decide_eq_true (by kernel_rfl)) ?_
  intro ds hw hok
  replace hw : WtL ((.sl [.int .i64, .int .i64, .int .i64, .int .i64, .int .i64, .bool, .int .i64, .int .i64]) :: ((.int .i64) :: ([]))) ds := hw
  obtain ⟨list_, ds, rfl, h_list_, hw⟩ := of_wt_sl hw
  obtain ⟨ticks, ds, rfl, h_ticks, hw⟩ := of_wt_int hw
  obtain rfl := of_wt_nil hw
  obtain ⟨N, hN⟩ := spec_TickFunctions_c Vm.bad spec_TickFunctions_K list_ ticks h_list_ h_ticks hok
  exact ⟨N, ((spec_TickFunctions_r N list_ ticks).trans hN).trans (by kernel_rfl)⟩

def laws_FnExactTickFunctions_s : Sum := { ps := [⟨[.sl [.int .i64, .int .i64, .int .i64, .int .i64, .int .i64, .bool, .int .i64, .int .i64]], false⟩, ⟨[.int .i64], false⟩], rs := [⟨[.imm .bool], false⟩], fn := fun ds => (fitL ((.sl [.int .i64, .int .i64, .int .i64, .int .i64, .int .i64, .bool, .int .i64, .int .i64]) :: ((.int .i64) :: ([]))) ds, [.bool true]) }
def laws_FnExactTickFunctions_G : Ctx := [(11, laws_szVirtualFunctionS_s), (13, laws_toVirtualFunctionS_s), (15, laws_eqVirtualFunctionS_s), (16, spec_TickFunctions_s), (17, impl_TickFunctions_s), (18, laws_markVirtualFunctionS_s), (19, laws_heldVirtualFunctionS_s)]
theorem laws_FnExactTickFunctions_x : CtxHolds Try.prog laws_FnExactTickFunctions_G := ctx_cons laws_szVirtualFunctionS_h (ctx_cons laws_toVirtualFunctionS_h (ctx_cons laws_eqVirtualFunctionS_h (ctx_cons spec_TickFunctions_h (ctx_cons impl_TickFunctions_h (ctx_cons laws_markVirtualFunctionS_h (ctx_cons laws_heldVirtualFunctionS_h ctx_nil))))))
def laws_FnExactTickFunctions_A : List (Nat × Ann) := []
theorem laws_FnExactTickFunctions_r (N : Nat) (aList : Rows) (aTicks : Int) : runF Try.prog laws_FnExactTickFunctions_G laws_FnExactTickFunctions_A N Try.f4 laws_FnExactTickFunctions_s (.sl aList :: (.int aTicks :: ([]))) = laws_FnExactTickFunctions_t Vm.bad (fun r0 => ((true, [.bool r0]) : Res)) aList aTicks := by kernel_rfl
theorem laws_FnExactTickFunctions_h : Holds Try.prog 4 laws_FnExactTickFunctions_s := by
  refine holds_of_run (A := laws_FnExactTickFunctions_A) laws_FnExactTickFunctions_x Try.func4 rfl (by kernel_rfl) (of_decide_eq_true (by kernel_rfl)) (of_decide_eq_true (by kernel_rfl)) ?_
  intro ds hw hok
  replace hw : WtL ((.sl [.int .i64, .int .i64, .int .i64, .int .i64, .int .i64, .bool, .int .i64, .int .i64]) :: ((.int .i64) :: ([]))) ds := hw
  obtain ⟨aList, ds, rfl, h_aList, hw⟩ := of_wt_sl hw
  obtain ⟨aTicks, ds, rfl, h_aTicks, hw⟩ := of_wt_int hw
  obtain rfl := of_wt_nil hw
  exact ⟨0, ((laws_FnExactTickFunctions_r 0 aList aTicks).trans (laws_FnExactTickFunctions_c Vm.bad _ aList aTicks h_aList h_aTicks hok)).trans (by kernel_rfl)⟩

end
end Go.Proofs.Ytfnkhejoihnlnaa.Pl
