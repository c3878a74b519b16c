/- The contracts of functions of the program: each computes what its plain form says. Conditions: none. -/
import Derived.Test.YthpmalpdnnbkgaaGreatPLs
import Derived.Test.YthpmalpdnnbkgaaGreatRows
set_option linter.unusedVariables false
set_option linter.unusedSimpArgs false
set_option maxRecDepth 100000
namespace Go.Proofs.YthpmalpdnnbkgaaGreat.Pl
open Vm
noncomputable section

def laws_toMapping_s : Sum := { ps := [⟨[.int .i64, .int .i64, .int .i64, .bool], true⟩], rs := [⟨[.imm (.int .i64), .imm (.int .i64), .imm (.int .i64), .imm .bool], true⟩], fn := fun ds => (true, SMapping.enc (idf (SMapping.decAt ds 0))) }
def laws_toMapping_G : Ctx := []
theorem laws_toMapping_x : CtxHolds Tryz.prog laws_toMapping_G := ctx_nil
def laws_toMapping_A : List (Nat × Ann) := []
theorem laws_toMapping_r (N : Nat) (a : SMapping) : runF Tryz.prog laws_toMapping_G laws_toMapping_A N Tryz.f90 laws_toMapping_s (a.enc ++ ([])) = laws_toMapping_t (fun r0 => ((true, SMapping.enc r0) : Res)) a := by kernel_rfl
theorem laws_toMapping_h : Holds Tryz.prog 90 laws_toMapping_s := by
  refine holds_of_run (A := laws_toMapping_A) laws_toMapping_x Tryz.func90 rfl (by kernel_rfl) (of_decide_eq_true (by kernel_rfl)) (of_decide_eq_true (by kernel_rfl)) ?_
  intro ds hw hok
  replace hw : WtL (SMapping.ct ++ ([])) ds := hw
  obtain ⟨a, ds, rfl, h_a, hw⟩ := SMapping.of_wt (r := _) hw
  obtain rfl := of_wt_nil hw
  exact ⟨0, ((laws_toMapping_r 0 a).trans (laws_toMapping_c _ a h_a)).trans (by kernel_rfl)⟩

def laws_toMappingS_s : Sum := { ps := [⟨[.sl [.int .i64, .int .i64, .int .i64, .bool]], false⟩], rs := [⟨[.own 157 [.int .i64, .int .i64, .int .i64, .bool]], false⟩], fn := fun ds => (sm (rR ds 0), [.sl (idf (rR ds 0))]) }
def laws_toMappingS_G : Ctx := [(90, laws_toMapping_s)]
theorem laws_toMappingS_x : CtxHolds Tryz.prog laws_toMappingS_G := ctx_cons laws_toMapping_h ctx_nil
def laws_toMappingS_A : List (Nat × Ann) := [(3, { slots := [(0, .asis), (3, .asis), (4, .asis)], boxes := [] })]
def laws_toMappingS_K : Rows → Res := (fun r0 => ((true, [.sl r0]) : Res))
def laws_toMappingS_m0 (a : Rows) (i : Int) (out_ : Rows) : St := { n := 23, sl := [(0, .sl [.int .i64, .int .i64, .int .i64, .bool] a), (3, .own 640192), (4, .int .i64 i)], hp := [(640192, .row 157 [.int .i64, .int .i64, .int .i64, .bool] out_ false true)], ok := true, ls := [], lm := [] }
noncomputable def laws_toMappingS_B0 (N : Nat) : (St → Res) → St → Res := loopB Tryz.prog laws_toMappingS_G laws_toMappingS_A N Tryz.f30 laws_toMappingS_s [true, true, false, true, false] []
theorem laws_toMappingS_b0 (N : Nat) (a : Rows) (ih : St → Res) (i : Int) (out_ : Rows) : laws_toMappingS_B0 N ih (laws_toMappingS_m0 a i out_) = laws_toMappingS_l0 Vm.bad laws_toMappingS_K a (fun i out_ => ih (laws_toMappingS_m0 a i out_)) i out_ := by kernel_rfl
theorem laws_toMappingS_n0 (N : Nat) (a : Rows) (m_ : Nat) : (fun i out_ => loopN (laws_toMappingS_B0 N) m_ (laws_toMappingS_m0 a i out_)) = laws_toMappingS_L0 Vm.bad laws_toMappingS_K N a m_ := by
  induction m_ with
  | zero => rfl
  | succ m_ ih =>
    funext i out_
    show laws_toMappingS_B0 N (loopN (laws_toMappingS_B0 N) m_) (laws_toMappingS_m0 a i out_) = _
    rw [laws_toMappingS_b0 N a]
    rw [ih]
    rfl
theorem laws_toMappingS_r (N : Nat) (a : Rows) : runF Tryz.prog laws_toMappingS_G laws_toMappingS_A N Tryz.f30 laws_toMappingS_s (.sl a :: ([])) = laws_toMappingS_f Vm.bad laws_toMappingS_K N a := by
  have run_ : runF Tryz.prog laws_toMappingS_G laws_toMappingS_A N Tryz.f30 laws_toMappingS_s (.sl a :: ([])) = laws_toMappingS_t Vm.bad laws_toMappingS_K (fun i out_ => loopN (laws_toMappingS_B0 N) N (laws_toMappingS_m0 a i out_)) a := by kernel_rfl
  refine run_.trans ?_
  unfold laws_toMappingS_f
  have e0 : (fun i out_ => loopN (laws_toMappingS_B0 N) N (laws_toMappingS_m0 a i out_)) = (laws_toMappingS_L0 Vm.bad laws_toMappingS_K N a N) := by
    exact laws_toMappingS_n0 N a N
  exact congrArg (fun l_ => laws_toMappingS_t Vm.bad laws_toMappingS_K l_ a) e0
theorem laws_toMappingS_h : Holds Tryz.prog 30 laws_toMappingS_s := by
  refine holds_of_run (A := laws_toMappingS_A) laws_toMappingS_x Tryz.func30 rfl (by kernel_rfl) (of_decide_eq_true (by kernel_rfl)) (of_decide_eq_true (by kernel_rfl)) ?_
  intro ds hw hok
  replace hw : WtL ((.sl [.int .i64, .int .i64, .int .i64, .bool]) :: ([])) ds := hw
  obtain ⟨a, ds, rfl, h_a, hw⟩ := of_wt_sl hw
  obtain rfl := of_wt_nil hw
  obtain ⟨N, hN⟩ := laws_toMappingS_c Vm.bad laws_toMappingS_K a h_a hok
  exact ⟨N, ((laws_toMappingS_r N a).trans hN).trans (by kernel_rfl)⟩

def laws_szStringS_s : Sum := { ps := [⟨[.sl [.str]], false⟩, ⟨[.int .i64], false⟩], rs := [⟨[.imm (.int .i64)], false⟩], fn := fun ds => (true, [.int (laws_szStringS (rR ds 0) (rI ds 1))]) }
def laws_szStringS_G : Ctx := []
theorem laws_szStringS_x : CtxHolds Tryz.prog laws_szStringS_G := ctx_nil
def laws_szStringS_A : List (Nat × Ann) := [(5, { slots := [(0, .asis), (1, .asis), (5, .asis)], boxes := [] })]
def laws_szStringS_K : Int → Res := (fun r0 => ((true, [.int r0]) : Res))
def laws_szStringS_m0 (a : Rows) (left_1 : Int) (i : Int) : St := { n := 28, sl := [(0, .sl [.str] a), (1, .int .i64 left_1), (5, .int .i64 i)], hp := [], ok := true, ls := [], lm := [] }
noncomputable def laws_szStringS_B0 (N : Nat) : (St → Res) → St → Res := loopB Tryz.prog laws_szStringS_G laws_szStringS_A N Tryz.f27 laws_szStringS_s [true, true, true, false, true, false] []
theorem laws_szStringS_b0 (N : Nat) (a : Rows) (ih : St → Res) (left_1 : Int) (i : Int) : laws_szStringS_B0 N ih (laws_szStringS_m0 a left_1 i) = laws_szStringS_l0 Vm.bad laws_szStringS_K a (fun left_1 i => ih (laws_szStringS_m0 a left_1 i)) left_1 i := by kernel_rfl
theorem laws_szStringS_n0 (N : Nat) (a : Rows) (m_ : Nat) : (fun left_1 i => loopN (laws_szStringS_B0 N) m_ (laws_szStringS_m0 a left_1 i)) = laws_szStringS_L0 Vm.bad laws_szStringS_K N a m_ := by
  induction m_ with
  | zero => rfl
  | succ m_ ih =>
    funext left_1 i
    show laws_szStringS_B0 N (loopN (laws_szStringS_B0 N) m_) (laws_szStringS_m0 a left_1 i) = _
    rw [laws_szStringS_b0 N a]
    rw [ih]
    rfl
theorem laws_szStringS_r (N : Nat) (a : Rows) (left : Int) : runF Tryz.prog laws_szStringS_G laws_szStringS_A N Tryz.f27 laws_szStringS_s (.sl a :: (.int left :: ([]))) = laws_szStringS_f Vm.bad laws_szStringS_K N a left := by
  have run_ : runF Tryz.prog laws_szStringS_G laws_szStringS_A N Tryz.f27 laws_szStringS_s (.sl a :: (.int left :: ([]))) = laws_szStringS_t Vm.bad laws_szStringS_K (fun left_1 i => loopN (laws_szStringS_B0 N) N (laws_szStringS_m0 a left_1 i)) a left := by kernel_rfl
  refine run_.trans ?_
  unfold laws_szStringS_f
  have e0 : (fun left_1 i => loopN (laws_szStringS_B0 N) N (laws_szStringS_m0 a left_1 i)) = (laws_szStringS_L0 Vm.bad laws_szStringS_K N a N) := by
    exact laws_szStringS_n0 N a N
  exact congrArg (fun l_ => laws_szStringS_t Vm.bad laws_szStringS_K l_ a left) e0
theorem laws_szStringS_h : Holds Tryz.prog 27 laws_szStringS_s := by
  refine holds_of_run (A := laws_szStringS_A) laws_szStringS_x Tryz.func27 rfl (by kernel_rfl) (of_decide_eq_true (by kernel_rfl)) (of_decide_eq_true (by kernel_rfl)) ?_
  intro ds hw hok
  replace hw : WtL ((.sl [.str]) :: ((.int .i64) :: ([]))) ds := hw
  obtain ⟨a, ds, rfl, h_a, hw⟩ := of_wt_sl hw
  obtain ⟨left, ds, rfl, h_left, hw⟩ := of_wt_int hw
  obtain rfl := of_wt_nil hw
  obtain ⟨N, hN⟩ := laws_szStringS_c Vm.bad laws_szStringS_K a left h_a h_left
  exact ⟨N, ((laws_szStringS_r N a left).trans hN).trans (by kernel_rfl)⟩

def laws_szMemory_s : Sum := { ps := [⟨[.sl [.str]], true⟩, ⟨[.int .i64], false⟩], rs := [⟨[.imm (.int .i64)], false⟩], fn := fun ds => (true, [.int (laws_szMemory (SMemory.decAt ds 0) (rI ds 1))]) }
def laws_szMemory_G : Ctx := [(27, laws_szStringS_s)]
theorem laws_szMemory_x : CtxHolds Tryz.prog laws_szMemory_G := ctx_cons laws_szStringS_h ctx_nil
def laws_szMemory_A : List (Nat × Ann) := []
theorem laws_szMemory_r (N : Nat) (a : SMemory) (left : Int) : runF Tryz.prog laws_szMemory_G laws_szMemory_A N Tryz.f17 laws_szMemory_s (a.enc ++ (.int left :: ([]))) = laws_szMemory_t (fun r0 => ((true, [.int r0]) : Res)) a left := by kernel_rfl
theorem laws_szMemory_h : Holds Tryz.prog 17 laws_szMemory_s := by
  refine holds_of_run (A := laws_szMemory_A) laws_szMemory_x Tryz.func17 rfl (by kernel_rfl) (of_decide_eq_true (by kernel_rfl)) (of_decide_eq_true (by kernel_rfl)) ?_
  intro ds hw hok
  replace hw : WtL (SMemory.ct ++ ((.int .i64) :: ([]))) ds := hw
  obtain ⟨a, ds, rfl, h_a, hw⟩ := SMemory.of_wt (r := _) hw
  obtain ⟨left, ds, rfl, h_left, hw⟩ := of_wt_int hw
  obtain rfl := of_wt_nil hw
  exact ⟨0, ((laws_szMemory_r 0 a left).trans (laws_szMemory_c _ a left)).trans (by kernel_rfl)⟩

def laws_szMappingS_s : Sum := { ps := [⟨[.sl [.int .i64, .int .i64, .int .i64, .bool]], false⟩, ⟨[.int .i64], false⟩], rs := [⟨[.imm (.int .i64)], false⟩], fn := fun ds => (true, [.int (szFlat (rR ds 0) (rI ds 1))]) }
def laws_szMappingS_G : Ctx := []
theorem laws_szMappingS_x : CtxHolds Tryz.prog laws_szMappingS_G := ctx_nil
def laws_szMappingS_A : List (Nat × Ann) := []
theorem laws_szMappingS_r (N : Nat) (a : Rows) (left : Int) : runF Tryz.prog laws_szMappingS_G laws_szMappingS_A N Tryz.f18 laws_szMappingS_s (.sl a :: (.int left :: ([]))) = laws_szMappingS_t (fun r0 => ((true, [.int r0]) : Res)) a left := by kernel_rfl
theorem laws_szMappingS_h : Holds Tryz.prog 18 laws_szMappingS_s := by
  refine holds_of_run (A := laws_szMappingS_A) laws_szMappingS_x Tryz.func18 rfl (by kernel_rfl) (of_decide_eq_true (by kernel_rfl)) (of_decide_eq_true (by kernel_rfl)) ?_
  intro ds hw hok
  replace hw : WtL ((.sl [.int .i64, .int .i64, .int .i64, .bool]) :: ((.int .i64) :: ([]))) ds := hw
  obtain ⟨a, ds, rfl, h_a, hw⟩ := of_wt_sl hw
  obtain ⟨left, ds, rfl, h_left, hw⟩ := of_wt_int hw
  obtain rfl := of_wt_nil hw
  exact ⟨0, ((laws_szMappingS_r 0 a left).trans (laws_szMappingS_c _ a left h_a h_left)).trans (by kernel_rfl)⟩

def laws_szIntS_s : Sum := { ps := [⟨[.sl [.int .i64]], false⟩, ⟨[.int .i64], false⟩], rs := [⟨[.imm (.int .i64)], false⟩], fn := fun ds => (true, [.int (szFlat (rR ds 0) (rI ds 1))]) }
def laws_szIntS_G : Ctx := []
theorem laws_szIntS_x : CtxHolds Tryz.prog laws_szIntS_G := ctx_nil
def laws_szIntS_A : List (Nat × Ann) := []
theorem laws_szIntS_r (N : Nat) (a : Rows) (left : Int) : runF Tryz.prog laws_szIntS_G laws_szIntS_A N Tryz.f28 laws_szIntS_s (.sl a :: (.int left :: ([]))) = laws_szIntS_t (fun r0 => ((true, [.int r0]) : Res)) a left := by kernel_rfl
theorem laws_szIntS_h : Holds Tryz.prog 28 laws_szIntS_s := by
  refine holds_of_run (A := laws_szIntS_A) laws_szIntS_x Tryz.func28 rfl (by kernel_rfl) (of_decide_eq_true (by kernel_rfl)) (of_decide_eq_true (by kernel_rfl)) ?_
  intro ds hw hok
  replace hw : WtL ((.sl [.int .i64]) :: ((.int .i64) :: ([]))) ds := hw
  obtain ⟨a, ds, rfl, h_a, hw⟩ := of_wt_sl hw
  obtain ⟨left, ds, rfl, h_left, hw⟩ := of_wt_int hw
  obtain rfl := of_wt_nil hw
  exact ⟨0, ((laws_szIntS_r 0 a left).trans (laws_szIntS_c _ a left h_a h_left)).trans (by kernel_rfl)⟩

def laws_szPool_s : Sum := { ps := [⟨[.int .i64, .int .i64, .int .i64, .sl [.int .i64]], true⟩, ⟨[.int .i64], false⟩], rs := [⟨[.imm (.int .i64)], false⟩], fn := fun ds => (true, [.int (laws_szPool (SPool.decAt ds 0) (rI ds 4))]) }
def laws_szPool_G : Ctx := [(28, laws_szIntS_s)]
theorem laws_szPool_x : CtxHolds Tryz.prog laws_szPool_G := ctx_cons laws_szIntS_h ctx_nil
def laws_szPool_A : List (Nat × Ann) := []
theorem laws_szPool_r (N : Nat) (a : SPool) (left : Int) : runF Tryz.prog laws_szPool_G laws_szPool_A N Tryz.f83 laws_szPool_s (a.enc ++ (.int left :: ([]))) = laws_szPool_t (fun r0 => ((true, [.int r0]) : Res)) a left := by kernel_rfl
theorem laws_szPool_h : Holds Tryz.prog 83 laws_szPool_s := by
  refine holds_of_run (A := laws_szPool_A) laws_szPool_x Tryz.func83 rfl (by kernel_rfl) (of_decide_eq_true (by kernel_rfl)) (of_decide_eq_true (by kernel_rfl)) ?_
  intro ds hw hok
  replace hw : WtL (SPool.ct ++ ((.int .i64) :: ([]))) ds := hw
  obtain ⟨a, ds, rfl, h_a, hw⟩ := SPool.of_wt (r := _) hw
  obtain ⟨left, ds, rfl, h_left, hw⟩ := of_wt_int hw
  obtain rfl := of_wt_nil hw
  exact ⟨0, ((laws_szPool_r 0 a left).trans (laws_szPool_c _ a left)).trans (by kernel_rfl)⟩

def laws_szSent_s : Sum := { ps := [⟨[.int .i64, .int .i64, .sl [.int .i64]], true⟩, ⟨[.int .i64], false⟩], rs := [⟨[.imm (.int .i64)], false⟩], fn := fun ds => (true, [.int (laws_szSent (SSent.decAt ds 0) (rI ds 3))]) }
def laws_szSent_G : Ctx := [(28, laws_szIntS_s)]
theorem laws_szSent_x : CtxHolds Tryz.prog laws_szSent_G := ctx_cons laws_szIntS_h ctx_nil
def laws_szSent_A : List (Nat × Ann) := []
theorem laws_szSent_r (N : Nat) (a : SSent) (left : Int) : runF Tryz.prog laws_szSent_G laws_szSent_A N Tryz.f154 laws_szSent_s (a.enc ++ (.int left :: ([]))) = laws_szSent_t (fun r0 => ((true, [.int r0]) : Res)) a left := by kernel_rfl
theorem laws_szSent_h : Holds Tryz.prog 154 laws_szSent_s := by
  refine holds_of_run (A := laws_szSent_A) laws_szSent_x Tryz.func154 rfl (by kernel_rfl) (of_decide_eq_true (by kernel_rfl)) (of_decide_eq_true (by kernel_rfl)) ?_
  intro ds hw hok
  replace hw : WtL (SSent.ct ++ ((.int .i64) :: ([]))) ds := hw
  obtain ⟨a, ds, rfl, h_a, hw⟩ := SSent.of_wt (r := _) hw
  obtain ⟨left, ds, rfl, h_left, hw⟩ := of_wt_int hw
  obtain rfl := of_wt_nil hw
  exact ⟨0, ((laws_szSent_r 0 a left).trans (laws_szSent_c _ a left)).trans (by kernel_rfl)⟩

def laws_szSentS_s : Sum := { ps := [⟨[.sl [.int .i64, .int .i64, .sl [.int .i64]]], false⟩, ⟨[.int .i64], false⟩], rs := [⟨[.imm (.int .i64)], false⟩], fn := fun ds => (true, [.int (laws_szSentS (rR ds 0) (rI ds 1))]) }
def laws_szSentS_G : Ctx := [(154, laws_szSent_s)]
theorem laws_szSentS_x : CtxHolds Tryz.prog laws_szSentS_G := ctx_cons laws_szSent_h ctx_nil
def laws_szSentS_A : List (Nat × Ann) := [(5, { slots := [(0, .asis), (1, .asis), (5, .asis)], boxes := [] })]
def laws_szSentS_K : Int → Res := (fun r0 => ((true, [.int r0]) : Res))
def laws_szSentS_m0 (a : Rows) (left_1 : Int) (i : Int) : St := { n := 27, sl := [(0, .sl [.int .i64, .int .i64, .sl [.int .i64]] a), (1, .int .i64 left_1), (5, .int .i64 i)], hp := [], ok := true, ls := [], lm := [] }
noncomputable def laws_szSentS_B0 (N : Nat) : (St → Res) → St → Res := loopB Tryz.prog laws_szSentS_G laws_szSentS_A N Tryz.f84 laws_szSentS_s [true, true, true, false, true, false] []
theorem laws_szSentS_b0 (N : Nat) (a : Rows) (ih : St → Res) (left_1 : Int) (i : Int) : laws_szSentS_B0 N ih (laws_szSentS_m0 a left_1 i) = laws_szSentS_l0 Vm.bad laws_szSentS_K a (fun left_1 i => ih (laws_szSentS_m0 a left_1 i)) left_1 i := by kernel_rfl
theorem laws_szSentS_n0 (N : Nat) (a : Rows) (m_ : Nat) : (fun left_1 i => loopN (laws_szSentS_B0 N) m_ (laws_szSentS_m0 a left_1 i)) = laws_szSentS_L0 Vm.bad laws_szSentS_K N a m_ := by
  induction m_ with
  | zero => rfl
  | succ m_ ih =>
    funext left_1 i
    show laws_szSentS_B0 N (loopN (laws_szSentS_B0 N) m_) (laws_szSentS_m0 a left_1 i) = _
    rw [laws_szSentS_b0 N a]
    rw [ih]
    rfl
theorem laws_szSentS_r (N : Nat) (a : Rows) (left : Int) : runF Tryz.prog laws_szSentS_G laws_szSentS_A N Tryz.f84 laws_szSentS_s (.sl a :: (.int left :: ([]))) = laws_szSentS_f Vm.bad laws_szSentS_K N a left := by
  have run_ : runF Tryz.prog laws_szSentS_G laws_szSentS_A N Tryz.f84 laws_szSentS_s (.sl a :: (.int left :: ([]))) = laws_szSentS_t Vm.bad laws_szSentS_K (fun left_1 i => loopN (laws_szSentS_B0 N) N (laws_szSentS_m0 a left_1 i)) a left := by kernel_rfl
  refine run_.trans ?_
  unfold laws_szSentS_f
  have e0 : (fun left_1 i => loopN (laws_szSentS_B0 N) N (laws_szSentS_m0 a left_1 i)) = (laws_szSentS_L0 Vm.bad laws_szSentS_K N a N) := by
    exact laws_szSentS_n0 N a N
  exact congrArg (fun l_ => laws_szSentS_t Vm.bad laws_szSentS_K l_ a left) e0
theorem laws_szSentS_h : Holds Tryz.prog 84 laws_szSentS_s := by
  refine holds_of_run (A := laws_szSentS_A) laws_szSentS_x Tryz.func84 rfl (by kernel_rfl) (of_decide_eq_true (by kernel_rfl)) (of_decide_eq_true (by kernel_rfl)) ?_
  intro ds hw hok
  replace hw : WtL ((.sl [.int .i64, .int .i64, .sl [.int .i64]]) :: ((.int .i64) :: ([]))) ds := hw
  obtain ⟨a, ds, rfl, h_a, hw⟩ := of_wt_sl hw
  obtain ⟨left, ds, rfl, h_left, hw⟩ := of_wt_int hw
  obtain rfl := of_wt_nil hw
  obtain ⟨N, hN⟩ := laws_szSentS_c Vm.bad laws_szSentS_K a left h_a h_left
  exact ⟨N, ((laws_szSentS_r N a left).trans hN).trans (by kernel_rfl)⟩

def laws_szTxQueue_s : Sum := { ps := [⟨[.int .i64, .int .i64, .int .i64, .int .i64, .int .i64, .int .i64, .int .i64, .sl [.int .i64], .sl [.int .i64, .int .i64, .sl [.int .i64]], .int .i64], true⟩, ⟨[.int .i64], false⟩], rs := [⟨[.imm (.int .i64)], false⟩], fn := fun ds => (true, [.int (laws_szTxQueue (STxQueue.decAt ds 0) (rI ds 10))]) }
def laws_szTxQueue_G : Ctx := [(83, laws_szPool_s), (84, laws_szSentS_s)]
theorem laws_szTxQueue_x : CtxHolds Tryz.prog laws_szTxQueue_G := ctx_cons laws_szPool_h (ctx_cons laws_szSentS_h ctx_nil)
def laws_szTxQueue_A : List (Nat × Ann) := []
theorem laws_szTxQueue_r (N : Nat) (a : STxQueue) (left : Int) : runF Tryz.prog laws_szTxQueue_G laws_szTxQueue_A N Tryz.f19 laws_szTxQueue_s (a.enc ++ (.int left :: ([]))) = laws_szTxQueue_t (fun r0 => ((true, [.int r0]) : Res)) a left := by kernel_rfl
theorem laws_szTxQueue_h : Holds Tryz.prog 19 laws_szTxQueue_s := by
  refine holds_of_run (A := laws_szTxQueue_A) laws_szTxQueue_x Tryz.func19 rfl (by kernel_rfl) (of_decide_eq_true (by kernel_rfl)) (of_decide_eq_true (by kernel_rfl)) ?_
  intro ds hw hok
  replace hw : WtL (STxQueue.ct ++ ((.int .i64) :: ([]))) ds := hw
  obtain ⟨a, ds, rfl, h_a, hw⟩ := STxQueue.of_wt (r := _) hw
  obtain ⟨left, ds, rfl, h_left, hw⟩ := of_wt_int hw
  obtain rfl := of_wt_nil hw
  exact ⟨0, ((laws_szTxQueue_r 0 a left).trans (laws_szTxQueue_c _ a left)).trans (by kernel_rfl)⟩

def laws_szSegment_s : Sum := { ps := [⟨[.int .i64, .int .i64, .int .i64, .int .i64, .int .i64, .int .i64, .int .i64, .str], true⟩, ⟨[.int .i64], false⟩], rs := [⟨[.imm (.int .i64)], false⟩], fn := fun ds => (true, [.int (laws_szSegment (SSegment.decAt ds 0) (rI ds 8))]) }
def laws_szSegment_G : Ctx := []
theorem laws_szSegment_x : CtxHolds Tryz.prog laws_szSegment_G := ctx_nil
def laws_szSegment_A : List (Nat × Ann) := []
theorem laws_szSegment_r (N : Nat) (a : SSegment) (left : Int) : runF Tryz.prog laws_szSegment_G laws_szSegment_A N Tryz.f211 laws_szSegment_s (a.enc ++ (.int left :: ([]))) = laws_szSegment_t (fun r0 => ((true, [.int r0]) : Res)) a left := by kernel_rfl
theorem laws_szSegment_h : Holds Tryz.prog 211 laws_szSegment_s := by
  refine holds_of_run (A := laws_szSegment_A) laws_szSegment_x Tryz.func211 rfl (by kernel_rfl) (of_decide_eq_true (by kernel_rfl)) (of_decide_eq_true (by kernel_rfl)) ?_
  intro ds hw hok
  replace hw : WtL (SSegment.ct ++ ((.int .i64) :: ([]))) ds := hw
  obtain ⟨a, ds, rfl, h_a, hw⟩ := SSegment.of_wt (r := _) hw
  obtain ⟨left, ds, rfl, h_left, hw⟩ := of_wt_int hw
  obtain rfl := of_wt_nil hw
  exact ⟨0, ((laws_szSegment_r 0 a left).trans (laws_szSegment_c _ a left)).trans (by kernel_rfl)⟩

def laws_szPacket_s : Sum := { ps := [⟨[.int .i64, .int .i64, .int .i64, .int .i64, .int .i64, .int .i64, .int .i64, .int .i64, .int .i64, .int .i64, .int .i64, .int .i64, .int .i64, .int .i64, .int .i64, .str], true⟩, ⟨[.int .i64], false⟩], rs := [⟨[.imm (.int .i64)], false⟩], fn := fun ds => (true, [.int (laws_szPacket (SPacket.decAt ds 0) (rI ds 16))]) }
def laws_szPacket_G : Ctx := [(211, laws_szSegment_s)]
theorem laws_szPacket_x : CtxHolds Tryz.prog laws_szPacket_G := ctx_cons laws_szSegment_h ctx_nil
def laws_szPacket_A : List (Nat × Ann) := []
theorem laws_szPacket_r (N : Nat) (a : SPacket) (left : Int) : runF Tryz.prog laws_szPacket_G laws_szPacket_A N Tryz.f192 laws_szPacket_s (a.enc ++ (.int left :: ([]))) = laws_szPacket_t (fun r0 => ((true, [.int r0]) : Res)) a left := by kernel_rfl
theorem laws_szPacket_h : Holds Tryz.prog 192 laws_szPacket_s := by
  refine holds_of_run (A := laws_szPacket_A) laws_szPacket_x Tryz.func192 rfl (by kernel_rfl) (of_decide_eq_true (by kernel_rfl)) (of_decide_eq_true (by kernel_rfl)) ?_
  intro ds hw hok
  replace hw : WtL (SPacket.ct ++ ((.int .i64) :: ([]))) ds := hw
  obtain ⟨a, ds, rfl, h_a, hw⟩ := SPacket.of_wt (r := _) hw
  obtain ⟨left, ds, rfl, h_left, hw⟩ := of_wt_int hw
  obtain rfl := of_wt_nil hw
  exact ⟨0, ((laws_szPacket_r 0 a left).trans (laws_szPacket_c _ a left)).trans (by kernel_rfl)⟩

def laws_szSuper_s : Sum := { ps := [⟨[.int .i64, .int .i64, .int .i64, .int .i64, .int .i64, .int .i64, .int .i64, .int .i64, .int .i64, .int .i64, .int .i64, .int .i64, .int .i64, .int .i64, .int .i64, .str, .int .i64, .int .i64], true⟩, ⟨[.int .i64], false⟩], rs := [⟨[.imm (.int .i64)], false⟩], fn := fun ds => (true, [.int (laws_szSuper (SSuper.decAt ds 0) (rI ds 18))]) }
def laws_szSuper_G : Ctx := [(192, laws_szPacket_s)]
theorem laws_szSuper_x : CtxHolds Tryz.prog laws_szSuper_G := ctx_cons laws_szPacket_h ctx_nil
def laws_szSuper_A : List (Nat × Ann) := []
theorem laws_szSuper_r (N : Nat) (a : SSuper) (left : Int) : runF Tryz.prog laws_szSuper_G laws_szSuper_A N Tryz.f155 laws_szSuper_s (a.enc ++ (.int left :: ([]))) = laws_szSuper_t (fun r0 => ((true, [.int r0]) : Res)) a left := by kernel_rfl
theorem laws_szSuper_h : Holds Tryz.prog 155 laws_szSuper_s := by
  refine holds_of_run (A := laws_szSuper_A) laws_szSuper_x Tryz.func155 rfl (by kernel_rfl) (of_decide_eq_true (by kernel_rfl)) (of_decide_eq_true (by kernel_rfl)) ?_
  intro ds hw hok
  replace hw : WtL (SSuper.ct ++ ((.int .i64) :: ([]))) ds := hw
  obtain ⟨a, ds, rfl, h_a, hw⟩ := SSuper.of_wt (r := _) hw
  obtain ⟨left, ds, rfl, h_left, hw⟩ := of_wt_int hw
  obtain rfl := of_wt_nil hw
  exact ⟨0, ((laws_szSuper_r 0 a left).trans (laws_szSuper_c _ a left)).trans (by kernel_rfl)⟩

def laws_szRxQueue_s : Sum := { ps := [⟨[.int .i64, .int .i64, .int .i64, .int .i64, .int .i64, .int .i64, .int .i64, .int .i64, .int .i64, .int .i64, .int .i64, .int .i64, .int .i64, .int .i64, .int .i64, .int .i64, .int .i64, .int .i64, .int .i64, .int .i64, .int .i64, .int .i64, .int .i64, .int .i64, .int .i64, .str, .int .i64, .int .i64, .bool, .int .i64], true⟩, ⟨[.int .i64], false⟩], rs := [⟨[.imm (.int .i64)], false⟩], fn := fun ds => (true, [.int (laws_szRxQueue (SRxQueue.decAt ds 0) (rI ds 30))]) }
def laws_szRxQueue_G : Ctx := [(155, laws_szSuper_s)]
theorem laws_szRxQueue_x : CtxHolds Tryz.prog laws_szRxQueue_G := ctx_cons laws_szSuper_h ctx_nil
def laws_szRxQueue_A : List (Nat × Ann) := []
theorem laws_szRxQueue_r (N : Nat) (a : SRxQueue) (left : Int) : runF Tryz.prog laws_szRxQueue_G laws_szRxQueue_A N Tryz.f85 laws_szRxQueue_s (a.enc ++ (.int left :: ([]))) = laws_szRxQueue_t (fun r0 => ((true, [.int r0]) : Res)) a left := by kernel_rfl
theorem laws_szRxQueue_h : Holds Tryz.prog 85 laws_szRxQueue_s := by
  refine holds_of_run (A := laws_szRxQueue_A) laws_szRxQueue_x Tryz.func85 rfl (by kernel_rfl) (of_decide_eq_true (by kernel_rfl)) (of_decide_eq_true (by kernel_rfl)) ?_
  intro ds hw hok
  replace hw : WtL (SRxQueue.ct ++ ((.int .i64) :: ([]))) ds := hw
  obtain ⟨a, ds, rfl, h_a, hw⟩ := SRxQueue.of_wt (r := _) hw
  obtain ⟨left, ds, rfl, h_left, hw⟩ := of_wt_int hw
  obtain rfl := of_wt_nil hw
  exact ⟨0, ((laws_szRxQueue_r 0 a left).trans (laws_szRxQueue_c _ a left)).trans (by kernel_rfl)⟩

def laws_szRxQueueS_s : Sum := { ps := [⟨[.sl [.int .i64, .int .i64, .int .i64, .int .i64, .int .i64, .int .i64, .int .i64, .int .i64, .int .i64, .int .i64, .int .i64, .int .i64, .int .i64, .int .i64, .int .i64, .int .i64, .int .i64, .int .i64, .int .i64, .int .i64, .int .i64, .int .i64, .int .i64, .int .i64, .int .i64, .str, .int .i64, .int .i64, .bool, .int .i64]], false⟩, ⟨[.int .i64], false⟩], rs := [⟨[.imm (.int .i64)], false⟩], fn := fun ds => (true, [.int (laws_szRxQueueS (rR ds 0) (rI ds 1))]) }
def laws_szRxQueueS_G : Ctx := [(85, laws_szRxQueue_s)]
theorem laws_szRxQueueS_x : CtxHolds Tryz.prog laws_szRxQueueS_G := ctx_cons laws_szRxQueue_h ctx_nil
def laws_szRxQueueS_A : List (Nat × Ann) := [(5, { slots := [(0, .asis), (1, .asis), (5, .asis)], boxes := [] })]
def laws_szRxQueueS_K : Int → Res := (fun r0 => ((true, [.int r0]) : Res))
def laws_szRxQueueS_m0 (a : Rows) (left_1 : Int) (i : Int) : St := { n := 27, sl := [(0, .sl [.int .i64, .int .i64, .int .i64, .int .i64, .int .i64, .int .i64, .int .i64, .int .i64, .int .i64, .int .i64, .int .i64, .int .i64, .int .i64, .int .i64, .int .i64, .int .i64, .int .i64, .int .i64, .int .i64, .int .i64, .int .i64, .int .i64, .int .i64, .int .i64, .int .i64, .str, .int .i64, .int .i64, .bool, .int .i64] a), (1, .int .i64 left_1), (5, .int .i64 i)], hp := [], ok := true, ls := [], lm := [] }
noncomputable def laws_szRxQueueS_B0 (N : Nat) : (St → Res) → St → Res := loopB Tryz.prog laws_szRxQueueS_G laws_szRxQueueS_A N Tryz.f20 laws_szRxQueueS_s [true, true, true, false, true, false] []
theorem laws_szRxQueueS_b0 (N : Nat) (a : Rows) (ih : St → Res) (left_1 : Int) (i : Int) : laws_szRxQueueS_B0 N ih (laws_szRxQueueS_m0 a left_1 i) = laws_szRxQueueS_l0 Vm.bad laws_szRxQueueS_K a (fun left_1 i => ih (laws_szRxQueueS_m0 a left_1 i)) left_1 i := by kernel_rfl
theorem laws_szRxQueueS_n0 (N : Nat) (a : Rows) (m_ : Nat) : (fun left_1 i => loopN (laws_szRxQueueS_B0 N) m_ (laws_szRxQueueS_m0 a left_1 i)) = laws_szRxQueueS_L0 Vm.bad laws_szRxQueueS_K N a m_ := by
  induction m_ with
  | zero => rfl
  | succ m_ ih =>
    funext left_1 i
    show laws_szRxQueueS_B0 N (loopN (laws_szRxQueueS_B0 N) m_) (laws_szRxQueueS_m0 a left_1 i) = _
    rw [laws_szRxQueueS_b0 N a]
    rw [ih]
    rfl
theorem laws_szRxQueueS_r (N : Nat) (a : Rows) (left : Int) : runF Tryz.prog laws_szRxQueueS_G laws_szRxQueueS_A N Tryz.f20 laws_szRxQueueS_s (.sl a :: (.int left :: ([]))) = laws_szRxQueueS_f Vm.bad laws_szRxQueueS_K N a left := by
  have run_ : runF Tryz.prog laws_szRxQueueS_G laws_szRxQueueS_A N Tryz.f20 laws_szRxQueueS_s (.sl a :: (.int left :: ([]))) = laws_szRxQueueS_t Vm.bad laws_szRxQueueS_K (fun left_1 i => loopN (laws_szRxQueueS_B0 N) N (laws_szRxQueueS_m0 a left_1 i)) a left := by kernel_rfl
  refine run_.trans ?_
  unfold laws_szRxQueueS_f
  have e0 : (fun left_1 i => loopN (laws_szRxQueueS_B0 N) N (laws_szRxQueueS_m0 a left_1 i)) = (laws_szRxQueueS_L0 Vm.bad laws_szRxQueueS_K N a N) := by
    exact laws_szRxQueueS_n0 N a N
  exact congrArg (fun l_ => laws_szRxQueueS_t Vm.bad laws_szRxQueueS_K l_ a left) e0
theorem laws_szRxQueueS_h : Holds Tryz.prog 20 laws_szRxQueueS_s := by
  refine holds_of_run (A := laws_szRxQueueS_A) laws_szRxQueueS_x Tryz.func20 rfl (by kernel_rfl) (of_decide_eq_true (by kernel_rfl)) (of_decide_eq_true (by kernel_rfl)) ?_
  intro ds hw hok
  replace hw : WtL ((.sl [.int .i64, .int .i64, .int .i64, .int .i64, .int .i64, .int .i64, .int .i64, .int .i64, .int .i64, .int .i64, .int .i64, .int .i64, .int .i64, .int .i64, .int .i64, .int .i64, .int .i64, .int .i64, .int .i64, .int .i64, .int .i64, .int .i64, .int .i64, .int .i64, .int .i64, .str, .int .i64, .int .i64, .bool, .int .i64]) :: ((.int .i64) :: ([]))) ds := hw
  obtain ⟨a, ds, rfl, h_a, hw⟩ := of_wt_sl hw
  obtain ⟨left, ds, rfl, h_left, hw⟩ := of_wt_int hw
  obtain rfl := of_wt_nil hw
  obtain ⟨N, hN⟩ := laws_szRxQueueS_c Vm.bad laws_szRxQueueS_K a left h_a h_left
  exact ⟨N, ((laws_szRxQueueS_r N a left).trans hN).trans (by kernel_rfl)⟩

def laws_szPoolS_s : Sum := { ps := [⟨[.sl [.int .i64, .int .i64, .int .i64, .sl [.int .i64]]], false⟩, ⟨[.int .i64], false⟩], rs := [⟨[.imm (.int .i64)], false⟩], fn := fun ds => (true, [.int (laws_szPoolS (rR ds 0) (rI ds 1))]) }
def laws_szPoolS_G : Ctx := [(83, laws_szPool_s)]
theorem laws_szPoolS_x : CtxHolds Tryz.prog laws_szPoolS_G := ctx_cons laws_szPool_h ctx_nil
def laws_szPoolS_A : List (Nat × Ann) := [(5, { slots := [(0, .asis), (1, .asis), (5, .asis)], boxes := [] })]
def laws_szPoolS_K : Int → Res := (fun r0 => ((true, [.int r0]) : Res))
def laws_szPoolS_m0 (a : Rows) (left_1 : Int) (i : Int) : St := { n := 27, sl := [(0, .sl [.int .i64, .int .i64, .int .i64, .sl [.int .i64]] a), (1, .int .i64 left_1), (5, .int .i64 i)], hp := [], ok := true, ls := [], lm := [] }
noncomputable def laws_szPoolS_B0 (N : Nat) : (St → Res) → St → Res := loopB Tryz.prog laws_szPoolS_G laws_szPoolS_A N Tryz.f21 laws_szPoolS_s [true, true, true, false, true, false] []
theorem laws_szPoolS_b0 (N : Nat) (a : Rows) (ih : St → Res) (left_1 : Int) (i : Int) : laws_szPoolS_B0 N ih (laws_szPoolS_m0 a left_1 i) = laws_szPoolS_l0 Vm.bad laws_szPoolS_K a (fun left_1 i => ih (laws_szPoolS_m0 a left_1 i)) left_1 i := by kernel_rfl
theorem laws_szPoolS_n0 (N : Nat) (a : Rows) (m_ : Nat) : (fun left_1 i => loopN (laws_szPoolS_B0 N) m_ (laws_szPoolS_m0 a left_1 i)) = laws_szPoolS_L0 Vm.bad laws_szPoolS_K N a m_ := by
  induction m_ with
  | zero => rfl
  | succ m_ ih =>
    funext left_1 i
    show laws_szPoolS_B0 N (loopN (laws_szPoolS_B0 N) m_) (laws_szPoolS_m0 a left_1 i) = _
    rw [laws_szPoolS_b0 N a]
    rw [ih]
    rfl
theorem laws_szPoolS_r (N : Nat) (a : Rows) (left : Int) : runF Tryz.prog laws_szPoolS_G laws_szPoolS_A N Tryz.f21 laws_szPoolS_s (.sl a :: (.int left :: ([]))) = laws_szPoolS_f Vm.bad laws_szPoolS_K N a left := by
  have run_ : runF Tryz.prog laws_szPoolS_G laws_szPoolS_A N Tryz.f21 laws_szPoolS_s (.sl a :: (.int left :: ([]))) = laws_szPoolS_t Vm.bad laws_szPoolS_K (fun left_1 i => loopN (laws_szPoolS_B0 N) N (laws_szPoolS_m0 a left_1 i)) a left := by kernel_rfl
  refine run_.trans ?_
  unfold laws_szPoolS_f
  have e0 : (fun left_1 i => loopN (laws_szPoolS_B0 N) N (laws_szPoolS_m0 a left_1 i)) = (laws_szPoolS_L0 Vm.bad laws_szPoolS_K N a N) := by
    exact laws_szPoolS_n0 N a N
  exact congrArg (fun l_ => laws_szPoolS_t Vm.bad laws_szPoolS_K l_ a left) e0
theorem laws_szPoolS_h : Holds Tryz.prog 21 laws_szPoolS_s := by
  refine holds_of_run (A := laws_szPoolS_A) laws_szPoolS_x Tryz.func21 rfl (by kernel_rfl) (of_decide_eq_true (by kernel_rfl)) (of_decide_eq_true (by kernel_rfl)) ?_
  intro ds hw hok
  replace hw : WtL ((.sl [.int .i64, .int .i64, .int .i64, .sl [.int .i64]]) :: ((.int .i64) :: ([]))) ds := hw
  obtain ⟨a, ds, rfl, h_a, hw⟩ := of_wt_sl hw
  obtain ⟨left, ds, rfl, h_left, hw⟩ := of_wt_int hw
  obtain rfl := of_wt_nil hw
  obtain ⟨N, hN⟩ := laws_szPoolS_c Vm.bad laws_szPoolS_K a left h_a h_left
  exact ⟨N, ((laws_szPoolS_r N a left).trans hN).trans (by kernel_rfl)⟩

def laws_szVectorS_s : Sum := { ps := [⟨[.sl [.int .i64, .int .i64, .int .i64, .int .i64, .bool, .bool]], false⟩, ⟨[.int .i64], false⟩], rs := [⟨[.imm (.int .i64)], false⟩], fn := fun ds => (true, [.int (szFlat (rR ds 0) (rI ds 1))]) }
def laws_szVectorS_G : Ctx := []
theorem laws_szVectorS_x : CtxHolds Tryz.prog laws_szVectorS_G := ctx_nil
def laws_szVectorS_A : List (Nat × Ann) := []
theorem laws_szVectorS_r (N : Nat) (a : Rows) (left : Int) : runF Tryz.prog laws_szVectorS_G laws_szVectorS_A N Tryz.f22 laws_szVectorS_s (.sl a :: (.int left :: ([]))) = laws_szVectorS_t (fun r0 => ((true, [.int r0]) : Res)) a left := by kernel_rfl
theorem laws_szVectorS_h : Holds Tryz.prog 22 laws_szVectorS_s := by
  refine holds_of_run (A := laws_szVectorS_A) laws_szVectorS_x Tryz.func22 rfl (by kernel_rfl) (of_decide_eq_true (by kernel_rfl)) (of_decide_eq_true (by kernel_rfl)) ?_
  intro ds hw hok
  replace hw : WtL ((.sl [.int .i64, .int .i64, .int .i64, .int .i64, .bool, .bool]) :: ((.int .i64) :: ([]))) ds := hw
  obtain ⟨a, ds, rfl, h_a, hw⟩ := of_wt_sl hw
  obtain ⟨left, ds, rfl, h_left, hw⟩ := of_wt_int hw
  obtain rfl := of_wt_nil hw
  exact ⟨0, ((laws_szVectorS_r 0 a left).trans (laws_szVectorS_c _ a left h_a h_left)).trans (by kernel_rfl)⟩

def laws_szBoolS_s : Sum := { ps := [⟨[.sl [.bool]], false⟩, ⟨[.int .i64], false⟩], rs := [⟨[.imm (.int .i64)], false⟩], fn := fun ds => (true, [.int (szFlat (rR ds 0) (rI ds 1))]) }
def laws_szBoolS_G : Ctx := []
theorem laws_szBoolS_x : CtxHolds Tryz.prog laws_szBoolS_G := ctx_nil
def laws_szBoolS_A : List (Nat × Ann) := []
theorem laws_szBoolS_r (N : Nat) (a : Rows) (left : Int) : runF Tryz.prog laws_szBoolS_G laws_szBoolS_A N Tryz.f23 laws_szBoolS_s (.sl a :: (.int left :: ([]))) = laws_szBoolS_t (fun r0 => ((true, [.int r0]) : Res)) a left := by kernel_rfl
theorem laws_szBoolS_h : Holds Tryz.prog 23 laws_szBoolS_s := by
  refine holds_of_run (A := laws_szBoolS_A) laws_szBoolS_x Tryz.func23 rfl (by kernel_rfl) (of_decide_eq_true (by kernel_rfl)) (of_decide_eq_true (by kernel_rfl)) ?_
  intro ds hw hok
  replace hw : WtL ((.sl [.bool]) :: ((.int .i64) :: ([]))) ds := hw
  obtain ⟨a, ds, rfl, h_a, hw⟩ := of_wt_sl hw
  obtain ⟨left, ds, rfl, h_left, hw⟩ := of_wt_int hw
  obtain rfl := of_wt_nil hw
  exact ⟨0, ((laws_szBoolS_r 0 a left).trans (laws_szBoolS_c _ a left h_a h_left)).trans (by kernel_rfl)⟩

def laws_szFilter_s : Sum := { ps := [⟨[.int .i64, .bool, .sl [.int .i64]], true⟩, ⟨[.int .i64], false⟩], rs := [⟨[.imm (.int .i64)], false⟩], fn := fun ds => (true, [.int (laws_szFilter (SFilter.decAt ds 0) (rI ds 3))]) }
def laws_szFilter_G : Ctx := [(28, laws_szIntS_s)]
theorem laws_szFilter_x : CtxHolds Tryz.prog laws_szFilter_G := ctx_cons laws_szIntS_h ctx_nil
def laws_szFilter_A : List (Nat × Ann) := []
theorem laws_szFilter_r (N : Nat) (a : SFilter) (left : Int) : runF Tryz.prog laws_szFilter_G laws_szFilter_A N Tryz.f24 laws_szFilter_s (a.enc ++ (.int left :: ([]))) = laws_szFilter_t (fun r0 => ((true, [.int r0]) : Res)) a left := by kernel_rfl
theorem laws_szFilter_h : Holds Tryz.prog 24 laws_szFilter_s := by
  refine holds_of_run (A := laws_szFilter_A) laws_szFilter_x Tryz.func24 rfl (by kernel_rfl) (of_decide_eq_true (by kernel_rfl)) (of_decide_eq_true (by kernel_rfl)) ?_
  intro ds hw hok
  replace hw : WtL (SFilter.ct ++ ((.int .i64) :: ([]))) ds := hw
  obtain ⟨a, ds, rfl, h_a, hw⟩ := SFilter.of_wt (r := _) hw
  obtain ⟨left, ds, rfl, h_left, hw⟩ := of_wt_int hw
  obtain rfl := of_wt_nil hw
  exact ⟨0, ((laws_szFilter_r 0 a left).trans (laws_szFilter_c _ a left)).trans (by kernel_rfl)⟩

def laws_szRuleS_s : Sum := { ps := [⟨[.sl [.int .i64, .int .i64, .int .i64, .int .i64, .int .i64, .int .i64, .int .i64, .int .i64, .int .i64]], false⟩, ⟨[.int .i64], false⟩], rs := [⟨[.imm (.int .i64)], false⟩], fn := fun ds => (true, [.int (szFlat (rR ds 0) (rI ds 1))]) }
def laws_szRuleS_G : Ctx := []
theorem laws_szRuleS_x : CtxHolds Tryz.prog laws_szRuleS_G := ctx_nil
def laws_szRuleS_A : List (Nat × Ann) := []
theorem laws_szRuleS_r (N : Nat) (a : Rows) (left : Int) : runF Tryz.prog laws_szRuleS_G laws_szRuleS_A N Tryz.f86 laws_szRuleS_s (.sl a :: (.int left :: ([]))) = laws_szRuleS_t (fun r0 => ((true, [.int r0]) : Res)) a left := by kernel_rfl
theorem laws_szRuleS_h : Holds Tryz.prog 86 laws_szRuleS_s := by
  refine holds_of_run (A := laws_szRuleS_A) laws_szRuleS_x Tryz.func86 rfl (by kernel_rfl) (of_decide_eq_true (by kernel_rfl)) (of_decide_eq_true (by kernel_rfl)) ?_
  intro ds hw hok
  replace hw : WtL ((.sl [.int .i64, .int .i64, .int .i64, .int .i64, .int .i64, .int .i64, .int .i64, .int .i64, .int .i64]) :: ((.int .i64) :: ([]))) ds := hw
  obtain ⟨a, ds, rfl, h_a, hw⟩ := of_wt_sl hw
  obtain ⟨left, ds, rfl, h_left, hw⟩ := of_wt_int hw
  obtain rfl := of_wt_nil hw
  exact ⟨0, ((laws_szRuleS_r 0 a left).trans (laws_szRuleS_c _ a left h_a h_left)).trans (by kernel_rfl)⟩

def laws_szSlotS_s : Sum := { ps := [⟨[.sl [.int .i64, .int .i64, .int .i64, .int .i64, .int .i64, .int .i64, .int .i64]], false⟩, ⟨[.int .i64], false⟩], rs := [⟨[.imm (.int .i64)], false⟩], fn := fun ds => (true, [.int (szFlat (rR ds 0) (rI ds 1))]) }
def laws_szSlotS_G : Ctx := []
theorem laws_szSlotS_x : CtxHolds Tryz.prog laws_szSlotS_G := ctx_nil
def laws_szSlotS_A : List (Nat × Ann) := []
theorem laws_szSlotS_r (N : Nat) (a : Rows) (left : Int) : runF Tryz.prog laws_szSlotS_G laws_szSlotS_A N Tryz.f156 laws_szSlotS_s (.sl a :: (.int left :: ([]))) = laws_szSlotS_t (fun r0 => ((true, [.int r0]) : Res)) a left := by kernel_rfl
theorem laws_szSlotS_h : Holds Tryz.prog 156 laws_szSlotS_s := by
  refine holds_of_run (A := laws_szSlotS_A) laws_szSlotS_x Tryz.func156 rfl (by kernel_rfl) (of_decide_eq_true (by kernel_rfl)) (of_decide_eq_true (by kernel_rfl)) ?_
  intro ds hw hok
  replace hw : WtL ((.sl [.int .i64, .int .i64, .int .i64, .int .i64, .int .i64, .int .i64, .int .i64]) :: ((.int .i64) :: ([]))) ds := hw
  obtain ⟨a, ds, rfl, h_a, hw⟩ := of_wt_sl hw
  obtain ⟨left, ds, rfl, h_left, hw⟩ := of_wt_int hw
  obtain rfl := of_wt_nil hw
  exact ⟨0, ((laws_szSlotS_r 0 a left).trans (laws_szSlotS_c _ a left h_a h_left)).trans (by kernel_rfl)⟩

def laws_szFlowTable_s : Sum := { ps := [⟨[.sl [.int .i64, .int .i64, .int .i64, .int .i64, .int .i64, .int .i64, .int .i64]], true⟩, ⟨[.int .i64], false⟩], rs := [⟨[.imm (.int .i64)], false⟩], fn := fun ds => (true, [.int (laws_szFlowTable (SFlowTable.decAt ds 0) (rI ds 1))]) }
def laws_szFlowTable_G : Ctx := [(156, laws_szSlotS_s)]
theorem laws_szFlowTable_x : CtxHolds Tryz.prog laws_szFlowTable_G := ctx_cons laws_szSlotS_h ctx_nil
def laws_szFlowTable_A : List (Nat × Ann) := []
theorem laws_szFlowTable_r (N : Nat) (a : SFlowTable) (left : Int) : runF Tryz.prog laws_szFlowTable_G laws_szFlowTable_A N Tryz.f87 laws_szFlowTable_s (a.enc ++ (.int left :: ([]))) = laws_szFlowTable_t (fun r0 => ((true, [.int r0]) : Res)) a left := by kernel_rfl
theorem laws_szFlowTable_h : Holds Tryz.prog 87 laws_szFlowTable_s := by
  refine holds_of_run (A := laws_szFlowTable_A) laws_szFlowTable_x Tryz.func87 rfl (by kernel_rfl) (of_decide_eq_true (by kernel_rfl)) (of_decide_eq_true (by kernel_rfl)) ?_
  intro ds hw hok
  replace hw : WtL (SFlowTable.ct ++ ((.int .i64) :: ([]))) ds := hw
  obtain ⟨a, ds, rfl, h_a, hw⟩ := SFlowTable.of_wt (r := _) hw
  obtain ⟨left, ds, rfl, h_left, hw⟩ := of_wt_int hw
  obtain rfl := of_wt_nil hw
  exact ⟨0, ((laws_szFlowTable_r 0 a left).trans (laws_szFlowTable_c _ a left)).trans (by kernel_rfl)⟩

def laws_szSpread_s : Sum := { ps := [⟨[.str, .sl [.int .i64]], true⟩, ⟨[.int .i64], false⟩], rs := [⟨[.imm (.int .i64)], false⟩], fn := fun ds => (true, [.int (laws_szSpread (SSpread.decAt ds 0) (rI ds 2))]) }
def laws_szSpread_G : Ctx := [(28, laws_szIntS_s)]
theorem laws_szSpread_x : CtxHolds Tryz.prog laws_szSpread_G := ctx_cons laws_szIntS_h ctx_nil
def laws_szSpread_A : List (Nat × Ann) := []
theorem laws_szSpread_r (N : Nat) (a : SSpread) (left : Int) : runF Tryz.prog laws_szSpread_G laws_szSpread_A N Tryz.f88 laws_szSpread_s (a.enc ++ (.int left :: ([]))) = laws_szSpread_t (fun r0 => ((true, [.int r0]) : Res)) a left := by kernel_rfl
theorem laws_szSpread_h : Holds Tryz.prog 88 laws_szSpread_s := by
  refine holds_of_run (A := laws_szSpread_A) laws_szSpread_x Tryz.func88 rfl (by kernel_rfl) (of_decide_eq_true (by kernel_rfl)) (of_decide_eq_true (by kernel_rfl)) ?_
  intro ds hw hok
  replace hw : WtL (SSpread.ct ++ ((.int .i64) :: ([]))) ds := hw
  obtain ⟨a, ds, rfl, h_a, hw⟩ := SSpread.of_wt (r := _) hw
  obtain ⟨left, ds, rfl, h_left, hw⟩ := of_wt_int hw
  obtain rfl := of_wt_nil hw
  exact ⟨0, ((laws_szSpread_r 0 a left).trans (laws_szSpread_c _ a left)).trans (by kernel_rfl)⟩

def laws_szSteering_s : Sum := { ps := [⟨[.sl [.int .i64, .int .i64, .int .i64, .int .i64, .int .i64, .int .i64, .int .i64, .int .i64, .int .i64], .sl [.int .i64, .int .i64, .int .i64, .int .i64, .int .i64, .int .i64, .int .i64], .str, .sl [.int .i64]], true⟩, ⟨[.int .i64], false⟩], rs := [⟨[.imm (.int .i64)], false⟩], fn := fun ds => (true, [.int (laws_szSteering (SSteering.decAt ds 0) (rI ds 4))]) }
def laws_szSteering_G : Ctx := [(86, laws_szRuleS_s), (87, laws_szFlowTable_s), (88, laws_szSpread_s)]
theorem laws_szSteering_x : CtxHolds Tryz.prog laws_szSteering_G := ctx_cons laws_szRuleS_h (ctx_cons laws_szFlowTable_h (ctx_cons laws_szSpread_h ctx_nil))
def laws_szSteering_A : List (Nat × Ann) := []
theorem laws_szSteering_r (N : Nat) (a : SSteering) (left : Int) : runF Tryz.prog laws_szSteering_G laws_szSteering_A N Tryz.f25 laws_szSteering_s (a.enc ++ (.int left :: ([]))) = laws_szSteering_t (fun r0 => ((true, [.int r0]) : Res)) a left := by kernel_rfl
theorem laws_szSteering_h : Holds Tryz.prog 25 laws_szSteering_s := by
  refine holds_of_run (A := laws_szSteering_A) laws_szSteering_x Tryz.func25 rfl (by kernel_rfl) (of_decide_eq_true (by kernel_rfl)) (of_decide_eq_true (by kernel_rfl)) ?_
  intro ds hw hok
  replace hw : WtL (SSteering.ct ++ ((.int .i64) :: ([]))) ds := hw
  obtain ⟨a, ds, rfl, h_a, hw⟩ := SSteering.of_wt (r := _) hw
  obtain ⟨left, ds, rfl, h_left, hw⟩ := of_wt_int hw
  obtain rfl := of_wt_nil hw
  exact ⟨0, ((laws_szSteering_r 0 a left).trans (laws_szSteering_c _ a left)).trans (by kernel_rfl)⟩

def laws_szStream_s : Sum := { ps := [⟨[.int .i64, .int .i64, .int .i64, .int .i64, .int .i64, .int .i64, .str, .bool], true⟩, ⟨[.int .i64], false⟩], rs := [⟨[.imm (.int .i64)], false⟩], fn := fun ds => (true, [.int (laws_szStream (SStream.decAt ds 0) (rI ds 8))]) }
def laws_szStream_G : Ctx := []
theorem laws_szStream_x : CtxHolds Tryz.prog laws_szStream_G := ctx_nil
def laws_szStream_A : List (Nat × Ann) := []
theorem laws_szStream_r (N : Nat) (a : SStream) (left : Int) : runF Tryz.prog laws_szStream_G laws_szStream_A N Tryz.f89 laws_szStream_s (a.enc ++ (.int left :: ([]))) = laws_szStream_t (fun r0 => ((true, [.int r0]) : Res)) a left := by kernel_rfl
theorem laws_szStream_h : Holds Tryz.prog 89 laws_szStream_s := by
  refine holds_of_run (A := laws_szStream_A) laws_szStream_x Tryz.func89 rfl (by kernel_rfl) (of_decide_eq_true (by kernel_rfl)) (of_decide_eq_true (by kernel_rfl)) ?_
  intro ds hw hok
  replace hw : WtL (SStream.ct ++ ((.int .i64) :: ([]))) ds := hw
  obtain ⟨a, ds, rfl, h_a, hw⟩ := SStream.of_wt (r := _) hw
  obtain ⟨left, ds, rfl, h_left, hw⟩ := of_wt_int hw
  obtain rfl := of_wt_nil hw
  exact ⟨0, ((laws_szStream_r 0 a left).trans (laws_szStream_c _ a left)).trans (by kernel_rfl)⟩

def laws_szStreamS_s : Sum := { ps := [⟨[.sl [.int .i64, .int .i64, .int .i64, .int .i64, .int .i64, .int .i64, .str, .bool]], false⟩, ⟨[.int .i64], false⟩], rs := [⟨[.imm (.int .i64)], false⟩], fn := fun ds => (true, [.int (laws_szStreamS (rR ds 0) (rI ds 1))]) }
def laws_szStreamS_G : Ctx := [(89, laws_szStream_s)]
theorem laws_szStreamS_x : CtxHolds Tryz.prog laws_szStreamS_G := ctx_cons laws_szStream_h ctx_nil
def laws_szStreamS_A : List (Nat × Ann) := [(5, { slots := [(0, .asis), (1, .asis), (5, .asis)], boxes := [] })]
def laws_szStreamS_K : Int → Res := (fun r0 => ((true, [.int r0]) : Res))
def laws_szStreamS_m0 (a : Rows) (left_1 : Int) (i : Int) : St := { n := 27, sl := [(0, .sl [.int .i64, .int .i64, .int .i64, .int .i64, .int .i64, .int .i64, .str, .bool] a), (1, .int .i64 left_1), (5, .int .i64 i)], hp := [], ok := true, ls := [], lm := [] }
noncomputable def laws_szStreamS_B0 (N : Nat) : (St → Res) → St → Res := loopB Tryz.prog laws_szStreamS_G laws_szStreamS_A N Tryz.f26 laws_szStreamS_s [true, true, true, false, true, false] []
theorem laws_szStreamS_b0 (N : Nat) (a : Rows) (ih : St → Res) (left_1 : Int) (i : Int) : laws_szStreamS_B0 N ih (laws_szStreamS_m0 a left_1 i) = laws_szStreamS_l0 Vm.bad laws_szStreamS_K a (fun left_1 i => ih (laws_szStreamS_m0 a left_1 i)) left_1 i := by kernel_rfl
theorem laws_szStreamS_n0 (N : Nat) (a : Rows) (m_ : Nat) : (fun left_1 i => loopN (laws_szStreamS_B0 N) m_ (laws_szStreamS_m0 a left_1 i)) = laws_szStreamS_L0 Vm.bad laws_szStreamS_K N a m_ := by
  induction m_ with
  | zero => rfl
  | succ m_ ih =>
    funext left_1 i
    show laws_szStreamS_B0 N (loopN (laws_szStreamS_B0 N) m_) (laws_szStreamS_m0 a left_1 i) = _
    rw [laws_szStreamS_b0 N a]
    rw [ih]
    rfl
theorem laws_szStreamS_r (N : Nat) (a : Rows) (left : Int) : runF Tryz.prog laws_szStreamS_G laws_szStreamS_A N Tryz.f26 laws_szStreamS_s (.sl a :: (.int left :: ([]))) = laws_szStreamS_f Vm.bad laws_szStreamS_K N a left := by
  have run_ : runF Tryz.prog laws_szStreamS_G laws_szStreamS_A N Tryz.f26 laws_szStreamS_s (.sl a :: (.int left :: ([]))) = laws_szStreamS_t Vm.bad laws_szStreamS_K (fun left_1 i => loopN (laws_szStreamS_B0 N) N (laws_szStreamS_m0 a left_1 i)) a left := by kernel_rfl
  refine run_.trans ?_
  unfold laws_szStreamS_f
  have e0 : (fun left_1 i => loopN (laws_szStreamS_B0 N) N (laws_szStreamS_m0 a left_1 i)) = (laws_szStreamS_L0 Vm.bad laws_szStreamS_K N a N) := by
    exact laws_szStreamS_n0 N a N
  exact congrArg (fun l_ => laws_szStreamS_t Vm.bad laws_szStreamS_K l_ a left) e0
theorem laws_szStreamS_h : Holds Tryz.prog 26 laws_szStreamS_s := by
  refine holds_of_run (A := laws_szStreamS_A) laws_szStreamS_x Tryz.func26 rfl (by kernel_rfl) (of_decide_eq_true (by kernel_rfl)) (of_decide_eq_true (by kernel_rfl)) ?_
  intro ds hw hok
  replace hw : WtL ((.sl [.int .i64, .int .i64, .int .i64, .int .i64, .int .i64, .int .i64, .str, .bool]) :: ((.int .i64) :: ([]))) ds := hw
  obtain ⟨a, ds, rfl, h_a, hw⟩ := of_wt_sl hw
  obtain ⟨left, ds, rfl, h_left, hw⟩ := of_wt_int hw
  obtain rfl := of_wt_nil hw
  obtain ⟨N, hN⟩ := laws_szStreamS_c Vm.bad laws_szStreamS_K a left h_a h_left
  exact ⟨N, ((laws_szStreamS_r N a left).trans hN).trans (by kernel_rfl)⟩

def laws_szHost_s : Sum := { ps := [⟨[.sl [.str], .sl [.int .i64, .int .i64, .int .i64, .bool], .int .i64, .int .i64, .int .i64, .int .i64, .int .i64, .int .i64, .int .i64, .sl [.int .i64], .sl [.int .i64, .int .i64, .sl [.int .i64]], .int .i64, .sl [.int .i64, .int .i64, .int .i64, .int .i64, .int .i64, .int .i64, .int .i64, .int .i64, .int .i64, .int .i64, .int .i64, .int .i64, .int .i64, .int .i64, .int .i64, .int .i64, .int .i64, .int .i64, .int .i64, .int .i64, .int .i64, .int .i64, .int .i64, .int .i64, .int .i64, .str, .int .i64, .int .i64, .bool, .int .i64], .sl [.int .i64, .int .i64, .int .i64, .sl [.int .i64]], .sl [.int .i64, .int .i64, .int .i64, .int .i64, .bool, .bool], .sl [.bool], .int .i64, .bool, .sl [.int .i64], .sl [.int .i64, .int .i64, .int .i64, .int .i64, .int .i64, .int .i64, .int .i64, .int .i64, .int .i64], .sl [.int .i64, .int .i64, .int .i64, .int .i64, .int .i64, .int .i64, .int .i64], .str, .sl [.int .i64], .sl [.int .i64, .int .i64, .int .i64, .int .i64, .int .i64, .int .i64, .str, .bool], .bool, .sl [.str], .sl [.int .i64], .sl [.int .i64], .int .i64, .int .i64, .int .i64, .int .i64, .int .i64], true⟩, ⟨[.int .i64], false⟩], rs := [⟨[.imm (.int .i64)], false⟩], fn := fun ds => (true, [.int (laws_szHost (SHost.decAt ds 0) (rI ds 33))]) }
def laws_szHost_G : Ctx := [(17, laws_szMemory_s), (18, laws_szMappingS_s), (19, laws_szTxQueue_s), (20, laws_szRxQueueS_s), (21, laws_szPoolS_s), (22, laws_szVectorS_s), (23, laws_szBoolS_s), (24, laws_szFilter_s), (25, laws_szSteering_s), (26, laws_szStreamS_s), (27, laws_szStringS_s), (28, laws_szIntS_s)]
theorem laws_szHost_x : CtxHolds Tryz.prog laws_szHost_G := ctx_cons laws_szMemory_h (ctx_cons laws_szMappingS_h (ctx_cons laws_szTxQueue_h (ctx_cons laws_szRxQueueS_h (ctx_cons laws_szPoolS_h (ctx_cons laws_szVectorS_h (ctx_cons laws_szBoolS_h (ctx_cons laws_szFilter_h (ctx_cons laws_szSteering_h (ctx_cons laws_szStreamS_h (ctx_cons laws_szStringS_h (ctx_cons laws_szIntS_h ctx_nil)))))))))))
def laws_szHost_A : List (Nat × Ann) := []
theorem laws_szHost_r (N : Nat) (a : SHost) (left : Int) : runF Tryz.prog laws_szHost_G laws_szHost_A N Tryz.f5 laws_szHost_s (a.enc ++ (.int left :: ([]))) = laws_szHost_t (fun r0 => ((true, [.int r0]) : Res)) a left := by kernel_rfl
theorem laws_szHost_h : Holds Tryz.prog 5 laws_szHost_s := by
  refine holds_of_run (A := laws_szHost_A) laws_szHost_x Tryz.func5 rfl (by kernel_rfl) (of_decide_eq_true (by kernel_rfl)) (of_decide_eq_true (by kernel_rfl)) ?_
  intro ds hw hok
  replace hw : WtL (SHost.ct ++ ((.int .i64) :: ([]))) ds := hw
  obtain ⟨a, ds, rfl, h_a, hw⟩ := SHost.of_wt (r := _) hw
  obtain ⟨left, ds, rfl, h_left, hw⟩ := of_wt_int hw
  obtain rfl := of_wt_nil hw
  exact ⟨0, ((laws_szHost_r 0 a left).trans (laws_szHost_c _ a left)).trans (by kernel_rfl)⟩

def laws_eqStringS_s : Sum := { ps := [⟨[.sl [.str]], false⟩, ⟨[.sl [.str]], false⟩], rs := [⟨[.imm .bool], false⟩], fn := fun ds => (same (rR ds 0) (rR ds 1), [.bool (yes2 (rR ds 0) (rR ds 1))]) }
def laws_eqStringS_G : Ctx := []
theorem laws_eqStringS_x : CtxHolds Tryz.prog laws_eqStringS_G := ctx_nil
def laws_eqStringS_A : List (Nat × Ann) := [(4, { slots := [(0, .asis), (1, .asis), (5, .asis)], boxes := [] })]
def laws_eqStringS_K : Bool → Res := (fun r0 => ((true, [.bool r0]) : Res))
def laws_eqStringS_m0 (a : Rows) (b : Rows) (i : Int) : St := { n := 26, sl := [(0, .sl [.str] a), (1, .sl [.str] b), (5, .int .i64 i)], hp := [], ok := true, ls := [], lm := [] }
noncomputable def laws_eqStringS_B0 (N : Nat) : (St → Res) → St → Res := loopB Tryz.prog laws_eqStringS_G laws_eqStringS_A N Tryz.f53 laws_eqStringS_s [true, true, false, true, false] []
theorem laws_eqStringS_b0 (N : Nat) (a : Rows) (b : Rows) (ih : St → Res) (i : Int) : laws_eqStringS_B0 N ih (laws_eqStringS_m0 a b i) = laws_eqStringS_l0 Vm.bad laws_eqStringS_K a b (fun i => ih (laws_eqStringS_m0 a b i)) i := by kernel_rfl
theorem laws_eqStringS_n0 (N : Nat) (a : Rows) (b : Rows) (m_ : Nat) : (fun i => loopN (laws_eqStringS_B0 N) m_ (laws_eqStringS_m0 a b i)) = laws_eqStringS_L0 Vm.bad laws_eqStringS_K N a b m_ := by
  induction m_ with
  | zero => rfl
  | succ m_ ih =>
    funext i
    show laws_eqStringS_B0 N (loopN (laws_eqStringS_B0 N) m_) (laws_eqStringS_m0 a b i) = _
    rw [laws_eqStringS_b0 N a b]
    rw [ih]
    rfl
theorem laws_eqStringS_r (N : Nat) (a : Rows) (b : Rows) : runF Tryz.prog laws_eqStringS_G laws_eqStringS_A N Tryz.f53 laws_eqStringS_s (.sl a :: (.sl b :: ([]))) = laws_eqStringS_f Vm.bad laws_eqStringS_K N a b := by
  have run_ : runF Tryz.prog laws_eqStringS_G laws_eqStringS_A N Tryz.f53 laws_eqStringS_s (.sl a :: (.sl b :: ([]))) = laws_eqStringS_t Vm.bad laws_eqStringS_K (fun i => loopN (laws_eqStringS_B0 N) N (laws_eqStringS_m0 a b i)) a b := by kernel_rfl
  refine run_.trans ?_
  unfold laws_eqStringS_f
  have e0 : (fun i => loopN (laws_eqStringS_B0 N) N (laws_eqStringS_m0 a b i)) = (laws_eqStringS_L0 Vm.bad laws_eqStringS_K N a b N) := by
    exact laws_eqStringS_n0 N a b N
  exact congrArg (fun l_ => laws_eqStringS_t Vm.bad laws_eqStringS_K l_ a b) e0
theorem laws_eqStringS_h : Holds Tryz.prog 53 laws_eqStringS_s := by
  refine holds_of_run (A := laws_eqStringS_A) laws_eqStringS_x Tryz.func53 rfl (by kernel_rfl) (of_decide_eq_true (by kernel_rfl)) (of_decide_eq_true (by kernel_rfl)) ?_
  intro ds hw hok
  replace hw : WtL ((.sl [.str]) :: ((.sl [.str]) :: ([]))) ds := hw
  obtain ⟨a, ds, rfl, h_a, hw⟩ := of_wt_sl hw
  obtain ⟨b, ds, rfl, h_b, hw⟩ := of_wt_sl hw
  obtain rfl := of_wt_nil hw
  obtain ⟨N, hN⟩ := laws_eqStringS_c Vm.bad laws_eqStringS_K a b h_a h_b hok
  exact ⟨N, ((laws_eqStringS_r N a b).trans hN).trans (by kernel_rfl)⟩

def laws_eqCompletionQueue_s : Sum := { ps := [⟨[.int .i64, .int .i64, .int .i64], true⟩, ⟨[.int .i64, .int .i64, .int .i64], true⟩], rs := [⟨[.imm .bool], false⟩], fn := fun ds => (same (SCompletionQueue.decAt ds 0) (SCompletionQueue.decAt ds 3), [.bool (yes2 (SCompletionQueue.decAt ds 0) (SCompletionQueue.decAt ds 3))]) }
def laws_eqCompletionQueue_G : Ctx := []
theorem laws_eqCompletionQueue_x : CtxHolds Tryz.prog laws_eqCompletionQueue_G := ctx_nil
def laws_eqCompletionQueue_A : List (Nat × Ann) := []
theorem laws_eqCompletionQueue_r (N : Nat) (a : SCompletionQueue) (b : SCompletionQueue) : runF Tryz.prog laws_eqCompletionQueue_G laws_eqCompletionQueue_A N Tryz.f164 laws_eqCompletionQueue_s (a.enc ++ (b.enc ++ ([]))) = laws_eqCompletionQueue_t (fun r0 => ((true, [.bool r0]) : Res)) a b := by kernel_rfl
theorem laws_eqCompletionQueue_h : Holds Tryz.prog 164 laws_eqCompletionQueue_s := by
  refine holds_of_run (A := laws_eqCompletionQueue_A) laws_eqCompletionQueue_x Tryz.func164 rfl (by kernel_rfl) (of_decide_eq_true (by kernel_rfl)) (of_decide_eq_true (by kernel_rfl)) ?_
  intro ds hw hok
  replace hw : WtL (SCompletionQueue.ct ++ (SCompletionQueue.ct ++ ([]))) ds := hw
  obtain ⟨a, ds, rfl, h_a, hw⟩ := SCompletionQueue.of_wt (r := _) hw
  obtain ⟨b, ds, rfl, h_b, hw⟩ := SCompletionQueue.of_wt (r := _) hw
  obtain rfl := of_wt_nil hw
  exact ⟨0, ((laws_eqCompletionQueue_r 0 a b).trans (laws_eqCompletionQueue_c _ a b h_a h_b hok)).trans (by kernel_rfl)⟩

def laws_toRule_s : Sum := { ps := [⟨[.int .i64, .int .i64, .int .i64, .int .i64, .int .i64, .int .i64, .int .i64, .int .i64, .int .i64], true⟩], rs := [⟨[.imm (.int .i64), .imm (.int .i64), .imm (.int .i64), .imm (.int .i64), .imm (.int .i64), .imm (.int .i64), .imm (.int .i64), .imm (.int .i64), .imm (.int .i64)], true⟩], fn := fun ds => (true, SRule.enc (idf (SRule.decAt ds 0))) }
def laws_toRule_G : Ctx := []
theorem laws_toRule_x : CtxHolds Tryz.prog laws_toRule_G := ctx_nil
def laws_toRule_A : List (Nat × Ann) := []
theorem laws_toRule_r (N : Nat) (a : SRule) : runF Tryz.prog laws_toRule_G laws_toRule_A N Tryz.f160 laws_toRule_s (a.enc ++ ([])) = laws_toRule_t (fun r0 => ((true, SRule.enc r0) : Res)) a := by kernel_rfl
theorem laws_toRule_h : Holds Tryz.prog 160 laws_toRule_s := by
  refine holds_of_run (A := laws_toRule_A) laws_toRule_x Tryz.func160 rfl (by kernel_rfl) (of_decide_eq_true (by kernel_rfl)) (of_decide_eq_true (by kernel_rfl)) ?_
  intro ds hw hok
  replace hw : WtL (SRule.ct ++ ([])) ds := hw
  obtain ⟨a, ds, rfl, h_a, hw⟩ := SRule.of_wt (r := _) hw
  obtain rfl := of_wt_nil hw
  exact ⟨0, ((laws_toRule_r 0 a).trans (laws_toRule_c _ a h_a)).trans (by kernel_rfl)⟩

def laws_toRuleS_s : Sum := { ps := [⟨[.sl [.int .i64, .int .i64, .int .i64, .int .i64, .int .i64, .int .i64, .int .i64, .int .i64, .int .i64]], false⟩], rs := [⟨[.own 221 [.int .i64, .int .i64, .int .i64, .int .i64, .int .i64, .int .i64, .int .i64, .int .i64, .int .i64]], false⟩], fn := fun ds => (sm (rR ds 0), [.sl (idf (rR ds 0))]) }
def laws_toRuleS_G : Ctx := [(160, laws_toRule_s)]
theorem laws_toRuleS_x : CtxHolds Tryz.prog laws_toRuleS_G := ctx_cons laws_toRule_h ctx_nil
def laws_toRuleS_A : List (Nat × Ann) := [(3, { slots := [(0, .asis), (3, .asis), (4, .asis)], boxes := [] })]
def laws_toRuleS_K : Rows → Res := (fun r0 => ((true, [.sl r0]) : Res))
def laws_toRuleS_m0 (a : Rows) (i : Int) (out_ : Rows) : St := { n := 23, sl := [(0, .sl [.int .i64, .int .i64, .int .i64, .int .i64, .int .i64, .int .i64, .int .i64, .int .i64, .int .i64] a), (3, .own 640192), (4, .int .i64 i)], hp := [(640192, .row 221 [.int .i64, .int .i64, .int .i64, .int .i64, .int .i64, .int .i64, .int .i64, .int .i64, .int .i64] out_ false true)], ok := true, ls := [], lm := [] }
noncomputable def laws_toRuleS_B0 (N : Nat) : (St → Res) → St → Res := loopB Tryz.prog laws_toRuleS_G laws_toRuleS_A N Tryz.f96 laws_toRuleS_s [true, true, false, true, false] []
theorem laws_toRuleS_b0 (N : Nat) (a : Rows) (ih : St → Res) (i : Int) (out_ : Rows) : laws_toRuleS_B0 N ih (laws_toRuleS_m0 a i out_) = laws_toRuleS_l0 Vm.bad laws_toRuleS_K a (fun i out_ => ih (laws_toRuleS_m0 a i out_)) i out_ := by kernel_rfl
theorem laws_toRuleS_n0 (N : Nat) (a : Rows) (m_ : Nat) : (fun i out_ => loopN (laws_toRuleS_B0 N) m_ (laws_toRuleS_m0 a i out_)) = laws_toRuleS_L0 Vm.bad laws_toRuleS_K N a m_ := by
  induction m_ with
  | zero => rfl
  | succ m_ ih =>
    funext i out_
    show laws_toRuleS_B0 N (loopN (laws_toRuleS_B0 N) m_) (laws_toRuleS_m0 a i out_) = _
    rw [laws_toRuleS_b0 N a]
    rw [ih]
    rfl
theorem laws_toRuleS_r (N : Nat) (a : Rows) : runF Tryz.prog laws_toRuleS_G laws_toRuleS_A N Tryz.f96 laws_toRuleS_s (.sl a :: ([])) = laws_toRuleS_f Vm.bad laws_toRuleS_K N a := by
  have run_ : runF Tryz.prog laws_toRuleS_G laws_toRuleS_A N Tryz.f96 laws_toRuleS_s (.sl a :: ([])) = laws_toRuleS_t Vm.bad laws_toRuleS_K (fun i out_ => loopN (laws_toRuleS_B0 N) N (laws_toRuleS_m0 a i out_)) a := by kernel_rfl
  refine run_.trans ?_
  unfold laws_toRuleS_f
  have e0 : (fun i out_ => loopN (laws_toRuleS_B0 N) N (laws_toRuleS_m0 a i out_)) = (laws_toRuleS_L0 Vm.bad laws_toRuleS_K N a N) := by
    exact laws_toRuleS_n0 N a N
  exact congrArg (fun l_ => laws_toRuleS_t Vm.bad laws_toRuleS_K l_ a) e0
theorem laws_toRuleS_h : Holds Tryz.prog 96 laws_toRuleS_s := by
  refine holds_of_run (A := laws_toRuleS_A) laws_toRuleS_x Tryz.func96 rfl (by kernel_rfl) (of_decide_eq_true (by kernel_rfl)) (of_decide_eq_true (by kernel_rfl)) ?_
  intro ds hw hok
  replace hw : WtL ((.sl [.int .i64, .int .i64, .int .i64, .int .i64, .int .i64, .int .i64, .int .i64, .int .i64, .int .i64]) :: ([])) ds := hw
  obtain ⟨a, ds, rfl, h_a, hw⟩ := of_wt_sl hw
  obtain rfl := of_wt_nil hw
  obtain ⟨N, hN⟩ := laws_toRuleS_c Vm.bad laws_toRuleS_K a h_a hok
  exact ⟨N, ((laws_toRuleS_r N a).trans hN).trans (by kernel_rfl)⟩

def laws_toFlow_s : Sum := { ps := [⟨[.int .i64, .int .i64, .int .i64, .int .i64, .int .i64], true⟩], rs := [⟨[.imm (.int .i64), .imm (.int .i64), .imm (.int .i64), .imm (.int .i64), .imm (.int .i64)], true⟩], fn := fun ds => (true, SFlow.enc (idf (SFlow.decAt ds 0))) }
def laws_toFlow_G : Ctx := []
theorem laws_toFlow_x : CtxHolds Tryz.prog laws_toFlow_G := ctx_nil
def laws_toFlow_A : List (Nat × Ann) := []
theorem laws_toFlow_r (N : Nat) (a : SFlow) : runF Tryz.prog laws_toFlow_G laws_toFlow_A N Tryz.f162 laws_toFlow_s (a.enc ++ ([])) = laws_toFlow_t (fun r0 => ((true, SFlow.enc r0) : Res)) a := by kernel_rfl
theorem laws_toFlow_h : Holds Tryz.prog 162 laws_toFlow_s := by
  refine holds_of_run (A := laws_toFlow_A) laws_toFlow_x Tryz.func162 rfl (by kernel_rfl) (of_decide_eq_true (by kernel_rfl)) (of_decide_eq_true (by kernel_rfl)) ?_
  intro ds hw hok
  replace hw : WtL (SFlow.ct ++ ([])) ds := hw
  obtain ⟨a, ds, rfl, h_a, hw⟩ := SFlow.of_wt (r := _) hw
  obtain rfl := of_wt_nil hw
  exact ⟨0, ((laws_toFlow_r 0 a).trans (laws_toFlow_c _ a h_a)).trans (by kernel_rfl)⟩

def laws_toSlot_s : Sum := { ps := [⟨[.int .i64, .int .i64, .int .i64, .int .i64, .int .i64, .int .i64, .int .i64], true⟩], rs := [⟨[.imm (.int .i64), .imm (.int .i64), .imm (.int .i64), .imm (.int .i64), .imm (.int .i64), .imm (.int .i64), .imm (.int .i64)], true⟩], fn := fun ds => (true, SSlot.enc (idf (SSlot.decAt ds 0))) }
def laws_toSlot_G : Ctx := [(162, laws_toFlow_s)]
theorem laws_toSlot_x : CtxHolds Tryz.prog laws_toSlot_G := ctx_cons laws_toFlow_h ctx_nil
def laws_toSlot_A : List (Nat × Ann) := []
theorem laws_toSlot_r (N : Nat) (a : SSlot) : runF Tryz.prog laws_toSlot_G laws_toSlot_A N Tryz.f194 laws_toSlot_s (a.enc ++ ([])) = laws_toSlot_t (fun r0 => ((true, SSlot.enc r0) : Res)) a := by kernel_rfl
theorem laws_toSlot_h : Holds Tryz.prog 194 laws_toSlot_s := by
  refine holds_of_run (A := laws_toSlot_A) laws_toSlot_x Tryz.func194 rfl (by kernel_rfl) (of_decide_eq_true (by kernel_rfl)) (of_decide_eq_true (by kernel_rfl)) ?_
  intro ds hw hok
  replace hw : WtL (SSlot.ct ++ ([])) ds := hw
  obtain ⟨a, ds, rfl, h_a, hw⟩ := SSlot.of_wt (r := _) hw
  obtain rfl := of_wt_nil hw
  exact ⟨0, ((laws_toSlot_r 0 a).trans (laws_toSlot_c _ a h_a)).trans (by kernel_rfl)⟩

def laws_toSlotS_s : Sum := { ps := [⟨[.sl [.int .i64, .int .i64, .int .i64, .int .i64, .int .i64, .int .i64, .int .i64]], false⟩], rs := [⟨[.own 242 [.int .i64, .int .i64, .int .i64, .int .i64, .int .i64, .int .i64, .int .i64]], false⟩], fn := fun ds => (sm (rR ds 0), [.sl (idf (rR ds 0))]) }
def laws_toSlotS_G : Ctx := [(194, laws_toSlot_s)]
theorem laws_toSlotS_x : CtxHolds Tryz.prog laws_toSlotS_G := ctx_cons laws_toSlot_h ctx_nil
def laws_toSlotS_A : List (Nat × Ann) := [(3, { slots := [(0, .asis), (3, .asis), (4, .asis)], boxes := [] })]
def laws_toSlotS_K : Rows → Res := (fun r0 => ((true, [.sl r0]) : Res))
def laws_toSlotS_m0 (a : Rows) (i : Int) (out_ : Rows) : St := { n := 23, sl := [(0, .sl [.int .i64, .int .i64, .int .i64, .int .i64, .int .i64, .int .i64, .int .i64] a), (3, .own 640192), (4, .int .i64 i)], hp := [(640192, .row 242 [.int .i64, .int .i64, .int .i64, .int .i64, .int .i64, .int .i64, .int .i64] out_ false true)], ok := true, ls := [], lm := [] }
noncomputable def laws_toSlotS_B0 (N : Nat) : (St → Res) → St → Res := loopB Tryz.prog laws_toSlotS_G laws_toSlotS_A N Tryz.f161 laws_toSlotS_s [true, true, false, true, false] []
theorem laws_toSlotS_b0 (N : Nat) (a : Rows) (ih : St → Res) (i : Int) (out_ : Rows) : laws_toSlotS_B0 N ih (laws_toSlotS_m0 a i out_) = laws_toSlotS_l0 Vm.bad laws_toSlotS_K a (fun i out_ => ih (laws_toSlotS_m0 a i out_)) i out_ := by kernel_rfl
theorem laws_toSlotS_n0 (N : Nat) (a : Rows) (m_ : Nat) : (fun i out_ => loopN (laws_toSlotS_B0 N) m_ (laws_toSlotS_m0 a i out_)) = laws_toSlotS_L0 Vm.bad laws_toSlotS_K N a m_ := by
  induction m_ with
  | zero => rfl
  | succ m_ ih =>
    funext i out_
    show laws_toSlotS_B0 N (loopN (laws_toSlotS_B0 N) m_) (laws_toSlotS_m0 a i out_) = _
    rw [laws_toSlotS_b0 N a]
    rw [ih]
    rfl
theorem laws_toSlotS_r (N : Nat) (a : Rows) : runF Tryz.prog laws_toSlotS_G laws_toSlotS_A N Tryz.f161 laws_toSlotS_s (.sl a :: ([])) = laws_toSlotS_f Vm.bad laws_toSlotS_K N a := by
  have run_ : runF Tryz.prog laws_toSlotS_G laws_toSlotS_A N Tryz.f161 laws_toSlotS_s (.sl a :: ([])) = laws_toSlotS_t Vm.bad laws_toSlotS_K (fun i out_ => loopN (laws_toSlotS_B0 N) N (laws_toSlotS_m0 a i out_)) a := by kernel_rfl
  refine run_.trans ?_
  unfold laws_toSlotS_f
  have e0 : (fun i out_ => loopN (laws_toSlotS_B0 N) N (laws_toSlotS_m0 a i out_)) = (laws_toSlotS_L0 Vm.bad laws_toSlotS_K N a N) := by
    exact laws_toSlotS_n0 N a N
  exact congrArg (fun l_ => laws_toSlotS_t Vm.bad laws_toSlotS_K l_ a) e0
theorem laws_toSlotS_h : Holds Tryz.prog 161 laws_toSlotS_s := by
  refine holds_of_run (A := laws_toSlotS_A) laws_toSlotS_x Tryz.func161 rfl (by kernel_rfl) (of_decide_eq_true (by kernel_rfl)) (of_decide_eq_true (by kernel_rfl)) ?_
  intro ds hw hok
  replace hw : WtL ((.sl [.int .i64, .int .i64, .int .i64, .int .i64, .int .i64, .int .i64, .int .i64]) :: ([])) ds := hw
  obtain ⟨a, ds, rfl, h_a, hw⟩ := of_wt_sl hw
  obtain rfl := of_wt_nil hw
  obtain ⟨N, hN⟩ := laws_toSlotS_c Vm.bad laws_toSlotS_K a h_a hok
  exact ⟨N, ((laws_toSlotS_r N a).trans hN).trans (by kernel_rfl)⟩

def laws_toFlowTable_s : Sum := { ps := [⟨[.sl [.int .i64, .int .i64, .int .i64, .int .i64, .int .i64, .int .i64, .int .i64]], true⟩], rs := [⟨[.own 242 [.int .i64, .int .i64, .int .i64, .int .i64, .int .i64, .int .i64, .int .i64]], true⟩], fn := fun ds => (laws_toFlowTable_ok (SFlowTable.decAt ds 0), SFlowTable.enc (idf (SFlowTable.decAt ds 0))) }
def laws_toFlowTable_G : Ctx := [(161, laws_toSlotS_s)]
theorem laws_toFlowTable_x : CtxHolds Tryz.prog laws_toFlowTable_G := ctx_cons laws_toSlotS_h ctx_nil
def laws_toFlowTable_A : List (Nat × Ann) := []
theorem laws_toFlowTable_r (N : Nat) (a : SFlowTable) : runF Tryz.prog laws_toFlowTable_G laws_toFlowTable_A N Tryz.f97 laws_toFlowTable_s (a.enc ++ ([])) = laws_toFlowTable_t Vm.bad (fun r0 => ((true, SFlowTable.enc r0) : Res)) a := by kernel_rfl
theorem laws_toFlowTable_h : Holds Tryz.prog 97 laws_toFlowTable_s := by
  refine holds_of_run (A := laws_toFlowTable_A) laws_toFlowTable_x Tryz.func97 rfl (by kernel_rfl) (of_decide_eq_true (by kernel_rfl)) (of_decide_eq_true (by kernel_rfl)) ?_
  intro ds hw hok
  replace hw : WtL (SFlowTable.ct ++ ([])) ds := hw
  obtain ⟨a, ds, rfl, h_a, hw⟩ := SFlowTable.of_wt (r := _) hw
  obtain rfl := of_wt_nil hw
  exact ⟨0, ((laws_toFlowTable_r 0 a).trans (laws_toFlowTable_c Vm.bad _ a h_a hok)).trans (by kernel_rfl)⟩

def laws_toIntS_s : Sum := { ps := [⟨[.sl [.int .i64]], false⟩], rs := [⟨[.own 3 [.int .i64]], false⟩], fn := fun ds => (sm (rR ds 0), [.sl (idf (rR ds 0))]) }
def laws_toIntS_G : Ctx := []
theorem laws_toIntS_x : CtxHolds Tryz.prog laws_toIntS_G := ctx_nil
def laws_toIntS_A : List (Nat × Ann) := [(3, { slots := [(0, .asis), (3, .asis), (4, .asis)], boxes := [] })]
def laws_toIntS_K : Rows → Res := (fun r0 => ((true, [.sl r0]) : Res))
def laws_toIntS_m0 (a : Rows) (i : Int) (out_ : Rows) : St := { n := 22, sl := [(0, .sl [.int .i64] a), (3, .own 640192), (4, .int .i64 i)], hp := [(640192, .row 3 [.int .i64] out_ false true)], ok := true, ls := [], lm := [] }
noncomputable def laws_toIntS_B0 (N : Nat) : (St → Res) → St → Res := loopB Tryz.prog laws_toIntS_G laws_toIntS_A N Tryz.f40 laws_toIntS_s [true, true, false, true, false] []
theorem laws_toIntS_b0 (N : Nat) (a : Rows) (ih : St → Res) (i : Int) (out_ : Rows) : laws_toIntS_B0 N ih (laws_toIntS_m0 a i out_) = laws_toIntS_l0 Vm.bad laws_toIntS_K a (fun i out_ => ih (laws_toIntS_m0 a i out_)) i out_ := by kernel_rfl
theorem laws_toIntS_n0 (N : Nat) (a : Rows) (m_ : Nat) : (fun i out_ => loopN (laws_toIntS_B0 N) m_ (laws_toIntS_m0 a i out_)) = laws_toIntS_L0 Vm.bad laws_toIntS_K N a m_ := by
  induction m_ with
  | zero => rfl
  | succ m_ ih =>
    funext i out_
    show laws_toIntS_B0 N (loopN (laws_toIntS_B0 N) m_) (laws_toIntS_m0 a i out_) = _
    rw [laws_toIntS_b0 N a]
    rw [ih]
    rfl
theorem laws_toIntS_r (N : Nat) (a : Rows) : runF Tryz.prog laws_toIntS_G laws_toIntS_A N Tryz.f40 laws_toIntS_s (.sl a :: ([])) = laws_toIntS_f Vm.bad laws_toIntS_K N a := by
  have run_ : runF Tryz.prog laws_toIntS_G laws_toIntS_A N Tryz.f40 laws_toIntS_s (.sl a :: ([])) = laws_toIntS_t Vm.bad laws_toIntS_K (fun i out_ => loopN (laws_toIntS_B0 N) N (laws_toIntS_m0 a i out_)) a := by kernel_rfl
  refine run_.trans ?_
  unfold laws_toIntS_f
  have e0 : (fun i out_ => loopN (laws_toIntS_B0 N) N (laws_toIntS_m0 a i out_)) = (laws_toIntS_L0 Vm.bad laws_toIntS_K N a N) := by
    exact laws_toIntS_n0 N a N
  exact congrArg (fun l_ => laws_toIntS_t Vm.bad laws_toIntS_K l_ a) e0
theorem laws_toIntS_h : Holds Tryz.prog 40 laws_toIntS_s := by
  refine holds_of_run (A := laws_toIntS_A) laws_toIntS_x Tryz.func40 rfl (by kernel_rfl) (of_decide_eq_true (by kernel_rfl)) (of_decide_eq_true (by kernel_rfl)) ?_
  intro ds hw hok
  replace hw : WtL ((.sl [.int .i64]) :: ([])) ds := hw
  obtain ⟨a, ds, rfl, h_a, hw⟩ := of_wt_sl hw
  obtain rfl := of_wt_nil hw
  obtain ⟨N, hN⟩ := laws_toIntS_c Vm.bad laws_toIntS_K a h_a hok
  exact ⟨N, ((laws_toIntS_r N a).trans hN).trans (by kernel_rfl)⟩

def laws_toSpread_s : Sum := { ps := [⟨[.str, .sl [.int .i64]], true⟩], rs := [⟨[.imm .str, .own 3 [.int .i64]], true⟩], fn := fun ds => (laws_toSpread_ok (SSpread.decAt ds 0), SSpread.enc (idf (SSpread.decAt ds 0))) }
def laws_toSpread_G : Ctx := [(40, laws_toIntS_s)]
theorem laws_toSpread_x : CtxHolds Tryz.prog laws_toSpread_G := ctx_cons laws_toIntS_h ctx_nil
def laws_toSpread_A : List (Nat × Ann) := []
theorem laws_toSpread_r (N : Nat) (a : SSpread) : runF Tryz.prog laws_toSpread_G laws_toSpread_A N Tryz.f98 laws_toSpread_s (a.enc ++ ([])) = laws_toSpread_t Vm.bad (fun r0 => ((true, SSpread.enc r0) : Res)) a := by kernel_rfl
theorem laws_toSpread_h : Holds Tryz.prog 98 laws_toSpread_s := by
  refine holds_of_run (A := laws_toSpread_A) laws_toSpread_x Tryz.func98 rfl (by kernel_rfl) (of_decide_eq_true (by kernel_rfl)) (of_decide_eq_true (by kernel_rfl)) ?_
  intro ds hw hok
  replace hw : WtL (SSpread.ct ++ ([])) ds := hw
  obtain ⟨a, ds, rfl, h_a, hw⟩ := SSpread.of_wt (r := _) hw
  obtain rfl := of_wt_nil hw
  exact ⟨0, ((laws_toSpread_r 0 a).trans (laws_toSpread_c Vm.bad _ a h_a hok)).trans (by kernel_rfl)⟩

def laws_toSteering_s : Sum := { ps := [⟨[.sl [.int .i64, .int .i64, .int .i64, .int .i64, .int .i64, .int .i64, .int .i64, .int .i64, .int .i64], .sl [.int .i64, .int .i64, .int .i64, .int .i64, .int .i64, .int .i64, .int .i64], .str, .sl [.int .i64]], true⟩], rs := [⟨[.own 221 [.int .i64, .int .i64, .int .i64, .int .i64, .int .i64, .int .i64, .int .i64, .int .i64, .int .i64], .own 242 [.int .i64, .int .i64, .int .i64, .int .i64, .int .i64, .int .i64, .int .i64], .imm .str, .own 3 [.int .i64]], true⟩], fn := fun ds => (laws_toSteering_ok (SSteering.decAt ds 0), SSteering.enc (idf (SSteering.decAt ds 0))) }
def laws_toSteering_G : Ctx := [(96, laws_toRuleS_s), (97, laws_toFlowTable_s), (98, laws_toSpread_s)]
theorem laws_toSteering_x : CtxHolds Tryz.prog laws_toSteering_G := ctx_cons laws_toRuleS_h (ctx_cons laws_toFlowTable_h (ctx_cons laws_toSpread_h ctx_nil))
def laws_toSteering_A : List (Nat × Ann) := []
theorem laws_toSteering_r (N : Nat) (a : SSteering) : runF Tryz.prog laws_toSteering_G laws_toSteering_A N Tryz.f37 laws_toSteering_s (a.enc ++ ([])) = laws_toSteering_t Vm.bad (fun r0 => ((true, SSteering.enc r0) : Res)) a := by kernel_rfl
theorem laws_toSteering_h : Holds Tryz.prog 37 laws_toSteering_s := by
  refine holds_of_run (A := laws_toSteering_A) laws_toSteering_x Tryz.func37 rfl (by kernel_rfl) (of_decide_eq_true (by kernel_rfl)) (of_decide_eq_true (by kernel_rfl)) ?_
  intro ds hw hok
  replace hw : WtL (SSteering.ct ++ ([])) ds := hw
  obtain ⟨a, ds, rfl, h_a, hw⟩ := SSteering.of_wt (r := _) hw
  obtain rfl := of_wt_nil hw
  exact ⟨0, ((laws_toSteering_r 0 a).trans (laws_toSteering_c Vm.bad _ a h_a hok)).trans (by kernel_rfl)⟩

def laws_eqVector_s : Sum := { ps := [⟨[.int .i64, .int .i64, .int .i64, .int .i64, .bool, .bool], true⟩, ⟨[.int .i64, .int .i64, .int .i64, .int .i64, .bool, .bool], true⟩], rs := [⟨[.imm .bool], false⟩], fn := fun ds => (same (SVector.decAt ds 0) (SVector.decAt ds 6), [.bool (yes2 (SVector.decAt ds 0) (SVector.decAt ds 6))]) }
def laws_eqVector_G : Ctx := []
theorem laws_eqVector_x : CtxHolds Tryz.prog laws_eqVector_G := ctx_nil
def laws_eqVector_A : List (Nat × Ann) := []
theorem laws_eqVector_r (N : Nat) (a : SVector) (b : SVector) : runF Tryz.prog laws_eqVector_G laws_eqVector_A N Tryz.f105 laws_eqVector_s (a.enc ++ (b.enc ++ ([]))) = laws_eqVector_t (fun r0 => ((true, [.bool r0]) : Res)) a b := by kernel_rfl
theorem laws_eqVector_h : Holds Tryz.prog 105 laws_eqVector_s := by
  refine holds_of_run (A := laws_eqVector_A) laws_eqVector_x Tryz.func105 rfl (by kernel_rfl) (of_decide_eq_true (by kernel_rfl)) (of_decide_eq_true (by kernel_rfl)) ?_
  intro ds hw hok
  replace hw : WtL (SVector.ct ++ (SVector.ct ++ ([]))) ds := hw
  obtain ⟨a, ds, rfl, h_a, hw⟩ := SVector.of_wt (r := _) hw
  obtain ⟨b, ds, rfl, h_b, hw⟩ := SVector.of_wt (r := _) hw
  obtain rfl := of_wt_nil hw
  exact ⟨0, ((laws_eqVector_r 0 a b).trans (laws_eqVector_c _ a b h_a h_b hok)).trans (by kernel_rfl)⟩

def laws_eqVectorS_s : Sum := { ps := [⟨[.sl [.int .i64, .int .i64, .int .i64, .int .i64, .bool, .bool]], false⟩, ⟨[.sl [.int .i64, .int .i64, .int .i64, .int .i64, .bool, .bool]], false⟩], rs := [⟨[.imm .bool], false⟩], fn := fun ds => (same (rR ds 0) (rR ds 1), [.bool (yes2 (rR ds 0) (rR ds 1))]) }
def laws_eqVectorS_G : Ctx := [(105, laws_eqVector_s)]
theorem laws_eqVectorS_x : CtxHolds Tryz.prog laws_eqVectorS_G := ctx_cons laws_eqVector_h ctx_nil
def laws_eqVectorS_A : List (Nat × Ann) := [(4, { slots := [(0, .asis), (1, .asis), (5, .asis)], boxes := [] })]
def laws_eqVectorS_K : Bool → Res := (fun r0 => ((true, [.bool r0]) : Res))
def laws_eqVectorS_m0 (a : Rows) (b : Rows) (i : Int) : St := { n := 27, sl := [(0, .sl [.int .i64, .int .i64, .int .i64, .int .i64, .bool, .bool] a), (1, .sl [.int .i64, .int .i64, .int .i64, .int .i64, .bool, .bool] b), (5, .int .i64 i)], hp := [], ok := true, ls := [], lm := [] }
noncomputable def laws_eqVectorS_B0 (N : Nat) : (St → Res) → St → Res := loopB Tryz.prog laws_eqVectorS_G laws_eqVectorS_A N Tryz.f48 laws_eqVectorS_s [true, true, false, true, false] []
theorem laws_eqVectorS_b0 (N : Nat) (a : Rows) (b : Rows) (ih : St → Res) (i : Int) : laws_eqVectorS_B0 N ih (laws_eqVectorS_m0 a b i) = laws_eqVectorS_l0 Vm.bad laws_eqVectorS_K a b (fun i => ih (laws_eqVectorS_m0 a b i)) i := by kernel_rfl
theorem laws_eqVectorS_n0 (N : Nat) (a : Rows) (b : Rows) (m_ : Nat) : (fun i => loopN (laws_eqVectorS_B0 N) m_ (laws_eqVectorS_m0 a b i)) = laws_eqVectorS_L0 Vm.bad laws_eqVectorS_K N a b m_ := by
  induction m_ with
  | zero => rfl
  | succ m_ ih =>
    funext i
    show laws_eqVectorS_B0 N (loopN (laws_eqVectorS_B0 N) m_) (laws_eqVectorS_m0 a b i) = _
    rw [laws_eqVectorS_b0 N a b]
    rw [ih]
    rfl
theorem laws_eqVectorS_r (N : Nat) (a : Rows) (b : Rows) : runF Tryz.prog laws_eqVectorS_G laws_eqVectorS_A N Tryz.f48 laws_eqVectorS_s (.sl a :: (.sl b :: ([]))) = laws_eqVectorS_f Vm.bad laws_eqVectorS_K N a b := by
  have run_ : runF Tryz.prog laws_eqVectorS_G laws_eqVectorS_A N Tryz.f48 laws_eqVectorS_s (.sl a :: (.sl b :: ([]))) = laws_eqVectorS_t Vm.bad laws_eqVectorS_K (fun i => loopN (laws_eqVectorS_B0 N) N (laws_eqVectorS_m0 a b i)) a b := by kernel_rfl
  refine run_.trans ?_
  unfold laws_eqVectorS_f
  have e0 : (fun i => loopN (laws_eqVectorS_B0 N) N (laws_eqVectorS_m0 a b i)) = (laws_eqVectorS_L0 Vm.bad laws_eqVectorS_K N a b N) := by
    exact laws_eqVectorS_n0 N a b N
  exact congrArg (fun l_ => laws_eqVectorS_t Vm.bad laws_eqVectorS_K l_ a b) e0
theorem laws_eqVectorS_h : Holds Tryz.prog 48 laws_eqVectorS_s := by
  refine holds_of_run (A := laws_eqVectorS_A) laws_eqVectorS_x Tryz.func48 rfl (by kernel_rfl) (of_decide_eq_true (by kernel_rfl)) (of_decide_eq_true (by kernel_rfl)) ?_
  intro ds hw hok
  replace hw : WtL ((.sl [.int .i64, .int .i64, .int .i64, .int .i64, .bool, .bool]) :: ((.sl [.int .i64, .int .i64, .int .i64, .int .i64, .bool, .bool]) :: ([]))) ds := hw
  obtain ⟨a, ds, rfl, h_a, hw⟩ := of_wt_sl hw
  obtain ⟨b, ds, rfl, h_b, hw⟩ := of_wt_sl hw
  obtain rfl := of_wt_nil hw
  obtain ⟨N, hN⟩ := laws_eqVectorS_c Vm.bad laws_eqVectorS_K a b h_a h_b hok
  exact ⟨N, ((laws_eqVectorS_r N a b).trans hN).trans (by kernel_rfl)⟩

def laws_eqIntS_s : Sum := { ps := [⟨[.sl [.int .i64]], false⟩, ⟨[.sl [.int .i64]], false⟩], rs := [⟨[.imm .bool], false⟩], fn := fun ds => (same (rR ds 0) (rR ds 1), [.bool (yes2 (rR ds 0) (rR ds 1))]) }
def laws_eqIntS_G : Ctx := []
theorem laws_eqIntS_x : CtxHolds Tryz.prog laws_eqIntS_G := ctx_nil
def laws_eqIntS_A : List (Nat × Ann) := [(4, { slots := [(0, .asis), (1, .asis), (5, .asis)], boxes := [] })]
def laws_eqIntS_K : Bool → Res := (fun r0 => ((true, [.bool r0]) : Res))
def laws_eqIntS_m0 (a : Rows) (b : Rows) (i : Int) : St := { n := 26, sl := [(0, .sl [.int .i64] a), (1, .sl [.int .i64] b), (5, .int .i64 i)], hp := [], ok := true, ls := [], lm := [] }
noncomputable def laws_eqIntS_B0 (N : Nat) : (St → Res) → St → Res := loopB Tryz.prog laws_eqIntS_G laws_eqIntS_A N Tryz.f9 laws_eqIntS_s [true, true, false, true, false] []
theorem laws_eqIntS_b0 (N : Nat) (a : Rows) (b : Rows) (ih : St → Res) (i : Int) : laws_eqIntS_B0 N ih (laws_eqIntS_m0 a b i) = laws_eqIntS_l0 Vm.bad laws_eqIntS_K a b (fun i => ih (laws_eqIntS_m0 a b i)) i := by kernel_rfl
theorem laws_eqIntS_n0 (N : Nat) (a : Rows) (b : Rows) (m_ : Nat) : (fun i => loopN (laws_eqIntS_B0 N) m_ (laws_eqIntS_m0 a b i)) = laws_eqIntS_L0 Vm.bad laws_eqIntS_K N a b m_ := by
  induction m_ with
  | zero => rfl
  | succ m_ ih =>
    funext i
    show laws_eqIntS_B0 N (loopN (laws_eqIntS_B0 N) m_) (laws_eqIntS_m0 a b i) = _
    rw [laws_eqIntS_b0 N a b]
    rw [ih]
    rfl
theorem laws_eqIntS_r (N : Nat) (a : Rows) (b : Rows) : runF Tryz.prog laws_eqIntS_G laws_eqIntS_A N Tryz.f9 laws_eqIntS_s (.sl a :: (.sl b :: ([]))) = laws_eqIntS_f Vm.bad laws_eqIntS_K N a b := by
  have run_ : runF Tryz.prog laws_eqIntS_G laws_eqIntS_A N Tryz.f9 laws_eqIntS_s (.sl a :: (.sl b :: ([]))) = laws_eqIntS_t Vm.bad laws_eqIntS_K (fun i => loopN (laws_eqIntS_B0 N) N (laws_eqIntS_m0 a b i)) a b := by kernel_rfl
  refine run_.trans ?_
  unfold laws_eqIntS_f
  have e0 : (fun i => loopN (laws_eqIntS_B0 N) N (laws_eqIntS_m0 a b i)) = (laws_eqIntS_L0 Vm.bad laws_eqIntS_K N a b N) := by
    exact laws_eqIntS_n0 N a b N
  exact congrArg (fun l_ => laws_eqIntS_t Vm.bad laws_eqIntS_K l_ a b) e0
theorem laws_eqIntS_h : Holds Tryz.prog 9 laws_eqIntS_s := by
  refine holds_of_run (A := laws_eqIntS_A) laws_eqIntS_x Tryz.func9 rfl (by kernel_rfl) (of_decide_eq_true (by kernel_rfl)) (of_decide_eq_true (by kernel_rfl)) ?_
  intro ds hw hok
  replace hw : WtL ((.sl [.int .i64]) :: ((.sl [.int .i64]) :: ([]))) ds := hw
  obtain ⟨a, ds, rfl, h_a, hw⟩ := of_wt_sl hw
  obtain ⟨b, ds, rfl, h_b, hw⟩ := of_wt_sl hw
  obtain rfl := of_wt_nil hw
  obtain ⟨N, hN⟩ := laws_eqIntS_c Vm.bad laws_eqIntS_K a b h_a h_b hok
  exact ⟨N, ((laws_eqIntS_r N a b).trans hN).trans (by kernel_rfl)⟩

def laws_eqSent_s : Sum := { ps := [⟨[.int .i64, .int .i64, .sl [.int .i64]], true⟩, ⟨[.int .i64, .int .i64, .sl [.int .i64]], true⟩], rs := [⟨[.imm .bool], false⟩], fn := fun ds => (same (SSent.decAt ds 0) (SSent.decAt ds 3), [.bool (yes2 (SSent.decAt ds 0) (SSent.decAt ds 3))]) }
def laws_eqSent_G : Ctx := [(9, laws_eqIntS_s)]
theorem laws_eqSent_x : CtxHolds Tryz.prog laws_eqSent_G := ctx_cons laws_eqIntS_h ctx_nil
def laws_eqSent_A : List (Nat × Ann) := []
theorem laws_eqSent_r (N : Nat) (a : SSent) (b : SSent) : runF Tryz.prog laws_eqSent_G laws_eqSent_A N Tryz.f163 laws_eqSent_s (a.enc ++ (b.enc ++ ([]))) = laws_eqSent_t Vm.bad (fun r0 => ((true, [.bool r0]) : Res)) a b := by kernel_rfl
theorem laws_eqSent_h : Holds Tryz.prog 163 laws_eqSent_s := by
  refine holds_of_run (A := laws_eqSent_A) laws_eqSent_x Tryz.func163 rfl (by kernel_rfl) (of_decide_eq_true (by kernel_rfl)) (of_decide_eq_true (by kernel_rfl)) ?_
  intro ds hw hok
  replace hw : WtL (SSent.ct ++ (SSent.ct ++ ([]))) ds := hw
  obtain ⟨a, ds, rfl, h_a, hw⟩ := SSent.of_wt (r := _) hw
  obtain ⟨b, ds, rfl, h_b, hw⟩ := SSent.of_wt (r := _) hw
  obtain rfl := of_wt_nil hw
  exact ⟨0, ((laws_eqSent_r 0 a b).trans (laws_eqSent_c Vm.bad _ a b h_a h_b hok)).trans (by kernel_rfl)⟩

def laws_eqSentS_s : Sum := { ps := [⟨[.sl [.int .i64, .int .i64, .sl [.int .i64]]], false⟩, ⟨[.sl [.int .i64, .int .i64, .sl [.int .i64]]], false⟩], rs := [⟨[.imm .bool], false⟩], fn := fun ds => (same (rR ds 0) (rR ds 1), [.bool (yes2 (rR ds 0) (rR ds 1))]) }
def laws_eqSentS_G : Ctx := [(163, laws_eqSent_s)]
theorem laws_eqSentS_x : CtxHolds Tryz.prog laws_eqSentS_G := ctx_cons laws_eqSent_h ctx_nil
def laws_eqSentS_A : List (Nat × Ann) := [(4, { slots := [(0, .asis), (1, .asis), (5, .asis)], boxes := [] })]
def laws_eqSentS_K : Bool → Res := (fun r0 => ((true, [.bool r0]) : Res))
def laws_eqSentS_m0 (a : Rows) (b : Rows) (i : Int) : St := { n := 27, sl := [(0, .sl [.int .i64, .int .i64, .sl [.int .i64]] a), (1, .sl [.int .i64, .int .i64, .sl [.int .i64]] b), (5, .int .i64 i)], hp := [], ok := true, ls := [], lm := [] }
noncomputable def laws_eqSentS_B0 (N : Nat) : (St → Res) → St → Res := loopB Tryz.prog laws_eqSentS_G laws_eqSentS_A N Tryz.f103 laws_eqSentS_s [true, true, false, true, false] []
theorem laws_eqSentS_b0 (N : Nat) (a : Rows) (b : Rows) (ih : St → Res) (i : Int) : laws_eqSentS_B0 N ih (laws_eqSentS_m0 a b i) = laws_eqSentS_l0 Vm.bad laws_eqSentS_K a b (fun i => ih (laws_eqSentS_m0 a b i)) i := by kernel_rfl
theorem laws_eqSentS_n0 (N : Nat) (a : Rows) (b : Rows) (m_ : Nat) : (fun i => loopN (laws_eqSentS_B0 N) m_ (laws_eqSentS_m0 a b i)) = laws_eqSentS_L0 Vm.bad laws_eqSentS_K N a b m_ := by
  induction m_ with
  | zero => rfl
  | succ m_ ih =>
    funext i
    show laws_eqSentS_B0 N (loopN (laws_eqSentS_B0 N) m_) (laws_eqSentS_m0 a b i) = _
    rw [laws_eqSentS_b0 N a b]
    rw [ih]
    rfl
theorem laws_eqSentS_r (N : Nat) (a : Rows) (b : Rows) : runF Tryz.prog laws_eqSentS_G laws_eqSentS_A N Tryz.f103 laws_eqSentS_s (.sl a :: (.sl b :: ([]))) = laws_eqSentS_f Vm.bad laws_eqSentS_K N a b := by
  have run_ : runF Tryz.prog laws_eqSentS_G laws_eqSentS_A N Tryz.f103 laws_eqSentS_s (.sl a :: (.sl b :: ([]))) = laws_eqSentS_t Vm.bad laws_eqSentS_K (fun i => loopN (laws_eqSentS_B0 N) N (laws_eqSentS_m0 a b i)) a b := by kernel_rfl
  refine run_.trans ?_
  unfold laws_eqSentS_f
  have e0 : (fun i => loopN (laws_eqSentS_B0 N) N (laws_eqSentS_m0 a b i)) = (laws_eqSentS_L0 Vm.bad laws_eqSentS_K N a b N) := by
    exact laws_eqSentS_n0 N a b N
  exact congrArg (fun l_ => laws_eqSentS_t Vm.bad laws_eqSentS_K l_ a b) e0
theorem laws_eqSentS_h : Holds Tryz.prog 103 laws_eqSentS_s := by
  refine holds_of_run (A := laws_eqSentS_A) laws_eqSentS_x Tryz.func103 rfl (by kernel_rfl) (of_decide_eq_true (by kernel_rfl)) (of_decide_eq_true (by kernel_rfl)) ?_
  intro ds hw hok
  replace hw : WtL ((.sl [.int .i64, .int .i64, .sl [.int .i64]]) :: ((.sl [.int .i64, .int .i64, .sl [.int .i64]]) :: ([]))) ds := hw
  obtain ⟨a, ds, rfl, h_a, hw⟩ := of_wt_sl hw
  obtain ⟨b, ds, rfl, h_b, hw⟩ := of_wt_sl hw
  obtain rfl := of_wt_nil hw
  obtain ⟨N, hN⟩ := laws_eqSentS_c Vm.bad laws_eqSentS_K a b h_a h_b hok
  exact ⟨N, ((laws_eqSentS_r N a b).trans hN).trans (by kernel_rfl)⟩

def laws_eqMapping_s : Sum := { ps := [⟨[.int .i64, .int .i64, .int .i64, .bool], true⟩, ⟨[.int .i64, .int .i64, .int .i64, .bool], true⟩], rs := [⟨[.imm .bool], false⟩], fn := fun ds => (same (SMapping.decAt ds 0) (SMapping.decAt ds 4), [.bool (yes2 (SMapping.decAt ds 0) (SMapping.decAt ds 4))]) }
def laws_eqMapping_G : Ctx := []
theorem laws_eqMapping_x : CtxHolds Tryz.prog laws_eqMapping_G := ctx_nil
def laws_eqMapping_A : List (Nat × Ann) := []
theorem laws_eqMapping_r (N : Nat) (a : SMapping) (b : SMapping) : runF Tryz.prog laws_eqMapping_G laws_eqMapping_A N Tryz.f100 laws_eqMapping_s (a.enc ++ (b.enc ++ ([]))) = laws_eqMapping_t (fun r0 => ((true, [.bool r0]) : Res)) a b := by kernel_rfl
theorem laws_eqMapping_h : Holds Tryz.prog 100 laws_eqMapping_s := by
  refine holds_of_run (A := laws_eqMapping_A) laws_eqMapping_x Tryz.func100 rfl (by kernel_rfl) (of_decide_eq_true (by kernel_rfl)) (of_decide_eq_true (by kernel_rfl)) ?_
  intro ds hw hok
  replace hw : WtL (SMapping.ct ++ (SMapping.ct ++ ([]))) ds := hw
  obtain ⟨a, ds, rfl, h_a, hw⟩ := SMapping.of_wt (r := _) hw
  obtain ⟨b, ds, rfl, h_b, hw⟩ := SMapping.of_wt (r := _) hw
  obtain rfl := of_wt_nil hw
  exact ⟨0, ((laws_eqMapping_r 0 a b).trans (laws_eqMapping_c _ a b h_a h_b hok)).trans (by kernel_rfl)⟩

def laws_eqMappingS_s : Sum := { ps := [⟨[.sl [.int .i64, .int .i64, .int .i64, .bool]], false⟩, ⟨[.sl [.int .i64, .int .i64, .int .i64, .bool]], false⟩], rs := [⟨[.imm .bool], false⟩], fn := fun ds => (same (rR ds 0) (rR ds 1), [.bool (yes2 (rR ds 0) (rR ds 1))]) }
def laws_eqMappingS_G : Ctx := [(100, laws_eqMapping_s)]
theorem laws_eqMappingS_x : CtxHolds Tryz.prog laws_eqMappingS_G := ctx_cons laws_eqMapping_h ctx_nil
def laws_eqMappingS_A : List (Nat × Ann) := [(4, { slots := [(0, .asis), (1, .asis), (5, .asis)], boxes := [] })]
def laws_eqMappingS_K : Bool → Res := (fun r0 => ((true, [.bool r0]) : Res))
def laws_eqMappingS_m0 (a : Rows) (b : Rows) (i : Int) : St := { n := 27, sl := [(0, .sl [.int .i64, .int .i64, .int .i64, .bool] a), (1, .sl [.int .i64, .int .i64, .int .i64, .bool] b), (5, .int .i64 i)], hp := [], ok := true, ls := [], lm := [] }
noncomputable def laws_eqMappingS_B0 (N : Nat) : (St → Res) → St → Res := loopB Tryz.prog laws_eqMappingS_G laws_eqMappingS_A N Tryz.f44 laws_eqMappingS_s [true, true, false, true, false] []
theorem laws_eqMappingS_b0 (N : Nat) (a : Rows) (b : Rows) (ih : St → Res) (i : Int) : laws_eqMappingS_B0 N ih (laws_eqMappingS_m0 a b i) = laws_eqMappingS_l0 Vm.bad laws_eqMappingS_K a b (fun i => ih (laws_eqMappingS_m0 a b i)) i := by kernel_rfl
theorem laws_eqMappingS_n0 (N : Nat) (a : Rows) (b : Rows) (m_ : Nat) : (fun i => loopN (laws_eqMappingS_B0 N) m_ (laws_eqMappingS_m0 a b i)) = laws_eqMappingS_L0 Vm.bad laws_eqMappingS_K N a b m_ := by
  induction m_ with
  | zero => rfl
  | succ m_ ih =>
    funext i
    show laws_eqMappingS_B0 N (loopN (laws_eqMappingS_B0 N) m_) (laws_eqMappingS_m0 a b i) = _
    rw [laws_eqMappingS_b0 N a b]
    rw [ih]
    rfl
theorem laws_eqMappingS_r (N : Nat) (a : Rows) (b : Rows) : runF Tryz.prog laws_eqMappingS_G laws_eqMappingS_A N Tryz.f44 laws_eqMappingS_s (.sl a :: (.sl b :: ([]))) = laws_eqMappingS_f Vm.bad laws_eqMappingS_K N a b := by
  have run_ : runF Tryz.prog laws_eqMappingS_G laws_eqMappingS_A N Tryz.f44 laws_eqMappingS_s (.sl a :: (.sl b :: ([]))) = laws_eqMappingS_t Vm.bad laws_eqMappingS_K (fun i => loopN (laws_eqMappingS_B0 N) N (laws_eqMappingS_m0 a b i)) a b := by kernel_rfl
  refine run_.trans ?_
  unfold laws_eqMappingS_f
  have e0 : (fun i => loopN (laws_eqMappingS_B0 N) N (laws_eqMappingS_m0 a b i)) = (laws_eqMappingS_L0 Vm.bad laws_eqMappingS_K N a b N) := by
    exact laws_eqMappingS_n0 N a b N
  exact congrArg (fun l_ => laws_eqMappingS_t Vm.bad laws_eqMappingS_K l_ a b) e0
theorem laws_eqMappingS_h : Holds Tryz.prog 44 laws_eqMappingS_s := by
  refine holds_of_run (A := laws_eqMappingS_A) laws_eqMappingS_x Tryz.func44 rfl (by kernel_rfl) (of_decide_eq_true (by kernel_rfl)) (of_decide_eq_true (by kernel_rfl)) ?_
  intro ds hw hok
  replace hw : WtL ((.sl [.int .i64, .int .i64, .int .i64, .bool]) :: ((.sl [.int .i64, .int .i64, .int .i64, .bool]) :: ([]))) ds := hw
  obtain ⟨a, ds, rfl, h_a, hw⟩ := of_wt_sl hw
  obtain ⟨b, ds, rfl, h_b, hw⟩ := of_wt_sl hw
  obtain rfl := of_wt_nil hw
  obtain ⟨N, hN⟩ := laws_eqMappingS_c Vm.bad laws_eqMappingS_K a b h_a h_b hok
  exact ⟨N, ((laws_eqMappingS_r N a b).trans hN).trans (by kernel_rfl)⟩

def laws_eqRule_s : Sum := { ps := [⟨[.int .i64, .int .i64, .int .i64, .int .i64, .int .i64, .int .i64, .int .i64, .int .i64, .int .i64], true⟩, ⟨[.int .i64, .int .i64, .int .i64, .int .i64, .int .i64, .int .i64, .int .i64, .int .i64, .int .i64], true⟩], rs := [⟨[.imm .bool], false⟩], fn := fun ds => (same (SRule.decAt ds 0) (SRule.decAt ds 9), [.bool (yes2 (SRule.decAt ds 0) (SRule.decAt ds 9))]) }
def laws_eqRule_G : Ctx := []
theorem laws_eqRule_x : CtxHolds Tryz.prog laws_eqRule_G := ctx_nil
def laws_eqRule_A : List (Nat × Ann) := []
theorem laws_eqRule_r (N : Nat) (a : SRule) (b : SRule) : runF Tryz.prog laws_eqRule_G laws_eqRule_A N Tryz.f166 laws_eqRule_s (a.enc ++ (b.enc ++ ([]))) = laws_eqRule_t (fun r0 => ((true, [.bool r0]) : Res)) a b := by kernel_rfl
theorem laws_eqRule_h : Holds Tryz.prog 166 laws_eqRule_s := by
  refine holds_of_run (A := laws_eqRule_A) laws_eqRule_x Tryz.func166 rfl (by kernel_rfl) (of_decide_eq_true (by kernel_rfl)) (of_decide_eq_true (by kernel_rfl)) ?_
  intro ds hw hok
  replace hw : WtL (SRule.ct ++ (SRule.ct ++ ([]))) ds := hw
  obtain ⟨a, ds, rfl, h_a, hw⟩ := SRule.of_wt (r := _) hw
  obtain ⟨b, ds, rfl, h_b, hw⟩ := SRule.of_wt (r := _) hw
  obtain rfl := of_wt_nil hw
  exact ⟨0, ((laws_eqRule_r 0 a b).trans (laws_eqRule_c _ a b h_a h_b hok)).trans (by kernel_rfl)⟩

def laws_eqFilter_s : Sum := { ps := [⟨[.int .i64, .bool, .sl [.int .i64]], true⟩, ⟨[.int .i64, .bool, .sl [.int .i64]], true⟩], rs := [⟨[.imm .bool], false⟩], fn := fun ds => (same (SFilter.decAt ds 0) (SFilter.decAt ds 3), [.bool (yes2 (SFilter.decAt ds 0) (SFilter.decAt ds 3))]) }
def laws_eqFilter_G : Ctx := [(9, laws_eqIntS_s)]
theorem laws_eqFilter_x : CtxHolds Tryz.prog laws_eqFilter_G := ctx_cons laws_eqIntS_h ctx_nil
def laws_eqFilter_A : List (Nat × Ann) := []
theorem laws_eqFilter_r (N : Nat) (a : SFilter) (b : SFilter) : runF Tryz.prog laws_eqFilter_G laws_eqFilter_A N Tryz.f50 laws_eqFilter_s (a.enc ++ (b.enc ++ ([]))) = laws_eqFilter_t Vm.bad (fun r0 => ((true, [.bool r0]) : Res)) a b := by kernel_rfl
theorem laws_eqFilter_h : Holds Tryz.prog 50 laws_eqFilter_s := by
  refine holds_of_run (A := laws_eqFilter_A) laws_eqFilter_x Tryz.func50 rfl (by kernel_rfl) (of_decide_eq_true (by kernel_rfl)) (of_decide_eq_true (by kernel_rfl)) ?_
  intro ds hw hok
  replace hw : WtL (SFilter.ct ++ (SFilter.ct ++ ([]))) ds := hw
  obtain ⟨a, ds, rfl, h_a, hw⟩ := SFilter.of_wt (r := _) hw
  obtain ⟨b, ds, rfl, h_b, hw⟩ := SFilter.of_wt (r := _) hw
  obtain rfl := of_wt_nil hw
  exact ⟨0, ((laws_eqFilter_r 0 a b).trans (laws_eqFilter_c Vm.bad _ a b h_a h_b hok)).trans (by kernel_rfl)⟩

def laws_eqFlow_s : Sum := { ps := [⟨[.int .i64, .int .i64, .int .i64, .int .i64, .int .i64], true⟩, ⟨[.int .i64, .int .i64, .int .i64, .int .i64, .int .i64], true⟩], rs := [⟨[.imm .bool], false⟩], fn := fun ds => (same (SFlow.decAt ds 0) (SFlow.decAt ds 5), [.bool (yes2 (SFlow.decAt ds 0) (SFlow.decAt ds 5))]) }
def laws_eqFlow_G : Ctx := []
theorem laws_eqFlow_x : CtxHolds Tryz.prog laws_eqFlow_G := ctx_nil
def laws_eqFlow_A : List (Nat × Ann) := []
theorem laws_eqFlow_r (N : Nat) (a : SFlow) (b : SFlow) : runF Tryz.prog laws_eqFlow_G laws_eqFlow_A N Tryz.f168 laws_eqFlow_s (a.enc ++ (b.enc ++ ([]))) = laws_eqFlow_t (fun r0 => ((true, [.bool r0]) : Res)) a b := by kernel_rfl
theorem laws_eqFlow_h : Holds Tryz.prog 168 laws_eqFlow_s := by
  refine holds_of_run (A := laws_eqFlow_A) laws_eqFlow_x Tryz.func168 rfl (by kernel_rfl) (of_decide_eq_true (by kernel_rfl)) (of_decide_eq_true (by kernel_rfl)) ?_
  intro ds hw hok
  replace hw : WtL (SFlow.ct ++ (SFlow.ct ++ ([]))) ds := hw
  obtain ⟨a, ds, rfl, h_a, hw⟩ := SFlow.of_wt (r := _) hw
  obtain ⟨b, ds, rfl, h_b, hw⟩ := SFlow.of_wt (r := _) hw
  obtain rfl := of_wt_nil hw
  exact ⟨0, ((laws_eqFlow_r 0 a b).trans (laws_eqFlow_c _ a b h_a h_b hok)).trans (by kernel_rfl)⟩

def laws_eqSlot_s : Sum := { ps := [⟨[.int .i64, .int .i64, .int .i64, .int .i64, .int .i64, .int .i64, .int .i64], true⟩, ⟨[.int .i64, .int .i64, .int .i64, .int .i64, .int .i64, .int .i64, .int .i64], true⟩], rs := [⟨[.imm .bool], false⟩], fn := fun ds => (same (SSlot.decAt ds 0) (SSlot.decAt ds 7), [.bool (yes2 (SSlot.decAt ds 0) (SSlot.decAt ds 7))]) }
def laws_eqSlot_G : Ctx := [(168, laws_eqFlow_s)]
theorem laws_eqSlot_x : CtxHolds Tryz.prog laws_eqSlot_G := ctx_cons laws_eqFlow_h ctx_nil
def laws_eqSlot_A : List (Nat × Ann) := []
theorem laws_eqSlot_r (N : Nat) (a : SSlot) (b : SSlot) : runF Tryz.prog laws_eqSlot_G laws_eqSlot_A N Tryz.f196 laws_eqSlot_s (a.enc ++ (b.enc ++ ([]))) = laws_eqSlot_t Vm.bad (fun r0 => ((true, [.bool r0]) : Res)) a b := by kernel_rfl
theorem laws_eqSlot_h : Holds Tryz.prog 196 laws_eqSlot_s := by
  refine holds_of_run (A := laws_eqSlot_A) laws_eqSlot_x Tryz.func196 rfl (by kernel_rfl) (of_decide_eq_true (by kernel_rfl)) (of_decide_eq_true (by kernel_rfl)) ?_
  intro ds hw hok
  replace hw : WtL (SSlot.ct ++ (SSlot.ct ++ ([]))) ds := hw
  obtain ⟨a, ds, rfl, h_a, hw⟩ := SSlot.of_wt (r := _) hw
  obtain ⟨b, ds, rfl, h_b, hw⟩ := SSlot.of_wt (r := _) hw
  obtain rfl := of_wt_nil hw
  exact ⟨0, ((laws_eqSlot_r 0 a b).trans (laws_eqSlot_c Vm.bad _ a b h_a h_b hok)).trans (by kernel_rfl)⟩

def laws_eqMemory_s : Sum := { ps := [⟨[.sl [.str]], true⟩, ⟨[.sl [.str]], true⟩], rs := [⟨[.imm .bool], false⟩], fn := fun ds => (same (SMemory.decAt ds 0) (SMemory.decAt ds 1), [.bool (yes2 (SMemory.decAt ds 0) (SMemory.decAt ds 1))]) }
def laws_eqMemory_G : Ctx := [(53, laws_eqStringS_s)]
theorem laws_eqMemory_x : CtxHolds Tryz.prog laws_eqMemory_G := ctx_cons laws_eqStringS_h ctx_nil
def laws_eqMemory_A : List (Nat × Ann) := []
theorem laws_eqMemory_r (N : Nat) (a : SMemory) (b : SMemory) : runF Tryz.prog laws_eqMemory_G laws_eqMemory_A N Tryz.f43 laws_eqMemory_s (a.enc ++ (b.enc ++ ([]))) = laws_eqMemory_t Vm.bad (fun r0 => ((true, [.bool r0]) : Res)) a b := by kernel_rfl
theorem laws_eqMemory_h : Holds Tryz.prog 43 laws_eqMemory_s := by
  refine holds_of_run (A := laws_eqMemory_A) laws_eqMemory_x Tryz.func43 rfl (by kernel_rfl) (of_decide_eq_true (by kernel_rfl)) (of_decide_eq_true (by kernel_rfl)) ?_
  intro ds hw hok
  replace hw : WtL (SMemory.ct ++ (SMemory.ct ++ ([]))) ds := hw
  obtain ⟨a, ds, rfl, h_a, hw⟩ := SMemory.of_wt (r := _) hw
  obtain ⟨b, ds, rfl, h_b, hw⟩ := SMemory.of_wt (r := _) hw
  obtain rfl := of_wt_nil hw
  exact ⟨0, ((laws_eqMemory_r 0 a b).trans (laws_eqMemory_c Vm.bad _ a b h_a h_b hok)).trans (by kernel_rfl)⟩

def laws_eqRuleS_s : Sum := { ps := [⟨[.sl [.int .i64, .int .i64, .int .i64, .int .i64, .int .i64, .int .i64, .int .i64, .int .i64, .int .i64]], false⟩, ⟨[.sl [.int .i64, .int .i64, .int .i64, .int .i64, .int .i64, .int .i64, .int .i64, .int .i64, .int .i64]], false⟩], rs := [⟨[.imm .bool], false⟩], fn := fun ds => (same (rR ds 0) (rR ds 1), [.bool (yes2 (rR ds 0) (rR ds 1))]) }
def laws_eqRuleS_G : Ctx := [(166, laws_eqRule_s)]
theorem laws_eqRuleS_x : CtxHolds Tryz.prog laws_eqRuleS_G := ctx_cons laws_eqRule_h ctx_nil
def laws_eqRuleS_A : List (Nat × Ann) := [(4, { slots := [(0, .asis), (1, .asis), (5, .asis)], boxes := [] })]
def laws_eqRuleS_K : Bool → Res := (fun r0 => ((true, [.bool r0]) : Res))
def laws_eqRuleS_m0 (a : Rows) (b : Rows) (i : Int) : St := { n := 27, sl := [(0, .sl [.int .i64, .int .i64, .int .i64, .int .i64, .int .i64, .int .i64, .int .i64, .int .i64, .int .i64] a), (1, .sl [.int .i64, .int .i64, .int .i64, .int .i64, .int .i64, .int .i64, .int .i64, .int .i64, .int .i64] b), (5, .int .i64 i)], hp := [], ok := true, ls := [], lm := [] }
noncomputable def laws_eqRuleS_B0 (N : Nat) : (St → Res) → St → Res := loopB Tryz.prog laws_eqRuleS_G laws_eqRuleS_A N Tryz.f106 laws_eqRuleS_s [true, true, false, true, false] []
theorem laws_eqRuleS_b0 (N : Nat) (a : Rows) (b : Rows) (ih : St → Res) (i : Int) : laws_eqRuleS_B0 N ih (laws_eqRuleS_m0 a b i) = laws_eqRuleS_l0 Vm.bad laws_eqRuleS_K a b (fun i => ih (laws_eqRuleS_m0 a b i)) i := by kernel_rfl
theorem laws_eqRuleS_n0 (N : Nat) (a : Rows) (b : Rows) (m_ : Nat) : (fun i => loopN (laws_eqRuleS_B0 N) m_ (laws_eqRuleS_m0 a b i)) = laws_eqRuleS_L0 Vm.bad laws_eqRuleS_K N a b m_ := by
  induction m_ with
  | zero => rfl
  | succ m_ ih =>
    funext i
    show laws_eqRuleS_B0 N (loopN (laws_eqRuleS_B0 N) m_) (laws_eqRuleS_m0 a b i) = _
    rw [laws_eqRuleS_b0 N a b]
    rw [ih]
    rfl
theorem laws_eqRuleS_r (N : Nat) (a : Rows) (b : Rows) : runF Tryz.prog laws_eqRuleS_G laws_eqRuleS_A N Tryz.f106 laws_eqRuleS_s (.sl a :: (.sl b :: ([]))) = laws_eqRuleS_f Vm.bad laws_eqRuleS_K N a b := by
  have run_ : runF Tryz.prog laws_eqRuleS_G laws_eqRuleS_A N Tryz.f106 laws_eqRuleS_s (.sl a :: (.sl b :: ([]))) = laws_eqRuleS_t Vm.bad laws_eqRuleS_K (fun i => loopN (laws_eqRuleS_B0 N) N (laws_eqRuleS_m0 a b i)) a b := by kernel_rfl
  refine run_.trans ?_
  unfold laws_eqRuleS_f
  have e0 : (fun i => loopN (laws_eqRuleS_B0 N) N (laws_eqRuleS_m0 a b i)) = (laws_eqRuleS_L0 Vm.bad laws_eqRuleS_K N a b N) := by
    exact laws_eqRuleS_n0 N a b N
  exact congrArg (fun l_ => laws_eqRuleS_t Vm.bad laws_eqRuleS_K l_ a b) e0
theorem laws_eqRuleS_h : Holds Tryz.prog 106 laws_eqRuleS_s := by
  refine holds_of_run (A := laws_eqRuleS_A) laws_eqRuleS_x Tryz.func106 rfl (by kernel_rfl) (of_decide_eq_true (by kernel_rfl)) (of_decide_eq_true (by kernel_rfl)) ?_
  intro ds hw hok
  replace hw : WtL ((.sl [.int .i64, .int .i64, .int .i64, .int .i64, .int .i64, .int .i64, .int .i64, .int .i64, .int .i64]) :: ((.sl [.int .i64, .int .i64, .int .i64, .int .i64, .int .i64, .int .i64, .int .i64, .int .i64, .int .i64]) :: ([]))) ds := hw
  obtain ⟨a, ds, rfl, h_a, hw⟩ := of_wt_sl hw
  obtain ⟨b, ds, rfl, h_b, hw⟩ := of_wt_sl hw
  obtain rfl := of_wt_nil hw
  obtain ⟨N, hN⟩ := laws_eqRuleS_c Vm.bad laws_eqRuleS_K a b h_a h_b hok
  exact ⟨N, ((laws_eqRuleS_r N a b).trans hN).trans (by kernel_rfl)⟩

def laws_toSent_s : Sum := { ps := [⟨[.int .i64, .int .i64, .sl [.int .i64]], true⟩], rs := [⟨[.imm (.int .i64), .imm (.int .i64), .own 3 [.int .i64]], true⟩], fn := fun ds => (laws_toSent_ok (SSent.decAt ds 0), SSent.enc (idf (SSent.decAt ds 0))) }
def laws_toSent_G : Ctx := [(40, laws_toIntS_s)]
theorem laws_toSent_x : CtxHolds Tryz.prog laws_toSent_G := ctx_cons laws_toIntS_h ctx_nil
def laws_toSent_A : List (Nat × Ann) := []
theorem laws_toSent_r (N : Nat) (a : SSent) : runF Tryz.prog laws_toSent_G laws_toSent_A N Tryz.f157 laws_toSent_s (a.enc ++ ([])) = laws_toSent_t Vm.bad (fun r0 => ((true, SSent.enc r0) : Res)) a := by kernel_rfl
theorem laws_toSent_h : Holds Tryz.prog 157 laws_toSent_s := by
  refine holds_of_run (A := laws_toSent_A) laws_toSent_x Tryz.func157 rfl (by kernel_rfl) (of_decide_eq_true (by kernel_rfl)) (of_decide_eq_true (by kernel_rfl)) ?_
  intro ds hw hok
  replace hw : WtL (SSent.ct ++ ([])) ds := hw
  obtain ⟨a, ds, rfl, h_a, hw⟩ := SSent.of_wt (r := _) hw
  obtain rfl := of_wt_nil hw
  exact ⟨0, ((laws_toSent_r 0 a).trans (laws_toSent_c Vm.bad _ a h_a hok)).trans (by kernel_rfl)⟩

def laws_toVector_s : Sum := { ps := [⟨[.int .i64, .int .i64, .int .i64, .int .i64, .bool, .bool], true⟩], rs := [⟨[.imm (.int .i64), .imm (.int .i64), .imm (.int .i64), .imm (.int .i64), .imm .bool, .imm .bool], true⟩], fn := fun ds => (true, SVector.enc (idf (SVector.decAt ds 0))) }
def laws_toVector_G : Ctx := []
theorem laws_toVector_x : CtxHolds Tryz.prog laws_toVector_G := ctx_nil
def laws_toVector_A : List (Nat × Ann) := []
theorem laws_toVector_r (N : Nat) (a : SVector) : runF Tryz.prog laws_toVector_G laws_toVector_A N Tryz.f95 laws_toVector_s (a.enc ++ ([])) = laws_toVector_t (fun r0 => ((true, SVector.enc r0) : Res)) a := by kernel_rfl
theorem laws_toVector_h : Holds Tryz.prog 95 laws_toVector_s := by
  refine holds_of_run (A := laws_toVector_A) laws_toVector_x Tryz.func95 rfl (by kernel_rfl) (of_decide_eq_true (by kernel_rfl)) (of_decide_eq_true (by kernel_rfl)) ?_
  intro ds hw hok
  replace hw : WtL (SVector.ct ++ ([])) ds := hw
  obtain ⟨a, ds, rfl, h_a, hw⟩ := SVector.of_wt (r := _) hw
  obtain rfl := of_wt_nil hw
  exact ⟨0, ((laws_toVector_r 0 a).trans (laws_toVector_c _ a h_a)).trans (by kernel_rfl)⟩

def laws_toVectorS_s : Sum := { ps := [⟨[.sl [.int .i64, .int .i64, .int .i64, .int .i64, .bool, .bool]], false⟩], rs := [⟨[.own 133 [.int .i64, .int .i64, .int .i64, .int .i64, .bool, .bool]], false⟩], fn := fun ds => (sm (rR ds 0), [.sl (idf (rR ds 0))]) }
def laws_toVectorS_G : Ctx := [(95, laws_toVector_s)]
theorem laws_toVectorS_x : CtxHolds Tryz.prog laws_toVectorS_G := ctx_cons laws_toVector_h ctx_nil
def laws_toVectorS_A : List (Nat × Ann) := [(3, { slots := [(0, .asis), (3, .asis), (4, .asis)], boxes := [] })]
def laws_toVectorS_K : Rows → Res := (fun r0 => ((true, [.sl r0]) : Res))
def laws_toVectorS_m0 (a : Rows) (i : Int) (out_ : Rows) : St := { n := 23, sl := [(0, .sl [.int .i64, .int .i64, .int .i64, .int .i64, .bool, .bool] a), (3, .own 640192), (4, .int .i64 i)], hp := [(640192, .row 133 [.int .i64, .int .i64, .int .i64, .int .i64, .bool, .bool] out_ false true)], ok := true, ls := [], lm := [] }
noncomputable def laws_toVectorS_B0 (N : Nat) : (St → Res) → St → Res := loopB Tryz.prog laws_toVectorS_G laws_toVectorS_A N Tryz.f34 laws_toVectorS_s [true, true, false, true, false] []
theorem laws_toVectorS_b0 (N : Nat) (a : Rows) (ih : St → Res) (i : Int) (out_ : Rows) : laws_toVectorS_B0 N ih (laws_toVectorS_m0 a i out_) = laws_toVectorS_l0 Vm.bad laws_toVectorS_K a (fun i out_ => ih (laws_toVectorS_m0 a i out_)) i out_ := by kernel_rfl
theorem laws_toVectorS_n0 (N : Nat) (a : Rows) (m_ : Nat) : (fun i out_ => loopN (laws_toVectorS_B0 N) m_ (laws_toVectorS_m0 a i out_)) = laws_toVectorS_L0 Vm.bad laws_toVectorS_K N a m_ := by
  induction m_ with
  | zero => rfl
  | succ m_ ih =>
    funext i out_
    show laws_toVectorS_B0 N (loopN (laws_toVectorS_B0 N) m_) (laws_toVectorS_m0 a i out_) = _
    rw [laws_toVectorS_b0 N a]
    rw [ih]
    rfl
theorem laws_toVectorS_r (N : Nat) (a : Rows) : runF Tryz.prog laws_toVectorS_G laws_toVectorS_A N Tryz.f34 laws_toVectorS_s (.sl a :: ([])) = laws_toVectorS_f Vm.bad laws_toVectorS_K N a := by
  have run_ : runF Tryz.prog laws_toVectorS_G laws_toVectorS_A N Tryz.f34 laws_toVectorS_s (.sl a :: ([])) = laws_toVectorS_t Vm.bad laws_toVectorS_K (fun i out_ => loopN (laws_toVectorS_B0 N) N (laws_toVectorS_m0 a i out_)) a := by kernel_rfl
  refine run_.trans ?_
  unfold laws_toVectorS_f
  have e0 : (fun i out_ => loopN (laws_toVectorS_B0 N) N (laws_toVectorS_m0 a i out_)) = (laws_toVectorS_L0 Vm.bad laws_toVectorS_K N a N) := by
    exact laws_toVectorS_n0 N a N
  exact congrArg (fun l_ => laws_toVectorS_t Vm.bad laws_toVectorS_K l_ a) e0
theorem laws_toVectorS_h : Holds Tryz.prog 34 laws_toVectorS_s := by
  refine holds_of_run (A := laws_toVectorS_A) laws_toVectorS_x Tryz.func34 rfl (by kernel_rfl) (of_decide_eq_true (by kernel_rfl)) (of_decide_eq_true (by kernel_rfl)) ?_
  intro ds hw hok
  replace hw : WtL ((.sl [.int .i64, .int .i64, .int .i64, .int .i64, .bool, .bool]) :: ([])) ds := hw
  obtain ⟨a, ds, rfl, h_a, hw⟩ := of_wt_sl hw
  obtain rfl := of_wt_nil hw
  obtain ⟨N, hN⟩ := laws_toVectorS_c Vm.bad laws_toVectorS_K a h_a hok
  exact ⟨N, ((laws_toVectorS_r N a).trans hN).trans (by kernel_rfl)⟩

def laws_toRing_s : Sum := { ps := [⟨[.int .i64, .int .i64, .int .i64, .int .i64], true⟩], rs := [⟨[.imm (.int .i64), .imm (.int .i64), .imm (.int .i64), .imm (.int .i64)], true⟩], fn := fun ds => (true, SRing.enc (idf (SRing.decAt ds 0))) }
def laws_toRing_G : Ctx := []
theorem laws_toRing_x : CtxHolds Tryz.prog laws_toRing_G := ctx_nil
def laws_toRing_A : List (Nat × Ann) := []
theorem laws_toRing_r (N : Nat) (a : SRing) : runF Tryz.prog laws_toRing_G laws_toRing_A N Tryz.f91 laws_toRing_s (a.enc ++ ([])) = laws_toRing_t (fun r0 => ((true, SRing.enc r0) : Res)) a := by kernel_rfl
theorem laws_toRing_h : Holds Tryz.prog 91 laws_toRing_s := by
  refine holds_of_run (A := laws_toRing_A) laws_toRing_x Tryz.func91 rfl (by kernel_rfl) (of_decide_eq_true (by kernel_rfl)) (of_decide_eq_true (by kernel_rfl)) ?_
  intro ds hw hok
  replace hw : WtL (SRing.ct ++ ([])) ds := hw
  obtain ⟨a, ds, rfl, h_a, hw⟩ := SRing.of_wt (r := _) hw
  obtain rfl := of_wt_nil hw
  exact ⟨0, ((laws_toRing_r 0 a).trans (laws_toRing_c _ a h_a)).trans (by kernel_rfl)⟩

def laws_toCompletionQueue_s : Sum := { ps := [⟨[.int .i64, .int .i64, .int .i64], true⟩], rs := [⟨[.imm (.int .i64), .imm (.int .i64), .imm (.int .i64)], true⟩], fn := fun ds => (true, SCompletionQueue.enc (idf (SCompletionQueue.decAt ds 0))) }
def laws_toCompletionQueue_G : Ctx := []
theorem laws_toCompletionQueue_x : CtxHolds Tryz.prog laws_toCompletionQueue_G := ctx_nil
def laws_toCompletionQueue_A : List (Nat × Ann) := []
theorem laws_toCompletionQueue_r (N : Nat) (a : SCompletionQueue) : runF Tryz.prog laws_toCompletionQueue_G laws_toCompletionQueue_A N Tryz.f158 laws_toCompletionQueue_s (a.enc ++ ([])) = laws_toCompletionQueue_t (fun r0 => ((true, SCompletionQueue.enc r0) : Res)) a := by kernel_rfl
theorem laws_toCompletionQueue_h : Holds Tryz.prog 158 laws_toCompletionQueue_s := by
  refine holds_of_run (A := laws_toCompletionQueue_A) laws_toCompletionQueue_x Tryz.func158 rfl (by kernel_rfl) (of_decide_eq_true (by kernel_rfl)) (of_decide_eq_true (by kernel_rfl)) ?_
  intro ds hw hok
  replace hw : WtL (SCompletionQueue.ct ++ ([])) ds := hw
  obtain ⟨a, ds, rfl, h_a, hw⟩ := SCompletionQueue.of_wt (r := _) hw
  obtain rfl := of_wt_nil hw
  exact ⟨0, ((laws_toCompletionQueue_r 0 a).trans (laws_toCompletionQueue_c _ a h_a)).trans (by kernel_rfl)⟩

def laws_toSegment_s : Sum := { ps := [⟨[.int .i64, .int .i64, .int .i64, .int .i64, .int .i64, .int .i64, .int .i64, .str], true⟩], rs := [⟨[.imm (.int .i64), .imm (.int .i64), .imm (.int .i64), .imm (.int .i64), .imm (.int .i64), .imm (.int .i64), .imm (.int .i64), .imm .str], true⟩], fn := fun ds => (true, SSegment.enc (idf (SSegment.decAt ds 0))) }
def laws_toSegment_G : Ctx := []
theorem laws_toSegment_x : CtxHolds Tryz.prog laws_toSegment_G := ctx_nil
def laws_toSegment_A : List (Nat × Ann) := []
theorem laws_toSegment_r (N : Nat) (a : SSegment) : runF Tryz.prog laws_toSegment_G laws_toSegment_A N Tryz.f212 laws_toSegment_s (a.enc ++ ([])) = laws_toSegment_t (fun r0 => ((true, SSegment.enc r0) : Res)) a := by kernel_rfl
theorem laws_toSegment_h : Holds Tryz.prog 212 laws_toSegment_s := by
  refine holds_of_run (A := laws_toSegment_A) laws_toSegment_x Tryz.func212 rfl (by kernel_rfl) (of_decide_eq_true (by kernel_rfl)) (of_decide_eq_true (by kernel_rfl)) ?_
  intro ds hw hok
  replace hw : WtL (SSegment.ct ++ ([])) ds := hw
  obtain ⟨a, ds, rfl, h_a, hw⟩ := SSegment.of_wt (r := _) hw
  obtain rfl := of_wt_nil hw
  exact ⟨0, ((laws_toSegment_r 0 a).trans (laws_toSegment_c _ a h_a)).trans (by kernel_rfl)⟩

def laws_toPacket_s : Sum := { ps := [⟨[.int .i64, .int .i64, .int .i64, .int .i64, .int .i64, .int .i64, .int .i64, .int .i64, .int .i64, .int .i64, .int .i64, .int .i64, .int .i64, .int .i64, .int .i64, .str], true⟩], rs := [⟨[.imm (.int .i64), .imm (.int .i64), .imm (.int .i64), .imm (.int .i64), .imm (.int .i64), .imm (.int .i64), .imm (.int .i64), .imm (.int .i64), .imm (.int .i64), .imm (.int .i64), .imm (.int .i64), .imm (.int .i64), .imm (.int .i64), .imm (.int .i64), .imm (.int .i64), .imm .str], true⟩], fn := fun ds => (true, SPacket.enc (idf (SPacket.decAt ds 0))) }
def laws_toPacket_G : Ctx := [(212, laws_toSegment_s)]
theorem laws_toPacket_x : CtxHolds Tryz.prog laws_toPacket_G := ctx_cons laws_toSegment_h ctx_nil
def laws_toPacket_A : List (Nat × Ann) := []
theorem laws_toPacket_r (N : Nat) (a : SPacket) : runF Tryz.prog laws_toPacket_G laws_toPacket_A N Tryz.f193 laws_toPacket_s (a.enc ++ ([])) = laws_toPacket_t (fun r0 => ((true, SPacket.enc r0) : Res)) a := by kernel_rfl
theorem laws_toPacket_h : Holds Tryz.prog 193 laws_toPacket_s := by
  refine holds_of_run (A := laws_toPacket_A) laws_toPacket_x Tryz.func193 rfl (by kernel_rfl) (of_decide_eq_true (by kernel_rfl)) (of_decide_eq_true (by kernel_rfl)) ?_
  intro ds hw hok
  replace hw : WtL (SPacket.ct ++ ([])) ds := hw
  obtain ⟨a, ds, rfl, h_a, hw⟩ := SPacket.of_wt (r := _) hw
  obtain rfl := of_wt_nil hw
  exact ⟨0, ((laws_toPacket_r 0 a).trans (laws_toPacket_c _ a h_a)).trans (by kernel_rfl)⟩

def laws_toSuper_s : Sum := { ps := [⟨[.int .i64, .int .i64, .int .i64, .int .i64, .int .i64, .int .i64, .int .i64, .int .i64, .int .i64, .int .i64, .int .i64, .int .i64, .int .i64, .int .i64, .int .i64, .str, .int .i64, .int .i64], true⟩], rs := [⟨[.imm (.int .i64), .imm (.int .i64), .imm (.int .i64), .imm (.int .i64), .imm (.int .i64), .imm (.int .i64), .imm (.int .i64), .imm (.int .i64), .imm (.int .i64), .imm (.int .i64), .imm (.int .i64), .imm (.int .i64), .imm (.int .i64), .imm (.int .i64), .imm (.int .i64), .imm .str, .imm (.int .i64), .imm (.int .i64)], true⟩], fn := fun ds => (true, SSuper.enc (idf (SSuper.decAt ds 0))) }
def laws_toSuper_G : Ctx := [(193, laws_toPacket_s)]
theorem laws_toSuper_x : CtxHolds Tryz.prog laws_toSuper_G := ctx_cons laws_toPacket_h ctx_nil
def laws_toSuper_A : List (Nat × Ann) := []
theorem laws_toSuper_r (N : Nat) (a : SSuper) : runF Tryz.prog laws_toSuper_G laws_toSuper_A N Tryz.f159 laws_toSuper_s (a.enc ++ ([])) = laws_toSuper_t (fun r0 => ((true, SSuper.enc r0) : Res)) a := by kernel_rfl
theorem laws_toSuper_h : Holds Tryz.prog 159 laws_toSuper_s := by
  refine holds_of_run (A := laws_toSuper_A) laws_toSuper_x Tryz.func159 rfl (by kernel_rfl) (of_decide_eq_true (by kernel_rfl)) (of_decide_eq_true (by kernel_rfl)) ?_
  intro ds hw hok
  replace hw : WtL (SSuper.ct ++ ([])) ds := hw
  obtain ⟨a, ds, rfl, h_a, hw⟩ := SSuper.of_wt (r := _) hw
  obtain rfl := of_wt_nil hw
  exact ⟨0, ((laws_toSuper_r 0 a).trans (laws_toSuper_c _ a h_a)).trans (by kernel_rfl)⟩

def laws_toRxQueue_s : Sum := { ps := [⟨[.int .i64, .int .i64, .int .i64, .int .i64, .int .i64, .int .i64, .int .i64, .int .i64, .int .i64, .int .i64, .int .i64, .int .i64, .int .i64, .int .i64, .int .i64, .int .i64, .int .i64, .int .i64, .int .i64, .int .i64, .int .i64, .int .i64, .int .i64, .int .i64, .int .i64, .str, .int .i64, .int .i64, .bool, .int .i64], true⟩], rs := [⟨[.imm (.int .i64), .imm (.int .i64), .imm (.int .i64), .imm (.int .i64), .imm (.int .i64), .imm (.int .i64), .imm (.int .i64), .imm (.int .i64), .imm (.int .i64), .imm (.int .i64), .imm (.int .i64), .imm (.int .i64), .imm (.int .i64), .imm (.int .i64), .imm (.int .i64), .imm (.int .i64), .imm (.int .i64), .imm (.int .i64), .imm (.int .i64), .imm (.int .i64), .imm (.int .i64), .imm (.int .i64), .imm (.int .i64), .imm (.int .i64), .imm (.int .i64), .imm .str, .imm (.int .i64), .imm (.int .i64), .imm .bool, .imm (.int .i64)], true⟩], fn := fun ds => (true, SRxQueue.enc (idf (SRxQueue.decAt ds 0))) }
def laws_toRxQueue_G : Ctx := [(91, laws_toRing_s), (158, laws_toCompletionQueue_s), (159, laws_toSuper_s)]
theorem laws_toRxQueue_x : CtxHolds Tryz.prog laws_toRxQueue_G := ctx_cons laws_toRing_h (ctx_cons laws_toCompletionQueue_h (ctx_cons laws_toSuper_h ctx_nil))
def laws_toRxQueue_A : List (Nat × Ann) := []
theorem laws_toRxQueue_r (N : Nat) (a : SRxQueue) : runF Tryz.prog laws_toRxQueue_G laws_toRxQueue_A N Tryz.f94 laws_toRxQueue_s (a.enc ++ ([])) = laws_toRxQueue_t (fun r0 => ((true, SRxQueue.enc r0) : Res)) a := by kernel_rfl
theorem laws_toRxQueue_h : Holds Tryz.prog 94 laws_toRxQueue_s := by
  refine holds_of_run (A := laws_toRxQueue_A) laws_toRxQueue_x Tryz.func94 rfl (by kernel_rfl) (of_decide_eq_true (by kernel_rfl)) (of_decide_eq_true (by kernel_rfl)) ?_
  intro ds hw hok
  replace hw : WtL (SRxQueue.ct ++ ([])) ds := hw
  obtain ⟨a, ds, rfl, h_a, hw⟩ := SRxQueue.of_wt (r := _) hw
  obtain rfl := of_wt_nil hw
  exact ⟨0, ((laws_toRxQueue_r 0 a).trans (laws_toRxQueue_c _ a h_a)).trans (by kernel_rfl)⟩

def laws_toRxQueueS_s : Sum := { ps := [⟨[.sl [.int .i64, .int .i64, .int .i64, .int .i64, .int .i64, .int .i64, .int .i64, .int .i64, .int .i64, .int .i64, .int .i64, .int .i64, .int .i64, .int .i64, .int .i64, .int .i64, .int .i64, .int .i64, .int .i64, .int .i64, .int .i64, .int .i64, .int .i64, .int .i64, .int .i64, .str, .int .i64, .int .i64, .bool, .int .i64]], false⟩], rs := [⟨[.own 170 [.int .i64, .int .i64, .int .i64, .int .i64, .int .i64, .int .i64, .int .i64, .int .i64, .int .i64, .int .i64, .int .i64, .int .i64, .int .i64, .int .i64, .int .i64, .int .i64, .int .i64, .int .i64, .int .i64, .int .i64, .int .i64, .int .i64, .int .i64, .int .i64, .int .i64, .str, .int .i64, .int .i64, .bool, .int .i64]], false⟩], fn := fun ds => (sm (rR ds 0), [.sl (idf (rR ds 0))]) }
def laws_toRxQueueS_G : Ctx := [(94, laws_toRxQueue_s)]
theorem laws_toRxQueueS_x : CtxHolds Tryz.prog laws_toRxQueueS_G := ctx_cons laws_toRxQueue_h ctx_nil
def laws_toRxQueueS_A : List (Nat × Ann) := [(3, { slots := [(0, .asis), (3, .asis), (4, .asis)], boxes := [] })]
def laws_toRxQueueS_K : Rows → Res := (fun r0 => ((true, [.sl r0]) : Res))
def laws_toRxQueueS_m0 (a : Rows) (i : Int) (out_ : Rows) : St := { n := 23, sl := [(0, .sl [.int .i64, .int .i64, .int .i64, .int .i64, .int .i64, .int .i64, .int .i64, .int .i64, .int .i64, .int .i64, .int .i64, .int .i64, .int .i64, .int .i64, .int .i64, .int .i64, .int .i64, .int .i64, .int .i64, .int .i64, .int .i64, .int .i64, .int .i64, .int .i64, .int .i64, .str, .int .i64, .int .i64, .bool, .int .i64] a), (3, .own 640192), (4, .int .i64 i)], hp := [(640192, .row 170 [.int .i64, .int .i64, .int .i64, .int .i64, .int .i64, .int .i64, .int .i64, .int .i64, .int .i64, .int .i64, .int .i64, .int .i64, .int .i64, .int .i64, .int .i64, .int .i64, .int .i64, .int .i64, .int .i64, .int .i64, .int .i64, .int .i64, .int .i64, .int .i64, .int .i64, .str, .int .i64, .int .i64, .bool, .int .i64] out_ false true)], ok := true, ls := [], lm := [] }
noncomputable def laws_toRxQueueS_B0 (N : Nat) : (St → Res) → St → Res := loopB Tryz.prog laws_toRxQueueS_G laws_toRxQueueS_A N Tryz.f32 laws_toRxQueueS_s [true, true, false, true, false] []
theorem laws_toRxQueueS_b0 (N : Nat) (a : Rows) (ih : St → Res) (i : Int) (out_ : Rows) : laws_toRxQueueS_B0 N ih (laws_toRxQueueS_m0 a i out_) = laws_toRxQueueS_l0 Vm.bad laws_toRxQueueS_K a (fun i out_ => ih (laws_toRxQueueS_m0 a i out_)) i out_ := by kernel_rfl
theorem laws_toRxQueueS_n0 (N : Nat) (a : Rows) (m_ : Nat) : (fun i out_ => loopN (laws_toRxQueueS_B0 N) m_ (laws_toRxQueueS_m0 a i out_)) = laws_toRxQueueS_L0 Vm.bad laws_toRxQueueS_K N a m_ := by
  induction m_ with
  | zero => rfl
  | succ m_ ih =>
    funext i out_
    show laws_toRxQueueS_B0 N (loopN (laws_toRxQueueS_B0 N) m_) (laws_toRxQueueS_m0 a i out_) = _
    rw [laws_toRxQueueS_b0 N a]
    rw [ih]
    rfl
theorem laws_toRxQueueS_r (N : Nat) (a : Rows) : runF Tryz.prog laws_toRxQueueS_G laws_toRxQueueS_A N Tryz.f32 laws_toRxQueueS_s (.sl a :: ([])) = laws_toRxQueueS_f Vm.bad laws_toRxQueueS_K N a := by
  have run_ : runF Tryz.prog laws_toRxQueueS_G laws_toRxQueueS_A N Tryz.f32 laws_toRxQueueS_s (.sl a :: ([])) = laws_toRxQueueS_t Vm.bad laws_toRxQueueS_K (fun i out_ => loopN (laws_toRxQueueS_B0 N) N (laws_toRxQueueS_m0 a i out_)) a := by kernel_rfl
  refine run_.trans ?_
  unfold laws_toRxQueueS_f
  have e0 : (fun i out_ => loopN (laws_toRxQueueS_B0 N) N (laws_toRxQueueS_m0 a i out_)) = (laws_toRxQueueS_L0 Vm.bad laws_toRxQueueS_K N a N) := by
    exact laws_toRxQueueS_n0 N a N
  exact congrArg (fun l_ => laws_toRxQueueS_t Vm.bad laws_toRxQueueS_K l_ a) e0
theorem laws_toRxQueueS_h : Holds Tryz.prog 32 laws_toRxQueueS_s := by
  refine holds_of_run (A := laws_toRxQueueS_A) laws_toRxQueueS_x Tryz.func32 rfl (by kernel_rfl) (of_decide_eq_true (by kernel_rfl)) (of_decide_eq_true (by kernel_rfl)) ?_
  intro ds hw hok
  replace hw : WtL ((.sl [.int .i64, .int .i64, .int .i64, .int .i64, .int .i64, .int .i64, .int .i64, .int .i64, .int .i64, .int .i64, .int .i64, .int .i64, .int .i64, .int .i64, .int .i64, .int .i64, .int .i64, .int .i64, .int .i64, .int .i64, .int .i64, .int .i64, .int .i64, .int .i64, .int .i64, .str, .int .i64, .int .i64, .bool, .int .i64]) :: ([])) ds := hw
  obtain ⟨a, ds, rfl, h_a, hw⟩ := of_wt_sl hw
  obtain rfl := of_wt_nil hw
  obtain ⟨N, hN⟩ := laws_toRxQueueS_c Vm.bad laws_toRxQueueS_K a h_a hok
  exact ⟨N, ((laws_toRxQueueS_r N a).trans hN).trans (by kernel_rfl)⟩

def laws_toStringS_s : Sum := { ps := [⟨[.sl [.str]], false⟩], rs := [⟨[.own 9 [.str]], false⟩], fn := fun ds => (sm (rR ds 0), [.sl (idf (rR ds 0))]) }
def laws_toStringS_G : Ctx := []
theorem laws_toStringS_x : CtxHolds Tryz.prog laws_toStringS_G := ctx_nil
def laws_toStringS_A : List (Nat × Ann) := [(3, { slots := [(0, .asis), (3, .asis), (4, .asis)], boxes := [] })]
def laws_toStringS_K : Rows → Res := (fun r0 => ((true, [.sl r0]) : Res))
def laws_toStringS_m0 (a : Rows) (i : Int) (out_ : Rows) : St := { n := 22, sl := [(0, .sl [.str] a), (3, .own 640192), (4, .int .i64 i)], hp := [(640192, .row 9 [.str] out_ false true)], ok := true, ls := [], lm := [] }
noncomputable def laws_toStringS_B0 (N : Nat) : (St → Res) → St → Res := loopB Tryz.prog laws_toStringS_G laws_toStringS_A N Tryz.f39 laws_toStringS_s [true, true, false, true, false] []
theorem laws_toStringS_b0 (N : Nat) (a : Rows) (ih : St → Res) (i : Int) (out_ : Rows) : laws_toStringS_B0 N ih (laws_toStringS_m0 a i out_) = laws_toStringS_l0 Vm.bad laws_toStringS_K a (fun i out_ => ih (laws_toStringS_m0 a i out_)) i out_ := by kernel_rfl
theorem laws_toStringS_n0 (N : Nat) (a : Rows) (m_ : Nat) : (fun i out_ => loopN (laws_toStringS_B0 N) m_ (laws_toStringS_m0 a i out_)) = laws_toStringS_L0 Vm.bad laws_toStringS_K N a m_ := by
  induction m_ with
  | zero => rfl
  | succ m_ ih =>
    funext i out_
    show laws_toStringS_B0 N (loopN (laws_toStringS_B0 N) m_) (laws_toStringS_m0 a i out_) = _
    rw [laws_toStringS_b0 N a]
    rw [ih]
    rfl
theorem laws_toStringS_r (N : Nat) (a : Rows) : runF Tryz.prog laws_toStringS_G laws_toStringS_A N Tryz.f39 laws_toStringS_s (.sl a :: ([])) = laws_toStringS_f Vm.bad laws_toStringS_K N a := by
  have run_ : runF Tryz.prog laws_toStringS_G laws_toStringS_A N Tryz.f39 laws_toStringS_s (.sl a :: ([])) = laws_toStringS_t Vm.bad laws_toStringS_K (fun i out_ => loopN (laws_toStringS_B0 N) N (laws_toStringS_m0 a i out_)) a := by kernel_rfl
  refine run_.trans ?_
  unfold laws_toStringS_f
  have e0 : (fun i out_ => loopN (laws_toStringS_B0 N) N (laws_toStringS_m0 a i out_)) = (laws_toStringS_L0 Vm.bad laws_toStringS_K N a N) := by
    exact laws_toStringS_n0 N a N
  exact congrArg (fun l_ => laws_toStringS_t Vm.bad laws_toStringS_K l_ a) e0
theorem laws_toStringS_h : Holds Tryz.prog 39 laws_toStringS_s := by
  refine holds_of_run (A := laws_toStringS_A) laws_toStringS_x Tryz.func39 rfl (by kernel_rfl) (of_decide_eq_true (by kernel_rfl)) (of_decide_eq_true (by kernel_rfl)) ?_
  intro ds hw hok
  replace hw : WtL ((.sl [.str]) :: ([])) ds := hw
  obtain ⟨a, ds, rfl, h_a, hw⟩ := of_wt_sl hw
  obtain rfl := of_wt_nil hw
  obtain ⟨N, hN⟩ := laws_toStringS_c Vm.bad laws_toStringS_K a h_a hok
  exact ⟨N, ((laws_toStringS_r N a).trans hN).trans (by kernel_rfl)⟩

def laws_toMemory_s : Sum := { ps := [⟨[.sl [.str]], true⟩], rs := [⟨[.own 9 [.str]], true⟩], fn := fun ds => (laws_toMemory_ok (SMemory.decAt ds 0), SMemory.enc (idf (SMemory.decAt ds 0))) }
def laws_toMemory_G : Ctx := [(39, laws_toStringS_s)]
theorem laws_toMemory_x : CtxHolds Tryz.prog laws_toMemory_G := ctx_cons laws_toStringS_h ctx_nil
def laws_toMemory_A : List (Nat × Ann) := []
theorem laws_toMemory_r (N : Nat) (a : SMemory) : runF Tryz.prog laws_toMemory_G laws_toMemory_A N Tryz.f29 laws_toMemory_s (a.enc ++ ([])) = laws_toMemory_t Vm.bad (fun r0 => ((true, SMemory.enc r0) : Res)) a := by kernel_rfl
theorem laws_toMemory_h : Holds Tryz.prog 29 laws_toMemory_s := by
  refine holds_of_run (A := laws_toMemory_A) laws_toMemory_x Tryz.func29 rfl (by kernel_rfl) (of_decide_eq_true (by kernel_rfl)) (of_decide_eq_true (by kernel_rfl)) ?_
  intro ds hw hok
  replace hw : WtL (SMemory.ct ++ ([])) ds := hw
  obtain ⟨a, ds, rfl, h_a, hw⟩ := SMemory.of_wt (r := _) hw
  obtain rfl := of_wt_nil hw
  exact ⟨0, ((laws_toMemory_r 0 a).trans (laws_toMemory_c Vm.bad _ a h_a hok)).trans (by kernel_rfl)⟩

def laws_eqSegment_s : Sum := { ps := [⟨[.int .i64, .int .i64, .int .i64, .int .i64, .int .i64, .int .i64, .int .i64, .str], true⟩, ⟨[.int .i64, .int .i64, .int .i64, .int .i64, .int .i64, .int .i64, .int .i64, .str], true⟩], rs := [⟨[.imm .bool], false⟩], fn := fun ds => (same (SSegment.decAt ds 0) (SSegment.decAt ds 8), [.bool (yes2 (SSegment.decAt ds 0) (SSegment.decAt ds 8))]) }
def laws_eqSegment_G : Ctx := []
theorem laws_eqSegment_x : CtxHolds Tryz.prog laws_eqSegment_G := ctx_nil
def laws_eqSegment_A : List (Nat × Ann) := []
theorem laws_eqSegment_r (N : Nat) (a : SSegment) (b : SSegment) : runF Tryz.prog laws_eqSegment_G laws_eqSegment_A N Tryz.f213 laws_eqSegment_s (a.enc ++ (b.enc ++ ([]))) = laws_eqSegment_t (fun r0 => ((true, [.bool r0]) : Res)) a b := by kernel_rfl
theorem laws_eqSegment_h : Holds Tryz.prog 213 laws_eqSegment_s := by
  refine holds_of_run (A := laws_eqSegment_A) laws_eqSegment_x Tryz.func213 rfl (by kernel_rfl) (of_decide_eq_true (by kernel_rfl)) (of_decide_eq_true (by kernel_rfl)) ?_
  intro ds hw hok
  replace hw : WtL (SSegment.ct ++ (SSegment.ct ++ ([]))) ds := hw
  obtain ⟨a, ds, rfl, h_a, hw⟩ := SSegment.of_wt (r := _) hw
  obtain ⟨b, ds, rfl, h_b, hw⟩ := SSegment.of_wt (r := _) hw
  obtain rfl := of_wt_nil hw
  exact ⟨0, ((laws_eqSegment_r 0 a b).trans (laws_eqSegment_c _ a b h_a h_b hok)).trans (by kernel_rfl)⟩

def laws_eqPacket_s : Sum := { ps := [⟨[.int .i64, .int .i64, .int .i64, .int .i64, .int .i64, .int .i64, .int .i64, .int .i64, .int .i64, .int .i64, .int .i64, .int .i64, .int .i64, .int .i64, .int .i64, .str], true⟩, ⟨[.int .i64, .int .i64, .int .i64, .int .i64, .int .i64, .int .i64, .int .i64, .int .i64, .int .i64, .int .i64, .int .i64, .int .i64, .int .i64, .int .i64, .int .i64, .str], true⟩], rs := [⟨[.imm .bool], false⟩], fn := fun ds => (same (SPacket.decAt ds 0) (SPacket.decAt ds 16), [.bool (yes2 (SPacket.decAt ds 0) (SPacket.decAt ds 16))]) }
def laws_eqPacket_G : Ctx := [(213, laws_eqSegment_s)]
theorem laws_eqPacket_x : CtxHolds Tryz.prog laws_eqPacket_G := ctx_cons laws_eqSegment_h ctx_nil
def laws_eqPacket_A : List (Nat × Ann) := []
theorem laws_eqPacket_r (N : Nat) (a : SPacket) (b : SPacket) : runF Tryz.prog laws_eqPacket_G laws_eqPacket_A N Tryz.f195 laws_eqPacket_s (a.enc ++ (b.enc ++ ([]))) = laws_eqPacket_t Vm.bad (fun r0 => ((true, [.bool r0]) : Res)) a b := by kernel_rfl
theorem laws_eqPacket_h : Holds Tryz.prog 195 laws_eqPacket_s := by
  refine holds_of_run (A := laws_eqPacket_A) laws_eqPacket_x Tryz.func195 rfl (by kernel_rfl) (of_decide_eq_true (by kernel_rfl)) (of_decide_eq_true (by kernel_rfl)) ?_
  intro ds hw hok
  replace hw : WtL (SPacket.ct ++ (SPacket.ct ++ ([]))) ds := hw
  obtain ⟨a, ds, rfl, h_a, hw⟩ := SPacket.of_wt (r := _) hw
  obtain ⟨b, ds, rfl, h_b, hw⟩ := SPacket.of_wt (r := _) hw
  obtain rfl := of_wt_nil hw
  exact ⟨0, ((laws_eqPacket_r 0 a b).trans (laws_eqPacket_c Vm.bad _ a b h_a h_b hok)).trans (by kernel_rfl)⟩

def laws_eqSuper_s : Sum := { ps := [⟨[.int .i64, .int .i64, .int .i64, .int .i64, .int .i64, .int .i64, .int .i64, .int .i64, .int .i64, .int .i64, .int .i64, .int .i64, .int .i64, .int .i64, .int .i64, .str, .int .i64, .int .i64], true⟩, ⟨[.int .i64, .int .i64, .int .i64, .int .i64, .int .i64, .int .i64, .int .i64, .int .i64, .int .i64, .int .i64, .int .i64, .int .i64, .int .i64, .int .i64, .int .i64, .str, .int .i64, .int .i64], true⟩], rs := [⟨[.imm .bool], false⟩], fn := fun ds => (same (SSuper.decAt ds 0) (SSuper.decAt ds 18), [.bool (yes2 (SSuper.decAt ds 0) (SSuper.decAt ds 18))]) }
def laws_eqSuper_G : Ctx := [(195, laws_eqPacket_s)]
theorem laws_eqSuper_x : CtxHolds Tryz.prog laws_eqSuper_G := ctx_cons laws_eqPacket_h ctx_nil
def laws_eqSuper_A : List (Nat × Ann) := []
theorem laws_eqSuper_r (N : Nat) (a : SSuper) (b : SSuper) : runF Tryz.prog laws_eqSuper_G laws_eqSuper_A N Tryz.f165 laws_eqSuper_s (a.enc ++ (b.enc ++ ([]))) = laws_eqSuper_t Vm.bad (fun r0 => ((true, [.bool r0]) : Res)) a b := by kernel_rfl
theorem laws_eqSuper_h : Holds Tryz.prog 165 laws_eqSuper_s := by
  refine holds_of_run (A := laws_eqSuper_A) laws_eqSuper_x Tryz.func165 rfl (by kernel_rfl) (of_decide_eq_true (by kernel_rfl)) (of_decide_eq_true (by kernel_rfl)) ?_
  intro ds hw hok
  replace hw : WtL (SSuper.ct ++ (SSuper.ct ++ ([]))) ds := hw
  obtain ⟨a, ds, rfl, h_a, hw⟩ := SSuper.of_wt (r := _) hw
  obtain ⟨b, ds, rfl, h_b, hw⟩ := SSuper.of_wt (r := _) hw
  obtain rfl := of_wt_nil hw
  exact ⟨0, ((laws_eqSuper_r 0 a b).trans (laws_eqSuper_c Vm.bad _ a b h_a h_b hok)).trans (by kernel_rfl)⟩

def laws_eqSlotS_s : Sum := { ps := [⟨[.sl [.int .i64, .int .i64, .int .i64, .int .i64, .int .i64, .int .i64, .int .i64]], false⟩, ⟨[.sl [.int .i64, .int .i64, .int .i64, .int .i64, .int .i64, .int .i64, .int .i64]], false⟩], rs := [⟨[.imm .bool], false⟩], fn := fun ds => (same (rR ds 0) (rR ds 1), [.bool (yes2 (rR ds 0) (rR ds 1))]) }
def laws_eqSlotS_G : Ctx := [(196, laws_eqSlot_s)]
theorem laws_eqSlotS_x : CtxHolds Tryz.prog laws_eqSlotS_G := ctx_cons laws_eqSlot_h ctx_nil
def laws_eqSlotS_A : List (Nat × Ann) := [(4, { slots := [(0, .asis), (1, .asis), (5, .asis)], boxes := [] })]
def laws_eqSlotS_K : Bool → Res := (fun r0 => ((true, [.bool r0]) : Res))
def laws_eqSlotS_m0 (a : Rows) (b : Rows) (i : Int) : St := { n := 27, sl := [(0, .sl [.int .i64, .int .i64, .int .i64, .int .i64, .int .i64, .int .i64, .int .i64] a), (1, .sl [.int .i64, .int .i64, .int .i64, .int .i64, .int .i64, .int .i64, .int .i64] b), (5, .int .i64 i)], hp := [], ok := true, ls := [], lm := [] }
noncomputable def laws_eqSlotS_B0 (N : Nat) : (St → Res) → St → Res := loopB Tryz.prog laws_eqSlotS_G laws_eqSlotS_A N Tryz.f167 laws_eqSlotS_s [true, true, false, true, false] []
theorem laws_eqSlotS_b0 (N : Nat) (a : Rows) (b : Rows) (ih : St → Res) (i : Int) : laws_eqSlotS_B0 N ih (laws_eqSlotS_m0 a b i) = laws_eqSlotS_l0 Vm.bad laws_eqSlotS_K a b (fun i => ih (laws_eqSlotS_m0 a b i)) i := by kernel_rfl
theorem laws_eqSlotS_n0 (N : Nat) (a : Rows) (b : Rows) (m_ : Nat) : (fun i => loopN (laws_eqSlotS_B0 N) m_ (laws_eqSlotS_m0 a b i)) = laws_eqSlotS_L0 Vm.bad laws_eqSlotS_K N a b m_ := by
  induction m_ with
  | zero => rfl
  | succ m_ ih =>
    funext i
    show laws_eqSlotS_B0 N (loopN (laws_eqSlotS_B0 N) m_) (laws_eqSlotS_m0 a b i) = _
    rw [laws_eqSlotS_b0 N a b]
    rw [ih]
    rfl
theorem laws_eqSlotS_r (N : Nat) (a : Rows) (b : Rows) : runF Tryz.prog laws_eqSlotS_G laws_eqSlotS_A N Tryz.f167 laws_eqSlotS_s (.sl a :: (.sl b :: ([]))) = laws_eqSlotS_f Vm.bad laws_eqSlotS_K N a b := by
  have run_ : runF Tryz.prog laws_eqSlotS_G laws_eqSlotS_A N Tryz.f167 laws_eqSlotS_s (.sl a :: (.sl b :: ([]))) = laws_eqSlotS_t Vm.bad laws_eqSlotS_K (fun i => loopN (laws_eqSlotS_B0 N) N (laws_eqSlotS_m0 a b i)) a b := by kernel_rfl
  refine run_.trans ?_
  unfold laws_eqSlotS_f
  have e0 : (fun i => loopN (laws_eqSlotS_B0 N) N (laws_eqSlotS_m0 a b i)) = (laws_eqSlotS_L0 Vm.bad laws_eqSlotS_K N a b N) := by
    exact laws_eqSlotS_n0 N a b N
  exact congrArg (fun l_ => laws_eqSlotS_t Vm.bad laws_eqSlotS_K l_ a b) e0
theorem laws_eqSlotS_h : Holds Tryz.prog 167 laws_eqSlotS_s := by
  refine holds_of_run (A := laws_eqSlotS_A) laws_eqSlotS_x Tryz.func167 rfl (by kernel_rfl) (of_decide_eq_true (by kernel_rfl)) (of_decide_eq_true (by kernel_rfl)) ?_
  intro ds hw hok
  replace hw : WtL ((.sl [.int .i64, .int .i64, .int .i64, .int .i64, .int .i64, .int .i64, .int .i64]) :: ((.sl [.int .i64, .int .i64, .int .i64, .int .i64, .int .i64, .int .i64, .int .i64]) :: ([]))) ds := hw
  obtain ⟨a, ds, rfl, h_a, hw⟩ := of_wt_sl hw
  obtain ⟨b, ds, rfl, h_b, hw⟩ := of_wt_sl hw
  obtain rfl := of_wt_nil hw
  obtain ⟨N, hN⟩ := laws_eqSlotS_c Vm.bad laws_eqSlotS_K a b h_a h_b hok
  exact ⟨N, ((laws_eqSlotS_r N a b).trans hN).trans (by kernel_rfl)⟩

def laws_eqFlowTable_s : Sum := { ps := [⟨[.sl [.int .i64, .int .i64, .int .i64, .int .i64, .int .i64, .int .i64, .int .i64]], true⟩, ⟨[.sl [.int .i64, .int .i64, .int .i64, .int .i64, .int .i64, .int .i64, .int .i64]], true⟩], rs := [⟨[.imm .bool], false⟩], fn := fun ds => (same (SFlowTable.decAt ds 0) (SFlowTable.decAt ds 1), [.bool (yes2 (SFlowTable.decAt ds 0) (SFlowTable.decAt ds 1))]) }
def laws_eqFlowTable_G : Ctx := [(167, laws_eqSlotS_s)]
theorem laws_eqFlowTable_x : CtxHolds Tryz.prog laws_eqFlowTable_G := ctx_cons laws_eqSlotS_h ctx_nil
def laws_eqFlowTable_A : List (Nat × Ann) := []
theorem laws_eqFlowTable_r (N : Nat) (a : SFlowTable) (b : SFlowTable) : runF Tryz.prog laws_eqFlowTable_G laws_eqFlowTable_A N Tryz.f107 laws_eqFlowTable_s (a.enc ++ (b.enc ++ ([]))) = laws_eqFlowTable_t Vm.bad (fun r0 => ((true, [.bool r0]) : Res)) a b := by kernel_rfl
theorem laws_eqFlowTable_h : Holds Tryz.prog 107 laws_eqFlowTable_s := by
  refine holds_of_run (A := laws_eqFlowTable_A) laws_eqFlowTable_x Tryz.func107 rfl (by kernel_rfl) (of_decide_eq_true (by kernel_rfl)) (of_decide_eq_true (by kernel_rfl)) ?_
  intro ds hw hok
  replace hw : WtL (SFlowTable.ct ++ (SFlowTable.ct ++ ([]))) ds := hw
  obtain ⟨a, ds, rfl, h_a, hw⟩ := SFlowTable.of_wt (r := _) hw
  obtain ⟨b, ds, rfl, h_b, hw⟩ := SFlowTable.of_wt (r := _) hw
  obtain rfl := of_wt_nil hw
  exact ⟨0, ((laws_eqFlowTable_r 0 a b).trans (laws_eqFlowTable_c Vm.bad _ a b h_a h_b hok)).trans (by kernel_rfl)⟩

def laws_toStream_s : Sum := { ps := [⟨[.int .i64, .int .i64, .int .i64, .int .i64, .int .i64, .int .i64, .str, .bool], true⟩], rs := [⟨[.imm (.int .i64), .imm (.int .i64), .imm (.int .i64), .imm (.int .i64), .imm (.int .i64), .imm (.int .i64), .imm .str, .imm .bool], true⟩], fn := fun ds => (true, SStream.enc (idf (SStream.decAt ds 0))) }
def laws_toStream_G : Ctx := [(162, laws_toFlow_s)]
theorem laws_toStream_x : CtxHolds Tryz.prog laws_toStream_G := ctx_cons laws_toFlow_h ctx_nil
def laws_toStream_A : List (Nat × Ann) := []
theorem laws_toStream_r (N : Nat) (a : SStream) : runF Tryz.prog laws_toStream_G laws_toStream_A N Tryz.f99 laws_toStream_s (a.enc ++ ([])) = laws_toStream_t (fun r0 => ((true, SStream.enc r0) : Res)) a := by kernel_rfl
theorem laws_toStream_h : Holds Tryz.prog 99 laws_toStream_s := by
  refine holds_of_run (A := laws_toStream_A) laws_toStream_x Tryz.func99 rfl (by kernel_rfl) (of_decide_eq_true (by kernel_rfl)) (of_decide_eq_true (by kernel_rfl)) ?_
  intro ds hw hok
  replace hw : WtL (SStream.ct ++ ([])) ds := hw
  obtain ⟨a, ds, rfl, h_a, hw⟩ := SStream.of_wt (r := _) hw
  obtain rfl := of_wt_nil hw
  exact ⟨0, ((laws_toStream_r 0 a).trans (laws_toStream_c _ a h_a)).trans (by kernel_rfl)⟩

def laws_toStreamS_s : Sum := { ps := [⟨[.sl [.int .i64, .int .i64, .int .i64, .int .i64, .int .i64, .int .i64, .str, .bool]], false⟩], rs := [⟨[.own 179 [.int .i64, .int .i64, .int .i64, .int .i64, .int .i64, .int .i64, .str, .bool]], false⟩], fn := fun ds => (sm (rR ds 0), [.sl (idf (rR ds 0))]) }
def laws_toStreamS_G : Ctx := [(99, laws_toStream_s)]
theorem laws_toStreamS_x : CtxHolds Tryz.prog laws_toStreamS_G := ctx_cons laws_toStream_h ctx_nil
def laws_toStreamS_A : List (Nat × Ann) := [(3, { slots := [(0, .asis), (3, .asis), (4, .asis)], boxes := [] })]
def laws_toStreamS_K : Rows → Res := (fun r0 => ((true, [.sl r0]) : Res))
def laws_toStreamS_m0 (a : Rows) (i : Int) (out_ : Rows) : St := { n := 23, sl := [(0, .sl [.int .i64, .int .i64, .int .i64, .int .i64, .int .i64, .int .i64, .str, .bool] a), (3, .own 640192), (4, .int .i64 i)], hp := [(640192, .row 179 [.int .i64, .int .i64, .int .i64, .int .i64, .int .i64, .int .i64, .str, .bool] out_ false true)], ok := true, ls := [], lm := [] }
noncomputable def laws_toStreamS_B0 (N : Nat) : (St → Res) → St → Res := loopB Tryz.prog laws_toStreamS_G laws_toStreamS_A N Tryz.f38 laws_toStreamS_s [true, true, false, true, false] []
theorem laws_toStreamS_b0 (N : Nat) (a : Rows) (ih : St → Res) (i : Int) (out_ : Rows) : laws_toStreamS_B0 N ih (laws_toStreamS_m0 a i out_) = laws_toStreamS_l0 Vm.bad laws_toStreamS_K a (fun i out_ => ih (laws_toStreamS_m0 a i out_)) i out_ := by kernel_rfl
theorem laws_toStreamS_n0 (N : Nat) (a : Rows) (m_ : Nat) : (fun i out_ => loopN (laws_toStreamS_B0 N) m_ (laws_toStreamS_m0 a i out_)) = laws_toStreamS_L0 Vm.bad laws_toStreamS_K N a m_ := by
  induction m_ with
  | zero => rfl
  | succ m_ ih =>
    funext i out_
    show laws_toStreamS_B0 N (loopN (laws_toStreamS_B0 N) m_) (laws_toStreamS_m0 a i out_) = _
    rw [laws_toStreamS_b0 N a]
    rw [ih]
    rfl
theorem laws_toStreamS_r (N : Nat) (a : Rows) : runF Tryz.prog laws_toStreamS_G laws_toStreamS_A N Tryz.f38 laws_toStreamS_s (.sl a :: ([])) = laws_toStreamS_f Vm.bad laws_toStreamS_K N a := by
  have run_ : runF Tryz.prog laws_toStreamS_G laws_toStreamS_A N Tryz.f38 laws_toStreamS_s (.sl a :: ([])) = laws_toStreamS_t Vm.bad laws_toStreamS_K (fun i out_ => loopN (laws_toStreamS_B0 N) N (laws_toStreamS_m0 a i out_)) a := by kernel_rfl
  refine run_.trans ?_
  unfold laws_toStreamS_f
  have e0 : (fun i out_ => loopN (laws_toStreamS_B0 N) N (laws_toStreamS_m0 a i out_)) = (laws_toStreamS_L0 Vm.bad laws_toStreamS_K N a N) := by
    exact laws_toStreamS_n0 N a N
  exact congrArg (fun l_ => laws_toStreamS_t Vm.bad laws_toStreamS_K l_ a) e0
theorem laws_toStreamS_h : Holds Tryz.prog 38 laws_toStreamS_s := by
  refine holds_of_run (A := laws_toStreamS_A) laws_toStreamS_x Tryz.func38 rfl (by kernel_rfl) (of_decide_eq_true (by kernel_rfl)) (of_decide_eq_true (by kernel_rfl)) ?_
  intro ds hw hok
  replace hw : WtL ((.sl [.int .i64, .int .i64, .int .i64, .int .i64, .int .i64, .int .i64, .str, .bool]) :: ([])) ds := hw
  obtain ⟨a, ds, rfl, h_a, hw⟩ := of_wt_sl hw
  obtain rfl := of_wt_nil hw
  obtain ⟨N, hN⟩ := laws_toStreamS_c Vm.bad laws_toStreamS_K a h_a hok
  exact ⟨N, ((laws_toStreamS_r N a).trans hN).trans (by kernel_rfl)⟩

def laws_toPool_s : Sum := { ps := [⟨[.int .i64, .int .i64, .int .i64, .sl [.int .i64]], true⟩], rs := [⟨[.imm (.int .i64), .imm (.int .i64), .imm (.int .i64), .own 3 [.int .i64]], true⟩], fn := fun ds => (laws_toPool_ok (SPool.decAt ds 0), SPool.enc (idf (SPool.decAt ds 0))) }
def laws_toPool_G : Ctx := [(40, laws_toIntS_s)]
theorem laws_toPool_x : CtxHolds Tryz.prog laws_toPool_G := ctx_cons laws_toIntS_h ctx_nil
def laws_toPool_A : List (Nat × Ann) := []
theorem laws_toPool_r (N : Nat) (a : SPool) : runF Tryz.prog laws_toPool_G laws_toPool_A N Tryz.f92 laws_toPool_s (a.enc ++ ([])) = laws_toPool_t Vm.bad (fun r0 => ((true, SPool.enc r0) : Res)) a := by kernel_rfl
theorem laws_toPool_h : Holds Tryz.prog 92 laws_toPool_s := by
  refine holds_of_run (A := laws_toPool_A) laws_toPool_x Tryz.func92 rfl (by kernel_rfl) (of_decide_eq_true (by kernel_rfl)) (of_decide_eq_true (by kernel_rfl)) ?_
  intro ds hw hok
  replace hw : WtL (SPool.ct ++ ([])) ds := hw
  obtain ⟨a, ds, rfl, h_a, hw⟩ := SPool.of_wt (r := _) hw
  obtain rfl := of_wt_nil hw
  exact ⟨0, ((laws_toPool_r 0 a).trans (laws_toPool_c Vm.bad _ a h_a hok)).trans (by kernel_rfl)⟩

def laws_toSentS_s : Sum := { ps := [⟨[.sl [.int .i64, .int .i64, .sl [.int .i64]]], false⟩], rs := [⟨[.deep 96 [.int .i64, .int .i64, .sl [.int .i64]] [3]], false⟩], fn := fun ds => (laws_toSentS_ok (rR ds 0), [.sl (idf (rR ds 0))]) }
def laws_toSentS_G : Ctx := [(1125899906842631, annS), (157, laws_toSent_s)]
theorem laws_toSentS_x : CtxHolds Tryz.prog laws_toSentS_G := ctx_cons ann_h (ctx_cons laws_toSent_h ctx_nil)
def laws_toSentS_A : List (Nat × Ann) := [(3, { slots := [(0, .asis), (3, .asis), (4, .asis)], boxes := [] })]
def laws_toSentS_K : Rows → Res := (fun r0 => ((true, [.sl r0]) : Res))
def laws_toSentS_m0 (a : Rows) (i : Int) (out_ : Rows) : St := { n := 23, sl := [(0, .sl [.int .i64, .int .i64, .sl [.int .i64]] a), (3, .own 640192), (4, .int .i64 i)], hp := [(640192, .deep 96 [.int .i64, .int .i64, .sl [.int .i64]] [3] out_ none)], ok := true, ls := [], lm := [] }
noncomputable def laws_toSentS_B0 (N : Nat) : (St → Res) → St → Res := loopB Tryz.prog laws_toSentS_G laws_toSentS_A N Tryz.f93 laws_toSentS_s [true, true, false, true, false] []
theorem laws_toSentS_b0 (N : Nat) (a : Rows) (ih : St → Res) (i : Int) (out_ : Rows) : laws_toSentS_B0 N ih (laws_toSentS_m0 a i out_) = laws_toSentS_l0 Vm.bad laws_toSentS_K a (fun i out_ => ih (laws_toSentS_m0 a i out_)) i out_ := by kernel_rfl
theorem laws_toSentS_n0 (N : Nat) (a : Rows) (m_ : Nat) : (fun i out_ => loopN (laws_toSentS_B0 N) m_ (laws_toSentS_m0 a i out_)) = laws_toSentS_L0 Vm.bad laws_toSentS_K N a m_ := by
  induction m_ with
  | zero => rfl
  | succ m_ ih =>
    funext i out_
    show laws_toSentS_B0 N (loopN (laws_toSentS_B0 N) m_) (laws_toSentS_m0 a i out_) = _
    rw [laws_toSentS_b0 N a]
    rw [ih]
    rfl
theorem laws_toSentS_r (N : Nat) (a : Rows) : runF Tryz.prog laws_toSentS_G laws_toSentS_A N Tryz.f93 laws_toSentS_s (.sl a :: ([])) = laws_toSentS_f Vm.bad laws_toSentS_K N a := by
  have run_ : runF Tryz.prog laws_toSentS_G laws_toSentS_A N Tryz.f93 laws_toSentS_s (.sl a :: ([])) = laws_toSentS_t Vm.bad laws_toSentS_K (fun i out_ => loopN (laws_toSentS_B0 N) N (laws_toSentS_m0 a i out_)) a := by kernel_rfl
  refine run_.trans ?_
  unfold laws_toSentS_f
  have e0 : (fun i out_ => loopN (laws_toSentS_B0 N) N (laws_toSentS_m0 a i out_)) = (laws_toSentS_L0 Vm.bad laws_toSentS_K N a N) := by
    exact laws_toSentS_n0 N a N
  exact congrArg (fun l_ => laws_toSentS_t Vm.bad laws_toSentS_K l_ a) e0
theorem laws_toSentS_h : Holds Tryz.prog 93 laws_toSentS_s := by
  refine holds_of_run (A := laws_toSentS_A) laws_toSentS_x Tryz.func93 rfl (by kernel_rfl) (of_decide_eq_true (by kernel_rfl)) (of_decide_eq_true (by kernel_rfl)) ?_
  intro ds hw hok
  replace hw : WtL ((.sl [.int .i64, .int .i64, .sl [.int .i64]]) :: ([])) ds := hw
  obtain ⟨a, ds, rfl, h_a, hw⟩ := of_wt_sl hw
  obtain rfl := of_wt_nil hw
  obtain ⟨N, hN⟩ := laws_toSentS_c Vm.bad laws_toSentS_K a h_a hok
  exact ⟨N, ((laws_toSentS_r N a).trans hN).trans (by kernel_rfl)⟩

def laws_toTxQueue_s : Sum := { ps := [⟨[.int .i64, .int .i64, .int .i64, .int .i64, .int .i64, .int .i64, .int .i64, .sl [.int .i64], .sl [.int .i64, .int .i64, .sl [.int .i64]], .int .i64], true⟩], rs := [⟨[.imm (.int .i64), .imm (.int .i64), .imm (.int .i64), .imm (.int .i64), .imm (.int .i64), .imm (.int .i64), .imm (.int .i64), .own 3 [.int .i64], .deep 96 [.int .i64, .int .i64, .sl [.int .i64]] [3], .imm (.int .i64)], true⟩], fn := fun ds => (laws_toTxQueue_ok (STxQueue.decAt ds 0), STxQueue.enc (idf (STxQueue.decAt ds 0))) }
def laws_toTxQueue_G : Ctx := [(91, laws_toRing_s), (92, laws_toPool_s), (93, laws_toSentS_s)]
theorem laws_toTxQueue_x : CtxHolds Tryz.prog laws_toTxQueue_G := ctx_cons laws_toRing_h (ctx_cons laws_toPool_h (ctx_cons laws_toSentS_h ctx_nil))
def laws_toTxQueue_A : List (Nat × Ann) := []
theorem laws_toTxQueue_r (N : Nat) (a : STxQueue) : runF Tryz.prog laws_toTxQueue_G laws_toTxQueue_A N Tryz.f31 laws_toTxQueue_s (a.enc ++ ([])) = laws_toTxQueue_t Vm.bad (fun r0 => ((true, STxQueue.enc r0) : Res)) a := by kernel_rfl
theorem laws_toTxQueue_h : Holds Tryz.prog 31 laws_toTxQueue_s := by
  refine holds_of_run (A := laws_toTxQueue_A) laws_toTxQueue_x Tryz.func31 rfl (by kernel_rfl) (of_decide_eq_true (by kernel_rfl)) (of_decide_eq_true (by kernel_rfl)) ?_
  intro ds hw hok
  replace hw : WtL (STxQueue.ct ++ ([])) ds := hw
  obtain ⟨a, ds, rfl, h_a, hw⟩ := STxQueue.of_wt (r := _) hw
  obtain rfl := of_wt_nil hw
  exact ⟨0, ((laws_toTxQueue_r 0 a).trans (laws_toTxQueue_c Vm.bad _ a h_a hok)).trans (by kernel_rfl)⟩

def laws_toPoolS_s : Sum := { ps := [⟨[.sl [.int .i64, .int .i64, .int .i64, .sl [.int .i64]]], false⟩], rs := [⟨[.deep 58 [.int .i64, .int .i64, .int .i64, .sl [.int .i64]] [3]], false⟩], fn := fun ds => (laws_toPoolS_ok (rR ds 0), [.sl (idf (rR ds 0))]) }
def laws_toPoolS_G : Ctx := [(1125899906842631, annS), (92, laws_toPool_s)]
theorem laws_toPoolS_x : CtxHolds Tryz.prog laws_toPoolS_G := ctx_cons ann_h (ctx_cons laws_toPool_h ctx_nil)
def laws_toPoolS_A : List (Nat × Ann) := [(3, { slots := [(0, .asis), (3, .asis), (4, .asis)], boxes := [] })]
def laws_toPoolS_K : Rows → Res := (fun r0 => ((true, [.sl r0]) : Res))
def laws_toPoolS_m0 (a : Rows) (i : Int) (out_ : Rows) : St := { n := 23, sl := [(0, .sl [.int .i64, .int .i64, .int .i64, .sl [.int .i64]] a), (3, .own 640192), (4, .int .i64 i)], hp := [(640192, .deep 58 [.int .i64, .int .i64, .int .i64, .sl [.int .i64]] [3] out_ none)], ok := true, ls := [], lm := [] }
noncomputable def laws_toPoolS_B0 (N : Nat) : (St → Res) → St → Res := loopB Tryz.prog laws_toPoolS_G laws_toPoolS_A N Tryz.f33 laws_toPoolS_s [true, true, false, true, false] []
theorem laws_toPoolS_b0 (N : Nat) (a : Rows) (ih : St → Res) (i : Int) (out_ : Rows) : laws_toPoolS_B0 N ih (laws_toPoolS_m0 a i out_) = laws_toPoolS_l0 Vm.bad laws_toPoolS_K a (fun i out_ => ih (laws_toPoolS_m0 a i out_)) i out_ := by kernel_rfl
theorem laws_toPoolS_n0 (N : Nat) (a : Rows) (m_ : Nat) : (fun i out_ => loopN (laws_toPoolS_B0 N) m_ (laws_toPoolS_m0 a i out_)) = laws_toPoolS_L0 Vm.bad laws_toPoolS_K N a m_ := by
  induction m_ with
  | zero => rfl
  | succ m_ ih =>
    funext i out_
    show laws_toPoolS_B0 N (loopN (laws_toPoolS_B0 N) m_) (laws_toPoolS_m0 a i out_) = _
    rw [laws_toPoolS_b0 N a]
    rw [ih]
    rfl
theorem laws_toPoolS_r (N : Nat) (a : Rows) : runF Tryz.prog laws_toPoolS_G laws_toPoolS_A N Tryz.f33 laws_toPoolS_s (.sl a :: ([])) = laws_toPoolS_f Vm.bad laws_toPoolS_K N a := by
  have run_ : runF Tryz.prog laws_toPoolS_G laws_toPoolS_A N Tryz.f33 laws_toPoolS_s (.sl a :: ([])) = laws_toPoolS_t Vm.bad laws_toPoolS_K (fun i out_ => loopN (laws_toPoolS_B0 N) N (laws_toPoolS_m0 a i out_)) a := by kernel_rfl
  refine run_.trans ?_
  unfold laws_toPoolS_f
  have e0 : (fun i out_ => loopN (laws_toPoolS_B0 N) N (laws_toPoolS_m0 a i out_)) = (laws_toPoolS_L0 Vm.bad laws_toPoolS_K N a N) := by
    exact laws_toPoolS_n0 N a N
  exact congrArg (fun l_ => laws_toPoolS_t Vm.bad laws_toPoolS_K l_ a) e0
theorem laws_toPoolS_h : Holds Tryz.prog 33 laws_toPoolS_s := by
  refine holds_of_run (A := laws_toPoolS_A) laws_toPoolS_x Tryz.func33 rfl (by kernel_rfl) (of_decide_eq_true (by kernel_rfl)) (of_decide_eq_true (by kernel_rfl)) ?_
  intro ds hw hok
  replace hw : WtL ((.sl [.int .i64, .int .i64, .int .i64, .sl [.int .i64]]) :: ([])) ds := hw
  obtain ⟨a, ds, rfl, h_a, hw⟩ := of_wt_sl hw
  obtain rfl := of_wt_nil hw
  obtain ⟨N, hN⟩ := laws_toPoolS_c Vm.bad laws_toPoolS_K a h_a hok
  exact ⟨N, ((laws_toPoolS_r N a).trans hN).trans (by kernel_rfl)⟩

def laws_toBoolS_s : Sum := { ps := [⟨[.sl [.bool]], false⟩], rs := [⟨[.own 4 [.bool]], false⟩], fn := fun ds => (sm (rR ds 0), [.sl (idf (rR ds 0))]) }
def laws_toBoolS_G : Ctx := []
theorem laws_toBoolS_x : CtxHolds Tryz.prog laws_toBoolS_G := ctx_nil
def laws_toBoolS_A : List (Nat × Ann) := [(3, { slots := [(0, .asis), (3, .asis), (4, .asis)], boxes := [] })]
def laws_toBoolS_K : Rows → Res := (fun r0 => ((true, [.sl r0]) : Res))
def laws_toBoolS_m0 (a : Rows) (i : Int) (out_ : Rows) : St := { n := 22, sl := [(0, .sl [.bool] a), (3, .own 640192), (4, .int .i64 i)], hp := [(640192, .row 4 [.bool] out_ false true)], ok := true, ls := [], lm := [] }
noncomputable def laws_toBoolS_B0 (N : Nat) : (St → Res) → St → Res := loopB Tryz.prog laws_toBoolS_G laws_toBoolS_A N Tryz.f35 laws_toBoolS_s [true, true, false, true, false] []
theorem laws_toBoolS_b0 (N : Nat) (a : Rows) (ih : St → Res) (i : Int) (out_ : Rows) : laws_toBoolS_B0 N ih (laws_toBoolS_m0 a i out_) = laws_toBoolS_l0 Vm.bad laws_toBoolS_K a (fun i out_ => ih (laws_toBoolS_m0 a i out_)) i out_ := by kernel_rfl
theorem laws_toBoolS_n0 (N : Nat) (a : Rows) (m_ : Nat) : (fun i out_ => loopN (laws_toBoolS_B0 N) m_ (laws_toBoolS_m0 a i out_)) = laws_toBoolS_L0 Vm.bad laws_toBoolS_K N a m_ := by
  induction m_ with
  | zero => rfl
  | succ m_ ih =>
    funext i out_
    show laws_toBoolS_B0 N (loopN (laws_toBoolS_B0 N) m_) (laws_toBoolS_m0 a i out_) = _
    rw [laws_toBoolS_b0 N a]
    rw [ih]
    rfl
theorem laws_toBoolS_r (N : Nat) (a : Rows) : runF Tryz.prog laws_toBoolS_G laws_toBoolS_A N Tryz.f35 laws_toBoolS_s (.sl a :: ([])) = laws_toBoolS_f Vm.bad laws_toBoolS_K N a := by
  have run_ : runF Tryz.prog laws_toBoolS_G laws_toBoolS_A N Tryz.f35 laws_toBoolS_s (.sl a :: ([])) = laws_toBoolS_t Vm.bad laws_toBoolS_K (fun i out_ => loopN (laws_toBoolS_B0 N) N (laws_toBoolS_m0 a i out_)) a := by kernel_rfl
  refine run_.trans ?_
  unfold laws_toBoolS_f
  have e0 : (fun i out_ => loopN (laws_toBoolS_B0 N) N (laws_toBoolS_m0 a i out_)) = (laws_toBoolS_L0 Vm.bad laws_toBoolS_K N a N) := by
    exact laws_toBoolS_n0 N a N
  exact congrArg (fun l_ => laws_toBoolS_t Vm.bad laws_toBoolS_K l_ a) e0
theorem laws_toBoolS_h : Holds Tryz.prog 35 laws_toBoolS_s := by
  refine holds_of_run (A := laws_toBoolS_A) laws_toBoolS_x Tryz.func35 rfl (by kernel_rfl) (of_decide_eq_true (by kernel_rfl)) (of_decide_eq_true (by kernel_rfl)) ?_
  intro ds hw hok
  replace hw : WtL ((.sl [.bool]) :: ([])) ds := hw
  obtain ⟨a, ds, rfl, h_a, hw⟩ := of_wt_sl hw
  obtain rfl := of_wt_nil hw
  obtain ⟨N, hN⟩ := laws_toBoolS_c Vm.bad laws_toBoolS_K a h_a hok
  exact ⟨N, ((laws_toBoolS_r N a).trans hN).trans (by kernel_rfl)⟩

def laws_toFilter_s : Sum := { ps := [⟨[.int .i64, .bool, .sl [.int .i64]], true⟩], rs := [⟨[.imm (.int .i64), .imm .bool, .own 3 [.int .i64]], true⟩], fn := fun ds => (laws_toFilter_ok (SFilter.decAt ds 0), SFilter.enc (idf (SFilter.decAt ds 0))) }
def laws_toFilter_G : Ctx := [(40, laws_toIntS_s)]
theorem laws_toFilter_x : CtxHolds Tryz.prog laws_toFilter_G := ctx_cons laws_toIntS_h ctx_nil
def laws_toFilter_A : List (Nat × Ann) := []
theorem laws_toFilter_r (N : Nat) (a : SFilter) : runF Tryz.prog laws_toFilter_G laws_toFilter_A N Tryz.f36 laws_toFilter_s (a.enc ++ ([])) = laws_toFilter_t Vm.bad (fun r0 => ((true, SFilter.enc r0) : Res)) a := by kernel_rfl
theorem laws_toFilter_h : Holds Tryz.prog 36 laws_toFilter_s := by
  refine holds_of_run (A := laws_toFilter_A) laws_toFilter_x Tryz.func36 rfl (by kernel_rfl) (of_decide_eq_true (by kernel_rfl)) (of_decide_eq_true (by kernel_rfl)) ?_
  intro ds hw hok
  replace hw : WtL (SFilter.ct ++ ([])) ds := hw
  obtain ⟨a, ds, rfl, h_a, hw⟩ := SFilter.of_wt (r := _) hw
  obtain rfl := of_wt_nil hw
  exact ⟨0, ((laws_toFilter_r 0 a).trans (laws_toFilter_c Vm.bad _ a h_a hok)).trans (by kernel_rfl)⟩

def laws_toCounters_s : Sum := { ps := [⟨[.int .i64, .int .i64, .int .i64, .int .i64, .int .i64], true⟩], rs := [⟨[.imm (.int .i64), .imm (.int .i64), .imm (.int .i64), .imm (.int .i64), .imm (.int .i64)], true⟩], fn := fun ds => (true, SCounters.enc (idf (SCounters.decAt ds 0))) }
def laws_toCounters_G : Ctx := []
theorem laws_toCounters_x : CtxHolds Tryz.prog laws_toCounters_G := ctx_nil
def laws_toCounters_A : List (Nat × Ann) := []
theorem laws_toCounters_r (N : Nat) (a : SCounters) : runF Tryz.prog laws_toCounters_G laws_toCounters_A N Tryz.f41 laws_toCounters_s (a.enc ++ ([])) = laws_toCounters_t (fun r0 => ((true, SCounters.enc r0) : Res)) a := by kernel_rfl
theorem laws_toCounters_h : Holds Tryz.prog 41 laws_toCounters_s := by
  refine holds_of_run (A := laws_toCounters_A) laws_toCounters_x Tryz.func41 rfl (by kernel_rfl) (of_decide_eq_true (by kernel_rfl)) (of_decide_eq_true (by kernel_rfl)) ?_
  intro ds hw hok
  replace hw : WtL (SCounters.ct ++ ([])) ds := hw
  obtain ⟨a, ds, rfl, h_a, hw⟩ := SCounters.of_wt (r := _) hw
  obtain rfl := of_wt_nil hw
  exact ⟨0, ((laws_toCounters_r 0 a).trans (laws_toCounters_c _ a h_a)).trans (by kernel_rfl)⟩

def laws_toHost_s : Sum := { ps := [⟨[.sl [.str], .sl [.int .i64, .int .i64, .int .i64, .bool], .int .i64, .int .i64, .int .i64, .int .i64, .int .i64, .int .i64, .int .i64, .sl [.int .i64], .sl [.int .i64, .int .i64, .sl [.int .i64]], .int .i64, .sl [.int .i64, .int .i64, .int .i64, .int .i64, .int .i64, .int .i64, .int .i64, .int .i64, .int .i64, .int .i64, .int .i64, .int .i64, .int .i64, .int .i64, .int .i64, .int .i64, .int .i64, .int .i64, .int .i64, .int .i64, .int .i64, .int .i64, .int .i64, .int .i64, .int .i64, .str, .int .i64, .int .i64, .bool, .int .i64], .sl [.int .i64, .int .i64, .int .i64, .sl [.int .i64]], .sl [.int .i64, .int .i64, .int .i64, .int .i64, .bool, .bool], .sl [.bool], .int .i64, .bool, .sl [.int .i64], .sl [.int .i64, .int .i64, .int .i64, .int .i64, .int .i64, .int .i64, .int .i64, .int .i64, .int .i64], .sl [.int .i64, .int .i64, .int .i64, .int .i64, .int .i64, .int .i64, .int .i64], .str, .sl [.int .i64], .sl [.int .i64, .int .i64, .int .i64, .int .i64, .int .i64, .int .i64, .str, .bool], .bool, .sl [.str], .sl [.int .i64], .sl [.int .i64], .int .i64, .int .i64, .int .i64, .int .i64, .int .i64], true⟩], rs := [⟨[.own 9 [.str], .own 157 [.int .i64, .int .i64, .int .i64, .bool], .imm (.int .i64), .imm (.int .i64), .imm (.int .i64), .imm (.int .i64), .imm (.int .i64), .imm (.int .i64), .imm (.int .i64), .own 3 [.int .i64], .deep 96 [.int .i64, .int .i64, .sl [.int .i64]] [3], .imm (.int .i64), .own 170 [.int .i64, .int .i64, .int .i64, .int .i64, .int .i64, .int .i64, .int .i64, .int .i64, .int .i64, .int .i64, .int .i64, .int .i64, .int .i64, .int .i64, .int .i64, .int .i64, .int .i64, .int .i64, .int .i64, .int .i64, .int .i64, .int .i64, .int .i64, .int .i64, .int .i64, .str, .int .i64, .int .i64, .bool, .int .i64], .deep 58 [.int .i64, .int .i64, .int .i64, .sl [.int .i64]] [3], .own 133 [.int .i64, .int .i64, .int .i64, .int .i64, .bool, .bool], .own 4 [.bool], .imm (.int .i64), .imm .bool, .own 3 [.int .i64], .own 221 [.int .i64, .int .i64, .int .i64, .int .i64, .int .i64, .int .i64, .int .i64, .int .i64, .int .i64], .own 242 [.int .i64, .int .i64, .int .i64, .int .i64, .int .i64, .int .i64, .int .i64], .imm .str, .own 3 [.int .i64], .own 179 [.int .i64, .int .i64, .int .i64, .int .i64, .int .i64, .int .i64, .str, .bool], .imm .bool, .own 9 [.str], .own 3 [.int .i64], .own 3 [.int .i64], .imm (.int .i64), .imm (.int .i64), .imm (.int .i64), .imm (.int .i64), .imm (.int .i64)], true⟩], fn := fun ds => (laws_toHost_ok (SHost.decAt ds 0), SHost.enc (idf (SHost.decAt ds 0))) }
def laws_toHost_G : Ctx := [(29, laws_toMemory_s), (30, laws_toMappingS_s), (31, laws_toTxQueue_s), (32, laws_toRxQueueS_s), (33, laws_toPoolS_s), (34, laws_toVectorS_s), (35, laws_toBoolS_s), (36, laws_toFilter_s), (37, laws_toSteering_s), (38, laws_toStreamS_s), (39, laws_toStringS_s), (40, laws_toIntS_s), (41, laws_toCounters_s)]
theorem laws_toHost_x : CtxHolds Tryz.prog laws_toHost_G := ctx_cons laws_toMemory_h (ctx_cons laws_toMappingS_h (ctx_cons laws_toTxQueue_h (ctx_cons laws_toRxQueueS_h (ctx_cons laws_toPoolS_h (ctx_cons laws_toVectorS_h (ctx_cons laws_toBoolS_h (ctx_cons laws_toFilter_h (ctx_cons laws_toSteering_h (ctx_cons laws_toStreamS_h (ctx_cons laws_toStringS_h (ctx_cons laws_toIntS_h (ctx_cons laws_toCounters_h ctx_nil))))))))))))
def laws_toHost_A : List (Nat × Ann) := []
theorem laws_toHost_r (N : Nat) (a : SHost) : runF Tryz.prog laws_toHost_G laws_toHost_A N Tryz.f7 laws_toHost_s (a.enc ++ ([])) = laws_toHost_t Vm.bad (fun r0 => ((true, SHost.enc r0) : Res)) a := by kernel_rfl
theorem laws_toHost_h : Holds Tryz.prog 7 laws_toHost_s := by
  refine holds_of_run (A := laws_toHost_A) laws_toHost_x Tryz.func7 rfl (by kernel_rfl) (of_decide_eq_true (by kernel_rfl)) (of_decide_eq_true (by kernel_rfl)) ?_
  intro ds hw hok
  replace hw : WtL (SHost.ct ++ ([])) ds := hw
  obtain ⟨a, ds, rfl, h_a, hw⟩ := SHost.of_wt (r := _) hw
  obtain rfl := of_wt_nil hw
  exact ⟨0, ((laws_toHost_r 0 a).trans (laws_toHost_c Vm.bad _ a h_a hok)).trans (by kernel_rfl)⟩

def laws_eqRing_s : Sum := { ps := [⟨[.int .i64, .int .i64, .int .i64, .int .i64], true⟩, ⟨[.int .i64, .int .i64, .int .i64, .int .i64], true⟩], rs := [⟨[.imm .bool], false⟩], fn := fun ds => (same (SRing.decAt ds 0) (SRing.decAt ds 4), [.bool (yes2 (SRing.decAt ds 0) (SRing.decAt ds 4))]) }
def laws_eqRing_G : Ctx := []
theorem laws_eqRing_x : CtxHolds Tryz.prog laws_eqRing_G := ctx_nil
def laws_eqRing_A : List (Nat × Ann) := []
theorem laws_eqRing_r (N : Nat) (a : SRing) (b : SRing) : runF Tryz.prog laws_eqRing_G laws_eqRing_A N Tryz.f101 laws_eqRing_s (a.enc ++ (b.enc ++ ([]))) = laws_eqRing_t (fun r0 => ((true, [.bool r0]) : Res)) a b := by kernel_rfl
theorem laws_eqRing_h : Holds Tryz.prog 101 laws_eqRing_s := by
  refine holds_of_run (A := laws_eqRing_A) laws_eqRing_x Tryz.func101 rfl (by kernel_rfl) (of_decide_eq_true (by kernel_rfl)) (of_decide_eq_true (by kernel_rfl)) ?_
  intro ds hw hok
  replace hw : WtL (SRing.ct ++ (SRing.ct ++ ([]))) ds := hw
  obtain ⟨a, ds, rfl, h_a, hw⟩ := SRing.of_wt (r := _) hw
  obtain ⟨b, ds, rfl, h_b, hw⟩ := SRing.of_wt (r := _) hw
  obtain rfl := of_wt_nil hw
  exact ⟨0, ((laws_eqRing_r 0 a b).trans (laws_eqRing_c _ a b h_a h_b hok)).trans (by kernel_rfl)⟩

def laws_eqRxQueue_s : Sum := { ps := [⟨[.int .i64, .int .i64, .int .i64, .int .i64, .int .i64, .int .i64, .int .i64, .int .i64, .int .i64, .int .i64, .int .i64, .int .i64, .int .i64, .int .i64, .int .i64, .int .i64, .int .i64, .int .i64, .int .i64, .int .i64, .int .i64, .int .i64, .int .i64, .int .i64, .int .i64, .str, .int .i64, .int .i64, .bool, .int .i64], true⟩, ⟨[.int .i64, .int .i64, .int .i64, .int .i64, .int .i64, .int .i64, .int .i64, .int .i64, .int .i64, .int .i64, .int .i64, .int .i64, .int .i64, .int .i64, .int .i64, .int .i64, .int .i64, .int .i64, .int .i64, .int .i64, .int .i64, .int .i64, .int .i64, .int .i64, .int .i64, .str, .int .i64, .int .i64, .bool, .int .i64], true⟩], rs := [⟨[.imm .bool], false⟩], fn := fun ds => (same (SRxQueue.decAt ds 0) (SRxQueue.decAt ds 30), [.bool (yes2 (SRxQueue.decAt ds 0) (SRxQueue.decAt ds 30))]) }
def laws_eqRxQueue_G : Ctx := [(101, laws_eqRing_s), (164, laws_eqCompletionQueue_s), (165, laws_eqSuper_s)]
theorem laws_eqRxQueue_x : CtxHolds Tryz.prog laws_eqRxQueue_G := ctx_cons laws_eqRing_h (ctx_cons laws_eqCompletionQueue_h (ctx_cons laws_eqSuper_h ctx_nil))
def laws_eqRxQueue_A : List (Nat × Ann) := []
theorem laws_eqRxQueue_r (N : Nat) (a : SRxQueue) (b : SRxQueue) : runF Tryz.prog laws_eqRxQueue_G laws_eqRxQueue_A N Tryz.f104 laws_eqRxQueue_s (a.enc ++ (b.enc ++ ([]))) = laws_eqRxQueue_t Vm.bad (fun r0 => ((true, [.bool r0]) : Res)) a b := by kernel_rfl
theorem laws_eqRxQueue_h : Holds Tryz.prog 104 laws_eqRxQueue_s := by
  refine holds_of_run (A := laws_eqRxQueue_A) laws_eqRxQueue_x Tryz.func104 rfl (by kernel_rfl) (of_decide_eq_true (by kernel_rfl)) (of_decide_eq_true (by kernel_rfl)) ?_
  intro ds hw hok
  replace hw : WtL (SRxQueue.ct ++ (SRxQueue.ct ++ ([]))) ds := hw
  obtain ⟨a, ds, rfl, h_a, hw⟩ := SRxQueue.of_wt (r := _) hw
  obtain ⟨b, ds, rfl, h_b, hw⟩ := SRxQueue.of_wt (r := _) hw
  obtain rfl := of_wt_nil hw
  exact ⟨0, ((laws_eqRxQueue_r 0 a b).trans (laws_eqRxQueue_c Vm.bad _ a b h_a h_b hok)).trans (by kernel_rfl)⟩

def laws_eqRxQueueS_s : Sum := { ps := [⟨[.sl [.int .i64, .int .i64, .int .i64, .int .i64, .int .i64, .int .i64, .int .i64, .int .i64, .int .i64, .int .i64, .int .i64, .int .i64, .int .i64, .int .i64, .int .i64, .int .i64, .int .i64, .int .i64, .int .i64, .int .i64, .int .i64, .int .i64, .int .i64, .int .i64, .int .i64, .str, .int .i64, .int .i64, .bool, .int .i64]], false⟩, ⟨[.sl [.int .i64, .int .i64, .int .i64, .int .i64, .int .i64, .int .i64, .int .i64, .int .i64, .int .i64, .int .i64, .int .i64, .int .i64, .int .i64, .int .i64, .int .i64, .int .i64, .int .i64, .int .i64, .int .i64, .int .i64, .int .i64, .int .i64, .int .i64, .int .i64, .int .i64, .str, .int .i64, .int .i64, .bool, .int .i64]], false⟩], rs := [⟨[.imm .bool], false⟩], fn := fun ds => (same (rR ds 0) (rR ds 1), [.bool (yes2 (rR ds 0) (rR ds 1))]) }
def laws_eqRxQueueS_G : Ctx := [(104, laws_eqRxQueue_s)]
theorem laws_eqRxQueueS_x : CtxHolds Tryz.prog laws_eqRxQueueS_G := ctx_cons laws_eqRxQueue_h ctx_nil
def laws_eqRxQueueS_A : List (Nat × Ann) := [(4, { slots := [(0, .asis), (1, .asis), (5, .asis)], boxes := [] })]
def laws_eqRxQueueS_K : Bool → Res := (fun r0 => ((true, [.bool r0]) : Res))
def laws_eqRxQueueS_m0 (a : Rows) (b : Rows) (i : Int) : St := { n := 27, sl := [(0, .sl [.int .i64, .int .i64, .int .i64, .int .i64, .int .i64, .int .i64, .int .i64, .int .i64, .int .i64, .int .i64, .int .i64, .int .i64, .int .i64, .int .i64, .int .i64, .int .i64, .int .i64, .int .i64, .int .i64, .int .i64, .int .i64, .int .i64, .int .i64, .int .i64, .int .i64, .str, .int .i64, .int .i64, .bool, .int .i64] a), (1, .sl [.int .i64, .int .i64, .int .i64, .int .i64, .int .i64, .int .i64, .int .i64, .int .i64, .int .i64, .int .i64, .int .i64, .int .i64, .int .i64, .int .i64, .int .i64, .int .i64, .int .i64, .int .i64, .int .i64, .int .i64, .int .i64, .int .i64, .int .i64, .int .i64, .int .i64, .str, .int .i64, .int .i64, .bool, .int .i64] b), (5, .int .i64 i)], hp := [], ok := true, ls := [], lm := [] }
noncomputable def laws_eqRxQueueS_B0 (N : Nat) : (St → Res) → St → Res := loopB Tryz.prog laws_eqRxQueueS_G laws_eqRxQueueS_A N Tryz.f46 laws_eqRxQueueS_s [true, true, false, true, false] []
theorem laws_eqRxQueueS_b0 (N : Nat) (a : Rows) (b : Rows) (ih : St → Res) (i : Int) : laws_eqRxQueueS_B0 N ih (laws_eqRxQueueS_m0 a b i) = laws_eqRxQueueS_l0 Vm.bad laws_eqRxQueueS_K a b (fun i => ih (laws_eqRxQueueS_m0 a b i)) i := by kernel_rfl
theorem laws_eqRxQueueS_n0 (N : Nat) (a : Rows) (b : Rows) (m_ : Nat) : (fun i => loopN (laws_eqRxQueueS_B0 N) m_ (laws_eqRxQueueS_m0 a b i)) = laws_eqRxQueueS_L0 Vm.bad laws_eqRxQueueS_K N a b m_ := by
  induction m_ with
  | zero => rfl
  | succ m_ ih =>
    funext i
    show laws_eqRxQueueS_B0 N (loopN (laws_eqRxQueueS_B0 N) m_) (laws_eqRxQueueS_m0 a b i) = _
    rw [laws_eqRxQueueS_b0 N a b]
    rw [ih]
    rfl
theorem laws_eqRxQueueS_r (N : Nat) (a : Rows) (b : Rows) : runF Tryz.prog laws_eqRxQueueS_G laws_eqRxQueueS_A N Tryz.f46 laws_eqRxQueueS_s (.sl a :: (.sl b :: ([]))) = laws_eqRxQueueS_f Vm.bad laws_eqRxQueueS_K N a b := by
  have run_ : runF Tryz.prog laws_eqRxQueueS_G laws_eqRxQueueS_A N Tryz.f46 laws_eqRxQueueS_s (.sl a :: (.sl b :: ([]))) = laws_eqRxQueueS_t Vm.bad laws_eqRxQueueS_K (fun i => loopN (laws_eqRxQueueS_B0 N) N (laws_eqRxQueueS_m0 a b i)) a b := by kernel_rfl
  refine run_.trans ?_
  unfold laws_eqRxQueueS_f
  have e0 : (fun i => loopN (laws_eqRxQueueS_B0 N) N (laws_eqRxQueueS_m0 a b i)) = (laws_eqRxQueueS_L0 Vm.bad laws_eqRxQueueS_K N a b N) := by
    exact laws_eqRxQueueS_n0 N a b N
  exact congrArg (fun l_ => laws_eqRxQueueS_t Vm.bad laws_eqRxQueueS_K l_ a b) e0
theorem laws_eqRxQueueS_h : Holds Tryz.prog 46 laws_eqRxQueueS_s := by
  refine holds_of_run (A := laws_eqRxQueueS_A) laws_eqRxQueueS_x Tryz.func46 rfl (by kernel_rfl) (of_decide_eq_true (by kernel_rfl)) (of_decide_eq_true (by kernel_rfl)) ?_
  intro ds hw hok
  replace hw : WtL ((.sl [.int .i64, .int .i64, .int .i64, .int .i64, .int .i64, .int .i64, .int .i64, .int .i64, .int .i64, .int .i64, .int .i64, .int .i64, .int .i64, .int .i64, .int .i64, .int .i64, .int .i64, .int .i64, .int .i64, .int .i64, .int .i64, .int .i64, .int .i64, .int .i64, .int .i64, .str, .int .i64, .int .i64, .bool, .int .i64]) :: ((.sl [.int .i64, .int .i64, .int .i64, .int .i64, .int .i64, .int .i64, .int .i64, .int .i64, .int .i64, .int .i64, .int .i64, .int .i64, .int .i64, .int .i64, .int .i64, .int .i64, .int .i64, .int .i64, .int .i64, .int .i64, .int .i64, .int .i64, .int .i64, .int .i64, .int .i64, .str, .int .i64, .int .i64, .bool, .int .i64]) :: ([]))) ds := hw
  obtain ⟨a, ds, rfl, h_a, hw⟩ := of_wt_sl hw
  obtain ⟨b, ds, rfl, h_b, hw⟩ := of_wt_sl hw
  obtain rfl := of_wt_nil hw
  obtain ⟨N, hN⟩ := laws_eqRxQueueS_c Vm.bad laws_eqRxQueueS_K a b h_a h_b hok
  exact ⟨N, ((laws_eqRxQueueS_r N a b).trans hN).trans (by kernel_rfl)⟩

def laws_eqStream_s : Sum := { ps := [⟨[.int .i64, .int .i64, .int .i64, .int .i64, .int .i64, .int .i64, .str, .bool], true⟩, ⟨[.int .i64, .int .i64, .int .i64, .int .i64, .int .i64, .int .i64, .str, .bool], true⟩], rs := [⟨[.imm .bool], false⟩], fn := fun ds => (same (SStream.decAt ds 0) (SStream.decAt ds 8), [.bool (yes2 (SStream.decAt ds 0) (SStream.decAt ds 8))]) }
def laws_eqStream_G : Ctx := [(168, laws_eqFlow_s)]
theorem laws_eqStream_x : CtxHolds Tryz.prog laws_eqStream_G := ctx_cons laws_eqFlow_h ctx_nil
def laws_eqStream_A : List (Nat × Ann) := []
theorem laws_eqStream_r (N : Nat) (a : SStream) (b : SStream) : runF Tryz.prog laws_eqStream_G laws_eqStream_A N Tryz.f109 laws_eqStream_s (a.enc ++ (b.enc ++ ([]))) = laws_eqStream_t Vm.bad (fun r0 => ((true, [.bool r0]) : Res)) a b := by kernel_rfl
theorem laws_eqStream_h : Holds Tryz.prog 109 laws_eqStream_s := by
  refine holds_of_run (A := laws_eqStream_A) laws_eqStream_x Tryz.func109 rfl (by kernel_rfl) (of_decide_eq_true (by kernel_rfl)) (of_decide_eq_true (by kernel_rfl)) ?_
  intro ds hw hok
  replace hw : WtL (SStream.ct ++ (SStream.ct ++ ([]))) ds := hw
  obtain ⟨a, ds, rfl, h_a, hw⟩ := SStream.of_wt (r := _) hw
  obtain ⟨b, ds, rfl, h_b, hw⟩ := SStream.of_wt (r := _) hw
  obtain rfl := of_wt_nil hw
  exact ⟨0, ((laws_eqStream_r 0 a b).trans (laws_eqStream_c Vm.bad _ a b h_a h_b hok)).trans (by kernel_rfl)⟩

def laws_eqStreamS_s : Sum := { ps := [⟨[.sl [.int .i64, .int .i64, .int .i64, .int .i64, .int .i64, .int .i64, .str, .bool]], false⟩, ⟨[.sl [.int .i64, .int .i64, .int .i64, .int .i64, .int .i64, .int .i64, .str, .bool]], false⟩], rs := [⟨[.imm .bool], false⟩], fn := fun ds => (same (rR ds 0) (rR ds 1), [.bool (yes2 (rR ds 0) (rR ds 1))]) }
def laws_eqStreamS_G : Ctx := [(109, laws_eqStream_s)]
theorem laws_eqStreamS_x : CtxHolds Tryz.prog laws_eqStreamS_G := ctx_cons laws_eqStream_h ctx_nil
def laws_eqStreamS_A : List (Nat × Ann) := [(4, { slots := [(0, .asis), (1, .asis), (5, .asis)], boxes := [] })]
def laws_eqStreamS_K : Bool → Res := (fun r0 => ((true, [.bool r0]) : Res))
def laws_eqStreamS_m0 (a : Rows) (b : Rows) (i : Int) : St := { n := 27, sl := [(0, .sl [.int .i64, .int .i64, .int .i64, .int .i64, .int .i64, .int .i64, .str, .bool] a), (1, .sl [.int .i64, .int .i64, .int .i64, .int .i64, .int .i64, .int .i64, .str, .bool] b), (5, .int .i64 i)], hp := [], ok := true, ls := [], lm := [] }
noncomputable def laws_eqStreamS_B0 (N : Nat) : (St → Res) → St → Res := loopB Tryz.prog laws_eqStreamS_G laws_eqStreamS_A N Tryz.f52 laws_eqStreamS_s [true, true, false, true, false] []
theorem laws_eqStreamS_b0 (N : Nat) (a : Rows) (b : Rows) (ih : St → Res) (i : Int) : laws_eqStreamS_B0 N ih (laws_eqStreamS_m0 a b i) = laws_eqStreamS_l0 Vm.bad laws_eqStreamS_K a b (fun i => ih (laws_eqStreamS_m0 a b i)) i := by kernel_rfl
theorem laws_eqStreamS_n0 (N : Nat) (a : Rows) (b : Rows) (m_ : Nat) : (fun i => loopN (laws_eqStreamS_B0 N) m_ (laws_eqStreamS_m0 a b i)) = laws_eqStreamS_L0 Vm.bad laws_eqStreamS_K N a b m_ := by
  induction m_ with
  | zero => rfl
  | succ m_ ih =>
    funext i
    show laws_eqStreamS_B0 N (loopN (laws_eqStreamS_B0 N) m_) (laws_eqStreamS_m0 a b i) = _
    rw [laws_eqStreamS_b0 N a b]
    rw [ih]
    rfl
theorem laws_eqStreamS_r (N : Nat) (a : Rows) (b : Rows) : runF Tryz.prog laws_eqStreamS_G laws_eqStreamS_A N Tryz.f52 laws_eqStreamS_s (.sl a :: (.sl b :: ([]))) = laws_eqStreamS_f Vm.bad laws_eqStreamS_K N a b := by
  have run_ : runF Tryz.prog laws_eqStreamS_G laws_eqStreamS_A N Tryz.f52 laws_eqStreamS_s (.sl a :: (.sl b :: ([]))) = laws_eqStreamS_t Vm.bad laws_eqStreamS_K (fun i => loopN (laws_eqStreamS_B0 N) N (laws_eqStreamS_m0 a b i)) a b := by kernel_rfl
  refine run_.trans ?_
  unfold laws_eqStreamS_f
  have e0 : (fun i => loopN (laws_eqStreamS_B0 N) N (laws_eqStreamS_m0 a b i)) = (laws_eqStreamS_L0 Vm.bad laws_eqStreamS_K N a b N) := by
    exact laws_eqStreamS_n0 N a b N
  exact congrArg (fun l_ => laws_eqStreamS_t Vm.bad laws_eqStreamS_K l_ a b) e0
theorem laws_eqStreamS_h : Holds Tryz.prog 52 laws_eqStreamS_s := by
  refine holds_of_run (A := laws_eqStreamS_A) laws_eqStreamS_x Tryz.func52 rfl (by kernel_rfl) (of_decide_eq_true (by kernel_rfl)) (of_decide_eq_true (by kernel_rfl)) ?_
  intro ds hw hok
  replace hw : WtL ((.sl [.int .i64, .int .i64, .int .i64, .int .i64, .int .i64, .int .i64, .str, .bool]) :: ((.sl [.int .i64, .int .i64, .int .i64, .int .i64, .int .i64, .int .i64, .str, .bool]) :: ([]))) ds := hw
  obtain ⟨a, ds, rfl, h_a, hw⟩ := of_wt_sl hw
  obtain ⟨b, ds, rfl, h_b, hw⟩ := of_wt_sl hw
  obtain rfl := of_wt_nil hw
  obtain ⟨N, hN⟩ := laws_eqStreamS_c Vm.bad laws_eqStreamS_K a b h_a h_b hok
  exact ⟨N, ((laws_eqStreamS_r N a b).trans hN).trans (by kernel_rfl)⟩

def laws_eqSpread_s : Sum := { ps := [⟨[.str, .sl [.int .i64]], true⟩, ⟨[.str, .sl [.int .i64]], true⟩], rs := [⟨[.imm .bool], false⟩], fn := fun ds => (same (SSpread.decAt ds 0) (SSpread.decAt ds 2), [.bool (yes2 (SSpread.decAt ds 0) (SSpread.decAt ds 2))]) }
def laws_eqSpread_G : Ctx := [(9, laws_eqIntS_s)]
theorem laws_eqSpread_x : CtxHolds Tryz.prog laws_eqSpread_G := ctx_cons laws_eqIntS_h ctx_nil
def laws_eqSpread_A : List (Nat × Ann) := []
theorem laws_eqSpread_r (N : Nat) (a : SSpread) (b : SSpread) : runF Tryz.prog laws_eqSpread_G laws_eqSpread_A N Tryz.f108 laws_eqSpread_s (a.enc ++ (b.enc ++ ([]))) = laws_eqSpread_t Vm.bad (fun r0 => ((true, [.bool r0]) : Res)) a b := by kernel_rfl
theorem laws_eqSpread_h : Holds Tryz.prog 108 laws_eqSpread_s := by
  refine holds_of_run (A := laws_eqSpread_A) laws_eqSpread_x Tryz.func108 rfl (by kernel_rfl) (of_decide_eq_true (by kernel_rfl)) (of_decide_eq_true (by kernel_rfl)) ?_
  intro ds hw hok
  replace hw : WtL (SSpread.ct ++ (SSpread.ct ++ ([]))) ds := hw
  obtain ⟨a, ds, rfl, h_a, hw⟩ := SSpread.of_wt (r := _) hw
  obtain ⟨b, ds, rfl, h_b, hw⟩ := SSpread.of_wt (r := _) hw
  obtain rfl := of_wt_nil hw
  exact ⟨0, ((laws_eqSpread_r 0 a b).trans (laws_eqSpread_c Vm.bad _ a b h_a h_b hok)).trans (by kernel_rfl)⟩

def laws_eqSteering_s : Sum := { ps := [⟨[.sl [.int .i64, .int .i64, .int .i64, .int .i64, .int .i64, .int .i64, .int .i64, .int .i64, .int .i64], .sl [.int .i64, .int .i64, .int .i64, .int .i64, .int .i64, .int .i64, .int .i64], .str, .sl [.int .i64]], true⟩, ⟨[.sl [.int .i64, .int .i64, .int .i64, .int .i64, .int .i64, .int .i64, .int .i64, .int .i64, .int .i64], .sl [.int .i64, .int .i64, .int .i64, .int .i64, .int .i64, .int .i64, .int .i64], .str, .sl [.int .i64]], true⟩], rs := [⟨[.imm .bool], false⟩], fn := fun ds => (same (SSteering.decAt ds 0) (SSteering.decAt ds 4), [.bool (yes2 (SSteering.decAt ds 0) (SSteering.decAt ds 4))]) }
def laws_eqSteering_G : Ctx := [(106, laws_eqRuleS_s), (107, laws_eqFlowTable_s), (108, laws_eqSpread_s)]
theorem laws_eqSteering_x : CtxHolds Tryz.prog laws_eqSteering_G := ctx_cons laws_eqRuleS_h (ctx_cons laws_eqFlowTable_h (ctx_cons laws_eqSpread_h ctx_nil))
def laws_eqSteering_A : List (Nat × Ann) := []
theorem laws_eqSteering_r (N : Nat) (a : SSteering) (b : SSteering) : runF Tryz.prog laws_eqSteering_G laws_eqSteering_A N Tryz.f51 laws_eqSteering_s (a.enc ++ (b.enc ++ ([]))) = laws_eqSteering_t Vm.bad (fun r0 => ((true, [.bool r0]) : Res)) a b := by kernel_rfl
theorem laws_eqSteering_h : Holds Tryz.prog 51 laws_eqSteering_s := by
  refine holds_of_run (A := laws_eqSteering_A) laws_eqSteering_x Tryz.func51 rfl (by kernel_rfl) (of_decide_eq_true (by kernel_rfl)) (of_decide_eq_true (by kernel_rfl)) ?_
  intro ds hw hok
  replace hw : WtL (SSteering.ct ++ (SSteering.ct ++ ([]))) ds := hw
  obtain ⟨a, ds, rfl, h_a, hw⟩ := SSteering.of_wt (r := _) hw
  obtain ⟨b, ds, rfl, h_b, hw⟩ := SSteering.of_wt (r := _) hw
  obtain rfl := of_wt_nil hw
  exact ⟨0, ((laws_eqSteering_r 0 a b).trans (laws_eqSteering_c Vm.bad _ a b h_a h_b hok)).trans (by kernel_rfl)⟩

def laws_eqBoolS_s : Sum := { ps := [⟨[.sl [.bool]], false⟩, ⟨[.sl [.bool]], false⟩], rs := [⟨[.imm .bool], false⟩], fn := fun ds => (same (rR ds 0) (rR ds 1), [.bool (yes2 (rR ds 0) (rR ds 1))]) }
def laws_eqBoolS_G : Ctx := []
theorem laws_eqBoolS_x : CtxHolds Tryz.prog laws_eqBoolS_G := ctx_nil
def laws_eqBoolS_A : List (Nat × Ann) := [(4, { slots := [(0, .asis), (1, .asis), (5, .asis)], boxes := [] })]
def laws_eqBoolS_K : Bool → Res := (fun r0 => ((true, [.bool r0]) : Res))
def laws_eqBoolS_m0 (a : Rows) (b : Rows) (i : Int) : St := { n := 26, sl := [(0, .sl [.bool] a), (1, .sl [.bool] b), (5, .int .i64 i)], hp := [], ok := true, ls := [], lm := [] }
noncomputable def laws_eqBoolS_B0 (N : Nat) : (St → Res) → St → Res := loopB Tryz.prog laws_eqBoolS_G laws_eqBoolS_A N Tryz.f49 laws_eqBoolS_s [true, true, false, true, false] []
theorem laws_eqBoolS_b0 (N : Nat) (a : Rows) (b : Rows) (ih : St → Res) (i : Int) : laws_eqBoolS_B0 N ih (laws_eqBoolS_m0 a b i) = laws_eqBoolS_l0 Vm.bad laws_eqBoolS_K a b (fun i => ih (laws_eqBoolS_m0 a b i)) i := by kernel_rfl
theorem laws_eqBoolS_n0 (N : Nat) (a : Rows) (b : Rows) (m_ : Nat) : (fun i => loopN (laws_eqBoolS_B0 N) m_ (laws_eqBoolS_m0 a b i)) = laws_eqBoolS_L0 Vm.bad laws_eqBoolS_K N a b m_ := by
  induction m_ with
  | zero => rfl
  | succ m_ ih =>
    funext i
    show laws_eqBoolS_B0 N (loopN (laws_eqBoolS_B0 N) m_) (laws_eqBoolS_m0 a b i) = _
    rw [laws_eqBoolS_b0 N a b]
    rw [ih]
    rfl
theorem laws_eqBoolS_r (N : Nat) (a : Rows) (b : Rows) : runF Tryz.prog laws_eqBoolS_G laws_eqBoolS_A N Tryz.f49 laws_eqBoolS_s (.sl a :: (.sl b :: ([]))) = laws_eqBoolS_f Vm.bad laws_eqBoolS_K N a b := by
  have run_ : runF Tryz.prog laws_eqBoolS_G laws_eqBoolS_A N Tryz.f49 laws_eqBoolS_s (.sl a :: (.sl b :: ([]))) = laws_eqBoolS_t Vm.bad laws_eqBoolS_K (fun i => loopN (laws_eqBoolS_B0 N) N (laws_eqBoolS_m0 a b i)) a b := by kernel_rfl
  refine run_.trans ?_
  unfold laws_eqBoolS_f
  have e0 : (fun i => loopN (laws_eqBoolS_B0 N) N (laws_eqBoolS_m0 a b i)) = (laws_eqBoolS_L0 Vm.bad laws_eqBoolS_K N a b N) := by
    exact laws_eqBoolS_n0 N a b N
  exact congrArg (fun l_ => laws_eqBoolS_t Vm.bad laws_eqBoolS_K l_ a b) e0
theorem laws_eqBoolS_h : Holds Tryz.prog 49 laws_eqBoolS_s := by
  refine holds_of_run (A := laws_eqBoolS_A) laws_eqBoolS_x Tryz.func49 rfl (by kernel_rfl) (of_decide_eq_true (by kernel_rfl)) (of_decide_eq_true (by kernel_rfl)) ?_
  intro ds hw hok
  replace hw : WtL ((.sl [.bool]) :: ((.sl [.bool]) :: ([]))) ds := hw
  obtain ⟨a, ds, rfl, h_a, hw⟩ := of_wt_sl hw
  obtain ⟨b, ds, rfl, h_b, hw⟩ := of_wt_sl hw
  obtain rfl := of_wt_nil hw
  obtain ⟨N, hN⟩ := laws_eqBoolS_c Vm.bad laws_eqBoolS_K a b h_a h_b hok
  exact ⟨N, ((laws_eqBoolS_r N a b).trans hN).trans (by kernel_rfl)⟩

def laws_eqCounters_s : Sum := { ps := [⟨[.int .i64, .int .i64, .int .i64, .int .i64, .int .i64], true⟩, ⟨[.int .i64, .int .i64, .int .i64, .int .i64, .int .i64], true⟩], rs := [⟨[.imm .bool], false⟩], fn := fun ds => (same (SCounters.decAt ds 0) (SCounters.decAt ds 5), [.bool (yes2 (SCounters.decAt ds 0) (SCounters.decAt ds 5))]) }
def laws_eqCounters_G : Ctx := []
theorem laws_eqCounters_x : CtxHolds Tryz.prog laws_eqCounters_G := ctx_nil
def laws_eqCounters_A : List (Nat × Ann) := []
theorem laws_eqCounters_r (N : Nat) (a : SCounters) (b : SCounters) : runF Tryz.prog laws_eqCounters_G laws_eqCounters_A N Tryz.f54 laws_eqCounters_s (a.enc ++ (b.enc ++ ([]))) = laws_eqCounters_t (fun r0 => ((true, [.bool r0]) : Res)) a b := by kernel_rfl
theorem laws_eqCounters_h : Holds Tryz.prog 54 laws_eqCounters_s := by
  refine holds_of_run (A := laws_eqCounters_A) laws_eqCounters_x Tryz.func54 rfl (by kernel_rfl) (of_decide_eq_true (by kernel_rfl)) (of_decide_eq_true (by kernel_rfl)) ?_
  intro ds hw hok
  replace hw : WtL (SCounters.ct ++ (SCounters.ct ++ ([]))) ds := hw
  obtain ⟨a, ds, rfl, h_a, hw⟩ := SCounters.of_wt (r := _) hw
  obtain ⟨b, ds, rfl, h_b, hw⟩ := SCounters.of_wt (r := _) hw
  obtain rfl := of_wt_nil hw
  exact ⟨0, ((laws_eqCounters_r 0 a b).trans (laws_eqCounters_c _ a b h_a h_b hok)).trans (by kernel_rfl)⟩

def laws_eqPool_s : Sum := { ps := [⟨[.int .i64, .int .i64, .int .i64, .sl [.int .i64]], true⟩, ⟨[.int .i64, .int .i64, .int .i64, .sl [.int .i64]], true⟩], rs := [⟨[.imm .bool], false⟩], fn := fun ds => (same (SPool.decAt ds 0) (SPool.decAt ds 4), [.bool (yes2 (SPool.decAt ds 0) (SPool.decAt ds 4))]) }
def laws_eqPool_G : Ctx := [(9, laws_eqIntS_s)]
theorem laws_eqPool_x : CtxHolds Tryz.prog laws_eqPool_G := ctx_cons laws_eqIntS_h ctx_nil
def laws_eqPool_A : List (Nat × Ann) := []
theorem laws_eqPool_r (N : Nat) (a : SPool) (b : SPool) : runF Tryz.prog laws_eqPool_G laws_eqPool_A N Tryz.f102 laws_eqPool_s (a.enc ++ (b.enc ++ ([]))) = laws_eqPool_t Vm.bad (fun r0 => ((true, [.bool r0]) : Res)) a b := by kernel_rfl
theorem laws_eqPool_h : Holds Tryz.prog 102 laws_eqPool_s := by
  refine holds_of_run (A := laws_eqPool_A) laws_eqPool_x Tryz.func102 rfl (by kernel_rfl) (of_decide_eq_true (by kernel_rfl)) (of_decide_eq_true (by kernel_rfl)) ?_
  intro ds hw hok
  replace hw : WtL (SPool.ct ++ (SPool.ct ++ ([]))) ds := hw
  obtain ⟨a, ds, rfl, h_a, hw⟩ := SPool.of_wt (r := _) hw
  obtain ⟨b, ds, rfl, h_b, hw⟩ := SPool.of_wt (r := _) hw
  obtain rfl := of_wt_nil hw
  exact ⟨0, ((laws_eqPool_r 0 a b).trans (laws_eqPool_c Vm.bad _ a b h_a h_b hok)).trans (by kernel_rfl)⟩

def laws_eqPoolS_s : Sum := { ps := [⟨[.sl [.int .i64, .int .i64, .int .i64, .sl [.int .i64]]], false⟩, ⟨[.sl [.int .i64, .int .i64, .int .i64, .sl [.int .i64]]], false⟩], rs := [⟨[.imm .bool], false⟩], fn := fun ds => (same (rR ds 0) (rR ds 1), [.bool (yes2 (rR ds 0) (rR ds 1))]) }
def laws_eqPoolS_G : Ctx := [(102, laws_eqPool_s)]
theorem laws_eqPoolS_x : CtxHolds Tryz.prog laws_eqPoolS_G := ctx_cons laws_eqPool_h ctx_nil
def laws_eqPoolS_A : List (Nat × Ann) := [(4, { slots := [(0, .asis), (1, .asis), (5, .asis)], boxes := [] })]
def laws_eqPoolS_K : Bool → Res := (fun r0 => ((true, [.bool r0]) : Res))
def laws_eqPoolS_m0 (a : Rows) (b : Rows) (i : Int) : St := { n := 27, sl := [(0, .sl [.int .i64, .int .i64, .int .i64, .sl [.int .i64]] a), (1, .sl [.int .i64, .int .i64, .int .i64, .sl [.int .i64]] b), (5, .int .i64 i)], hp := [], ok := true, ls := [], lm := [] }
noncomputable def laws_eqPoolS_B0 (N : Nat) : (St → Res) → St → Res := loopB Tryz.prog laws_eqPoolS_G laws_eqPoolS_A N Tryz.f47 laws_eqPoolS_s [true, true, false, true, false] []
theorem laws_eqPoolS_b0 (N : Nat) (a : Rows) (b : Rows) (ih : St → Res) (i : Int) : laws_eqPoolS_B0 N ih (laws_eqPoolS_m0 a b i) = laws_eqPoolS_l0 Vm.bad laws_eqPoolS_K a b (fun i => ih (laws_eqPoolS_m0 a b i)) i := by kernel_rfl
theorem laws_eqPoolS_n0 (N : Nat) (a : Rows) (b : Rows) (m_ : Nat) : (fun i => loopN (laws_eqPoolS_B0 N) m_ (laws_eqPoolS_m0 a b i)) = laws_eqPoolS_L0 Vm.bad laws_eqPoolS_K N a b m_ := by
  induction m_ with
  | zero => rfl
  | succ m_ ih =>
    funext i
    show laws_eqPoolS_B0 N (loopN (laws_eqPoolS_B0 N) m_) (laws_eqPoolS_m0 a b i) = _
    rw [laws_eqPoolS_b0 N a b]
    rw [ih]
    rfl
theorem laws_eqPoolS_r (N : Nat) (a : Rows) (b : Rows) : runF Tryz.prog laws_eqPoolS_G laws_eqPoolS_A N Tryz.f47 laws_eqPoolS_s (.sl a :: (.sl b :: ([]))) = laws_eqPoolS_f Vm.bad laws_eqPoolS_K N a b := by
  have run_ : runF Tryz.prog laws_eqPoolS_G laws_eqPoolS_A N Tryz.f47 laws_eqPoolS_s (.sl a :: (.sl b :: ([]))) = laws_eqPoolS_t Vm.bad laws_eqPoolS_K (fun i => loopN (laws_eqPoolS_B0 N) N (laws_eqPoolS_m0 a b i)) a b := by kernel_rfl
  refine run_.trans ?_
  unfold laws_eqPoolS_f
  have e0 : (fun i => loopN (laws_eqPoolS_B0 N) N (laws_eqPoolS_m0 a b i)) = (laws_eqPoolS_L0 Vm.bad laws_eqPoolS_K N a b N) := by
    exact laws_eqPoolS_n0 N a b N
  exact congrArg (fun l_ => laws_eqPoolS_t Vm.bad laws_eqPoolS_K l_ a b) e0
theorem laws_eqPoolS_h : Holds Tryz.prog 47 laws_eqPoolS_s := by
  refine holds_of_run (A := laws_eqPoolS_A) laws_eqPoolS_x Tryz.func47 rfl (by kernel_rfl) (of_decide_eq_true (by kernel_rfl)) (of_decide_eq_true (by kernel_rfl)) ?_
  intro ds hw hok
  replace hw : WtL ((.sl [.int .i64, .int .i64, .int .i64, .sl [.int .i64]]) :: ((.sl [.int .i64, .int .i64, .int .i64, .sl [.int .i64]]) :: ([]))) ds := hw
  obtain ⟨a, ds, rfl, h_a, hw⟩ := of_wt_sl hw
  obtain ⟨b, ds, rfl, h_b, hw⟩ := of_wt_sl hw
  obtain rfl := of_wt_nil hw
  obtain ⟨N, hN⟩ := laws_eqPoolS_c Vm.bad laws_eqPoolS_K a b h_a h_b hok
  exact ⟨N, ((laws_eqPoolS_r N a b).trans hN).trans (by kernel_rfl)⟩

def laws_eqTxQueue_s : Sum := { ps := [⟨[.int .i64, .int .i64, .int .i64, .int .i64, .int .i64, .int .i64, .int .i64, .sl [.int .i64], .sl [.int .i64, .int .i64, .sl [.int .i64]], .int .i64], true⟩, ⟨[.int .i64, .int .i64, .int .i64, .int .i64, .int .i64, .int .i64, .int .i64, .sl [.int .i64], .sl [.int .i64, .int .i64, .sl [.int .i64]], .int .i64], true⟩], rs := [⟨[.imm .bool], false⟩], fn := fun ds => (same (STxQueue.decAt ds 0) (STxQueue.decAt ds 10), [.bool (yes2 (STxQueue.decAt ds 0) (STxQueue.decAt ds 10))]) }
def laws_eqTxQueue_G : Ctx := [(101, laws_eqRing_s), (102, laws_eqPool_s), (103, laws_eqSentS_s)]
theorem laws_eqTxQueue_x : CtxHolds Tryz.prog laws_eqTxQueue_G := ctx_cons laws_eqRing_h (ctx_cons laws_eqPool_h (ctx_cons laws_eqSentS_h ctx_nil))
def laws_eqTxQueue_A : List (Nat × Ann) := []
theorem laws_eqTxQueue_r (N : Nat) (a : STxQueue) (b : STxQueue) : runF Tryz.prog laws_eqTxQueue_G laws_eqTxQueue_A N Tryz.f45 laws_eqTxQueue_s (a.enc ++ (b.enc ++ ([]))) = laws_eqTxQueue_t Vm.bad (fun r0 => ((true, [.bool r0]) : Res)) a b := by kernel_rfl
theorem laws_eqTxQueue_h : Holds Tryz.prog 45 laws_eqTxQueue_s := by
  refine holds_of_run (A := laws_eqTxQueue_A) laws_eqTxQueue_x Tryz.func45 rfl (by kernel_rfl) (of_decide_eq_true (by kernel_rfl)) (of_decide_eq_true (by kernel_rfl)) ?_
  intro ds hw hok
  replace hw : WtL (STxQueue.ct ++ (STxQueue.ct ++ ([]))) ds := hw
  obtain ⟨a, ds, rfl, h_a, hw⟩ := STxQueue.of_wt (r := _) hw
  obtain ⟨b, ds, rfl, h_b, hw⟩ := STxQueue.of_wt (r := _) hw
  obtain rfl := of_wt_nil hw
  exact ⟨0, ((laws_eqTxQueue_r 0 a b).trans (laws_eqTxQueue_c Vm.bad _ a b h_a h_b hok)).trans (by kernel_rfl)⟩

def laws_eqHost_s : Sum := { ps := [⟨[.sl [.str], .sl [.int .i64, .int .i64, .int .i64, .bool], .int .i64, .int .i64, .int .i64, .int .i64, .int .i64, .int .i64, .int .i64, .sl [.int .i64], .sl [.int .i64, .int .i64, .sl [.int .i64]], .int .i64, .sl [.int .i64, .int .i64, .int .i64, .int .i64, .int .i64, .int .i64, .int .i64, .int .i64, .int .i64, .int .i64, .int .i64, .int .i64, .int .i64, .int .i64, .int .i64, .int .i64, .int .i64, .int .i64, .int .i64, .int .i64, .int .i64, .int .i64, .int .i64, .int .i64, .int .i64, .str, .int .i64, .int .i64, .bool, .int .i64], .sl [.int .i64, .int .i64, .int .i64, .sl [.int .i64]], .sl [.int .i64, .int .i64, .int .i64, .int .i64, .bool, .bool], .sl [.bool], .int .i64, .bool, .sl [.int .i64], .sl [.int .i64, .int .i64, .int .i64, .int .i64, .int .i64, .int .i64, .int .i64, .int .i64, .int .i64], .sl [.int .i64, .int .i64, .int .i64, .int .i64, .int .i64, .int .i64, .int .i64], .str, .sl [.int .i64], .sl [.int .i64, .int .i64, .int .i64, .int .i64, .int .i64, .int .i64, .str, .bool], .bool, .sl [.str], .sl [.int .i64], .sl [.int .i64], .int .i64, .int .i64, .int .i64, .int .i64, .int .i64], true⟩, ⟨[.sl [.str], .sl [.int .i64, .int .i64, .int .i64, .bool], .int .i64, .int .i64, .int .i64, .int .i64, .int .i64, .int .i64, .int .i64, .sl [.int .i64], .sl [.int .i64, .int .i64, .sl [.int .i64]], .int .i64, .sl [.int .i64, .int .i64, .int .i64, .int .i64, .int .i64, .int .i64, .int .i64, .int .i64, .int .i64, .int .i64, .int .i64, .int .i64, .int .i64, .int .i64, .int .i64, .int .i64, .int .i64, .int .i64, .int .i64, .int .i64, .int .i64, .int .i64, .int .i64, .int .i64, .int .i64, .str, .int .i64, .int .i64, .bool, .int .i64], .sl [.int .i64, .int .i64, .int .i64, .sl [.int .i64]], .sl [.int .i64, .int .i64, .int .i64, .int .i64, .bool, .bool], .sl [.bool], .int .i64, .bool, .sl [.int .i64], .sl [.int .i64, .int .i64, .int .i64, .int .i64, .int .i64, .int .i64, .int .i64, .int .i64, .int .i64], .sl [.int .i64, .int .i64, .int .i64, .int .i64, .int .i64, .int .i64, .int .i64], .str, .sl [.int .i64], .sl [.int .i64, .int .i64, .int .i64, .int .i64, .int .i64, .int .i64, .str, .bool], .bool, .sl [.str], .sl [.int .i64], .sl [.int .i64], .int .i64, .int .i64, .int .i64, .int .i64, .int .i64], true⟩], rs := [⟨[.imm .bool], false⟩], fn := fun ds => (same (SHost.decAt ds 0) (SHost.decAt ds 33), [.bool (yes2 (SHost.decAt ds 0) (SHost.decAt ds 33))]) }
def laws_eqHost_G : Ctx := [(9, laws_eqIntS_s), (43, laws_eqMemory_s), (44, laws_eqMappingS_s), (45, laws_eqTxQueue_s), (46, laws_eqRxQueueS_s), (47, laws_eqPoolS_s), (48, laws_eqVectorS_s), (49, laws_eqBoolS_s), (50, laws_eqFilter_s), (51, laws_eqSteering_s), (52, laws_eqStreamS_s), (53, laws_eqStringS_s), (54, laws_eqCounters_s)]
theorem laws_eqHost_x : CtxHolds Tryz.prog laws_eqHost_G := ctx_cons laws_eqIntS_h (ctx_cons laws_eqMemory_h (ctx_cons laws_eqMappingS_h (ctx_cons laws_eqTxQueue_h (ctx_cons laws_eqRxQueueS_h (ctx_cons laws_eqPoolS_h (ctx_cons laws_eqVectorS_h (ctx_cons laws_eqBoolS_h (ctx_cons laws_eqFilter_h (ctx_cons laws_eqSteering_h (ctx_cons laws_eqStreamS_h (ctx_cons laws_eqStringS_h (ctx_cons laws_eqCounters_h ctx_nil))))))))))))
def laws_eqHost_A : List (Nat × Ann) := []
theorem laws_eqHost_r (N : Nat) (a : SHost) (b : SHost) : runF Tryz.prog laws_eqHost_G laws_eqHost_A N Tryz.f10 laws_eqHost_s (a.enc ++ (b.enc ++ ([]))) = laws_eqHost_t Vm.bad (fun r0 => ((true, [.bool r0]) : Res)) a b := by kernel_rfl
theorem laws_eqHost_h : Holds Tryz.prog 10 laws_eqHost_s := by
  refine holds_of_run (A := laws_eqHost_A) laws_eqHost_x Tryz.func10 rfl (by kernel_rfl) (of_decide_eq_true (by kernel_rfl)) (of_decide_eq_true (by kernel_rfl)) ?_
  intro ds hw hok
  replace hw : WtL (SHost.ct ++ (SHost.ct ++ ([]))) ds := hw
  obtain ⟨a, ds, rfl, h_a, hw⟩ := SHost.of_wt (r := _) hw
  obtain ⟨b, ds, rfl, h_b, hw⟩ := SHost.of_wt (r := _) hw
  obtain rfl := of_wt_nil hw
  exact ⟨0, ((laws_eqHost_r 0 a b).trans (laws_eqHost_c Vm.bad _ a b h_a h_b hok)).trans (by kernel_rfl)⟩

def laws_markIntS_s : Sum := { ps := [⟨[.sl [.int .i64]], false⟩, ⟨[.int .i64], false⟩], rs := [⟨[.imm (.int .i64)], false⟩], fn := fun ds => (mko 1 (rR ds 0) (rI ds 1), [.int (markIntS (rR ds 0) (rI ds 1)).1] ++ [.sl (markIntS (rR ds 0) (rI ds 1)).2]), ms := [some (.rows [.flat 3]), none] }
def laws_markIntS_G : Ctx := []
theorem laws_markIntS_x : CtxHolds Tryz.prog laws_markIntS_G := ctx_nil
def laws_markIntS_A : List (Nat × Ann) := [(2, { slots := [(0, .asis), (1, .asis), (5, .asis)], boxes := [] })]
def laws_markIntS_K : Int → Rows → Res := (fun r0 r1 => ((true, [.int r0] ++ [.sl r1]) : Res))
def laws_markIntS_m0 (k_1 : Int) (i : Int) (a_1 : Rows) : St := { n := 1099511627795, sl := [(0, .own 640000), (1, .int .i64 k_1), (5, .int .i64 i)], hp := [(640000, .row 3 [.int .i64] a_1 false true)], ok := true, ls := [], lm := [] }
noncomputable def laws_markIntS_B0 (N : Nat) : (St → Res) → St → Res := loopBM Tryz.prog laws_markIntS_G laws_markIntS_A N Tryz.f12 laws_markIntS_s [true, false, true, false] []
theorem laws_markIntS_b0 (N : Nat) (ih : St → Res) (k_1 : Int) (i : Int) (a_1 : Rows) : laws_markIntS_B0 N ih (laws_markIntS_m0 k_1 i a_1) = laws_markIntS_l0 Vm.bad laws_markIntS_K (fun k_1 i a_1 => ih (laws_markIntS_m0 k_1 i a_1)) k_1 i a_1 := by kernel_rfl
theorem laws_markIntS_n0 (N : Nat) (m_ : Nat) : (fun k_1 i a_1 => loopN (laws_markIntS_B0 N) m_ (laws_markIntS_m0 k_1 i a_1)) = laws_markIntS_L0 Vm.bad laws_markIntS_K N m_ := by
  induction m_ with
  | zero => rfl
  | succ m_ ih =>
    funext k_1 i a_1
    show laws_markIntS_B0 N (loopN (laws_markIntS_B0 N) m_) (laws_markIntS_m0 k_1 i a_1) = _
    rw [laws_markIntS_b0 N]
    rw [ih]
    rfl
theorem laws_markIntS_r (N : Nat) (a : Rows) (k : Int) : runFM Tryz.prog laws_markIntS_G laws_markIntS_A N Tryz.f12 laws_markIntS_s (.sl a :: (.int k :: ([]))) = laws_markIntS_f Vm.bad laws_markIntS_K N a k := by
  have run_ : runFM Tryz.prog laws_markIntS_G laws_markIntS_A N Tryz.f12 laws_markIntS_s (.sl a :: (.int k :: ([]))) = laws_markIntS_t Vm.bad laws_markIntS_K (fun k_1 i a_1 => loopN (laws_markIntS_B0 N) N (laws_markIntS_m0 k_1 i a_1)) a k := by kernel_rfl
  refine run_.trans ?_
  unfold laws_markIntS_f
  have e0 : (fun k_1 i a_1 => loopN (laws_markIntS_B0 N) N (laws_markIntS_m0 k_1 i a_1)) = (laws_markIntS_L0 Vm.bad laws_markIntS_K N N) := by
    exact laws_markIntS_n0 N N
  exact congrArg (fun l_ => laws_markIntS_t Vm.bad laws_markIntS_K l_ a k) e0
theorem laws_markIntS_h : HoldsM Tryz.prog 12 laws_markIntS_s := by
  refine holdsM_of_run (A := laws_markIntS_A) laws_markIntS_x Tryz.func12 rfl (by kernel_rfl) (of_decide_eq_true (by kernel_rfl)) (of_decide_eq_true (by kernel_rfl)) (by kernel_rfl) (fun ds => by kernel_rfl) ?_
  intro ds hw hok
  replace hw : WtL ((.sl [.int .i64]) :: ((.int .i64) :: ([]))) ds := hw
  obtain ⟨a, ds, rfl, h_a, hw⟩ := of_wt_sl hw
  obtain ⟨k, ds, rfl, h_k, hw⟩ := of_wt_int hw
  obtain rfl := of_wt_nil hw
  obtain ⟨N, hN⟩ := laws_markIntS_c Vm.bad laws_markIntS_K a k h_a h_k hok
  exact ⟨N, ((laws_markIntS_r N a k).trans hN).trans (by kernel_rfl)⟩

def laws_heldIntS_s : Sum := { ps := [⟨[.sl [.int .i64]], false⟩, ⟨[.int .i64], false⟩], rs := [⟨[.imm (.int .i64)], false⟩], fn := fun ds => (hdo fIntS 1 (rR ds 0) (rI ds 1), [.int (heldIntS (rR ds 0) (rI ds 1))]) }
def laws_heldIntS_G : Ctx := []
theorem laws_heldIntS_x : CtxHolds Tryz.prog laws_heldIntS_G := ctx_nil
def laws_heldIntS_A : List (Nat × Ann) := [(2, { slots := [(0, .asis), (1, .asis), (5, .asis)], boxes := [] })]
def laws_heldIntS_K : Int → Res := (fun r0 => ((true, [.int r0]) : Res))
def laws_heldIntS_m0 (a : Rows) (k_1 : Int) (i : Int) : St := { n := 21, sl := [(0, .sl [.int .i64] a), (1, .int .i64 k_1), (5, .int .i64 i)], hp := [], ok := true, ls := [], lm := [] }
noncomputable def laws_heldIntS_B0 (N : Nat) : (St → Res) → St → Res := loopB Tryz.prog laws_heldIntS_G laws_heldIntS_A N Tryz.f13 laws_heldIntS_s [true, false, true, false] []
theorem laws_heldIntS_b0 (N : Nat) (a : Rows) (ih : St → Res) (k_1 : Int) (i : Int) : laws_heldIntS_B0 N ih (laws_heldIntS_m0 a k_1 i) = laws_heldIntS_l0 Vm.bad laws_heldIntS_K a (fun k_1 i => ih (laws_heldIntS_m0 a k_1 i)) k_1 i := by kernel_rfl
theorem laws_heldIntS_n0 (N : Nat) (a : Rows) (m_ : Nat) : (fun k_1 i => loopN (laws_heldIntS_B0 N) m_ (laws_heldIntS_m0 a k_1 i)) = laws_heldIntS_L0 Vm.bad laws_heldIntS_K N a m_ := by
  induction m_ with
  | zero => rfl
  | succ m_ ih =>
    funext k_1 i
    show laws_heldIntS_B0 N (loopN (laws_heldIntS_B0 N) m_) (laws_heldIntS_m0 a k_1 i) = _
    rw [laws_heldIntS_b0 N a]
    rw [ih]
    rfl
theorem laws_heldIntS_r (N : Nat) (a : Rows) (k : Int) : runF Tryz.prog laws_heldIntS_G laws_heldIntS_A N Tryz.f13 laws_heldIntS_s (.sl a :: (.int k :: ([]))) = laws_heldIntS_f Vm.bad laws_heldIntS_K N a k := by
  have run_ : runF Tryz.prog laws_heldIntS_G laws_heldIntS_A N Tryz.f13 laws_heldIntS_s (.sl a :: (.int k :: ([]))) = laws_heldIntS_t Vm.bad laws_heldIntS_K (fun k_1 i => loopN (laws_heldIntS_B0 N) N (laws_heldIntS_m0 a k_1 i)) a k := by kernel_rfl
  refine run_.trans ?_
  unfold laws_heldIntS_f
  have e0 : (fun k_1 i => loopN (laws_heldIntS_B0 N) N (laws_heldIntS_m0 a k_1 i)) = (laws_heldIntS_L0 Vm.bad laws_heldIntS_K N a N) := by
    exact laws_heldIntS_n0 N a N
  exact congrArg (fun l_ => laws_heldIntS_t Vm.bad laws_heldIntS_K l_ a k) e0
theorem laws_heldIntS_h : Holds Tryz.prog 13 laws_heldIntS_s := by
  refine holds_of_run (A := laws_heldIntS_A) laws_heldIntS_x Tryz.func13 rfl (by kernel_rfl) (of_decide_eq_true (by kernel_rfl)) (of_decide_eq_true (by kernel_rfl)) ?_
  intro ds hw hok
  replace hw : WtL ((.sl [.int .i64]) :: ((.int .i64) :: ([]))) ds := hw
  obtain ⟨a, ds, rfl, h_a, hw⟩ := of_wt_sl hw
  obtain ⟨k, ds, rfl, h_k, hw⟩ := of_wt_int hw
  obtain rfl := of_wt_nil hw
  obtain ⟨N, hN⟩ := laws_heldIntS_c Vm.bad laws_heldIntS_K a k h_a h_k hok
  exact ⟨N, ((laws_heldIntS_r N a k).trans hN).trans (by kernel_rfl)⟩

def laws_markBoolS_s : Sum := { ps := [⟨[.sl [.bool]], false⟩, ⟨[.int .i64], false⟩], rs := [⟨[.imm (.int .i64)], false⟩], fn := fun ds => (mko 1 (rR ds 0) (rI ds 1), [.int (markBoolS (rR ds 0) (rI ds 1)).1] ++ [.sl (markBoolS (rR ds 0) (rI ds 1)).2]), ms := [some (.rows [.flat 4]), none] }
def laws_markBoolS_G : Ctx := []
theorem laws_markBoolS_x : CtxHolds Tryz.prog laws_markBoolS_G := ctx_nil
def laws_markBoolS_A : List (Nat × Ann) := [(2, { slots := [(0, .asis), (1, .asis), (5, .asis)], boxes := [] })]
def laws_markBoolS_K : Int → Rows → Res := (fun r0 r1 => ((true, [.int r0] ++ [.sl r1]) : Res))
def laws_markBoolS_m0 (k_1 : Int) (i : Int) (a_1 : Rows) : St := { n := 1099511627797, sl := [(0, .own 640000), (1, .int .i64 k_1), (5, .int .i64 i)], hp := [(640000, .row 4 [.bool] a_1 false true)], ok := true, ls := [], lm := [] }
noncomputable def laws_markBoolS_B0 (N : Nat) : (St → Res) → St → Res := loopBM Tryz.prog laws_markBoolS_G laws_markBoolS_A N Tryz.f61 laws_markBoolS_s [true, false, true, false] []
theorem laws_markBoolS_b0 (N : Nat) (ih : St → Res) (k_1 : Int) (i : Int) (a_1 : Rows) : laws_markBoolS_B0 N ih (laws_markBoolS_m0 k_1 i a_1) = laws_markBoolS_l0 Vm.bad laws_markBoolS_K (fun k_1 i a_1 => ih (laws_markBoolS_m0 k_1 i a_1)) k_1 i a_1 := by kernel_rfl
theorem laws_markBoolS_n0 (N : Nat) (m_ : Nat) : (fun k_1 i a_1 => loopN (laws_markBoolS_B0 N) m_ (laws_markBoolS_m0 k_1 i a_1)) = laws_markBoolS_L0 Vm.bad laws_markBoolS_K N m_ := by
  induction m_ with
  | zero => rfl
  | succ m_ ih =>
    funext k_1 i a_1
    show laws_markBoolS_B0 N (loopN (laws_markBoolS_B0 N) m_) (laws_markBoolS_m0 k_1 i a_1) = _
    rw [laws_markBoolS_b0 N]
    rw [ih]
    rfl
theorem laws_markBoolS_r (N : Nat) (a : Rows) (k : Int) : runFM Tryz.prog laws_markBoolS_G laws_markBoolS_A N Tryz.f61 laws_markBoolS_s (.sl a :: (.int k :: ([]))) = laws_markBoolS_f Vm.bad laws_markBoolS_K N a k := by
  have run_ : runFM Tryz.prog laws_markBoolS_G laws_markBoolS_A N Tryz.f61 laws_markBoolS_s (.sl a :: (.int k :: ([]))) = laws_markBoolS_t Vm.bad laws_markBoolS_K (fun k_1 i a_1 => loopN (laws_markBoolS_B0 N) N (laws_markBoolS_m0 k_1 i a_1)) a k := by kernel_rfl
  refine run_.trans ?_
  unfold laws_markBoolS_f
  have e0 : (fun k_1 i a_1 => loopN (laws_markBoolS_B0 N) N (laws_markBoolS_m0 k_1 i a_1)) = (laws_markBoolS_L0 Vm.bad laws_markBoolS_K N N) := by
    exact laws_markBoolS_n0 N N
  exact congrArg (fun l_ => laws_markBoolS_t Vm.bad laws_markBoolS_K l_ a k) e0
theorem laws_markBoolS_h : HoldsM Tryz.prog 61 laws_markBoolS_s := by
  refine holdsM_of_run (A := laws_markBoolS_A) laws_markBoolS_x Tryz.func61 rfl (by kernel_rfl) (of_decide_eq_true (by kernel_rfl)) (of_decide_eq_true (by kernel_rfl)) (by kernel_rfl) (fun ds => by kernel_rfl) ?_
  intro ds hw hok
  replace hw : WtL ((.sl [.bool]) :: ((.int .i64) :: ([]))) ds := hw
  obtain ⟨a, ds, rfl, h_a, hw⟩ := of_wt_sl hw
  obtain ⟨k, ds, rfl, h_k, hw⟩ := of_wt_int hw
  obtain rfl := of_wt_nil hw
  obtain ⟨N, hN⟩ := laws_markBoolS_c Vm.bad laws_markBoolS_K a k h_a h_k hok
  exact ⟨N, ((laws_markBoolS_r N a k).trans hN).trans (by kernel_rfl)⟩

def laws_markText_s : Sum := { ps := [⟨[.int .i64], false⟩], rs := [⟨[.imm .str], false⟩], fn := fun ds => (true, [.str (markText (rI ds 0))]) }
def laws_markText_G : Ctx := []
theorem laws_markText_x : CtxHolds Tryz.prog laws_markText_G := ctx_nil
def laws_markText_A : List (Nat × Ann) := [(4, { slots := [(0, .asis), (3, .asis)], boxes := [] })]
def laws_markText_K : Bytes → Res := (fun r0 => ((true, [.str r0]) : Res))
def laws_markText_m0 (k_1 : Int) (out_ : Bytes) : St := { n := 20, sl := [(0, .int .i64 k_1), (3, .str out_)], hp := [], ok := true, ls := [], lm := [] }
noncomputable def laws_markText_B0 (N : Nat) : (St → Res) → St → Res := loopB Tryz.prog laws_markText_G laws_markText_A N Tryz.f112 laws_markText_s [true, true, true, false, false] []
theorem laws_markText_b0 (N : Nat) (ih : St → Res) (k_1 : Int) (out_ : Bytes) : laws_markText_B0 N ih (laws_markText_m0 k_1 out_) = laws_markText_l0 Vm.bad laws_markText_K (fun k_1 out_ => ih (laws_markText_m0 k_1 out_)) k_1 out_ := by kernel_rfl
theorem laws_markText_n0 (N : Nat) (m_ : Nat) : (fun k_1 out_ => loopN (laws_markText_B0 N) m_ (laws_markText_m0 k_1 out_)) = laws_markText_L0 Vm.bad laws_markText_K N m_ := by
  induction m_ with
  | zero => rfl
  | succ m_ ih =>
    funext k_1 out_
    show laws_markText_B0 N (loopN (laws_markText_B0 N) m_) (laws_markText_m0 k_1 out_) = _
    rw [laws_markText_b0 N]
    rw [ih]
    rfl
theorem laws_markText_r (N : Nat) (k : Int) : runF Tryz.prog laws_markText_G laws_markText_A N Tryz.f112 laws_markText_s (.int k :: ([])) = laws_markText_f Vm.bad laws_markText_K N k := by
  have run_ : runF Tryz.prog laws_markText_G laws_markText_A N Tryz.f112 laws_markText_s (.int k :: ([])) = laws_markText_t Vm.bad laws_markText_K (fun k_1 out_ => loopN (laws_markText_B0 N) N (laws_markText_m0 k_1 out_)) k := by kernel_rfl
  refine run_.trans ?_
  unfold laws_markText_f
  have e0 : (fun k_1 out_ => loopN (laws_markText_B0 N) N (laws_markText_m0 k_1 out_)) = (laws_markText_L0 Vm.bad laws_markText_K N N) := by
    exact laws_markText_n0 N N
  exact congrArg (fun l_ => laws_markText_t Vm.bad laws_markText_K l_ k) e0
theorem laws_markText_h : Holds Tryz.prog 112 laws_markText_s := by
  refine holds_of_run (A := laws_markText_A) laws_markText_x Tryz.func112 rfl (by kernel_rfl) (of_decide_eq_true (by kernel_rfl)) (of_decide_eq_true (by kernel_rfl)) ?_
  intro ds hw hok
  replace hw : WtL ((.int .i64) :: ([])) ds := hw
  obtain ⟨k, ds, rfl, h_k, hw⟩ := of_wt_int hw
  obtain rfl := of_wt_nil hw
  obtain ⟨N, hN⟩ := laws_markText_c Vm.bad laws_markText_K k h_k
  exact ⟨N, ((laws_markText_r N k).trans hN).trans (by kernel_rfl)⟩

def laws_markStringS_s : Sum := { ps := [⟨[.sl [.str]], false⟩, ⟨[.int .i64], false⟩], rs := [⟨[.imm (.int .i64)], false⟩], fn := fun ds => (mko 1 (rR ds 0) (rI ds 1), [.int (markStringS (rR ds 0) (rI ds 1)).1] ++ [.sl (markStringS (rR ds 0) (rI ds 1)).2]), ms := [some (.rows [.flat 9]), none] }
def laws_markStringS_G : Ctx := [(112, laws_markText_s)]
theorem laws_markStringS_x : CtxHolds Tryz.prog laws_markStringS_G := ctx_cons laws_markText_h ctx_nil
def laws_markStringS_A : List (Nat × Ann) := [(2, { slots := [(0, .asis), (1, .asis), (5, .asis)], boxes := [] })]
def laws_markStringS_K : Int → Rows → Res := (fun r0 r1 => ((true, [.int r0] ++ [.sl r1]) : Res))
def laws_markStringS_m0 (k_1 : Int) (i : Int) (a_1 : Rows) : St := { n := 1099511627796, sl := [(0, .own 640000), (1, .int .i64 k_1), (5, .int .i64 i)], hp := [(640000, .row 9 [.str] a_1 false true)], ok := true, ls := [], lm := [] }
noncomputable def laws_markStringS_B0 (N : Nat) : (St → Res) → St → Res := loopBM Tryz.prog laws_markStringS_G laws_markStringS_A N Tryz.f65 laws_markStringS_s [true, false, true, false] []
theorem laws_markStringS_b0 (N : Nat) (ih : St → Res) (k_1 : Int) (i : Int) (a_1 : Rows) : laws_markStringS_B0 N ih (laws_markStringS_m0 k_1 i a_1) = laws_markStringS_l0 Vm.bad laws_markStringS_K (fun k_1 i a_1 => ih (laws_markStringS_m0 k_1 i a_1)) k_1 i a_1 := by kernel_rfl
theorem laws_markStringS_n0 (N : Nat) (m_ : Nat) : (fun k_1 i a_1 => loopN (laws_markStringS_B0 N) m_ (laws_markStringS_m0 k_1 i a_1)) = laws_markStringS_L0 Vm.bad laws_markStringS_K N m_ := by
  induction m_ with
  | zero => rfl
  | succ m_ ih =>
    funext k_1 i a_1
    show laws_markStringS_B0 N (loopN (laws_markStringS_B0 N) m_) (laws_markStringS_m0 k_1 i a_1) = _
    rw [laws_markStringS_b0 N]
    rw [ih]
    rfl
theorem laws_markStringS_r (N : Nat) (a : Rows) (k : Int) : runFM Tryz.prog laws_markStringS_G laws_markStringS_A N Tryz.f65 laws_markStringS_s (.sl a :: (.int k :: ([]))) = laws_markStringS_f Vm.bad laws_markStringS_K N a k := by
  have run_ : runFM Tryz.prog laws_markStringS_G laws_markStringS_A N Tryz.f65 laws_markStringS_s (.sl a :: (.int k :: ([]))) = laws_markStringS_t Vm.bad laws_markStringS_K (fun k_1 i a_1 => loopN (laws_markStringS_B0 N) N (laws_markStringS_m0 k_1 i a_1)) a k := by kernel_rfl
  refine run_.trans ?_
  unfold laws_markStringS_f
  have e0 : (fun k_1 i a_1 => loopN (laws_markStringS_B0 N) N (laws_markStringS_m0 k_1 i a_1)) = (laws_markStringS_L0 Vm.bad laws_markStringS_K N N) := by
    exact laws_markStringS_n0 N N
  exact congrArg (fun l_ => laws_markStringS_t Vm.bad laws_markStringS_K l_ a k) e0
theorem laws_markStringS_h : HoldsM Tryz.prog 65 laws_markStringS_s := by
  refine holdsM_of_run (A := laws_markStringS_A) laws_markStringS_x Tryz.func65 rfl (by kernel_rfl) (of_decide_eq_true (by kernel_rfl)) (of_decide_eq_true (by kernel_rfl)) (by kernel_rfl) (fun ds => by kernel_rfl) ?_
  intro ds hw hok
  replace hw : WtL ((.sl [.str]) :: ((.int .i64) :: ([]))) ds := hw
  obtain ⟨a, ds, rfl, h_a, hw⟩ := of_wt_sl hw
  obtain ⟨k, ds, rfl, h_k, hw⟩ := of_wt_int hw
  obtain rfl := of_wt_nil hw
  obtain ⟨N, hN⟩ := laws_markStringS_c Vm.bad laws_markStringS_K a k h_a h_k hok
  exact ⟨N, ((laws_markStringS_r N a k).trans hN).trans (by kernel_rfl)⟩

end
end Go.Proofs.YthpmalpdnnbkgaaGreat.Pl
