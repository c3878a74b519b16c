/- The contracts of functions of the program: each computes what its plain form says. Conditions: none. -/
import Derived.Test.YtjknoknkbfhelaaPLs
import Derived.Test.YtjknoknkbfhelaaRows
set_option linter.unusedVariables false
set_option linter.unusedSimpArgs false
set_option maxRecDepth 100000
namespace Go.Proofs.Ytjknoknkbfhelaa.Pl
open Vm
noncomputable section

def laws_szFlashStep_s : Sum := { ps := [⟨[.int .i64, .int .i64, .int .i64, .str], true⟩, ⟨[.int .i64], false⟩], rs := [⟨[.imm (.int .i64)], false⟩], fn := fun ds => (true, [.int (laws_szFlashStep (SFlashStep.decAt ds 0) (rI ds 4))]) }
def laws_szFlashStep_G : Ctx := []
theorem laws_szFlashStep_x : CtxHolds Try.prog laws_szFlashStep_G := ctx_nil
def laws_szFlashStep_A : List (Nat × Ann) := []
theorem laws_szFlashStep_r (N : Nat) (a : SFlashStep) (left : Int) : runF Try.prog laws_szFlashStep_G laws_szFlashStep_A N Try.f14 laws_szFlashStep_s (a.enc ++ (.int left :: ([]))) = laws_szFlashStep_t (fun r0 => ((true, [.int r0]) : Res)) a left := by kernel_rfl
theorem laws_szFlashStep_h : Holds Try.prog 14 laws_szFlashStep_s := by
  refine holds_of_run (A := laws_szFlashStep_A) laws_szFlashStep_x Try.func14 rfl (by kernel_rfl) (of_decide_eq_true (by kernel_rfl)) (of_decide_eq_true (by kernel_rfl)) ?_
  intro ds hw hok
  replace hw : WtL (SFlashStep.ct ++ ((.int .i64) :: ([]))) ds := hw
  obtain ⟨a, ds, rfl, h_a, hw⟩ := SFlashStep.of_wt (r := _) hw
  obtain ⟨left, ds, rfl, h_left, hw⟩ := of_wt_int hw
  obtain rfl := of_wt_nil hw
  exact ⟨0, ((laws_szFlashStep_r 0 a left).trans (laws_szFlashStep_c _ a left)).trans (by kernel_rfl)⟩

def laws_szFlashStepS_s : Sum := { ps := [⟨[.sl [.int .i64, .int .i64, .int .i64, .str]], false⟩, ⟨[.int .i64], false⟩], rs := [⟨[.imm (.int .i64)], false⟩], fn := fun ds => (true, [.int (laws_szFlashStepS (rR ds 0) (rI ds 1))]) }
def laws_szFlashStepS_G : Ctx := [(14, laws_szFlashStep_s)]
theorem laws_szFlashStepS_x : CtxHolds Try.prog laws_szFlashStepS_G := ctx_cons laws_szFlashStep_h ctx_nil
def laws_szFlashStepS_A : List (Nat × Ann) := [(5, { slots := [(0, .asis), (1, .asis), (5, .asis)], boxes := [] })]
def laws_szFlashStepS_K : Int → Res := (fun r0 => ((true, [.int r0]) : Res))
def laws_szFlashStepS_m0 (a : Rows) (left_1 : Int) (i : Int) : St := { n := 27, sl := [(0, .sl [.int .i64, .int .i64, .int .i64, .str] a), (1, .int .i64 left_1), (5, .int .i64 i)], hp := [], ok := true, ls := [], lm := [] }
noncomputable def laws_szFlashStepS_B0 (N : Nat) : (St → Res) → St → Res := loopB Try.prog laws_szFlashStepS_G laws_szFlashStepS_A N Try.f39 laws_szFlashStepS_s [true, true, true, false, true, false] []
theorem laws_szFlashStepS_b0 (N : Nat) (a : Rows) (ih : St → Res) (left_1 : Int) (i : Int) : laws_szFlashStepS_B0 N ih (laws_szFlashStepS_m0 a left_1 i) = laws_szFlashStepS_l0 Vm.bad laws_szFlashStepS_K a (fun left_1 i => ih (laws_szFlashStepS_m0 a left_1 i)) left_1 i := by kernel_rfl
theorem laws_szFlashStepS_n0 (N : Nat) (a : Rows) (m_ : Nat) : (fun left_1 i => loopN (laws_szFlashStepS_B0 N) m_ (laws_szFlashStepS_m0 a left_1 i)) = laws_szFlashStepS_L0 Vm.bad laws_szFlashStepS_K N a m_ := by
  induction m_ with
  | zero => rfl
  | succ m_ ih =>
    funext left_1 i
    show laws_szFlashStepS_B0 N (loopN (laws_szFlashStepS_B0 N) m_) (laws_szFlashStepS_m0 a left_1 i) = _
    rw [laws_szFlashStepS_b0 N a]
    rw [ih]
    rfl
theorem laws_szFlashStepS_r (N : Nat) (a : Rows) (left : Int) : runF Try.prog laws_szFlashStepS_G laws_szFlashStepS_A N Try.f39 laws_szFlashStepS_s (.sl a :: (.int left :: ([]))) = laws_szFlashStepS_f Vm.bad laws_szFlashStepS_K N a left := by
  have h : runF Try.prog laws_szFlashStepS_G laws_szFlashStepS_A N Try.f39 laws_szFlashStepS_s (.sl a :: (.int left :: ([]))) = laws_szFlashStepS_t Vm.bad laws_szFlashStepS_K (fun left_1 i => loopN (laws_szFlashStepS_B0 N) N (laws_szFlashStepS_m0 a left_1 i)) a left := by kernel_rfl
  refine h.trans ?_
  unfold laws_szFlashStepS_f
  have e0 : (fun left_1 i => loopN (laws_szFlashStepS_B0 N) N (laws_szFlashStepS_m0 a left_1 i)) = (laws_szFlashStepS_L0 Vm.bad laws_szFlashStepS_K N a N) := by
    exact laws_szFlashStepS_n0 N a N
  exact congrArg (fun l_ => laws_szFlashStepS_t Vm.bad laws_szFlashStepS_K l_ a left) e0
theorem laws_szFlashStepS_h : Holds Try.prog 39 laws_szFlashStepS_s := by
  refine holds_of_run (A := laws_szFlashStepS_A) laws_szFlashStepS_x Try.func39 rfl (by kernel_rfl) (of_decide_eq_true (by kernel_rfl)) (of_decide_eq_true (by kernel_rfl)) ?_
  intro ds hw hok
  replace hw : WtL ((.sl [.int .i64, .int .i64, .int .i64, .str]) :: ((.int .i64) :: ([]))) ds := hw
  obtain ⟨a, ds, rfl, h_a, hw⟩ := of_wt_sl hw
  obtain ⟨left, ds, rfl, h_left, hw⟩ := of_wt_int hw
  obtain rfl := of_wt_nil hw
  obtain ⟨N, hN⟩ := laws_szFlashStepS_c Vm.bad laws_szFlashStepS_K a left h_a h_left
  exact ⟨N, ((laws_szFlashStepS_r N a left).trans hN).trans (by kernel_rfl)⟩

def laws_eqFlashStep_s : Sum := { ps := [⟨[.int .i64, .int .i64, .int .i64, .str], true⟩, ⟨[.int .i64, .int .i64, .int .i64, .str], true⟩], rs := [⟨[.imm .bool], false⟩], fn := fun ds => (same (SFlashStep.decAt ds 0) (SFlashStep.decAt ds 4), [.bool (yes2 (SFlashStep.decAt ds 0) (SFlashStep.decAt ds 4))]) }
def laws_eqFlashStep_G : Ctx := []
theorem laws_eqFlashStep_x : CtxHolds Try.prog laws_eqFlashStep_G := ctx_nil
def laws_eqFlashStep_A : List (Nat × Ann) := []
theorem laws_eqFlashStep_r (N : Nat) (a : SFlashStep) (b : SFlashStep) : runF Try.prog laws_eqFlashStep_G laws_eqFlashStep_A N Try.f67 laws_eqFlashStep_s (a.enc ++ (b.enc ++ ([]))) = laws_eqFlashStep_t (fun r0 => ((true, [.bool r0]) : Res)) a b := by kernel_rfl
theorem laws_eqFlashStep_h : Holds Try.prog 67 laws_eqFlashStep_s := by
  refine holds_of_run (A := laws_eqFlashStep_A) laws_eqFlashStep_x Try.func67 rfl (by kernel_rfl) (of_decide_eq_true (by kernel_rfl)) (of_decide_eq_true (by kernel_rfl)) ?_
  intro ds hw hok
  replace hw : WtL (SFlashStep.ct ++ (SFlashStep.ct ++ ([]))) ds := hw
  obtain ⟨a, ds, rfl, h_a, hw⟩ := SFlashStep.of_wt (r := _) hw
  obtain ⟨b, ds, rfl, h_b, hw⟩ := SFlashStep.of_wt (r := _) hw
  obtain rfl := of_wt_nil hw
  exact ⟨0, ((laws_eqFlashStep_r 0 a b).trans (laws_eqFlashStep_c _ a b h_a h_b hok)).trans (by kernel_rfl)⟩

def laws_eqFlashStepS_s : Sum := { ps := [⟨[.sl [.int .i64, .int .i64, .int .i64, .str]], false⟩, ⟨[.sl [.int .i64, .int .i64, .int .i64, .str]], false⟩], rs := [⟨[.imm .bool], false⟩], fn := fun ds => (same (rR ds 0) (rR ds 1), [.bool (yes2 (rR ds 0) (rR ds 1))]) }
def laws_eqFlashStepS_G : Ctx := [(67, laws_eqFlashStep_s)]
theorem laws_eqFlashStepS_x : CtxHolds Try.prog laws_eqFlashStepS_G := ctx_cons laws_eqFlashStep_h ctx_nil
def laws_eqFlashStepS_A : List (Nat × Ann) := [(4, { slots := [(0, .asis), (1, .asis), (5, .asis)], boxes := [] })]
def laws_eqFlashStepS_K : Bool → Res := (fun r0 => ((true, [.bool r0]) : Res))
def laws_eqFlashStepS_m0 (a : Rows) (b : Rows) (i : Int) : St := { n := 27, sl := [(0, .sl [.int .i64, .int .i64, .int .i64, .str] a), (1, .sl [.int .i64, .int .i64, .int .i64, .str] b), (5, .int .i64 i)], hp := [], ok := true, ls := [], lm := [] }
noncomputable def laws_eqFlashStepS_B0 (N : Nat) : (St → Res) → St → Res := loopB Try.prog laws_eqFlashStepS_G laws_eqFlashStepS_A N Try.f43 laws_eqFlashStepS_s [true, true, false, true, false] []
theorem laws_eqFlashStepS_b0 (N : Nat) (a : Rows) (b : Rows) (ih : St → Res) (i : Int) : laws_eqFlashStepS_B0 N ih (laws_eqFlashStepS_m0 a b i) = laws_eqFlashStepS_l0 Vm.bad laws_eqFlashStepS_K a b (fun i => ih (laws_eqFlashStepS_m0 a b i)) i := by kernel_rfl
theorem laws_eqFlashStepS_n0 (N : Nat) (a : Rows) (b : Rows) (m_ : Nat) : (fun i => loopN (laws_eqFlashStepS_B0 N) m_ (laws_eqFlashStepS_m0 a b i)) = laws_eqFlashStepS_L0 Vm.bad laws_eqFlashStepS_K N a b m_ := by
  induction m_ with
  | zero => rfl
  | succ m_ ih =>
    funext i
    show laws_eqFlashStepS_B0 N (loopN (laws_eqFlashStepS_B0 N) m_) (laws_eqFlashStepS_m0 a b i) = _
    rw [laws_eqFlashStepS_b0 N a b]
    rw [ih]
    rfl
theorem laws_eqFlashStepS_r (N : Nat) (a : Rows) (b : Rows) : runF Try.prog laws_eqFlashStepS_G laws_eqFlashStepS_A N Try.f43 laws_eqFlashStepS_s (.sl a :: (.sl b :: ([]))) = laws_eqFlashStepS_f Vm.bad laws_eqFlashStepS_K N a b := by
  have h : runF Try.prog laws_eqFlashStepS_G laws_eqFlashStepS_A N Try.f43 laws_eqFlashStepS_s (.sl a :: (.sl b :: ([]))) = laws_eqFlashStepS_t Vm.bad laws_eqFlashStepS_K (fun i => loopN (laws_eqFlashStepS_B0 N) N (laws_eqFlashStepS_m0 a b i)) a b := by kernel_rfl
  refine h.trans ?_
  unfold laws_eqFlashStepS_f
  have e0 : (fun i => loopN (laws_eqFlashStepS_B0 N) N (laws_eqFlashStepS_m0 a b i)) = (laws_eqFlashStepS_L0 Vm.bad laws_eqFlashStepS_K N a b N) := by
    exact laws_eqFlashStepS_n0 N a b N
  exact congrArg (fun l_ => laws_eqFlashStepS_t Vm.bad laws_eqFlashStepS_K l_ a b) e0
theorem laws_eqFlashStepS_h : Holds Try.prog 43 laws_eqFlashStepS_s := by
  refine holds_of_run (A := laws_eqFlashStepS_A) laws_eqFlashStepS_x Try.func43 rfl (by kernel_rfl) (of_decide_eq_true (by kernel_rfl)) (of_decide_eq_true (by kernel_rfl)) ?_
  intro ds hw hok
  replace hw : WtL ((.sl [.int .i64, .int .i64, .int .i64, .str]) :: ((.sl [.int .i64, .int .i64, .int .i64, .str]) :: ([]))) ds := hw
  obtain ⟨a, ds, rfl, h_a, hw⟩ := of_wt_sl hw
  obtain ⟨b, ds, rfl, h_b, hw⟩ := of_wt_sl hw
  obtain rfl := of_wt_nil hw
  obtain ⟨N, hN⟩ := laws_eqFlashStepS_c Vm.bad laws_eqFlashStepS_K a b h_a h_b hok
  exact ⟨N, ((laws_eqFlashStepS_r N a b).trans hN).trans (by kernel_rfl)⟩

def laws_toStringS_s : Sum := { ps := [⟨[.sl [.str]], false⟩], rs := [⟨[.own 9 [.str]], false⟩], fn := fun ds => (sm (rR ds 0), [.sl (idf (rR ds 0))]) }
def laws_toStringS_G : Ctx := []
theorem laws_toStringS_x : CtxHolds Try.prog laws_toStringS_G := ctx_nil
def laws_toStringS_A : List (Nat × Ann) := [(3, { slots := [(0, .asis), (3, .asis), (4, .asis)], boxes := [] })]
def laws_toStringS_K : Rows → Res := (fun r0 => ((true, [.sl r0]) : Res))
def laws_toStringS_m0 (a : Rows) (i : Int) (out_ : Rows) : St := { n := 22, sl := [(0, .sl [.str] a), (3, .own 640192), (4, .int .i64 i)], hp := [(640192, .row 9 [.str] out_ false true)], ok := true, ls := [], lm := [] }
noncomputable def laws_toStringS_B0 (N : Nat) : (St → Res) → St → Res := loopB Try.prog laws_toStringS_G laws_toStringS_A N Try.f52 laws_toStringS_s [true, true, false, true, false] []
theorem laws_toStringS_b0 (N : Nat) (a : Rows) (ih : St → Res) (i : Int) (out_ : Rows) : laws_toStringS_B0 N ih (laws_toStringS_m0 a i out_) = laws_toStringS_l0 Vm.bad laws_toStringS_K a (fun i out_ => ih (laws_toStringS_m0 a i out_)) i out_ := by kernel_rfl
theorem laws_toStringS_n0 (N : Nat) (a : Rows) (m_ : Nat) : (fun i out_ => loopN (laws_toStringS_B0 N) m_ (laws_toStringS_m0 a i out_)) = laws_toStringS_L0 Vm.bad laws_toStringS_K N a m_ := by
  induction m_ with
  | zero => rfl
  | succ m_ ih =>
    funext i out_
    show laws_toStringS_B0 N (loopN (laws_toStringS_B0 N) m_) (laws_toStringS_m0 a i out_) = _
    rw [laws_toStringS_b0 N a]
    rw [ih]
    rfl
theorem laws_toStringS_r (N : Nat) (a : Rows) : runF Try.prog laws_toStringS_G laws_toStringS_A N Try.f52 laws_toStringS_s (.sl a :: ([])) = laws_toStringS_f Vm.bad laws_toStringS_K N a := by
  have h : runF Try.prog laws_toStringS_G laws_toStringS_A N Try.f52 laws_toStringS_s (.sl a :: ([])) = laws_toStringS_t Vm.bad laws_toStringS_K (fun i out_ => loopN (laws_toStringS_B0 N) N (laws_toStringS_m0 a i out_)) a := by kernel_rfl
  refine h.trans ?_
  unfold laws_toStringS_f
  have e0 : (fun i out_ => loopN (laws_toStringS_B0 N) N (laws_toStringS_m0 a i out_)) = (laws_toStringS_L0 Vm.bad laws_toStringS_K N a N) := by
    exact laws_toStringS_n0 N a N
  exact congrArg (fun l_ => laws_toStringS_t Vm.bad laws_toStringS_K l_ a) e0
theorem laws_toStringS_h : Holds Try.prog 52 laws_toStringS_s := by
  refine holds_of_run (A := laws_toStringS_A) laws_toStringS_x Try.func52 rfl (by kernel_rfl) (of_decide_eq_true (by kernel_rfl)) (of_decide_eq_true (by kernel_rfl)) ?_
  intro ds hw hok
  replace hw : WtL ((.sl [.str]) :: ([])) ds := hw
  obtain ⟨a, ds, rfl, h_a, hw⟩ := of_wt_sl hw
  obtain rfl := of_wt_nil hw
  obtain ⟨N, hN⟩ := laws_toStringS_c Vm.bad laws_toStringS_K a h_a hok
  exact ⟨N, ((laws_toStringS_r N a).trans hN).trans (by kernel_rfl)⟩

def laws_toFlashStep_s : Sum := { ps := [⟨[.int .i64, .int .i64, .int .i64, .str], true⟩], rs := [⟨[.imm (.int .i64), .imm (.int .i64), .imm (.int .i64), .imm .str], true⟩], fn := fun ds => (true, SFlashStep.enc (idf (SFlashStep.decAt ds 0))) }
def laws_toFlashStep_G : Ctx := []
theorem laws_toFlashStep_x : CtxHolds Try.prog laws_toFlashStep_G := ctx_nil
def laws_toFlashStep_A : List (Nat × Ann) := []
theorem laws_toFlashStep_r (N : Nat) (a : SFlashStep) : runF Try.prog laws_toFlashStep_G laws_toFlashStep_A N Try.f16 laws_toFlashStep_s (a.enc ++ ([])) = laws_toFlashStep_t (fun r0 => ((true, SFlashStep.enc r0) : Res)) a := by kernel_rfl
theorem laws_toFlashStep_h : Holds Try.prog 16 laws_toFlashStep_s := by
  refine holds_of_run (A := laws_toFlashStep_A) laws_toFlashStep_x Try.func16 rfl (by kernel_rfl) (of_decide_eq_true (by kernel_rfl)) (of_decide_eq_true (by kernel_rfl)) ?_
  intro ds hw hok
  replace hw : WtL (SFlashStep.ct ++ ([])) ds := hw
  obtain ⟨a, ds, rfl, h_a, hw⟩ := SFlashStep.of_wt (r := _) hw
  obtain rfl := of_wt_nil hw
  exact ⟨0, ((laws_toFlashStep_r 0 a).trans (laws_toFlashStep_c _ a h_a)).trans (by kernel_rfl)⟩

def laws_toFlashStepS_s : Sum := { ps := [⟨[.sl [.int .i64, .int .i64, .int .i64, .str]], false⟩], rs := [⟨[.own 26 [.int .i64, .int .i64, .int .i64, .str]], false⟩], fn := fun ds => (sm (rR ds 0), [.sl (idf (rR ds 0))]) }
def laws_toFlashStepS_G : Ctx := [(16, laws_toFlashStep_s)]
theorem laws_toFlashStepS_x : CtxHolds Try.prog laws_toFlashStepS_G := ctx_cons laws_toFlashStep_h ctx_nil
def laws_toFlashStepS_A : List (Nat × Ann) := [(3, { slots := [(0, .asis), (3, .asis), (4, .asis)], boxes := [] })]
def laws_toFlashStepS_K : Rows → Res := (fun r0 => ((true, [.sl r0]) : Res))
def laws_toFlashStepS_m0 (a : Rows) (i : Int) (out_ : Rows) : St := { n := 23, sl := [(0, .sl [.int .i64, .int .i64, .int .i64, .str] a), (3, .own 640192), (4, .int .i64 i)], hp := [(640192, .row 26 [.int .i64, .int .i64, .int .i64, .str] out_ false true)], ok := true, ls := [], lm := [] }
noncomputable def laws_toFlashStepS_B0 (N : Nat) : (St → Res) → St → Res := loopB Try.prog laws_toFlashStepS_G laws_toFlashStepS_A N Try.f41 laws_toFlashStepS_s [true, true, false, true, false] []
theorem laws_toFlashStepS_b0 (N : Nat) (a : Rows) (ih : St → Res) (i : Int) (out_ : Rows) : laws_toFlashStepS_B0 N ih (laws_toFlashStepS_m0 a i out_) = laws_toFlashStepS_l0 Vm.bad laws_toFlashStepS_K a (fun i out_ => ih (laws_toFlashStepS_m0 a i out_)) i out_ := by kernel_rfl
theorem laws_toFlashStepS_n0 (N : Nat) (a : Rows) (m_ : Nat) : (fun i out_ => loopN (laws_toFlashStepS_B0 N) m_ (laws_toFlashStepS_m0 a i out_)) = laws_toFlashStepS_L0 Vm.bad laws_toFlashStepS_K N a m_ := by
  induction m_ with
  | zero => rfl
  | succ m_ ih =>
    funext i out_
    show laws_toFlashStepS_B0 N (loopN (laws_toFlashStepS_B0 N) m_) (laws_toFlashStepS_m0 a i out_) = _
    rw [laws_toFlashStepS_b0 N a]
    rw [ih]
    rfl
theorem laws_toFlashStepS_r (N : Nat) (a : Rows) : runF Try.prog laws_toFlashStepS_G laws_toFlashStepS_A N Try.f41 laws_toFlashStepS_s (.sl a :: ([])) = laws_toFlashStepS_f Vm.bad laws_toFlashStepS_K N a := by
  have h : runF Try.prog laws_toFlashStepS_G laws_toFlashStepS_A N Try.f41 laws_toFlashStepS_s (.sl a :: ([])) = laws_toFlashStepS_t Vm.bad laws_toFlashStepS_K (fun i out_ => loopN (laws_toFlashStepS_B0 N) N (laws_toFlashStepS_m0 a i out_)) a := by kernel_rfl
  refine h.trans ?_
  unfold laws_toFlashStepS_f
  have e0 : (fun i out_ => loopN (laws_toFlashStepS_B0 N) N (laws_toFlashStepS_m0 a i out_)) = (laws_toFlashStepS_L0 Vm.bad laws_toFlashStepS_K N a N) := by
    exact laws_toFlashStepS_n0 N a N
  exact congrArg (fun l_ => laws_toFlashStepS_t Vm.bad laws_toFlashStepS_K l_ a) e0
theorem laws_toFlashStepS_h : Holds Try.prog 41 laws_toFlashStepS_s := by
  refine holds_of_run (A := laws_toFlashStepS_A) laws_toFlashStepS_x Try.func41 rfl (by kernel_rfl) (of_decide_eq_true (by kernel_rfl)) (of_decide_eq_true (by kernel_rfl)) ?_
  intro ds hw hok
  replace hw : WtL ((.sl [.int .i64, .int .i64, .int .i64, .str]) :: ([])) ds := hw
  obtain ⟨a, ds, rfl, h_a, hw⟩ := of_wt_sl hw
  obtain rfl := of_wt_nil hw
  obtain ⟨N, hN⟩ := laws_toFlashStepS_c Vm.bad laws_toFlashStepS_K a h_a hok
  exact ⟨N, ((laws_toFlashStepS_r N a).trans hN).trans (by kernel_rfl)⟩

def laws_szStringS_s : Sum := { ps := [⟨[.sl [.str]], false⟩, ⟨[.int .i64], false⟩], rs := [⟨[.imm (.int .i64)], false⟩], fn := fun ds => (true, [.int (laws_szStringS (rR ds 0) (rI ds 1))]) }
def laws_szStringS_G : Ctx := []
theorem laws_szStringS_x : CtxHolds Try.prog laws_szStringS_G := ctx_nil
def laws_szStringS_A : List (Nat × Ann) := [(5, { slots := [(0, .asis), (1, .asis), (5, .asis)], boxes := [] })]
def laws_szStringS_K : Int → Res := (fun r0 => ((true, [.int r0]) : Res))
def laws_szStringS_m0 (a : Rows) (left_1 : Int) (i : Int) : St := { n := 28, sl := [(0, .sl [.str] a), (1, .int .i64 left_1), (5, .int .i64 i)], hp := [], ok := true, ls := [], lm := [] }
noncomputable def laws_szStringS_B0 (N : Nat) : (St → Res) → St → Res := loopB Try.prog laws_szStringS_G laws_szStringS_A N Try.f51 laws_szStringS_s [true, true, true, false, true, false] []
theorem laws_szStringS_b0 (N : Nat) (a : Rows) (ih : St → Res) (left_1 : Int) (i : Int) : laws_szStringS_B0 N ih (laws_szStringS_m0 a left_1 i) = laws_szStringS_l0 Vm.bad laws_szStringS_K a (fun left_1 i => ih (laws_szStringS_m0 a left_1 i)) left_1 i := by kernel_rfl
theorem laws_szStringS_n0 (N : Nat) (a : Rows) (m_ : Nat) : (fun left_1 i => loopN (laws_szStringS_B0 N) m_ (laws_szStringS_m0 a left_1 i)) = laws_szStringS_L0 Vm.bad laws_szStringS_K N a m_ := by
  induction m_ with
  | zero => rfl
  | succ m_ ih =>
    funext left_1 i
    show laws_szStringS_B0 N (loopN (laws_szStringS_B0 N) m_) (laws_szStringS_m0 a left_1 i) = _
    rw [laws_szStringS_b0 N a]
    rw [ih]
    rfl
theorem laws_szStringS_r (N : Nat) (a : Rows) (left : Int) : runF Try.prog laws_szStringS_G laws_szStringS_A N Try.f51 laws_szStringS_s (.sl a :: (.int left :: ([]))) = laws_szStringS_f Vm.bad laws_szStringS_K N a left := by
  have h : runF Try.prog laws_szStringS_G laws_szStringS_A N Try.f51 laws_szStringS_s (.sl a :: (.int left :: ([]))) = laws_szStringS_t Vm.bad laws_szStringS_K (fun left_1 i => loopN (laws_szStringS_B0 N) N (laws_szStringS_m0 a left_1 i)) a left := by kernel_rfl
  refine h.trans ?_
  unfold laws_szStringS_f
  have e0 : (fun left_1 i => loopN (laws_szStringS_B0 N) N (laws_szStringS_m0 a left_1 i)) = (laws_szStringS_L0 Vm.bad laws_szStringS_K N a N) := by
    exact laws_szStringS_n0 N a N
  exact congrArg (fun l_ => laws_szStringS_t Vm.bad laws_szStringS_K l_ a left) e0
theorem laws_szStringS_h : Holds Try.prog 51 laws_szStringS_s := by
  refine holds_of_run (A := laws_szStringS_A) laws_szStringS_x Try.func51 rfl (by kernel_rfl) (of_decide_eq_true (by kernel_rfl)) (of_decide_eq_true (by kernel_rfl)) ?_
  intro ds hw hok
  replace hw : WtL ((.sl [.str]) :: ((.int .i64) :: ([]))) ds := hw
  obtain ⟨a, ds, rfl, h_a, hw⟩ := of_wt_sl hw
  obtain ⟨left, ds, rfl, h_left, hw⟩ := of_wt_int hw
  obtain rfl := of_wt_nil hw
  obtain ⟨N, hN⟩ := laws_szStringS_c Vm.bad laws_szStringS_K a left h_a h_left
  exact ⟨N, ((laws_szStringS_r N a left).trans hN).trans (by kernel_rfl)⟩

def laws_eqStringS_s : Sum := { ps := [⟨[.sl [.str]], false⟩, ⟨[.sl [.str]], false⟩], rs := [⟨[.imm .bool], false⟩], fn := fun ds => (same (rR ds 0) (rR ds 1), [.bool (yes2 (rR ds 0) (rR ds 1))]) }
def laws_eqStringS_G : Ctx := []
theorem laws_eqStringS_x : CtxHolds Try.prog laws_eqStringS_G := ctx_nil
def laws_eqStringS_A : List (Nat × Ann) := [(4, { slots := [(0, .asis), (1, .asis), (5, .asis)], boxes := [] })]
def laws_eqStringS_K : Bool → Res := (fun r0 => ((true, [.bool r0]) : Res))
def laws_eqStringS_m0 (a : Rows) (b : Rows) (i : Int) : St := { n := 26, sl := [(0, .sl [.str] a), (1, .sl [.str] b), (5, .int .i64 i)], hp := [], ok := true, ls := [], lm := [] }
noncomputable def laws_eqStringS_B0 (N : Nat) : (St → Res) → St → Res := loopB Try.prog laws_eqStringS_G laws_eqStringS_A N Try.f53 laws_eqStringS_s [true, true, false, true, false] []
theorem laws_eqStringS_b0 (N : Nat) (a : Rows) (b : Rows) (ih : St → Res) (i : Int) : laws_eqStringS_B0 N ih (laws_eqStringS_m0 a b i) = laws_eqStringS_l0 Vm.bad laws_eqStringS_K a b (fun i => ih (laws_eqStringS_m0 a b i)) i := by kernel_rfl
theorem laws_eqStringS_n0 (N : Nat) (a : Rows) (b : Rows) (m_ : Nat) : (fun i => loopN (laws_eqStringS_B0 N) m_ (laws_eqStringS_m0 a b i)) = laws_eqStringS_L0 Vm.bad laws_eqStringS_K N a b m_ := by
  induction m_ with
  | zero => rfl
  | succ m_ ih =>
    funext i
    show laws_eqStringS_B0 N (loopN (laws_eqStringS_B0 N) m_) (laws_eqStringS_m0 a b i) = _
    rw [laws_eqStringS_b0 N a b]
    rw [ih]
    rfl
theorem laws_eqStringS_r (N : Nat) (a : Rows) (b : Rows) : runF Try.prog laws_eqStringS_G laws_eqStringS_A N Try.f53 laws_eqStringS_s (.sl a :: (.sl b :: ([]))) = laws_eqStringS_f Vm.bad laws_eqStringS_K N a b := by
  have h : runF Try.prog laws_eqStringS_G laws_eqStringS_A N Try.f53 laws_eqStringS_s (.sl a :: (.sl b :: ([]))) = laws_eqStringS_t Vm.bad laws_eqStringS_K (fun i => loopN (laws_eqStringS_B0 N) N (laws_eqStringS_m0 a b i)) a b := by kernel_rfl
  refine h.trans ?_
  unfold laws_eqStringS_f
  have e0 : (fun i => loopN (laws_eqStringS_B0 N) N (laws_eqStringS_m0 a b i)) = (laws_eqStringS_L0 Vm.bad laws_eqStringS_K N a b N) := by
    exact laws_eqStringS_n0 N a b N
  exact congrArg (fun l_ => laws_eqStringS_t Vm.bad laws_eqStringS_K l_ a b) e0
theorem laws_eqStringS_h : Holds Try.prog 53 laws_eqStringS_s := by
  refine holds_of_run (A := laws_eqStringS_A) laws_eqStringS_x Try.func53 rfl (by kernel_rfl) (of_decide_eq_true (by kernel_rfl)) (of_decide_eq_true (by kernel_rfl)) ?_
  intro ds hw hok
  replace hw : WtL ((.sl [.str]) :: ((.sl [.str]) :: ([]))) ds := hw
  obtain ⟨a, ds, rfl, h_a, hw⟩ := of_wt_sl hw
  obtain ⟨b, ds, rfl, h_b, hw⟩ := of_wt_sl hw
  obtain rfl := of_wt_nil hw
  obtain ⟨N, hN⟩ := laws_eqStringS_c Vm.bad laws_eqStringS_K a b h_a h_b hok
  exact ⟨N, ((laws_eqStringS_r N a b).trans hN).trans (by kernel_rfl)⟩

def laws_toFlash_s : Sum := { ps := [⟨[.sl [.str]], true⟩], rs := [⟨[.own 9 [.str]], true⟩], fn := fun ds => (laws_toFlash_ok (SFlash.decAt ds 0), SFlash.enc (idf (SFlash.decAt ds 0))) }
def laws_toFlash_G : Ctx := [(52, laws_toStringS_s)]
theorem laws_toFlash_x : CtxHolds Try.prog laws_toFlash_G := ctx_cons laws_toStringS_h ctx_nil
def laws_toFlash_A : List (Nat × Ann) := []
theorem laws_toFlash_r (N : Nat) (a : SFlash) : runF Try.prog laws_toFlash_G laws_toFlash_A N Try.f20 laws_toFlash_s (a.enc ++ ([])) = laws_toFlash_t Vm.bad (fun r0 => ((true, SFlash.enc r0) : Res)) a := by kernel_rfl
theorem laws_toFlash_h : Holds Try.prog 20 laws_toFlash_s := by
  refine holds_of_run (A := laws_toFlash_A) laws_toFlash_x Try.func20 rfl (by kernel_rfl) (of_decide_eq_true (by kernel_rfl)) (of_decide_eq_true (by kernel_rfl)) ?_
  intro ds hw hok
  replace hw : WtL (SFlash.ct ++ ([])) ds := hw
  obtain ⟨a, ds, rfl, h_a, hw⟩ := SFlash.of_wt (r := _) hw
  obtain rfl := of_wt_nil hw
  exact ⟨0, ((laws_toFlash_r 0 a).trans (laws_toFlash_c Vm.bad _ a h_a hok)).trans (by kernel_rfl)⟩

def laws_szFlash_s : Sum := { ps := [⟨[.sl [.str]], true⟩, ⟨[.int .i64], false⟩], rs := [⟨[.imm (.int .i64)], false⟩], fn := fun ds => (true, [.int (laws_szFlash (SFlash.decAt ds 0) (rI ds 1))]) }
def laws_szFlash_G : Ctx := [(51, laws_szStringS_s)]
theorem laws_szFlash_x : CtxHolds Try.prog laws_szFlash_G := ctx_cons laws_szStringS_h ctx_nil
def laws_szFlash_A : List (Nat × Ann) := []
theorem laws_szFlash_r (N : Nat) (a : SFlash) (left : Int) : runF Try.prog laws_szFlash_G laws_szFlash_A N Try.f18 laws_szFlash_s (a.enc ++ (.int left :: ([]))) = laws_szFlash_t (fun r0 => ((true, [.int r0]) : Res)) a left := by kernel_rfl
theorem laws_szFlash_h : Holds Try.prog 18 laws_szFlash_s := by
  refine holds_of_run (A := laws_szFlash_A) laws_szFlash_x Try.func18 rfl (by kernel_rfl) (of_decide_eq_true (by kernel_rfl)) (of_decide_eq_true (by kernel_rfl)) ?_
  intro ds hw hok
  replace hw : WtL (SFlash.ct ++ ((.int .i64) :: ([]))) ds := hw
  obtain ⟨a, ds, rfl, h_a, hw⟩ := SFlash.of_wt (r := _) hw
  obtain ⟨left, ds, rfl, h_left, hw⟩ := of_wt_int hw
  obtain rfl := of_wt_nil hw
  exact ⟨0, ((laws_szFlash_r 0 a left).trans (laws_szFlash_c _ a left)).trans (by kernel_rfl)⟩

def laws_eqFlash_s : Sum := { ps := [⟨[.sl [.str]], true⟩, ⟨[.sl [.str]], true⟩], rs := [⟨[.imm .bool], false⟩], fn := fun ds => (same (SFlash.decAt ds 0) (SFlash.decAt ds 1), [.bool (yes2 (SFlash.decAt ds 0) (SFlash.decAt ds 1))]) }
def laws_eqFlash_G : Ctx := [(53, laws_eqStringS_s)]
theorem laws_eqFlash_x : CtxHolds Try.prog laws_eqFlash_G := ctx_cons laws_eqStringS_h ctx_nil
def laws_eqFlash_A : List (Nat × Ann) := []
theorem laws_eqFlash_r (N : Nat) (a : SFlash) (b : SFlash) : runF Try.prog laws_eqFlash_G laws_eqFlash_A N Try.f22 laws_eqFlash_s (a.enc ++ (b.enc ++ ([]))) = laws_eqFlash_t Vm.bad (fun r0 => ((true, [.bool r0]) : Res)) a b := by kernel_rfl
theorem laws_eqFlash_h : Holds Try.prog 22 laws_eqFlash_s := by
  refine holds_of_run (A := laws_eqFlash_A) laws_eqFlash_x Try.func22 rfl (by kernel_rfl) (of_decide_eq_true (by kernel_rfl)) (of_decide_eq_true (by kernel_rfl)) ?_
  intro ds hw hok
  replace hw : WtL (SFlash.ct ++ (SFlash.ct ++ ([]))) ds := hw
  obtain ⟨a, ds, rfl, h_a, hw⟩ := SFlash.of_wt (r := _) hw
  obtain ⟨b, ds, rfl, h_b, hw⟩ := SFlash.of_wt (r := _) hw
  obtain rfl := of_wt_nil hw
  exact ⟨0, ((laws_eqFlash_r 0 a b).trans (laws_eqFlash_c Vm.bad _ a b h_a h_b hok)).trans (by kernel_rfl)⟩

def laws_markText_s : Sum := { ps := [⟨[.int .i64], false⟩], rs := [⟨[.imm .str], false⟩], fn := fun ds => (true, [.str (markText (rI ds 0))]) }
def laws_markText_G : Ctx := []
theorem laws_markText_x : CtxHolds Try.prog laws_markText_G := ctx_nil
def laws_markText_A : List (Nat × Ann) := [(4, { slots := [(0, .asis), (3, .asis)], boxes := [] })]
def laws_markText_K : Bytes → Res := (fun r0 => ((true, [.str r0]) : Res))
def laws_markText_m0 (k_1 : Int) (out_ : Bytes) : St := { n := 20, sl := [(0, .int .i64 k_1), (3, .str out_)], hp := [], ok := true, ls := [], lm := [] }
noncomputable def laws_markText_B0 (N : Nat) : (St → Res) → St → Res := loopB Try.prog laws_markText_G laws_markText_A N Try.f68 laws_markText_s [true, true, true, false, false] []
theorem laws_markText_b0 (N : Nat) (ih : St → Res) (k_1 : Int) (out_ : Bytes) : laws_markText_B0 N ih (laws_markText_m0 k_1 out_) = laws_markText_l0 Vm.bad laws_markText_K (fun k_1 out_ => ih (laws_markText_m0 k_1 out_)) k_1 out_ := by kernel_rfl
theorem laws_markText_n0 (N : Nat) (m_ : Nat) : (fun k_1 out_ => loopN (laws_markText_B0 N) m_ (laws_markText_m0 k_1 out_)) = laws_markText_L0 Vm.bad laws_markText_K N m_ := by
  induction m_ with
  | zero => rfl
  | succ m_ ih =>
    funext k_1 out_
    show laws_markText_B0 N (loopN (laws_markText_B0 N) m_) (laws_markText_m0 k_1 out_) = _
    rw [laws_markText_b0 N]
    rw [ih]
    rfl
theorem laws_markText_r (N : Nat) (k : Int) : runF Try.prog laws_markText_G laws_markText_A N Try.f68 laws_markText_s (.int k :: ([])) = laws_markText_f Vm.bad laws_markText_K N k := by
  have h : runF Try.prog laws_markText_G laws_markText_A N Try.f68 laws_markText_s (.int k :: ([])) = laws_markText_t Vm.bad laws_markText_K (fun k_1 out_ => loopN (laws_markText_B0 N) N (laws_markText_m0 k_1 out_)) k := by kernel_rfl
  refine h.trans ?_
  unfold laws_markText_f
  have e0 : (fun k_1 out_ => loopN (laws_markText_B0 N) N (laws_markText_m0 k_1 out_)) = (laws_markText_L0 Vm.bad laws_markText_K N N) := by
    exact laws_markText_n0 N N
  exact congrArg (fun l_ => laws_markText_t Vm.bad laws_markText_K l_ k) e0
theorem laws_markText_h : Holds Try.prog 68 laws_markText_s := by
  refine holds_of_run (A := laws_markText_A) laws_markText_x Try.func68 rfl (by kernel_rfl) (of_decide_eq_true (by kernel_rfl)) (of_decide_eq_true (by kernel_rfl)) ?_
  intro ds hw hok
  replace hw : WtL ((.int .i64) :: ([])) ds := hw
  obtain ⟨k, ds, rfl, h_k, hw⟩ := of_wt_int hw
  obtain rfl := of_wt_nil hw
  obtain ⟨N, hN⟩ := laws_markText_c Vm.bad laws_markText_K k h_k
  exact ⟨N, ((laws_markText_r N k).trans hN).trans (by kernel_rfl)⟩

def laws_markStringS_s : Sum := { ps := [⟨[.sl [.str]], false⟩, ⟨[.int .i64], false⟩], rs := [⟨[.imm (.int .i64)], false⟩], fn := fun ds => (mko 1 (rR ds 0) (rI ds 1), [.int (markStringS (rR ds 0) (rI ds 1)).1] ++ [.sl (markStringS (rR ds 0) (rI ds 1)).2]), ms := [some (.rows [9]), none] }
def laws_markStringS_G : Ctx := [(68, laws_markText_s)]
theorem laws_markStringS_x : CtxHolds Try.prog laws_markStringS_G := ctx_cons laws_markText_h ctx_nil
def laws_markStringS_A : List (Nat × Ann) := [(2, { slots := [(0, .asis), (1, .asis), (5, .asis)], boxes := [] })]
def laws_markStringS_K : Int → Rows → Res := (fun r0 r1 => ((true, [.int r0] ++ [.sl r1]) : Res))
def laws_markStringS_m0 (k_1 : Int) (i : Int) (a_1 : Rows) : St := { n := 1099511627796, sl := [(0, .own 640000), (1, .int .i64 k_1), (5, .int .i64 i)], hp := [(640000, .row 9 [.str] a_1 false true)], ok := true, ls := [], lm := [] }
noncomputable def laws_markStringS_B0 (N : Nat) : (St → Res) → St → Res := loopBM Try.prog laws_markStringS_G laws_markStringS_A N Try.f65 laws_markStringS_s [true, false, true, false] []
theorem laws_markStringS_b0 (N : Nat) (ih : St → Res) (k_1 : Int) (i : Int) (a_1 : Rows) : laws_markStringS_B0 N ih (laws_markStringS_m0 k_1 i a_1) = laws_markStringS_l0 Vm.bad laws_markStringS_K (fun k_1 i a_1 => ih (laws_markStringS_m0 k_1 i a_1)) k_1 i a_1 := by kernel_rfl
theorem laws_markStringS_n0 (N : Nat) (m_ : Nat) : (fun k_1 i a_1 => loopN (laws_markStringS_B0 N) m_ (laws_markStringS_m0 k_1 i a_1)) = laws_markStringS_L0 Vm.bad laws_markStringS_K N m_ := by
  induction m_ with
  | zero => rfl
  | succ m_ ih =>
    funext k_1 i a_1
    show laws_markStringS_B0 N (loopN (laws_markStringS_B0 N) m_) (laws_markStringS_m0 k_1 i a_1) = _
    rw [laws_markStringS_b0 N]
    rw [ih]
    rfl
theorem laws_markStringS_r (N : Nat) (a : Rows) (k : Int) : runFM Try.prog laws_markStringS_G laws_markStringS_A N Try.f65 laws_markStringS_s (.sl a :: (.int k :: ([]))) = laws_markStringS_f Vm.bad laws_markStringS_K N a k := by
  have h : runFM Try.prog laws_markStringS_G laws_markStringS_A N Try.f65 laws_markStringS_s (.sl a :: (.int k :: ([]))) = laws_markStringS_t Vm.bad laws_markStringS_K (fun k_1 i a_1 => loopN (laws_markStringS_B0 N) N (laws_markStringS_m0 k_1 i a_1)) a k := by kernel_rfl
  refine h.trans ?_
  unfold laws_markStringS_f
  have e0 : (fun k_1 i a_1 => loopN (laws_markStringS_B0 N) N (laws_markStringS_m0 k_1 i a_1)) = (laws_markStringS_L0 Vm.bad laws_markStringS_K N N) := by
    exact laws_markStringS_n0 N N
  exact congrArg (fun l_ => laws_markStringS_t Vm.bad laws_markStringS_K l_ a k) e0
theorem laws_markStringS_h : HoldsM Try.prog 65 laws_markStringS_s := by
  refine holdsM_of_run (A := laws_markStringS_A) laws_markStringS_x Try.func65 rfl (by kernel_rfl) (of_decide_eq_true (by kernel_rfl)) (of_decide_eq_true (by kernel_rfl)) (by kernel_rfl) (fun ds => by kernel_rfl) ?_
  intro ds hw hok
  replace hw : WtL ((.sl [.str]) :: ((.int .i64) :: ([]))) ds := hw
  obtain ⟨a, ds, rfl, h_a, hw⟩ := of_wt_sl hw
  obtain ⟨k, ds, rfl, h_k, hw⟩ := of_wt_int hw
  obtain rfl := of_wt_nil hw
  obtain ⟨N, hN⟩ := laws_markStringS_c Vm.bad laws_markStringS_K a k h_a h_k hok
  exact ⟨N, ((laws_markStringS_r N a k).trans hN).trans (by kernel_rfl)⟩

def laws_heldStringS_s : Sum := { ps := [⟨[.sl [.str]], false⟩, ⟨[.int .i64], false⟩], rs := [⟨[.imm (.int .i64)], false⟩], fn := fun ds => (hdo fStringS 1 (rR ds 0) (rI ds 1), [.int (heldStringS (rR ds 0) (rI ds 1))]) }
def laws_heldStringS_G : Ctx := [(68, laws_markText_s)]
theorem laws_heldStringS_x : CtxHolds Try.prog laws_heldStringS_G := ctx_cons laws_markText_h ctx_nil
def laws_heldStringS_A : List (Nat × Ann) := [(2, { slots := [(0, .asis), (1, .asis), (5, .asis)], boxes := [] })]
def laws_heldStringS_K : Int → Res := (fun r0 => ((true, [.int r0]) : Res))
def laws_heldStringS_m0 (a : Rows) (k_1 : Int) (i : Int) : St := { n := 22, sl := [(0, .sl [.str] a), (1, .int .i64 k_1), (5, .int .i64 i)], hp := [], ok := true, ls := [], lm := [] }
noncomputable def laws_heldStringS_B0 (N : Nat) : (St → Res) → St → Res := loopB Try.prog laws_heldStringS_G laws_heldStringS_A N Try.f66 laws_heldStringS_s [true, false, true, false] []
theorem laws_heldStringS_b0 (N : Nat) (a : Rows) (ih : St → Res) (k_1 : Int) (i : Int) : laws_heldStringS_B0 N ih (laws_heldStringS_m0 a k_1 i) = laws_heldStringS_l0 Vm.bad laws_heldStringS_K a (fun k_1 i => ih (laws_heldStringS_m0 a k_1 i)) k_1 i := by kernel_rfl
theorem laws_heldStringS_n0 (N : Nat) (a : Rows) (m_ : Nat) : (fun k_1 i => loopN (laws_heldStringS_B0 N) m_ (laws_heldStringS_m0 a k_1 i)) = laws_heldStringS_L0 Vm.bad laws_heldStringS_K N a m_ := by
  induction m_ with
  | zero => rfl
  | succ m_ ih =>
    funext k_1 i
    show laws_heldStringS_B0 N (loopN (laws_heldStringS_B0 N) m_) (laws_heldStringS_m0 a k_1 i) = _
    rw [laws_heldStringS_b0 N a]
    rw [ih]
    rfl
theorem laws_heldStringS_r (N : Nat) (a : Rows) (k : Int) : runF Try.prog laws_heldStringS_G laws_heldStringS_A N Try.f66 laws_heldStringS_s (.sl a :: (.int k :: ([]))) = laws_heldStringS_f Vm.bad laws_heldStringS_K N a k := by
  have h : runF Try.prog laws_heldStringS_G laws_heldStringS_A N Try.f66 laws_heldStringS_s (.sl a :: (.int k :: ([]))) = laws_heldStringS_t Vm.bad laws_heldStringS_K (fun k_1 i => loopN (laws_heldStringS_B0 N) N (laws_heldStringS_m0 a k_1 i)) a k := by kernel_rfl
  refine h.trans ?_
  unfold laws_heldStringS_f
  have e0 : (fun k_1 i => loopN (laws_heldStringS_B0 N) N (laws_heldStringS_m0 a k_1 i)) = (laws_heldStringS_L0 Vm.bad laws_heldStringS_K N a N) := by
    exact laws_heldStringS_n0 N a N
  exact congrArg (fun l_ => laws_heldStringS_t Vm.bad laws_heldStringS_K l_ a k) e0
theorem laws_heldStringS_h : Holds Try.prog 66 laws_heldStringS_s := by
  refine holds_of_run (A := laws_heldStringS_A) laws_heldStringS_x Try.func66 rfl (by kernel_rfl) (of_decide_eq_true (by kernel_rfl)) (of_decide_eq_true (by kernel_rfl)) ?_
  intro ds hw hok
  replace hw : WtL ((.sl [.str]) :: ((.int .i64) :: ([]))) ds := hw
  obtain ⟨a, ds, rfl, h_a, hw⟩ := of_wt_sl hw
  obtain ⟨k, ds, rfl, h_k, hw⟩ := of_wt_int hw
  obtain rfl := of_wt_nil hw
  obtain ⟨N, hN⟩ := laws_heldStringS_c Vm.bad laws_heldStringS_K a k h_a h_k hok
  exact ⟨N, ((laws_heldStringS_r N a k).trans hN).trans (by kernel_rfl)⟩

def laws_markFlashStepS_s : Sum := { ps := [⟨[.sl [.int .i64, .int .i64, .int .i64, .str]], false⟩, ⟨[.int .i64], false⟩], rs := [⟨[.imm (.int .i64)], false⟩], fn := fun ds => (mko 4 (rR ds 0) (rI ds 1), [.int (markFlashStepS (rR ds 0) (rI ds 1)).1] ++ [.sl (markFlashStepS (rR ds 0) (rI ds 1)).2]), ms := [some (.rows [26]), none] }
def laws_markFlashStepS_G : Ctx := [(68, laws_markText_s)]
theorem laws_markFlashStepS_x : CtxHolds Try.prog laws_markFlashStepS_G := ctx_cons laws_markText_h ctx_nil
def laws_markFlashStepS_A : List (Nat × Ann) := [(2, { slots := [(0, .asis), (1, .asis), (5, .asis)], boxes := [] })]
def laws_markFlashStepS_K : Int → Rows → Res := (fun r0 r1 => ((true, [.int r0] ++ [.sl r1]) : Res))
def laws_markFlashStepS_m0 (k_1 : Int) (i : Int) (a_1 : Rows) : St := { n := 1099511627818, sl := [(0, .own 640000), (1, .int .i64 k_1), (5, .int .i64 i)], hp := [(640000, .row 26 [.int .i64, .int .i64, .int .i64, .str] a_1 false true)], ok := true, ls := [], lm := [] }
noncomputable def laws_markFlashStepS_B0 (N : Nat) : (St → Res) → St → Res := loopBM Try.prog laws_markFlashStepS_G laws_markFlashStepS_A N Try.f44 laws_markFlashStepS_s [true, false, true, false] []
theorem laws_markFlashStepS_b0 (N : Nat) (ih : St → Res) (k_1 : Int) (i : Int) (a_1 : Rows) : laws_markFlashStepS_B0 N ih (laws_markFlashStepS_m0 k_1 i a_1) = laws_markFlashStepS_l0 Vm.bad laws_markFlashStepS_K (fun k_1 i a_1 => ih (laws_markFlashStepS_m0 k_1 i a_1)) k_1 i a_1 := by kernel_rfl
theorem laws_markFlashStepS_n0 (N : Nat) (m_ : Nat) : (fun k_1 i a_1 => loopN (laws_markFlashStepS_B0 N) m_ (laws_markFlashStepS_m0 k_1 i a_1)) = laws_markFlashStepS_L0 Vm.bad laws_markFlashStepS_K N m_ := by
  induction m_ with
  | zero => rfl
  | succ m_ ih =>
    funext k_1 i a_1
    show laws_markFlashStepS_B0 N (loopN (laws_markFlashStepS_B0 N) m_) (laws_markFlashStepS_m0 k_1 i a_1) = _
    rw [laws_markFlashStepS_b0 N]
    rw [ih]
    rfl
theorem laws_markFlashStepS_r (N : Nat) (a : Rows) (k : Int) : runFM Try.prog laws_markFlashStepS_G laws_markFlashStepS_A N Try.f44 laws_markFlashStepS_s (.sl a :: (.int k :: ([]))) = laws_markFlashStepS_f Vm.bad laws_markFlashStepS_K N a k := by
  have h : runFM Try.prog laws_markFlashStepS_G laws_markFlashStepS_A N Try.f44 laws_markFlashStepS_s (.sl a :: (.int k :: ([]))) = laws_markFlashStepS_t Vm.bad laws_markFlashStepS_K (fun k_1 i a_1 => loopN (laws_markFlashStepS_B0 N) N (laws_markFlashStepS_m0 k_1 i a_1)) a k := by kernel_rfl
  refine h.trans ?_
  unfold laws_markFlashStepS_f
  have e0 : (fun k_1 i a_1 => loopN (laws_markFlashStepS_B0 N) N (laws_markFlashStepS_m0 k_1 i a_1)) = (laws_markFlashStepS_L0 Vm.bad laws_markFlashStepS_K N N) := by
    exact laws_markFlashStepS_n0 N N
  exact congrArg (fun l_ => laws_markFlashStepS_t Vm.bad laws_markFlashStepS_K l_ a k) e0
theorem laws_markFlashStepS_h : HoldsM Try.prog 44 laws_markFlashStepS_s := by
  refine holdsM_of_run (A := laws_markFlashStepS_A) laws_markFlashStepS_x Try.func44 rfl (by kernel_rfl) (of_decide_eq_true (by kernel_rfl)) (of_decide_eq_true (by kernel_rfl)) (by kernel_rfl) (fun ds => by kernel_rfl) ?_
  intro ds hw hok
  replace hw : WtL ((.sl [.int .i64, .int .i64, .int .i64, .str]) :: ((.int .i64) :: ([]))) ds := hw
  obtain ⟨a, ds, rfl, h_a, hw⟩ := of_wt_sl hw
  obtain ⟨k, ds, rfl, h_k, hw⟩ := of_wt_int hw
  obtain rfl := of_wt_nil hw
  obtain ⟨N, hN⟩ := laws_markFlashStepS_c Vm.bad laws_markFlashStepS_K a k h_a h_k hok
  exact ⟨N, ((laws_markFlashStepS_r N a k).trans hN).trans (by kernel_rfl)⟩

def laws_heldFlashStepS_s : Sum := { ps := [⟨[.sl [.int .i64, .int .i64, .int .i64, .str]], false⟩, ⟨[.int .i64], false⟩], rs := [⟨[.imm (.int .i64)], false⟩], fn := fun ds => (hdo fFlashStepS 4 (rR ds 0) (rI ds 1), [.int (heldFlashStepS (rR ds 0) (rI ds 1))]) }
def laws_heldFlashStepS_G : Ctx := [(68, laws_markText_s)]
theorem laws_heldFlashStepS_x : CtxHolds Try.prog laws_heldFlashStepS_G := ctx_cons laws_markText_h ctx_nil
def laws_heldFlashStepS_A : List (Nat × Ann) := [(2, { slots := [(0, .asis), (1, .asis), (5, .asis)], boxes := [] })]
def laws_heldFlashStepS_K : Int → Res := (fun r0 => ((true, [.int r0]) : Res))
def laws_heldFlashStepS_m0 (a : Rows) (k_1 : Int) (i : Int) : St := { n := 50, sl := [(0, .sl [.int .i64, .int .i64, .int .i64, .str] a), (1, .int .i64 k_1), (5, .int .i64 i)], hp := [], ok := true, ls := [], lm := [] }
noncomputable def laws_heldFlashStepS_B0 (N : Nat) : (St → Res) → St → Res := loopB Try.prog laws_heldFlashStepS_G laws_heldFlashStepS_A N Try.f48 laws_heldFlashStepS_s [true, false, true, false] []
theorem laws_heldFlashStepS_b0 (N : Nat) (a : Rows) (ih : St → Res) (k_1 : Int) (i : Int) : laws_heldFlashStepS_B0 N ih (laws_heldFlashStepS_m0 a k_1 i) = laws_heldFlashStepS_l0 Vm.bad laws_heldFlashStepS_K a (fun k_1 i => ih (laws_heldFlashStepS_m0 a k_1 i)) k_1 i := by kernel_rfl
theorem laws_heldFlashStepS_n0 (N : Nat) (a : Rows) (m_ : Nat) : (fun k_1 i => loopN (laws_heldFlashStepS_B0 N) m_ (laws_heldFlashStepS_m0 a k_1 i)) = laws_heldFlashStepS_L0 Vm.bad laws_heldFlashStepS_K N a m_ := by
  induction m_ with
  | zero => rfl
  | succ m_ ih =>
    funext k_1 i
    show laws_heldFlashStepS_B0 N (loopN (laws_heldFlashStepS_B0 N) m_) (laws_heldFlashStepS_m0 a k_1 i) = _
    rw [laws_heldFlashStepS_b0 N a]
    rw [ih]
    rfl
theorem laws_heldFlashStepS_r (N : Nat) (a : Rows) (k : Int) : runF Try.prog laws_heldFlashStepS_G laws_heldFlashStepS_A N Try.f48 laws_heldFlashStepS_s (.sl a :: (.int k :: ([]))) = laws_heldFlashStepS_f Vm.bad laws_heldFlashStepS_K N a k := by
  have h : runF Try.prog laws_heldFlashStepS_G laws_heldFlashStepS_A N Try.f48 laws_heldFlashStepS_s (.sl a :: (.int k :: ([]))) = laws_heldFlashStepS_t Vm.bad laws_heldFlashStepS_K (fun k_1 i => loopN (laws_heldFlashStepS_B0 N) N (laws_heldFlashStepS_m0 a k_1 i)) a k := by kernel_rfl
  refine h.trans ?_
  unfold laws_heldFlashStepS_f
  have e0 : (fun k_1 i => loopN (laws_heldFlashStepS_B0 N) N (laws_heldFlashStepS_m0 a k_1 i)) = (laws_heldFlashStepS_L0 Vm.bad laws_heldFlashStepS_K N a N) := by
    exact laws_heldFlashStepS_n0 N a N
  exact congrArg (fun l_ => laws_heldFlashStepS_t Vm.bad laws_heldFlashStepS_K l_ a k) e0
theorem laws_heldFlashStepS_h : Holds Try.prog 48 laws_heldFlashStepS_s := by
  refine holds_of_run (A := laws_heldFlashStepS_A) laws_heldFlashStepS_x Try.func48 rfl (by kernel_rfl) (of_decide_eq_true (by kernel_rfl)) (of_decide_eq_true (by kernel_rfl)) ?_
  intro ds hw hok
  replace hw : WtL ((.sl [.int .i64, .int .i64, .int .i64, .str]) :: ((.int .i64) :: ([]))) ds := hw
  obtain ⟨a, ds, rfl, h_a, hw⟩ := of_wt_sl hw
  obtain ⟨k, ds, rfl, h_k, hw⟩ := of_wt_int hw
  obtain rfl := of_wt_nil hw
  obtain ⟨N, hN⟩ := laws_heldFlashStepS_c Vm.bad laws_heldFlashStepS_K a k h_a h_k hok
  exact ⟨N, ((laws_heldFlashStepS_r N a k).trans hN).trans (by kernel_rfl)⟩

end
end Go.Proofs.Ytjknoknkbfhelaa.Pl
