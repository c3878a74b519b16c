/- The contracts of functions of the program: each computes what its plain form says. Conditions: none. -/
import Derived.Test.YtfnkhejoihnlnaaPLs
import Derived.Test.YtfnkhejoihnlnaaRows
set_option linter.unusedVariables false
set_option linter.unusedSimpArgs false
set_option maxRecDepth 100000
namespace Go.Proofs.Ytfnkhejoihnlnaa.Pl
open Vm
noncomputable section

def laws_toIntS_s : Sum := { ps := [⟨[.sl [.int .i64]], false⟩], rs := [⟨[.own 3 [.int .i64]], false⟩], fn := fun ds => (sm (rR ds 0), [.sl (idf (rR ds 0))]) }
def laws_toIntS_G : Ctx := []
theorem laws_toIntS_x : CtxHolds Try.prog laws_toIntS_G := ctx_nil
def laws_toIntS_A : List (Nat × Ann) := [(3, { slots := [(0, .asis), (3, .asis), (4, .asis)], boxes := [] })]
def laws_toIntS_K : Rows → Res := (fun r0 => ((true, [.sl r0]) : Res))
def laws_toIntS_m0 (a : Rows) (i : Int) (out_ : Rows) : St := { n := 22, sl := [(0, .sl [.int .i64] a), (3, .own 640192), (4, .int .i64 i)], hp := [(640192, .row 3 [.int .i64] out_ false true)], ok := true, ls := [], lm := [] }
noncomputable def laws_toIntS_B0 (N : Nat) : (St → Res) → St → Res := loopB Try.prog laws_toIntS_G laws_toIntS_A N Try.f31 laws_toIntS_s [true, true, false, true, false] []
theorem laws_toIntS_b0 (N : Nat) (a : Rows) (ih : St → Res) (i : Int) (out_ : Rows) : laws_toIntS_B0 N ih (laws_toIntS_m0 a i out_) = laws_toIntS_l0 Vm.bad laws_toIntS_K a (fun i out_ => ih (laws_toIntS_m0 a i out_)) i out_ := by kernel_rfl
theorem laws_toIntS_n0 (N : Nat) (a : Rows) (m_ : Nat) : (fun i out_ => loopN (laws_toIntS_B0 N) m_ (laws_toIntS_m0 a i out_)) = laws_toIntS_L0 Vm.bad laws_toIntS_K N a m_ := by
  induction m_ with
  | zero => rfl
  | succ m_ ih =>
    funext i out_
    show laws_toIntS_B0 N (loopN (laws_toIntS_B0 N) m_) (laws_toIntS_m0 a i out_) = _
    rw [laws_toIntS_b0 N a]
    rw [ih]
    rfl
theorem laws_toIntS_r (N : Nat) (a : Rows) : runF Try.prog laws_toIntS_G laws_toIntS_A N Try.f31 laws_toIntS_s (.sl a :: ([])) = laws_toIntS_f Vm.bad laws_toIntS_K N a := by
  have run_ : runF Try.prog laws_toIntS_G laws_toIntS_A N Try.f31 laws_toIntS_s (.sl a :: ([])) = laws_toIntS_t Vm.bad laws_toIntS_K (fun i out_ => loopN (laws_toIntS_B0 N) N (laws_toIntS_m0 a i out_)) a := by kernel_rfl
  refine run_.trans ?_
  unfold laws_toIntS_f
  have e0 : (fun i out_ => loopN (laws_toIntS_B0 N) N (laws_toIntS_m0 a i out_)) = (laws_toIntS_L0 Vm.bad laws_toIntS_K N a N) := by
    exact laws_toIntS_n0 N a N
  exact congrArg (fun l_ => laws_toIntS_t Vm.bad laws_toIntS_K l_ a) e0
theorem laws_toIntS_h : Holds Try.prog 31 laws_toIntS_s := by
  refine holds_of_run (A := laws_toIntS_A) laws_toIntS_x Try.func31 rfl (by kernel_rfl) (of_decide_eq_true (by kernel_rfl)) (of_decide_eq_true (by kernel_rfl)) ?_
  intro ds hw hok
  replace hw : WtL ((.sl [.int .i64]) :: ([])) ds := hw
  obtain ⟨a, ds, rfl, h_a, hw⟩ := of_wt_sl hw
  obtain rfl := of_wt_nil hw
  obtain ⟨N, hN⟩ := laws_toIntS_c Vm.bad laws_toIntS_K a h_a hok
  exact ⟨N, ((laws_toIntS_r N a).trans hN).trans (by kernel_rfl)⟩

def laws_toPort_s : Sum := { ps := [⟨[.int .i64, .sl [.int .i64], .int .i64, .bool], true⟩], rs := [⟨[.imm (.int .i64), .own 3 [.int .i64], .imm (.int .i64), .imm .bool], true⟩], fn := fun ds => (laws_toPort_ok (SPort.decAt ds 0), SPort.enc (idf (SPort.decAt ds 0))) }
def laws_toPort_G : Ctx := [(31, laws_toIntS_s)]
theorem laws_toPort_x : CtxHolds Try.prog laws_toPort_G := ctx_cons laws_toIntS_h ctx_nil
def laws_toPort_A : List (Nat × Ann) := []
theorem laws_toPort_r (N : Nat) (a : SPort) : runF Try.prog laws_toPort_G laws_toPort_A N Try.f66 laws_toPort_s (a.enc ++ ([])) = laws_toPort_t Vm.bad (fun r0 => ((true, SPort.enc r0) : Res)) a := by kernel_rfl
theorem laws_toPort_h : Holds Try.prog 66 laws_toPort_s := by
  refine holds_of_run (A := laws_toPort_A) laws_toPort_x Try.func66 rfl (by kernel_rfl) (of_decide_eq_true (by kernel_rfl)) (of_decide_eq_true (by kernel_rfl)) ?_
  intro ds hw hok
  replace hw : WtL (SPort.ct ++ ([])) ds := hw
  obtain ⟨a, ds, rfl, h_a, hw⟩ := SPort.of_wt (r := _) hw
  obtain rfl := of_wt_nil hw
  exact ⟨0, ((laws_toPort_r 0 a).trans (laws_toPort_c Vm.bad _ a h_a hok)).trans (by kernel_rfl)⟩

def laws_toPortS_s : Sum := { ps := [⟨[.sl [.int .i64, .sl [.int .i64], .int .i64, .bool]], false⟩], rs := [⟨[.deep 105 [.int .i64, .sl [.int .i64], .int .i64, .bool] [3]], false⟩], fn := fun ds => (laws_toPortS_ok (rR ds 0), [.sl (idf (rR ds 0))]) }
def laws_toPortS_G : Ctx := [(1125899906842631, annS), (66, laws_toPort_s)]
theorem laws_toPortS_x : CtxHolds Try.prog laws_toPortS_G := ctx_cons ann_h (ctx_cons laws_toPort_h ctx_nil)
def laws_toPortS_A : List (Nat × Ann) := [(3, { slots := [(0, .asis), (3, .asis), (4, .asis)], boxes := [] })]
def laws_toPortS_K : Rows → Res := (fun r0 => ((true, [.sl r0]) : Res))
def laws_toPortS_m0 (a : Rows) (i : Int) (out_ : Rows) : St := { n := 23, sl := [(0, .sl [.int .i64, .sl [.int .i64], .int .i64, .bool] a), (3, .own 640192), (4, .int .i64 i)], hp := [(640192, .deep 105 [.int .i64, .sl [.int .i64], .int .i64, .bool] [3] out_ none)], ok := true, ls := [], lm := [] }
noncomputable def laws_toPortS_B0 (N : Nat) : (St → Res) → St → Res := loopB Try.prog laws_toPortS_G laws_toPortS_A N Try.f27 laws_toPortS_s [true, true, false, true, false] []
theorem laws_toPortS_b0 (N : Nat) (a : Rows) (ih : St → Res) (i : Int) (out_ : Rows) : laws_toPortS_B0 N ih (laws_toPortS_m0 a i out_) = laws_toPortS_l0 Vm.bad laws_toPortS_K a (fun i out_ => ih (laws_toPortS_m0 a i out_)) i out_ := by kernel_rfl
theorem laws_toPortS_n0 (N : Nat) (a : Rows) (m_ : Nat) : (fun i out_ => loopN (laws_toPortS_B0 N) m_ (laws_toPortS_m0 a i out_)) = laws_toPortS_L0 Vm.bad laws_toPortS_K N a m_ := by
  induction m_ with
  | zero => rfl
  | succ m_ ih =>
    funext i out_
    show laws_toPortS_B0 N (loopN (laws_toPortS_B0 N) m_) (laws_toPortS_m0 a i out_) = _
    rw [laws_toPortS_b0 N a]
    rw [ih]
    rfl
theorem laws_toPortS_r (N : Nat) (a : Rows) : runF Try.prog laws_toPortS_G laws_toPortS_A N Try.f27 laws_toPortS_s (.sl a :: ([])) = laws_toPortS_f Vm.bad laws_toPortS_K N a := by
  have run_ : runF Try.prog laws_toPortS_G laws_toPortS_A N Try.f27 laws_toPortS_s (.sl a :: ([])) = laws_toPortS_t Vm.bad laws_toPortS_K (fun i out_ => loopN (laws_toPortS_B0 N) N (laws_toPortS_m0 a i out_)) a := by kernel_rfl
  refine run_.trans ?_
  unfold laws_toPortS_f
  have e0 : (fun i out_ => loopN (laws_toPortS_B0 N) N (laws_toPortS_m0 a i out_)) = (laws_toPortS_L0 Vm.bad laws_toPortS_K N a N) := by
    exact laws_toPortS_n0 N a N
  exact congrArg (fun l_ => laws_toPortS_t Vm.bad laws_toPortS_K l_ a) e0
theorem laws_toPortS_h : Holds Try.prog 27 laws_toPortS_s := by
  refine holds_of_run (A := laws_toPortS_A) laws_toPortS_x Try.func27 rfl (by kernel_rfl) (of_decide_eq_true (by kernel_rfl)) (of_decide_eq_true (by kernel_rfl)) ?_
  intro ds hw hok
  replace hw : WtL ((.sl [.int .i64, .sl [.int .i64], .int .i64, .bool]) :: ([])) ds := hw
  obtain ⟨a, ds, rfl, h_a, hw⟩ := of_wt_sl hw
  obtain rfl := of_wt_nil hw
  obtain ⟨N, hN⟩ := laws_toPortS_c Vm.bad laws_toPortS_K a h_a hok
  exact ⟨N, ((laws_toPortS_r N a).trans hN).trans (by kernel_rfl)⟩

def laws_szIntS_s : Sum := { ps := [⟨[.sl [.int .i64]], false⟩, ⟨[.int .i64], false⟩], rs := [⟨[.imm (.int .i64)], false⟩], fn := fun ds => (true, [.int (szFlat (rR ds 0) (rI ds 1))]) }
def laws_szIntS_G : Ctx := []
theorem laws_szIntS_x : CtxHolds Try.prog laws_szIntS_G := ctx_nil
def laws_szIntS_A : List (Nat × Ann) := []
theorem laws_szIntS_r (N : Nat) (a : Rows) (left : Int) : runF Try.prog laws_szIntS_G laws_szIntS_A N Try.f99 laws_szIntS_s (.sl a :: (.int left :: ([]))) = laws_szIntS_t (fun r0 => ((true, [.int r0]) : Res)) a left := by kernel_rfl
theorem laws_szIntS_h : Holds Try.prog 99 laws_szIntS_s := by
  refine holds_of_run (A := laws_szIntS_A) laws_szIntS_x Try.func99 rfl (by kernel_rfl) (of_decide_eq_true (by kernel_rfl)) (of_decide_eq_true (by kernel_rfl)) ?_
  intro ds hw hok
  replace hw : WtL ((.sl [.int .i64]) :: ((.int .i64) :: ([]))) ds := hw
  obtain ⟨a, ds, rfl, h_a, hw⟩ := of_wt_sl hw
  obtain ⟨left, ds, rfl, h_left, hw⟩ := of_wt_int hw
  obtain rfl := of_wt_nil hw
  exact ⟨0, ((laws_szIntS_r 0 a left).trans (laws_szIntS_c _ a left h_a h_left)).trans (by kernel_rfl)⟩

def laws_szPort_s : Sum := { ps := [⟨[.int .i64, .sl [.int .i64], .int .i64, .bool], true⟩, ⟨[.int .i64], false⟩], rs := [⟨[.imm (.int .i64)], false⟩], fn := fun ds => (true, [.int (laws_szPort (SPort.decAt ds 0) (rI ds 4))]) }
def laws_szPort_G : Ctx := [(99, laws_szIntS_s)]
theorem laws_szPort_x : CtxHolds Try.prog laws_szPort_G := ctx_cons laws_szIntS_h ctx_nil
def laws_szPort_A : List (Nat × Ann) := []
theorem laws_szPort_r (N : Nat) (a : SPort) (left : Int) : runF Try.prog laws_szPort_G laws_szPort_A N Try.f62 laws_szPort_s (a.enc ++ (.int left :: ([]))) = laws_szPort_t (fun r0 => ((true, [.int r0]) : Res)) a left := by kernel_rfl
theorem laws_szPort_h : Holds Try.prog 62 laws_szPort_s := by
  refine holds_of_run (A := laws_szPort_A) laws_szPort_x Try.func62 rfl (by kernel_rfl) (of_decide_eq_true (by kernel_rfl)) (of_decide_eq_true (by kernel_rfl)) ?_
  intro ds hw hok
  replace hw : WtL (SPort.ct ++ ((.int .i64) :: ([]))) ds := hw
  obtain ⟨a, ds, rfl, h_a, hw⟩ := SPort.of_wt (r := _) hw
  obtain ⟨left, ds, rfl, h_left, hw⟩ := of_wt_int hw
  obtain rfl := of_wt_nil hw
  exact ⟨0, ((laws_szPort_r 0 a left).trans (laws_szPort_c _ a left)).trans (by kernel_rfl)⟩

def laws_szSegment_s : Sum := { ps := [⟨[.int .i64, .int .i64, .int .i64, .int .i64, .int .i64, .int .i64, .int .i64, .str], true⟩, ⟨[.int .i64], false⟩], rs := [⟨[.imm (.int .i64)], false⟩], fn := fun ds => (true, [.int (laws_szSegment (SSegment.decAt ds 0) (rI ds 8))]) }
def laws_szSegment_G : Ctx := []
theorem laws_szSegment_x : CtxHolds Try.prog laws_szSegment_G := ctx_nil
def laws_szSegment_A : List (Nat × Ann) := []
theorem laws_szSegment_r (N : Nat) (a : SSegment) (left : Int) : runF Try.prog laws_szSegment_G laws_szSegment_A N Try.f90 laws_szSegment_s (a.enc ++ (.int left :: ([]))) = laws_szSegment_t (fun r0 => ((true, [.int r0]) : Res)) a left := by kernel_rfl
theorem laws_szSegment_h : Holds Try.prog 90 laws_szSegment_s := by
  refine holds_of_run (A := laws_szSegment_A) laws_szSegment_x Try.func90 rfl (by kernel_rfl) (of_decide_eq_true (by kernel_rfl)) (of_decide_eq_true (by kernel_rfl)) ?_
  intro ds hw hok
  replace hw : WtL (SSegment.ct ++ ((.int .i64) :: ([]))) ds := hw
  obtain ⟨a, ds, rfl, h_a, hw⟩ := SSegment.of_wt (r := _) hw
  obtain ⟨left, ds, rfl, h_left, hw⟩ := of_wt_int hw
  obtain rfl := of_wt_nil hw
  exact ⟨0, ((laws_szSegment_r 0 a left).trans (laws_szSegment_c _ a left)).trans (by kernel_rfl)⟩

def laws_szPacket_s : Sum := { ps := [⟨[.int .i64, .int .i64, .int .i64, .int .i64, .int .i64, .int .i64, .int .i64, .int .i64, .int .i64, .int .i64, .int .i64, .int .i64, .int .i64, .int .i64, .int .i64, .str], true⟩, ⟨[.int .i64], false⟩], rs := [⟨[.imm (.int .i64)], false⟩], fn := fun ds => (true, [.int (laws_szPacket (SPacket.decAt ds 0) (rI ds 16))]) }
def laws_szPacket_G : Ctx := [(90, laws_szSegment_s)]
theorem laws_szPacket_x : CtxHolds Try.prog laws_szPacket_G := ctx_cons laws_szSegment_h ctx_nil
def laws_szPacket_A : List (Nat × Ann) := []
theorem laws_szPacket_r (N : Nat) (a : SPacket) (left : Int) : runF Try.prog laws_szPacket_G laws_szPacket_A N Try.f48 laws_szPacket_s (a.enc ++ (.int left :: ([]))) = laws_szPacket_t (fun r0 => ((true, [.int r0]) : Res)) a left := by kernel_rfl
theorem laws_szPacket_h : Holds Try.prog 48 laws_szPacket_s := by
  refine holds_of_run (A := laws_szPacket_A) laws_szPacket_x Try.func48 rfl (by kernel_rfl) (of_decide_eq_true (by kernel_rfl)) (of_decide_eq_true (by kernel_rfl)) ?_
  intro ds hw hok
  replace hw : WtL (SPacket.ct ++ ((.int .i64) :: ([]))) ds := hw
  obtain ⟨a, ds, rfl, h_a, hw⟩ := SPacket.of_wt (r := _) hw
  obtain ⟨left, ds, rfl, h_left, hw⟩ := of_wt_int hw
  obtain rfl := of_wt_nil hw
  exact ⟨0, ((laws_szPacket_r 0 a left).trans (laws_szPacket_c _ a left)).trans (by kernel_rfl)⟩

def laws_eqBucket_s : Sum := { ps := [⟨[.int .i64, .int .i64, .int .i64], true⟩, ⟨[.int .i64, .int .i64, .int .i64], true⟩], rs := [⟨[.imm .bool], false⟩], fn := fun ds => (same (SBucket.decAt ds 0) (SBucket.decAt ds 3), [.bool (yes2 (SBucket.decAt ds 0) (SBucket.decAt ds 3))]) }
def laws_eqBucket_G : Ctx := []
theorem laws_eqBucket_x : CtxHolds Try.prog laws_eqBucket_G := ctx_nil
def laws_eqBucket_A : List (Nat × Ann) := []
theorem laws_eqBucket_r (N : Nat) (a : SBucket) (b : SBucket) : runF Try.prog laws_eqBucket_G laws_eqBucket_A N Try.f97 laws_eqBucket_s (a.enc ++ (b.enc ++ ([]))) = laws_eqBucket_t (fun r0 => ((true, [.bool r0]) : Res)) a b := by kernel_rfl
theorem laws_eqBucket_h : Holds Try.prog 97 laws_eqBucket_s := by
  refine holds_of_run (A := laws_eqBucket_A) laws_eqBucket_x Try.func97 rfl (by kernel_rfl) (of_decide_eq_true (by kernel_rfl)) (of_decide_eq_true (by kernel_rfl)) ?_
  intro ds hw hok
  replace hw : WtL (SBucket.ct ++ (SBucket.ct ++ ([]))) ds := hw
  obtain ⟨a, ds, rfl, h_a, hw⟩ := SBucket.of_wt (r := _) hw
  obtain ⟨b, ds, rfl, h_b, hw⟩ := SBucket.of_wt (r := _) hw
  obtain rfl := of_wt_nil hw
  exact ⟨0, ((laws_eqBucket_r 0 a b).trans (laws_eqBucket_c _ a b h_a h_b hok)).trans (by kernel_rfl)⟩

def laws_eqVirtualFunction_s : Sum := { ps := [⟨[.int .i64, .int .i64, .int .i64, .int .i64, .int .i64, .bool, .int .i64, .int .i64], true⟩, ⟨[.int .i64, .int .i64, .int .i64, .int .i64, .int .i64, .bool, .int .i64, .int .i64], true⟩], rs := [⟨[.imm .bool], false⟩], fn := fun ds => (same (SVirtualFunction.decAt ds 0) (SVirtualFunction.decAt ds 8), [.bool (yes2 (SVirtualFunction.decAt ds 0) (SVirtualFunction.decAt ds 8))]) }
def laws_eqVirtualFunction_G : Ctx := [(97, laws_eqBucket_s)]
theorem laws_eqVirtualFunction_x : CtxHolds Try.prog laws_eqVirtualFunction_G := ctx_cons laws_eqBucket_h ctx_nil
def laws_eqVirtualFunction_A : List (Nat × Ann) := []
theorem laws_eqVirtualFunction_r (N : Nat) (a : SVirtualFunction) (b : SVirtualFunction) : runF Try.prog laws_eqVirtualFunction_G laws_eqVirtualFunction_A N Try.f54 laws_eqVirtualFunction_s (a.enc ++ (b.enc ++ ([]))) = laws_eqVirtualFunction_t Vm.bad (fun r0 => ((true, [.bool r0]) : Res)) a b := by kernel_rfl
theorem laws_eqVirtualFunction_h : Holds Try.prog 54 laws_eqVirtualFunction_s := by
  refine holds_of_run (A := laws_eqVirtualFunction_A) laws_eqVirtualFunction_x Try.func54 rfl (by kernel_rfl) (of_decide_eq_true (by kernel_rfl)) (of_decide_eq_true (by kernel_rfl)) ?_
  intro ds hw hok
  replace hw : WtL (SVirtualFunction.ct ++ (SVirtualFunction.ct ++ ([]))) ds := hw
  obtain ⟨a, ds, rfl, h_a, hw⟩ := SVirtualFunction.of_wt (r := _) hw
  obtain ⟨b, ds, rfl, h_b, hw⟩ := SVirtualFunction.of_wt (r := _) hw
  obtain rfl := of_wt_nil hw
  exact ⟨0, ((laws_eqVirtualFunction_r 0 a b).trans (laws_eqVirtualFunction_c Vm.bad _ a b h_a h_b hok)).trans (by kernel_rfl)⟩

def laws_eqVirtualFunctionS_s : Sum := { ps := [⟨[.sl [.int .i64, .int .i64, .int .i64, .int .i64, .int .i64, .bool, .int .i64, .int .i64]], false⟩, ⟨[.sl [.int .i64, .int .i64, .int .i64, .int .i64, .int .i64, .bool, .int .i64, .int .i64]], false⟩], rs := [⟨[.imm .bool], false⟩], fn := fun ds => (same (rR ds 0) (rR ds 1), [.bool (yes2 (rR ds 0) (rR ds 1))]) }
def laws_eqVirtualFunctionS_G : Ctx := [(54, laws_eqVirtualFunction_s)]
theorem laws_eqVirtualFunctionS_x : CtxHolds Try.prog laws_eqVirtualFunctionS_G := ctx_cons laws_eqVirtualFunction_h ctx_nil
def laws_eqVirtualFunctionS_A : List (Nat × Ann) := [(4, { slots := [(0, .asis), (1, .asis), (5, .asis)], boxes := [] })]
def laws_eqVirtualFunctionS_K : Bool → Res := (fun r0 => ((true, [.bool r0]) : Res))
def laws_eqVirtualFunctionS_m0 (a : Rows) (b : Rows) (i : Int) : St := { n := 27, sl := [(0, .sl [.int .i64, .int .i64, .int .i64, .int .i64, .int .i64, .bool, .int .i64, .int .i64] a), (1, .sl [.int .i64, .int .i64, .int .i64, .int .i64, .int .i64, .bool, .int .i64, .int .i64] b), (5, .int .i64 i)], hp := [], ok := true, ls := [], lm := [] }
noncomputable def laws_eqVirtualFunctionS_B0 (N : Nat) : (St → Res) → St → Res := loopB Try.prog laws_eqVirtualFunctionS_G laws_eqVirtualFunctionS_A N Try.f15 laws_eqVirtualFunctionS_s [true, true, false, true, false] []
theorem laws_eqVirtualFunctionS_b0 (N : Nat) (a : Rows) (b : Rows) (ih : St → Res) (i : Int) : laws_eqVirtualFunctionS_B0 N ih (laws_eqVirtualFunctionS_m0 a b i) = laws_eqVirtualFunctionS_l0 Vm.bad laws_eqVirtualFunctionS_K a b (fun i => ih (laws_eqVirtualFunctionS_m0 a b i)) i := by kernel_rfl
theorem laws_eqVirtualFunctionS_n0 (N : Nat) (a : Rows) (b : Rows) (m_ : Nat) : (fun i => loopN (laws_eqVirtualFunctionS_B0 N) m_ (laws_eqVirtualFunctionS_m0 a b i)) = laws_eqVirtualFunctionS_L0 Vm.bad laws_eqVirtualFunctionS_K N a b m_ := by
  induction m_ with
  | zero => rfl
  | succ m_ ih =>
    funext i
    show laws_eqVirtualFunctionS_B0 N (loopN (laws_eqVirtualFunctionS_B0 N) m_) (laws_eqVirtualFunctionS_m0 a b i) = _
    rw [laws_eqVirtualFunctionS_b0 N a b]
    rw [ih]
    rfl
theorem laws_eqVirtualFunctionS_r (N : Nat) (a : Rows) (b : Rows) : runF Try.prog laws_eqVirtualFunctionS_G laws_eqVirtualFunctionS_A N Try.f15 laws_eqVirtualFunctionS_s (.sl a :: (.sl b :: ([]))) = laws_eqVirtualFunctionS_f Vm.bad laws_eqVirtualFunctionS_K N a b := by
  have run_ : runF Try.prog laws_eqVirtualFunctionS_G laws_eqVirtualFunctionS_A N Try.f15 laws_eqVirtualFunctionS_s (.sl a :: (.sl b :: ([]))) = laws_eqVirtualFunctionS_t Vm.bad laws_eqVirtualFunctionS_K (fun i => loopN (laws_eqVirtualFunctionS_B0 N) N (laws_eqVirtualFunctionS_m0 a b i)) a b := by kernel_rfl
  refine run_.trans ?_
  unfold laws_eqVirtualFunctionS_f
  have e0 : (fun i => loopN (laws_eqVirtualFunctionS_B0 N) N (laws_eqVirtualFunctionS_m0 a b i)) = (laws_eqVirtualFunctionS_L0 Vm.bad laws_eqVirtualFunctionS_K N a b N) := by
    exact laws_eqVirtualFunctionS_n0 N a b N
  exact congrArg (fun l_ => laws_eqVirtualFunctionS_t Vm.bad laws_eqVirtualFunctionS_K l_ a b) e0
theorem laws_eqVirtualFunctionS_h : Holds Try.prog 15 laws_eqVirtualFunctionS_s := by
  refine holds_of_run (A := laws_eqVirtualFunctionS_A) laws_eqVirtualFunctionS_x Try.func15 rfl (by kernel_rfl) (of_decide_eq_true (by kernel_rfl)) (of_decide_eq_true (by kernel_rfl)) ?_
  intro ds hw hok
  replace hw : WtL ((.sl [.int .i64, .int .i64, .int .i64, .int .i64, .int .i64, .bool, .int .i64, .int .i64]) :: ((.sl [.int .i64, .int .i64, .int .i64, .int .i64, .int .i64, .bool, .int .i64, .int .i64]) :: ([]))) ds := hw
  obtain ⟨a, ds, rfl, h_a, hw⟩ := of_wt_sl hw
  obtain ⟨b, ds, rfl, h_b, hw⟩ := of_wt_sl hw
  obtain rfl := of_wt_nil hw
  obtain ⟨N, hN⟩ := laws_eqVirtualFunctionS_c Vm.bad laws_eqVirtualFunctionS_K a b h_a h_b hok
  exact ⟨N, ((laws_eqVirtualFunctionS_r N a b).trans hN).trans (by kernel_rfl)⟩

def laws_toSegment_s : Sum := { ps := [⟨[.int .i64, .int .i64, .int .i64, .int .i64, .int .i64, .int .i64, .int .i64, .str], true⟩], rs := [⟨[.imm (.int .i64), .imm (.int .i64), .imm (.int .i64), .imm (.int .i64), .imm (.int .i64), .imm (.int .i64), .imm (.int .i64), .imm .str], true⟩], fn := fun ds => (true, SSegment.enc (idf (SSegment.decAt ds 0))) }
def laws_toSegment_G : Ctx := []
theorem laws_toSegment_x : CtxHolds Try.prog laws_toSegment_G := ctx_nil
def laws_toSegment_A : List (Nat × Ann) := []
theorem laws_toSegment_r (N : Nat) (a : SSegment) : runF Try.prog laws_toSegment_G laws_toSegment_A N Try.f95 laws_toSegment_s (a.enc ++ ([])) = laws_toSegment_t (fun r0 => ((true, SSegment.enc r0) : Res)) a := by kernel_rfl
theorem laws_toSegment_h : Holds Try.prog 95 laws_toSegment_s := by
  refine holds_of_run (A := laws_toSegment_A) laws_toSegment_x Try.func95 rfl (by kernel_rfl) (of_decide_eq_true (by kernel_rfl)) (of_decide_eq_true (by kernel_rfl)) ?_
  intro ds hw hok
  replace hw : WtL (SSegment.ct ++ ([])) ds := hw
  obtain ⟨a, ds, rfl, h_a, hw⟩ := SSegment.of_wt (r := _) hw
  obtain rfl := of_wt_nil hw
  exact ⟨0, ((laws_toSegment_r 0 a).trans (laws_toSegment_c _ a h_a)).trans (by kernel_rfl)⟩

def laws_toPacket_s : Sum := { ps := [⟨[.int .i64, .int .i64, .int .i64, .int .i64, .int .i64, .int .i64, .int .i64, .int .i64, .int .i64, .int .i64, .int .i64, .int .i64, .int .i64, .int .i64, .int .i64, .str], true⟩], rs := [⟨[.imm (.int .i64), .imm (.int .i64), .imm (.int .i64), .imm (.int .i64), .imm (.int .i64), .imm (.int .i64), .imm (.int .i64), .imm (.int .i64), .imm (.int .i64), .imm (.int .i64), .imm (.int .i64), .imm (.int .i64), .imm (.int .i64), .imm (.int .i64), .imm (.int .i64), .imm .str], true⟩], fn := fun ds => (true, SPacket.enc (idf (SPacket.decAt ds 0))) }
def laws_toPacket_G : Ctx := [(95, laws_toSegment_s)]
theorem laws_toPacket_x : CtxHolds Try.prog laws_toPacket_G := ctx_cons laws_toSegment_h ctx_nil
def laws_toPacket_A : List (Nat × Ann) := []
theorem laws_toPacket_r (N : Nat) (a : SPacket) : runF Try.prog laws_toPacket_G laws_toPacket_A N Try.f50 laws_toPacket_s (a.enc ++ ([])) = laws_toPacket_t (fun r0 => ((true, SPacket.enc r0) : Res)) a := by kernel_rfl
theorem laws_toPacket_h : Holds Try.prog 50 laws_toPacket_s := by
  refine holds_of_run (A := laws_toPacket_A) laws_toPacket_x Try.func50 rfl (by kernel_rfl) (of_decide_eq_true (by kernel_rfl)) (of_decide_eq_true (by kernel_rfl)) ?_
  intro ds hw hok
  replace hw : WtL (SPacket.ct ++ ([])) ds := hw
  obtain ⟨a, ds, rfl, h_a, hw⟩ := SPacket.of_wt (r := _) hw
  obtain rfl := of_wt_nil hw
  exact ⟨0, ((laws_toPacket_r 0 a).trans (laws_toPacket_c _ a h_a)).trans (by kernel_rfl)⟩

def laws_eqIntS_s : Sum := { ps := [⟨[.sl [.int .i64]], false⟩, ⟨[.sl [.int .i64]], false⟩], rs := [⟨[.imm .bool], false⟩], fn := fun ds => (same (rR ds 0) (rR ds 1), [.bool (yes2 (rR ds 0) (rR ds 1))]) }
def laws_eqIntS_G : Ctx := []
theorem laws_eqIntS_x : CtxHolds Try.prog laws_eqIntS_G := ctx_nil
def laws_eqIntS_A : List (Nat × Ann) := [(4, { slots := [(0, .asis), (1, .asis), (5, .asis)], boxes := [] })]
def laws_eqIntS_K : Bool → Res := (fun r0 => ((true, [.bool r0]) : Res))
def laws_eqIntS_m0 (a : Rows) (b : Rows) (i : Int) : St := { n := 26, sl := [(0, .sl [.int .i64] a), (1, .sl [.int .i64] b), (5, .int .i64 i)], hp := [], ok := true, ls := [], lm := [] }
noncomputable def laws_eqIntS_B0 (N : Nat) : (St → Res) → St → Res := loopB Try.prog laws_eqIntS_G laws_eqIntS_A N Try.f33 laws_eqIntS_s [true, true, false, true, false] []
theorem laws_eqIntS_b0 (N : Nat) (a : Rows) (b : Rows) (ih : St → Res) (i : Int) : laws_eqIntS_B0 N ih (laws_eqIntS_m0 a b i) = laws_eqIntS_l0 Vm.bad laws_eqIntS_K a b (fun i => ih (laws_eqIntS_m0 a b i)) i := by kernel_rfl
theorem laws_eqIntS_n0 (N : Nat) (a : Rows) (b : Rows) (m_ : Nat) : (fun i => loopN (laws_eqIntS_B0 N) m_ (laws_eqIntS_m0 a b i)) = laws_eqIntS_L0 Vm.bad laws_eqIntS_K N a b m_ := by
  induction m_ with
  | zero => rfl
  | succ m_ ih =>
    funext i
    show laws_eqIntS_B0 N (loopN (laws_eqIntS_B0 N) m_) (laws_eqIntS_m0 a b i) = _
    rw [laws_eqIntS_b0 N a b]
    rw [ih]
    rfl
theorem laws_eqIntS_r (N : Nat) (a : Rows) (b : Rows) : runF Try.prog laws_eqIntS_G laws_eqIntS_A N Try.f33 laws_eqIntS_s (.sl a :: (.sl b :: ([]))) = laws_eqIntS_f Vm.bad laws_eqIntS_K N a b := by
  have run_ : runF Try.prog laws_eqIntS_G laws_eqIntS_A N Try.f33 laws_eqIntS_s (.sl a :: (.sl b :: ([]))) = laws_eqIntS_t Vm.bad laws_eqIntS_K (fun i => loopN (laws_eqIntS_B0 N) N (laws_eqIntS_m0 a b i)) a b := by kernel_rfl
  refine run_.trans ?_
  unfold laws_eqIntS_f
  have e0 : (fun i => loopN (laws_eqIntS_B0 N) N (laws_eqIntS_m0 a b i)) = (laws_eqIntS_L0 Vm.bad laws_eqIntS_K N a b N) := by
    exact laws_eqIntS_n0 N a b N
  exact congrArg (fun l_ => laws_eqIntS_t Vm.bad laws_eqIntS_K l_ a b) e0
theorem laws_eqIntS_h : Holds Try.prog 33 laws_eqIntS_s := by
  refine holds_of_run (A := laws_eqIntS_A) laws_eqIntS_x Try.func33 rfl (by kernel_rfl) (of_decide_eq_true (by kernel_rfl)) (of_decide_eq_true (by kernel_rfl)) ?_
  intro ds hw hok
  replace hw : WtL ((.sl [.int .i64]) :: ((.sl [.int .i64]) :: ([]))) ds := hw
  obtain ⟨a, ds, rfl, h_a, hw⟩ := of_wt_sl hw
  obtain ⟨b, ds, rfl, h_b, hw⟩ := of_wt_sl hw
  obtain rfl := of_wt_nil hw
  obtain ⟨N, hN⟩ := laws_eqIntS_c Vm.bad laws_eqIntS_K a b h_a h_b hok
  exact ⟨N, ((laws_eqIntS_r N a b).trans hN).trans (by kernel_rfl)⟩

def laws_eqPort_s : Sum := { ps := [⟨[.int .i64, .sl [.int .i64], .int .i64, .bool], true⟩, ⟨[.int .i64, .sl [.int .i64], .int .i64, .bool], true⟩], rs := [⟨[.imm .bool], false⟩], fn := fun ds => (same (SPort.decAt ds 0) (SPort.decAt ds 4), [.bool (yes2 (SPort.decAt ds 0) (SPort.decAt ds 4))]) }
def laws_eqPort_G : Ctx := [(33, laws_eqIntS_s)]
theorem laws_eqPort_x : CtxHolds Try.prog laws_eqPort_G := ctx_cons laws_eqIntS_h ctx_nil
def laws_eqPort_A : List (Nat × Ann) := []
theorem laws_eqPort_r (N : Nat) (a : SPort) (b : SPort) : runF Try.prog laws_eqPort_G laws_eqPort_A N Try.f70 laws_eqPort_s (a.enc ++ (b.enc ++ ([]))) = laws_eqPort_t Vm.bad (fun r0 => ((true, [.bool r0]) : Res)) a b := by kernel_rfl
theorem laws_eqPort_h : Holds Try.prog 70 laws_eqPort_s := by
  refine holds_of_run (A := laws_eqPort_A) laws_eqPort_x Try.func70 rfl (by kernel_rfl) (of_decide_eq_true (by kernel_rfl)) (of_decide_eq_true (by kernel_rfl)) ?_
  intro ds hw hok
  replace hw : WtL (SPort.ct ++ (SPort.ct ++ ([]))) ds := hw
  obtain ⟨a, ds, rfl, h_a, hw⟩ := SPort.of_wt (r := _) hw
  obtain ⟨b, ds, rfl, h_b, hw⟩ := SPort.of_wt (r := _) hw
  obtain rfl := of_wt_nil hw
  exact ⟨0, ((laws_eqPort_r 0 a b).trans (laws_eqPort_c Vm.bad _ a b h_a h_b hok)).trans (by kernel_rfl)⟩

def laws_szVirtualFunctionS_s : Sum := { ps := [⟨[.sl [.int .i64, .int .i64, .int .i64, .int .i64, .int .i64, .bool, .int .i64, .int .i64]], false⟩, ⟨[.int .i64], false⟩], rs := [⟨[.imm (.int .i64)], false⟩], fn := fun ds => (true, [.int (szFlat (rR ds 0) (rI ds 1))]) }
def laws_szVirtualFunctionS_G : Ctx := []
theorem laws_szVirtualFunctionS_x : CtxHolds Try.prog laws_szVirtualFunctionS_G := ctx_nil
def laws_szVirtualFunctionS_A : List (Nat × Ann) := []
theorem laws_szVirtualFunctionS_r (N : Nat) (a : Rows) (left : Int) : runF Try.prog laws_szVirtualFunctionS_G laws_szVirtualFunctionS_A N Try.f11 laws_szVirtualFunctionS_s (.sl a :: (.int left :: ([]))) = laws_szVirtualFunctionS_t (fun r0 => ((true, [.int r0]) : Res)) a left := by kernel_rfl
theorem laws_szVirtualFunctionS_h : Holds Try.prog 11 laws_szVirtualFunctionS_s := by
  refine holds_of_run (A := laws_szVirtualFunctionS_A) laws_szVirtualFunctionS_x Try.func11 rfl (by kernel_rfl) (of_decide_eq_true (by kernel_rfl)) (of_decide_eq_true (by kernel_rfl)) ?_
  intro ds hw hok
  replace hw : WtL ((.sl [.int .i64, .int .i64, .int .i64, .int .i64, .int .i64, .bool, .int .i64, .int .i64]) :: ((.int .i64) :: ([]))) ds := hw
  obtain ⟨a, ds, rfl, h_a, hw⟩ := of_wt_sl hw
  obtain ⟨left, ds, rfl, h_left, hw⟩ := of_wt_int hw
  obtain rfl := of_wt_nil hw
  exact ⟨0, ((laws_szVirtualFunctionS_r 0 a left).trans (laws_szVirtualFunctionS_c _ a left h_a h_left)).trans (by kernel_rfl)⟩

def laws_toBucket_s : Sum := { ps := [⟨[.int .i64, .int .i64, .int .i64], true⟩], rs := [⟨[.imm (.int .i64), .imm (.int .i64), .imm (.int .i64)], true⟩], fn := fun ds => (true, SBucket.enc (idf (SBucket.decAt ds 0))) }
def laws_toBucket_G : Ctx := []
theorem laws_toBucket_x : CtxHolds Try.prog laws_toBucket_G := ctx_nil
def laws_toBucket_A : List (Nat × Ann) := []
theorem laws_toBucket_r (N : Nat) (a : SBucket) : runF Try.prog laws_toBucket_G laws_toBucket_A N Try.f96 laws_toBucket_s (a.enc ++ ([])) = laws_toBucket_t (fun r0 => ((true, SBucket.enc r0) : Res)) a := by kernel_rfl
theorem laws_toBucket_h : Holds Try.prog 96 laws_toBucket_s := by
  refine holds_of_run (A := laws_toBucket_A) laws_toBucket_x Try.func96 rfl (by kernel_rfl) (of_decide_eq_true (by kernel_rfl)) (of_decide_eq_true (by kernel_rfl)) ?_
  intro ds hw hok
  replace hw : WtL (SBucket.ct ++ ([])) ds := hw
  obtain ⟨a, ds, rfl, h_a, hw⟩ := SBucket.of_wt (r := _) hw
  obtain rfl := of_wt_nil hw
  exact ⟨0, ((laws_toBucket_r 0 a).trans (laws_toBucket_c _ a h_a)).trans (by kernel_rfl)⟩

def laws_toVirtualFunction_s : Sum := { ps := [⟨[.int .i64, .int .i64, .int .i64, .int .i64, .int .i64, .bool, .int .i64, .int .i64], true⟩], rs := [⟨[.imm (.int .i64), .imm (.int .i64), .imm (.int .i64), .imm (.int .i64), .imm (.int .i64), .imm .bool, .imm (.int .i64), .imm (.int .i64)], true⟩], fn := fun ds => (true, SVirtualFunction.enc (idf (SVirtualFunction.decAt ds 0))) }
def laws_toVirtualFunction_G : Ctx := [(96, laws_toBucket_s)]
theorem laws_toVirtualFunction_x : CtxHolds Try.prog laws_toVirtualFunction_G := ctx_cons laws_toBucket_h ctx_nil
def laws_toVirtualFunction_A : List (Nat × Ann) := []
theorem laws_toVirtualFunction_r (N : Nat) (a : SVirtualFunction) : runF Try.prog laws_toVirtualFunction_G laws_toVirtualFunction_A N Try.f53 laws_toVirtualFunction_s (a.enc ++ ([])) = laws_toVirtualFunction_t (fun r0 => ((true, SVirtualFunction.enc r0) : Res)) a := by kernel_rfl
theorem laws_toVirtualFunction_h : Holds Try.prog 53 laws_toVirtualFunction_s := by
  refine holds_of_run (A := laws_toVirtualFunction_A) laws_toVirtualFunction_x Try.func53 rfl (by kernel_rfl) (of_decide_eq_true (by kernel_rfl)) (of_decide_eq_true (by kernel_rfl)) ?_
  intro ds hw hok
  replace hw : WtL (SVirtualFunction.ct ++ ([])) ds := hw
  obtain ⟨a, ds, rfl, h_a, hw⟩ := SVirtualFunction.of_wt (r := _) hw
  obtain rfl := of_wt_nil hw
  exact ⟨0, ((laws_toVirtualFunction_r 0 a).trans (laws_toVirtualFunction_c _ a h_a)).trans (by kernel_rfl)⟩

def laws_toVirtualFunctionS_s : Sum := { ps := [⟨[.sl [.int .i64, .int .i64, .int .i64, .int .i64, .int .i64, .bool, .int .i64, .int .i64]], false⟩], rs := [⟨[.own 66 [.int .i64, .int .i64, .int .i64, .int .i64, .int .i64, .bool, .int .i64, .int .i64]], false⟩], fn := fun ds => (sm (rR ds 0), [.sl (idf (rR ds 0))]) }
def laws_toVirtualFunctionS_G : Ctx := [(53, laws_toVirtualFunction_s)]
theorem laws_toVirtualFunctionS_x : CtxHolds Try.prog laws_toVirtualFunctionS_G := ctx_cons laws_toVirtualFunction_h ctx_nil
def laws_toVirtualFunctionS_A : List (Nat × Ann) := [(3, { slots := [(0, .asis), (3, .asis), (4, .asis)], boxes := [] })]
def laws_toVirtualFunctionS_K : Rows → Res := (fun r0 => ((true, [.sl r0]) : Res))
def laws_toVirtualFunctionS_m0 (a : Rows) (i : Int) (out_ : Rows) : St := { n := 23, sl := [(0, .sl [.int .i64, .int .i64, .int .i64, .int .i64, .int .i64, .bool, .int .i64, .int .i64] a), (3, .own 640192), (4, .int .i64 i)], hp := [(640192, .row 66 [.int .i64, .int .i64, .int .i64, .int .i64, .int .i64, .bool, .int .i64, .int .i64] out_ false true)], ok := true, ls := [], lm := [] }
noncomputable def laws_toVirtualFunctionS_B0 (N : Nat) : (St → Res) → St → Res := loopB Try.prog laws_toVirtualFunctionS_G laws_toVirtualFunctionS_A N Try.f13 laws_toVirtualFunctionS_s [true, true, false, true, false] []
theorem laws_toVirtualFunctionS_b0 (N : Nat) (a : Rows) (ih : St → Res) (i : Int) (out_ : Rows) : laws_toVirtualFunctionS_B0 N ih (laws_toVirtualFunctionS_m0 a i out_) = laws_toVirtualFunctionS_l0 Vm.bad laws_toVirtualFunctionS_K a (fun i out_ => ih (laws_toVirtualFunctionS_m0 a i out_)) i out_ := by kernel_rfl
theorem laws_toVirtualFunctionS_n0 (N : Nat) (a : Rows) (m_ : Nat) : (fun i out_ => loopN (laws_toVirtualFunctionS_B0 N) m_ (laws_toVirtualFunctionS_m0 a i out_)) = laws_toVirtualFunctionS_L0 Vm.bad laws_toVirtualFunctionS_K N a m_ := by
  induction m_ with
  | zero => rfl
  | succ m_ ih =>
    funext i out_
    show laws_toVirtualFunctionS_B0 N (loopN (laws_toVirtualFunctionS_B0 N) m_) (laws_toVirtualFunctionS_m0 a i out_) = _
    rw [laws_toVirtualFunctionS_b0 N a]
    rw [ih]
    rfl
theorem laws_toVirtualFunctionS_r (N : Nat) (a : Rows) : runF Try.prog laws_toVirtualFunctionS_G laws_toVirtualFunctionS_A N Try.f13 laws_toVirtualFunctionS_s (.sl a :: ([])) = laws_toVirtualFunctionS_f Vm.bad laws_toVirtualFunctionS_K N a := by
  have run_ : runF Try.prog laws_toVirtualFunctionS_G laws_toVirtualFunctionS_A N Try.f13 laws_toVirtualFunctionS_s (.sl a :: ([])) = laws_toVirtualFunctionS_t Vm.bad laws_toVirtualFunctionS_K (fun i out_ => loopN (laws_toVirtualFunctionS_B0 N) N (laws_toVirtualFunctionS_m0 a i out_)) a := by kernel_rfl
  refine run_.trans ?_
  unfold laws_toVirtualFunctionS_f
  have e0 : (fun i out_ => loopN (laws_toVirtualFunctionS_B0 N) N (laws_toVirtualFunctionS_m0 a i out_)) = (laws_toVirtualFunctionS_L0 Vm.bad laws_toVirtualFunctionS_K N a N) := by
    exact laws_toVirtualFunctionS_n0 N a N
  exact congrArg (fun l_ => laws_toVirtualFunctionS_t Vm.bad laws_toVirtualFunctionS_K l_ a) e0
theorem laws_toVirtualFunctionS_h : Holds Try.prog 13 laws_toVirtualFunctionS_s := by
  refine holds_of_run (A := laws_toVirtualFunctionS_A) laws_toVirtualFunctionS_x Try.func13 rfl (by kernel_rfl) (of_decide_eq_true (by kernel_rfl)) (of_decide_eq_true (by kernel_rfl)) ?_
  intro ds hw hok
  replace hw : WtL ((.sl [.int .i64, .int .i64, .int .i64, .int .i64, .int .i64, .bool, .int .i64, .int .i64]) :: ([])) ds := hw
  obtain ⟨a, ds, rfl, h_a, hw⟩ := of_wt_sl hw
  obtain rfl := of_wt_nil hw
  obtain ⟨N, hN⟩ := laws_toVirtualFunctionS_c Vm.bad laws_toVirtualFunctionS_K a h_a hok
  exact ⟨N, ((laws_toVirtualFunctionS_r N a).trans hN).trans (by kernel_rfl)⟩

def laws_eqPortS_s : Sum := { ps := [⟨[.sl [.int .i64, .sl [.int .i64], .int .i64, .bool]], false⟩, ⟨[.sl [.int .i64, .sl [.int .i64], .int .i64, .bool]], false⟩], rs := [⟨[.imm .bool], false⟩], fn := fun ds => (same (rR ds 0) (rR ds 1), [.bool (yes2 (rR ds 0) (rR ds 1))]) }
def laws_eqPortS_G : Ctx := [(70, laws_eqPort_s)]
theorem laws_eqPortS_x : CtxHolds Try.prog laws_eqPortS_G := ctx_cons laws_eqPort_h ctx_nil
def laws_eqPortS_A : List (Nat × Ann) := [(4, { slots := [(0, .asis), (1, .asis), (5, .asis)], boxes := [] })]
def laws_eqPortS_K : Bool → Res := (fun r0 => ((true, [.bool r0]) : Res))
def laws_eqPortS_m0 (a : Rows) (b : Rows) (i : Int) : St := { n := 27, sl := [(0, .sl [.int .i64, .sl [.int .i64], .int .i64, .bool] a), (1, .sl [.int .i64, .sl [.int .i64], .int .i64, .bool] b), (5, .int .i64 i)], hp := [], ok := true, ls := [], lm := [] }
noncomputable def laws_eqPortS_B0 (N : Nat) : (St → Res) → St → Res := loopB Try.prog laws_eqPortS_G laws_eqPortS_A N Try.f29 laws_eqPortS_s [true, true, false, true, false] []
theorem laws_eqPortS_b0 (N : Nat) (a : Rows) (b : Rows) (ih : St → Res) (i : Int) : laws_eqPortS_B0 N ih (laws_eqPortS_m0 a b i) = laws_eqPortS_l0 Vm.bad laws_eqPortS_K a b (fun i => ih (laws_eqPortS_m0 a b i)) i := by kernel_rfl
theorem laws_eqPortS_n0 (N : Nat) (a : Rows) (b : Rows) (m_ : Nat) : (fun i => loopN (laws_eqPortS_B0 N) m_ (laws_eqPortS_m0 a b i)) = laws_eqPortS_L0 Vm.bad laws_eqPortS_K N a b m_ := by
  induction m_ with
  | zero => rfl
  | succ m_ ih =>
    funext i
    show laws_eqPortS_B0 N (loopN (laws_eqPortS_B0 N) m_) (laws_eqPortS_m0 a b i) = _
    rw [laws_eqPortS_b0 N a b]
    rw [ih]
    rfl
theorem laws_eqPortS_r (N : Nat) (a : Rows) (b : Rows) : runF Try.prog laws_eqPortS_G laws_eqPortS_A N Try.f29 laws_eqPortS_s (.sl a :: (.sl b :: ([]))) = laws_eqPortS_f Vm.bad laws_eqPortS_K N a b := by
  have run_ : runF Try.prog laws_eqPortS_G laws_eqPortS_A N Try.f29 laws_eqPortS_s (.sl a :: (.sl b :: ([]))) = laws_eqPortS_t Vm.bad laws_eqPortS_K (fun i => loopN (laws_eqPortS_B0 N) N (laws_eqPortS_m0 a b i)) a b := by kernel_rfl
  refine run_.trans ?_
  unfold laws_eqPortS_f
  have e0 : (fun i => loopN (laws_eqPortS_B0 N) N (laws_eqPortS_m0 a b i)) = (laws_eqPortS_L0 Vm.bad laws_eqPortS_K N a b N) := by
    exact laws_eqPortS_n0 N a b N
  exact congrArg (fun l_ => laws_eqPortS_t Vm.bad laws_eqPortS_K l_ a b) e0
theorem laws_eqPortS_h : Holds Try.prog 29 laws_eqPortS_s := by
  refine holds_of_run (A := laws_eqPortS_A) laws_eqPortS_x Try.func29 rfl (by kernel_rfl) (of_decide_eq_true (by kernel_rfl)) (of_decide_eq_true (by kernel_rfl)) ?_
  intro ds hw hok
  replace hw : WtL ((.sl [.int .i64, .sl [.int .i64], .int .i64, .bool]) :: ((.sl [.int .i64, .sl [.int .i64], .int .i64, .bool]) :: ([]))) ds := hw
  obtain ⟨a, ds, rfl, h_a, hw⟩ := of_wt_sl hw
  obtain ⟨b, ds, rfl, h_b, hw⟩ := of_wt_sl hw
  obtain rfl := of_wt_nil hw
  obtain ⟨N, hN⟩ := laws_eqPortS_c Vm.bad laws_eqPortS_K a b h_a h_b hok
  exact ⟨N, ((laws_eqPortS_r N a b).trans hN).trans (by kernel_rfl)⟩

def laws_szPortS_s : Sum := { ps := [⟨[.sl [.int .i64, .sl [.int .i64], .int .i64, .bool]], false⟩, ⟨[.int .i64], false⟩], rs := [⟨[.imm (.int .i64)], false⟩], fn := fun ds => (true, [.int (laws_szPortS (rR ds 0) (rI ds 1))]) }
def laws_szPortS_G : Ctx := [(62, laws_szPort_s)]
theorem laws_szPortS_x : CtxHolds Try.prog laws_szPortS_G := ctx_cons laws_szPort_h ctx_nil
def laws_szPortS_A : List (Nat × Ann) := [(5, { slots := [(0, .asis), (1, .asis), (5, .asis)], boxes := [] })]
def laws_szPortS_K : Int → Res := (fun r0 => ((true, [.int r0]) : Res))
def laws_szPortS_m0 (a : Rows) (left_1 : Int) (i : Int) : St := { n := 27, sl := [(0, .sl [.int .i64, .sl [.int .i64], .int .i64, .bool] a), (1, .int .i64 left_1), (5, .int .i64 i)], hp := [], ok := true, ls := [], lm := [] }
noncomputable def laws_szPortS_B0 (N : Nat) : (St → Res) → St → Res := loopB Try.prog laws_szPortS_G laws_szPortS_A N Try.f25 laws_szPortS_s [true, true, true, false, true, false] []
theorem laws_szPortS_b0 (N : Nat) (a : Rows) (ih : St → Res) (left_1 : Int) (i : Int) : laws_szPortS_B0 N ih (laws_szPortS_m0 a left_1 i) = laws_szPortS_l0 Vm.bad laws_szPortS_K a (fun left_1 i => ih (laws_szPortS_m0 a left_1 i)) left_1 i := by kernel_rfl
theorem laws_szPortS_n0 (N : Nat) (a : Rows) (m_ : Nat) : (fun left_1 i => loopN (laws_szPortS_B0 N) m_ (laws_szPortS_m0 a left_1 i)) = laws_szPortS_L0 Vm.bad laws_szPortS_K N a m_ := by
  induction m_ with
  | zero => rfl
  | succ m_ ih =>
    funext left_1 i
    show laws_szPortS_B0 N (loopN (laws_szPortS_B0 N) m_) (laws_szPortS_m0 a left_1 i) = _
    rw [laws_szPortS_b0 N a]
    rw [ih]
    rfl
theorem laws_szPortS_r (N : Nat) (a : Rows) (left : Int) : runF Try.prog laws_szPortS_G laws_szPortS_A N Try.f25 laws_szPortS_s (.sl a :: (.int left :: ([]))) = laws_szPortS_f Vm.bad laws_szPortS_K N a left := by
  have run_ : runF Try.prog laws_szPortS_G laws_szPortS_A N Try.f25 laws_szPortS_s (.sl a :: (.int left :: ([]))) = laws_szPortS_t Vm.bad laws_szPortS_K (fun left_1 i => loopN (laws_szPortS_B0 N) N (laws_szPortS_m0 a left_1 i)) a left := by kernel_rfl
  refine run_.trans ?_
  unfold laws_szPortS_f
  have e0 : (fun left_1 i => loopN (laws_szPortS_B0 N) N (laws_szPortS_m0 a left_1 i)) = (laws_szPortS_L0 Vm.bad laws_szPortS_K N a N) := by
    exact laws_szPortS_n0 N a N
  exact congrArg (fun l_ => laws_szPortS_t Vm.bad laws_szPortS_K l_ a left) e0
theorem laws_szPortS_h : Holds Try.prog 25 laws_szPortS_s := by
  refine holds_of_run (A := laws_szPortS_A) laws_szPortS_x Try.func25 rfl (by kernel_rfl) (of_decide_eq_true (by kernel_rfl)) (of_decide_eq_true (by kernel_rfl)) ?_
  intro ds hw hok
  replace hw : WtL ((.sl [.int .i64, .sl [.int .i64], .int .i64, .bool]) :: ((.int .i64) :: ([]))) ds := hw
  obtain ⟨a, ds, rfl, h_a, hw⟩ := of_wt_sl hw
  obtain ⟨left, ds, rfl, h_left, hw⟩ := of_wt_int hw
  obtain rfl := of_wt_nil hw
  obtain ⟨N, hN⟩ := laws_szPortS_c Vm.bad laws_szPortS_K a left h_a h_left
  exact ⟨N, ((laws_szPortS_r N a left).trans hN).trans (by kernel_rfl)⟩

def laws_markIntS_s : Sum := { ps := [⟨[.sl [.int .i64]], false⟩, ⟨[.int .i64], false⟩], rs := [⟨[.imm (.int .i64)], false⟩], fn := fun ds => (mko 1 (rR ds 0) (rI ds 1), [.int (markIntS (rR ds 0) (rI ds 1)).1] ++ [.sl (markIntS (rR ds 0) (rI ds 1)).2]), ms := [some (.rows [.flat 3]), none] }
def laws_markIntS_G : Ctx := []
theorem laws_markIntS_x : CtxHolds Try.prog laws_markIntS_G := ctx_nil
def laws_markIntS_A : List (Nat × Ann) := [(2, { slots := [(0, .asis), (1, .asis), (5, .asis)], boxes := [] })]
def laws_markIntS_K : Int → Rows → Res := (fun r0 r1 => ((true, [.int r0] ++ [.sl r1]) : Res))
def laws_markIntS_m0 (k_1 : Int) (i : Int) (a_1 : Rows) : St := { n := 1099511627795, sl := [(0, .own 640000), (1, .int .i64 k_1), (5, .int .i64 i)], hp := [(640000, .row 3 [.int .i64] a_1 false true)], ok := true, ls := [], lm := [] }
noncomputable def laws_markIntS_B0 (N : Nat) : (St → Res) → St → Res := loopBM Try.prog laws_markIntS_G laws_markIntS_A N Try.f35 laws_markIntS_s [true, false, true, false] []
theorem laws_markIntS_b0 (N : Nat) (ih : St → Res) (k_1 : Int) (i : Int) (a_1 : Rows) : laws_markIntS_B0 N ih (laws_markIntS_m0 k_1 i a_1) = laws_markIntS_l0 Vm.bad laws_markIntS_K (fun k_1 i a_1 => ih (laws_markIntS_m0 k_1 i a_1)) k_1 i a_1 := by kernel_rfl
theorem laws_markIntS_n0 (N : Nat) (m_ : Nat) : (fun k_1 i a_1 => loopN (laws_markIntS_B0 N) m_ (laws_markIntS_m0 k_1 i a_1)) = laws_markIntS_L0 Vm.bad laws_markIntS_K N m_ := by
  induction m_ with
  | zero => rfl
  | succ m_ ih =>
    funext k_1 i a_1
    show laws_markIntS_B0 N (loopN (laws_markIntS_B0 N) m_) (laws_markIntS_m0 k_1 i a_1) = _
    rw [laws_markIntS_b0 N]
    rw [ih]
    rfl
theorem laws_markIntS_r (N : Nat) (a : Rows) (k : Int) : runFM Try.prog laws_markIntS_G laws_markIntS_A N Try.f35 laws_markIntS_s (.sl a :: (.int k :: ([]))) = laws_markIntS_f Vm.bad laws_markIntS_K N a k := by
  have run_ : runFM Try.prog laws_markIntS_G laws_markIntS_A N Try.f35 laws_markIntS_s (.sl a :: (.int k :: ([]))) = laws_markIntS_t Vm.bad laws_markIntS_K (fun k_1 i a_1 => loopN (laws_markIntS_B0 N) N (laws_markIntS_m0 k_1 i a_1)) a k := by kernel_rfl
  refine run_.trans ?_
  unfold laws_markIntS_f
  have e0 : (fun k_1 i a_1 => loopN (laws_markIntS_B0 N) N (laws_markIntS_m0 k_1 i a_1)) = (laws_markIntS_L0 Vm.bad laws_markIntS_K N N) := by
    exact laws_markIntS_n0 N N
  exact congrArg (fun l_ => laws_markIntS_t Vm.bad laws_markIntS_K l_ a k) e0
theorem laws_markIntS_h : HoldsM Try.prog 35 laws_markIntS_s := by
  refine holdsM_of_run (A := laws_markIntS_A) laws_markIntS_x Try.func35 rfl (by kernel_rfl) (of_decide_eq_true (by kernel_rfl)) (of_decide_eq_true (by kernel_rfl)) (by kernel_rfl) (fun ds => by kernel_rfl) ?_
  intro ds hw hok
  replace hw : WtL ((.sl [.int .i64]) :: ((.int .i64) :: ([]))) ds := hw
  obtain ⟨a, ds, rfl, h_a, hw⟩ := of_wt_sl hw
  obtain ⟨k, ds, rfl, h_k, hw⟩ := of_wt_int hw
  obtain rfl := of_wt_nil hw
  obtain ⟨N, hN⟩ := laws_markIntS_c Vm.bad laws_markIntS_K a k h_a h_k hok
  exact ⟨N, ((laws_markIntS_r N a k).trans hN).trans (by kernel_rfl)⟩

def laws_heldIntS_s : Sum := { ps := [⟨[.sl [.int .i64]], false⟩, ⟨[.int .i64], false⟩], rs := [⟨[.imm (.int .i64)], false⟩], fn := fun ds => (hdo fIntS 1 (rR ds 0) (rI ds 1), [.int (heldIntS (rR ds 0) (rI ds 1))]) }
def laws_heldIntS_G : Ctx := []
theorem laws_heldIntS_x : CtxHolds Try.prog laws_heldIntS_G := ctx_nil
def laws_heldIntS_A : List (Nat × Ann) := [(2, { slots := [(0, .asis), (1, .asis), (5, .asis)], boxes := [] })]
def laws_heldIntS_K : Int → Res := (fun r0 => ((true, [.int r0]) : Res))
def laws_heldIntS_m0 (a : Rows) (k_1 : Int) (i : Int) : St := { n := 21, sl := [(0, .sl [.int .i64] a), (1, .int .i64 k_1), (5, .int .i64 i)], hp := [], ok := true, ls := [], lm := [] }
noncomputable def laws_heldIntS_B0 (N : Nat) : (St → Res) → St → Res := loopB Try.prog laws_heldIntS_G laws_heldIntS_A N Try.f52 laws_heldIntS_s [true, false, true, false] []
theorem laws_heldIntS_b0 (N : Nat) (a : Rows) (ih : St → Res) (k_1 : Int) (i : Int) : laws_heldIntS_B0 N ih (laws_heldIntS_m0 a k_1 i) = laws_heldIntS_l0 Vm.bad laws_heldIntS_K a (fun k_1 i => ih (laws_heldIntS_m0 a k_1 i)) k_1 i := by kernel_rfl
theorem laws_heldIntS_n0 (N : Nat) (a : Rows) (m_ : Nat) : (fun k_1 i => loopN (laws_heldIntS_B0 N) m_ (laws_heldIntS_m0 a k_1 i)) = laws_heldIntS_L0 Vm.bad laws_heldIntS_K N a m_ := by
  induction m_ with
  | zero => rfl
  | succ m_ ih =>
    funext k_1 i
    show laws_heldIntS_B0 N (loopN (laws_heldIntS_B0 N) m_) (laws_heldIntS_m0 a k_1 i) = _
    rw [laws_heldIntS_b0 N a]
    rw [ih]
    rfl
theorem laws_heldIntS_r (N : Nat) (a : Rows) (k : Int) : runF Try.prog laws_heldIntS_G laws_heldIntS_A N Try.f52 laws_heldIntS_s (.sl a :: (.int k :: ([]))) = laws_heldIntS_f Vm.bad laws_heldIntS_K N a k := by
  have run_ : runF Try.prog laws_heldIntS_G laws_heldIntS_A N Try.f52 laws_heldIntS_s (.sl a :: (.int k :: ([]))) = laws_heldIntS_t Vm.bad laws_heldIntS_K (fun k_1 i => loopN (laws_heldIntS_B0 N) N (laws_heldIntS_m0 a k_1 i)) a k := by kernel_rfl
  refine run_.trans ?_
  unfold laws_heldIntS_f
  have e0 : (fun k_1 i => loopN (laws_heldIntS_B0 N) N (laws_heldIntS_m0 a k_1 i)) = (laws_heldIntS_L0 Vm.bad laws_heldIntS_K N a N) := by
    exact laws_heldIntS_n0 N a N
  exact congrArg (fun l_ => laws_heldIntS_t Vm.bad laws_heldIntS_K l_ a k) e0
theorem laws_heldIntS_h : Holds Try.prog 52 laws_heldIntS_s := by
  refine holds_of_run (A := laws_heldIntS_A) laws_heldIntS_x Try.func52 rfl (by kernel_rfl) (of_decide_eq_true (by kernel_rfl)) (of_decide_eq_true (by kernel_rfl)) ?_
  intro ds hw hok
  replace hw : WtL ((.sl [.int .i64]) :: ((.int .i64) :: ([]))) ds := hw
  obtain ⟨a, ds, rfl, h_a, hw⟩ := of_wt_sl hw
  obtain ⟨k, ds, rfl, h_k, hw⟩ := of_wt_int hw
  obtain rfl := of_wt_nil hw
  obtain ⟨N, hN⟩ := laws_heldIntS_c Vm.bad laws_heldIntS_K a k h_a h_k hok
  exact ⟨N, ((laws_heldIntS_r N a k).trans hN).trans (by kernel_rfl)⟩

end
end Go.Proofs.Ytfnkhejoihnlnaa.Pl
