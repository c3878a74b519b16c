/- The contracts of functions of the program: each computes what its plain form says. Conditions: none. -/
import Derived.Test.YtjmgpcfmcdlnpaaPLs
import Derived.Test.YtjmgpcfmcdlnpaaRows
set_option linter.unusedVariables false
set_option linter.unusedSimpArgs false
set_option maxRecDepth 100000
namespace Go.Proofs.Ytjmgpcfmcdlnpaa.Pl
open Vm
noncomputable section

def laws_eqIntS_s : Sum := { ps := [⟨[.sl [.int .i64]], false⟩, ⟨[.sl [.int .i64]], false⟩], rs := [⟨[.imm .bool], false⟩], fn := fun ds => (same (rR ds 0) (rR ds 1), [.bool (yes2 (rR ds 0) (rR ds 1))]) }
def laws_eqIntS_G : Ctx := []
theorem laws_eqIntS_x : CtxHolds Try.prog laws_eqIntS_G := ctx_nil
def laws_eqIntS_A : List (Nat × Ann) := [(4, { slots := [(0, .asis), (1, .asis), (5, .asis)], boxes := [] })]
def laws_eqIntS_K : Bool → Res := (fun r0 => ((true, [.bool r0]) : Res))
def laws_eqIntS_m0 (a : Rows) (b : Rows) (i : Int) : St := { n := 26, sl := [(0, .sl [.int .i64] a), (1, .sl [.int .i64] b), (5, .int .i64 i)], hp := [], ok := true, ls := [], lm := [] }
noncomputable def laws_eqIntS_B0 (N : Nat) : (St → Res) → St → Res := loopB Try.prog laws_eqIntS_G laws_eqIntS_A N Try.f27 laws_eqIntS_s [true, true, false, true, false] []
theorem laws_eqIntS_b0 (N : Nat) (a : Rows) (b : Rows) (ih : St → Res) (i : Int) : laws_eqIntS_B0 N ih (laws_eqIntS_m0 a b i) = laws_eqIntS_l0 Vm.bad laws_eqIntS_K a b (fun i => ih (laws_eqIntS_m0 a b i)) i := by kernel_rfl
theorem laws_eqIntS_n0 (N : Nat) (a : Rows) (b : Rows) (m_ : Nat) : (fun i => loopN (laws_eqIntS_B0 N) m_ (laws_eqIntS_m0 a b i)) = laws_eqIntS_L0 Vm.bad laws_eqIntS_K N a b m_ := by
  induction m_ with
  | zero => rfl
  | succ m_ ih =>
    funext i
    show laws_eqIntS_B0 N (loopN (laws_eqIntS_B0 N) m_) (laws_eqIntS_m0 a b i) = _
    rw [laws_eqIntS_b0 N a b]
    rw [ih]
    rfl
theorem laws_eqIntS_r (N : Nat) (a : Rows) (b : Rows) : runF Try.prog laws_eqIntS_G laws_eqIntS_A N Try.f27 laws_eqIntS_s (.sl a :: (.sl b :: ([]))) = laws_eqIntS_f Vm.bad laws_eqIntS_K N a b := by
  have h : runF Try.prog laws_eqIntS_G laws_eqIntS_A N Try.f27 laws_eqIntS_s (.sl a :: (.sl b :: ([]))) = laws_eqIntS_t Vm.bad laws_eqIntS_K (fun i => loopN (laws_eqIntS_B0 N) N (laws_eqIntS_m0 a b i)) a b := by kernel_rfl
  refine h.trans ?_
  unfold laws_eqIntS_f
  have e0 : (fun i => loopN (laws_eqIntS_B0 N) N (laws_eqIntS_m0 a b i)) = (laws_eqIntS_L0 Vm.bad laws_eqIntS_K N a b N) := by
    exact laws_eqIntS_n0 N a b N
  exact congrArg (fun l_ => laws_eqIntS_t Vm.bad laws_eqIntS_K l_ a b) e0
theorem laws_eqIntS_h : Holds Try.prog 27 laws_eqIntS_s := by
  refine holds_of_run (A := laws_eqIntS_A) laws_eqIntS_x Try.func27 rfl (by kernel_rfl) (of_decide_eq_true (by kernel_rfl)) (of_decide_eq_true (by kernel_rfl)) ?_
  intro ds hw hok
  replace hw : WtL ((.sl [.int .i64]) :: ((.sl [.int .i64]) :: ([]))) ds := hw
  obtain ⟨a, ds, rfl, h_a, hw⟩ := of_wt_sl hw
  obtain ⟨b, ds, rfl, h_b, hw⟩ := of_wt_sl hw
  obtain rfl := of_wt_nil hw
  obtain ⟨N, hN⟩ := laws_eqIntS_c Vm.bad laws_eqIntS_K a b h_a h_b hok
  exact ⟨N, ((laws_eqIntS_r N a b).trans hN).trans (by kernel_rfl)⟩

def laws_toBoolS_s : Sum := { ps := [⟨[.sl [.bool]], false⟩], rs := [⟨[.own 4 [.bool]], false⟩], fn := fun ds => (sm (rR ds 0), [.sl (idf (rR ds 0))]) }
def laws_toBoolS_G : Ctx := []
theorem laws_toBoolS_x : CtxHolds Try.prog laws_toBoolS_G := ctx_nil
def laws_toBoolS_A : List (Nat × Ann) := [(3, { slots := [(0, .asis), (3, .asis), (4, .asis)], boxes := [] })]
def laws_toBoolS_K : Rows → Res := (fun r0 => ((true, [.sl r0]) : Res))
def laws_toBoolS_m0 (a : Rows) (i : Int) (out_ : Rows) : St := { n := 22, sl := [(0, .sl [.bool] a), (3, .own 640192), (4, .int .i64 i)], hp := [(640192, .row 4 [.bool] out_ false true)], ok := true, ls := [], lm := [] }
noncomputable def laws_toBoolS_B0 (N : Nat) : (St → Res) → St → Res := loopB Try.prog laws_toBoolS_G laws_toBoolS_A N Try.f26 laws_toBoolS_s [true, true, false, true, false] []
theorem laws_toBoolS_b0 (N : Nat) (a : Rows) (ih : St → Res) (i : Int) (out_ : Rows) : laws_toBoolS_B0 N ih (laws_toBoolS_m0 a i out_) = laws_toBoolS_l0 Vm.bad laws_toBoolS_K a (fun i out_ => ih (laws_toBoolS_m0 a i out_)) i out_ := by kernel_rfl
theorem laws_toBoolS_n0 (N : Nat) (a : Rows) (m_ : Nat) : (fun i out_ => loopN (laws_toBoolS_B0 N) m_ (laws_toBoolS_m0 a i out_)) = laws_toBoolS_L0 Vm.bad laws_toBoolS_K N a m_ := by
  induction m_ with
  | zero => rfl
  | succ m_ ih =>
    funext i out_
    show laws_toBoolS_B0 N (loopN (laws_toBoolS_B0 N) m_) (laws_toBoolS_m0 a i out_) = _
    rw [laws_toBoolS_b0 N a]
    rw [ih]
    rfl
theorem laws_toBoolS_r (N : Nat) (a : Rows) : runF Try.prog laws_toBoolS_G laws_toBoolS_A N Try.f26 laws_toBoolS_s (.sl a :: ([])) = laws_toBoolS_f Vm.bad laws_toBoolS_K N a := by
  have h : runF Try.prog laws_toBoolS_G laws_toBoolS_A N Try.f26 laws_toBoolS_s (.sl a :: ([])) = laws_toBoolS_t Vm.bad laws_toBoolS_K (fun i out_ => loopN (laws_toBoolS_B0 N) N (laws_toBoolS_m0 a i out_)) a := by kernel_rfl
  refine h.trans ?_
  unfold laws_toBoolS_f
  have e0 : (fun i out_ => loopN (laws_toBoolS_B0 N) N (laws_toBoolS_m0 a i out_)) = (laws_toBoolS_L0 Vm.bad laws_toBoolS_K N a N) := by
    exact laws_toBoolS_n0 N a N
  exact congrArg (fun l_ => laws_toBoolS_t Vm.bad laws_toBoolS_K l_ a) e0
theorem laws_toBoolS_h : Holds Try.prog 26 laws_toBoolS_s := by
  refine holds_of_run (A := laws_toBoolS_A) laws_toBoolS_x Try.func26 rfl (by kernel_rfl) (of_decide_eq_true (by kernel_rfl)) (of_decide_eq_true (by kernel_rfl)) ?_
  intro ds hw hok
  replace hw : WtL ((.sl [.bool]) :: ([])) ds := hw
  obtain ⟨a, ds, rfl, h_a, hw⟩ := of_wt_sl hw
  obtain rfl := of_wt_nil hw
  obtain ⟨N, hN⟩ := laws_toBoolS_c Vm.bad laws_toBoolS_K a h_a hok
  exact ⟨N, ((laws_toBoolS_r N a).trans hN).trans (by kernel_rfl)⟩

def laws_eqMessage_s : Sum := { ps := [⟨[.int .i64, .int .i64, .int .i64], true⟩, ⟨[.int .i64, .int .i64, .int .i64], true⟩], rs := [⟨[.imm .bool], false⟩], fn := fun ds => (same (SMessage.decAt ds 0) (SMessage.decAt ds 3), [.bool (yes2 (SMessage.decAt ds 0) (SMessage.decAt ds 3))]) }
def laws_eqMessage_G : Ctx := []
theorem laws_eqMessage_x : CtxHolds Try.prog laws_eqMessage_G := ctx_nil
def laws_eqMessage_A : List (Nat × Ann) := []
theorem laws_eqMessage_r (N : Nat) (a : SMessage) (b : SMessage) : runF Try.prog laws_eqMessage_G laws_eqMessage_A N Try.f50 laws_eqMessage_s (a.enc ++ (b.enc ++ ([]))) = laws_eqMessage_t (fun r0 => ((true, [.bool r0]) : Res)) a b := by kernel_rfl
theorem laws_eqMessage_h : Holds Try.prog 50 laws_eqMessage_s := by
  refine holds_of_run (A := laws_eqMessage_A) laws_eqMessage_x Try.func50 rfl (by kernel_rfl) (of_decide_eq_true (by kernel_rfl)) (of_decide_eq_true (by kernel_rfl)) ?_
  intro ds hw hok
  replace hw : WtL (SMessage.ct ++ (SMessage.ct ++ ([]))) ds := hw
  obtain ⟨a, ds, rfl, h_a, hw⟩ := SMessage.of_wt (r := _) hw
  obtain ⟨b, ds, rfl, h_b, hw⟩ := SMessage.of_wt (r := _) hw
  obtain rfl := of_wt_nil hw
  exact ⟨0, ((laws_eqMessage_r 0 a b).trans (laws_eqMessage_c _ a b h_a h_b hok)).trans (by kernel_rfl)⟩

def laws_eqFilter_s : Sum := { ps := [⟨[.int .i64, .bool, .sl [.int .i64]], true⟩, ⟨[.int .i64, .bool, .sl [.int .i64]], true⟩], rs := [⟨[.imm .bool], false⟩], fn := fun ds => (same (SFilter.decAt ds 0) (SFilter.decAt ds 3), [.bool (yes2 (SFilter.decAt ds 0) (SFilter.decAt ds 3))]) }
def laws_eqFilter_G : Ctx := [(27, laws_eqIntS_s)]
theorem laws_eqFilter_x : CtxHolds Try.prog laws_eqFilter_G := ctx_cons laws_eqIntS_h ctx_nil
def laws_eqFilter_A : List (Nat × Ann) := []
theorem laws_eqFilter_r (N : Nat) (a : SFilter) (b : SFilter) : runF Try.prog laws_eqFilter_G laws_eqFilter_A N Try.f39 laws_eqFilter_s (a.enc ++ (b.enc ++ ([]))) = laws_eqFilter_t Vm.bad (fun r0 => ((true, [.bool r0]) : Res)) a b := by kernel_rfl
theorem laws_eqFilter_h : Holds Try.prog 39 laws_eqFilter_s := by
  refine holds_of_run (A := laws_eqFilter_A) laws_eqFilter_x Try.func39 rfl (by kernel_rfl) (of_decide_eq_true (by kernel_rfl)) (of_decide_eq_true (by kernel_rfl)) ?_
  intro ds hw hok
  replace hw : WtL (SFilter.ct ++ (SFilter.ct ++ ([]))) ds := hw
  obtain ⟨a, ds, rfl, h_a, hw⟩ := SFilter.of_wt (r := _) hw
  obtain ⟨b, ds, rfl, h_b, hw⟩ := SFilter.of_wt (r := _) hw
  obtain rfl := of_wt_nil hw
  exact ⟨0, ((laws_eqFilter_r 0 a b).trans (laws_eqFilter_c Vm.bad _ a b h_a h_b hok)).trans (by kernel_rfl)⟩

def laws_toIntS_s : Sum := { ps := [⟨[.sl [.int .i64]], false⟩], rs := [⟨[.own 3 [.int .i64]], false⟩], fn := fun ds => (sm (rR ds 0), [.sl (idf (rR ds 0))]) }
def laws_toIntS_G : Ctx := []
theorem laws_toIntS_x : CtxHolds Try.prog laws_toIntS_G := ctx_nil
def laws_toIntS_A : List (Nat × Ann) := [(3, { slots := [(0, .asis), (3, .asis), (4, .asis)], boxes := [] })]
def laws_toIntS_K : Rows → Res := (fun r0 => ((true, [.sl r0]) : Res))
def laws_toIntS_m0 (a : Rows) (i : Int) (out_ : Rows) : St := { n := 22, sl := [(0, .sl [.int .i64] a), (3, .own 640192), (4, .int .i64 i)], hp := [(640192, .row 3 [.int .i64] out_ false true)], ok := true, ls := [], lm := [] }
noncomputable def laws_toIntS_B0 (N : Nat) : (St → Res) → St → Res := loopB Try.prog laws_toIntS_G laws_toIntS_A N Try.f52 laws_toIntS_s [true, true, false, true, false] []
theorem laws_toIntS_b0 (N : Nat) (a : Rows) (ih : St → Res) (i : Int) (out_ : Rows) : laws_toIntS_B0 N ih (laws_toIntS_m0 a i out_) = laws_toIntS_l0 Vm.bad laws_toIntS_K a (fun i out_ => ih (laws_toIntS_m0 a i out_)) i out_ := by kernel_rfl
theorem laws_toIntS_n0 (N : Nat) (a : Rows) (m_ : Nat) : (fun i out_ => loopN (laws_toIntS_B0 N) m_ (laws_toIntS_m0 a i out_)) = laws_toIntS_L0 Vm.bad laws_toIntS_K N a m_ := by
  induction m_ with
  | zero => rfl
  | succ m_ ih =>
    funext i out_
    show laws_toIntS_B0 N (loopN (laws_toIntS_B0 N) m_) (laws_toIntS_m0 a i out_) = _
    rw [laws_toIntS_b0 N a]
    rw [ih]
    rfl
theorem laws_toIntS_r (N : Nat) (a : Rows) : runF Try.prog laws_toIntS_G laws_toIntS_A N Try.f52 laws_toIntS_s (.sl a :: ([])) = laws_toIntS_f Vm.bad laws_toIntS_K N a := by
  have h : runF Try.prog laws_toIntS_G laws_toIntS_A N Try.f52 laws_toIntS_s (.sl a :: ([])) = laws_toIntS_t Vm.bad laws_toIntS_K (fun i out_ => loopN (laws_toIntS_B0 N) N (laws_toIntS_m0 a i out_)) a := by kernel_rfl
  refine h.trans ?_
  unfold laws_toIntS_f
  have e0 : (fun i out_ => loopN (laws_toIntS_B0 N) N (laws_toIntS_m0 a i out_)) = (laws_toIntS_L0 Vm.bad laws_toIntS_K N a N) := by
    exact laws_toIntS_n0 N a N
  exact congrArg (fun l_ => laws_toIntS_t Vm.bad laws_toIntS_K l_ a) e0
theorem laws_toIntS_h : Holds Try.prog 52 laws_toIntS_s := by
  refine holds_of_run (A := laws_toIntS_A) laws_toIntS_x Try.func52 rfl (by kernel_rfl) (of_decide_eq_true (by kernel_rfl)) (of_decide_eq_true (by kernel_rfl)) ?_
  intro ds hw hok
  replace hw : WtL ((.sl [.int .i64]) :: ([])) ds := hw
  obtain ⟨a, ds, rfl, h_a, hw⟩ := of_wt_sl hw
  obtain rfl := of_wt_nil hw
  obtain ⟨N, hN⟩ := laws_toIntS_c Vm.bad laws_toIntS_K a h_a hok
  exact ⟨N, ((laws_toIntS_r N a).trans hN).trans (by kernel_rfl)⟩

def laws_toFilter_s : Sum := { ps := [⟨[.int .i64, .bool, .sl [.int .i64]], true⟩], rs := [⟨[.imm (.int .i64), .imm .bool, .own 3 [.int .i64]], true⟩], fn := fun ds => (laws_toFilter_ok (SFilter.decAt ds 0), SFilter.enc (idf (SFilter.decAt ds 0))) }
def laws_toFilter_G : Ctx := [(52, laws_toIntS_s)]
theorem laws_toFilter_x : CtxHolds Try.prog laws_toFilter_G := ctx_cons laws_toIntS_h ctx_nil
def laws_toFilter_A : List (Nat × Ann) := []
theorem laws_toFilter_r (N : Nat) (a : SFilter) : runF Try.prog laws_toFilter_G laws_toFilter_A N Try.f37 laws_toFilter_s (a.enc ++ ([])) = laws_toFilter_t Vm.bad (fun r0 => ((true, SFilter.enc r0) : Res)) a := by kernel_rfl
theorem laws_toFilter_h : Holds Try.prog 37 laws_toFilter_s := by
  refine holds_of_run (A := laws_toFilter_A) laws_toFilter_x Try.func37 rfl (by kernel_rfl) (of_decide_eq_true (by kernel_rfl)) (of_decide_eq_true (by kernel_rfl)) ?_
  intro ds hw hok
  replace hw : WtL (SFilter.ct ++ ([])) ds := hw
  obtain ⟨a, ds, rfl, h_a, hw⟩ := SFilter.of_wt (r := _) hw
  obtain rfl := of_wt_nil hw
  exact ⟨0, ((laws_toFilter_r 0 a).trans (laws_toFilter_c Vm.bad _ a h_a hok)).trans (by kernel_rfl)⟩

def laws_eqBoolS_s : Sum := { ps := [⟨[.sl [.bool]], false⟩, ⟨[.sl [.bool]], false⟩], rs := [⟨[.imm .bool], false⟩], fn := fun ds => (same (rR ds 0) (rR ds 1), [.bool (yes2 (rR ds 0) (rR ds 1))]) }
def laws_eqBoolS_G : Ctx := []
theorem laws_eqBoolS_x : CtxHolds Try.prog laws_eqBoolS_G := ctx_nil
def laws_eqBoolS_A : List (Nat × Ann) := [(4, { slots := [(0, .asis), (1, .asis), (5, .asis)], boxes := [] })]
def laws_eqBoolS_K : Bool → Res := (fun r0 => ((true, [.bool r0]) : Res))
def laws_eqBoolS_m0 (a : Rows) (b : Rows) (i : Int) : St := { n := 26, sl := [(0, .sl [.bool] a), (1, .sl [.bool] b), (5, .int .i64 i)], hp := [], ok := true, ls := [], lm := [] }
noncomputable def laws_eqBoolS_B0 (N : Nat) : (St → Res) → St → Res := loopB Try.prog laws_eqBoolS_G laws_eqBoolS_A N Try.f29 laws_eqBoolS_s [true, true, false, true, false] []
theorem laws_eqBoolS_b0 (N : Nat) (a : Rows) (b : Rows) (ih : St → Res) (i : Int) : laws_eqBoolS_B0 N ih (laws_eqBoolS_m0 a b i) = laws_eqBoolS_l0 Vm.bad laws_eqBoolS_K a b (fun i => ih (laws_eqBoolS_m0 a b i)) i := by kernel_rfl
theorem laws_eqBoolS_n0 (N : Nat) (a : Rows) (b : Rows) (m_ : Nat) : (fun i => loopN (laws_eqBoolS_B0 N) m_ (laws_eqBoolS_m0 a b i)) = laws_eqBoolS_L0 Vm.bad laws_eqBoolS_K N a b m_ := by
  induction m_ with
  | zero => rfl
  | succ m_ ih =>
    funext i
    show laws_eqBoolS_B0 N (loopN (laws_eqBoolS_B0 N) m_) (laws_eqBoolS_m0 a b i) = _
    rw [laws_eqBoolS_b0 N a b]
    rw [ih]
    rfl
theorem laws_eqBoolS_r (N : Nat) (a : Rows) (b : Rows) : runF Try.prog laws_eqBoolS_G laws_eqBoolS_A N Try.f29 laws_eqBoolS_s (.sl a :: (.sl b :: ([]))) = laws_eqBoolS_f Vm.bad laws_eqBoolS_K N a b := by
  have h : runF Try.prog laws_eqBoolS_G laws_eqBoolS_A N Try.f29 laws_eqBoolS_s (.sl a :: (.sl b :: ([]))) = laws_eqBoolS_t Vm.bad laws_eqBoolS_K (fun i => loopN (laws_eqBoolS_B0 N) N (laws_eqBoolS_m0 a b i)) a b := by kernel_rfl
  refine h.trans ?_
  unfold laws_eqBoolS_f
  have e0 : (fun i => loopN (laws_eqBoolS_B0 N) N (laws_eqBoolS_m0 a b i)) = (laws_eqBoolS_L0 Vm.bad laws_eqBoolS_K N a b N) := by
    exact laws_eqBoolS_n0 N a b N
  exact congrArg (fun l_ => laws_eqBoolS_t Vm.bad laws_eqBoolS_K l_ a b) e0
theorem laws_eqBoolS_h : Holds Try.prog 29 laws_eqBoolS_s := by
  refine holds_of_run (A := laws_eqBoolS_A) laws_eqBoolS_x Try.func29 rfl (by kernel_rfl) (of_decide_eq_true (by kernel_rfl)) (of_decide_eq_true (by kernel_rfl)) ?_
  intro ds hw hok
  replace hw : WtL ((.sl [.bool]) :: ((.sl [.bool]) :: ([]))) ds := hw
  obtain ⟨a, ds, rfl, h_a, hw⟩ := of_wt_sl hw
  obtain ⟨b, ds, rfl, h_b, hw⟩ := of_wt_sl hw
  obtain rfl := of_wt_nil hw
  obtain ⟨N, hN⟩ := laws_eqBoolS_c Vm.bad laws_eqBoolS_K a b h_a h_b hok
  exact ⟨N, ((laws_eqBoolS_r N a b).trans hN).trans (by kernel_rfl)⟩

def laws_szIntS_s : Sum := { ps := [⟨[.sl [.int .i64]], false⟩, ⟨[.int .i64], false⟩], rs := [⟨[.imm (.int .i64)], false⟩], fn := fun ds => (true, [.int (szFlat (rR ds 0) (rI ds 1))]) }
def laws_szIntS_G : Ctx := []
theorem laws_szIntS_x : CtxHolds Try.prog laws_szIntS_G := ctx_nil
def laws_szIntS_A : List (Nat × Ann) := []
theorem laws_szIntS_r (N : Nat) (a : Rows) (left : Int) : runF Try.prog laws_szIntS_G laws_szIntS_A N Try.f51 laws_szIntS_s (.sl a :: (.int left :: ([]))) = laws_szIntS_t (fun r0 => ((true, [.int r0]) : Res)) a left := by kernel_rfl
theorem laws_szIntS_h : Holds Try.prog 51 laws_szIntS_s := by
  refine holds_of_run (A := laws_szIntS_A) laws_szIntS_x Try.func51 rfl (by kernel_rfl) (of_decide_eq_true (by kernel_rfl)) (of_decide_eq_true (by kernel_rfl)) ?_
  intro ds hw hok
  replace hw : WtL ((.sl [.int .i64]) :: ((.int .i64) :: ([]))) ds := hw
  obtain ⟨a, ds, rfl, h_a, hw⟩ := of_wt_sl hw
  obtain ⟨left, ds, rfl, h_left, hw⟩ := of_wt_int hw
  obtain rfl := of_wt_nil hw
  exact ⟨0, ((laws_szIntS_r 0 a left).trans (laws_szIntS_c _ a left h_a h_left)).trans (by kernel_rfl)⟩

def laws_eqMessageS_s : Sum := { ps := [⟨[.sl [.int .i64, .int .i64, .int .i64]], false⟩, ⟨[.sl [.int .i64, .int .i64, .int .i64]], false⟩], rs := [⟨[.imm .bool], false⟩], fn := fun ds => (same (rR ds 0) (rR ds 1), [.bool (yes2 (rR ds 0) (rR ds 1))]) }
def laws_eqMessageS_G : Ctx := [(50, laws_eqMessage_s)]
theorem laws_eqMessageS_x : CtxHolds Try.prog laws_eqMessageS_G := ctx_cons laws_eqMessage_h ctx_nil
def laws_eqMessageS_A : List (Nat × Ann) := [(4, { slots := [(0, .asis), (1, .asis), (5, .asis)], boxes := [] })]
def laws_eqMessageS_K : Bool → Res := (fun r0 => ((true, [.bool r0]) : Res))
def laws_eqMessageS_m0 (a : Rows) (b : Rows) (i : Int) : St := { n := 27, sl := [(0, .sl [.int .i64, .int .i64, .int .i64] a), (1, .sl [.int .i64, .int .i64, .int .i64] b), (5, .int .i64 i)], hp := [], ok := true, ls := [], lm := [] }
noncomputable def laws_eqMessageS_B0 (N : Nat) : (St → Res) → St → Res := loopB Try.prog laws_eqMessageS_G laws_eqMessageS_A N Try.f28 laws_eqMessageS_s [true, true, false, true, false] []
theorem laws_eqMessageS_b0 (N : Nat) (a : Rows) (b : Rows) (ih : St → Res) (i : Int) : laws_eqMessageS_B0 N ih (laws_eqMessageS_m0 a b i) = laws_eqMessageS_l0 Vm.bad laws_eqMessageS_K a b (fun i => ih (laws_eqMessageS_m0 a b i)) i := by kernel_rfl
theorem laws_eqMessageS_n0 (N : Nat) (a : Rows) (b : Rows) (m_ : Nat) : (fun i => loopN (laws_eqMessageS_B0 N) m_ (laws_eqMessageS_m0 a b i)) = laws_eqMessageS_L0 Vm.bad laws_eqMessageS_K N a b m_ := by
  induction m_ with
  | zero => rfl
  | succ m_ ih =>
    funext i
    show laws_eqMessageS_B0 N (loopN (laws_eqMessageS_B0 N) m_) (laws_eqMessageS_m0 a b i) = _
    rw [laws_eqMessageS_b0 N a b]
    rw [ih]
    rfl
theorem laws_eqMessageS_r (N : Nat) (a : Rows) (b : Rows) : runF Try.prog laws_eqMessageS_G laws_eqMessageS_A N Try.f28 laws_eqMessageS_s (.sl a :: (.sl b :: ([]))) = laws_eqMessageS_f Vm.bad laws_eqMessageS_K N a b := by
  have h : runF Try.prog laws_eqMessageS_G laws_eqMessageS_A N Try.f28 laws_eqMessageS_s (.sl a :: (.sl b :: ([]))) = laws_eqMessageS_t Vm.bad laws_eqMessageS_K (fun i => loopN (laws_eqMessageS_B0 N) N (laws_eqMessageS_m0 a b i)) a b := by kernel_rfl
  refine h.trans ?_
  unfold laws_eqMessageS_f
  have e0 : (fun i => loopN (laws_eqMessageS_B0 N) N (laws_eqMessageS_m0 a b i)) = (laws_eqMessageS_L0 Vm.bad laws_eqMessageS_K N a b N) := by
    exact laws_eqMessageS_n0 N a b N
  exact congrArg (fun l_ => laws_eqMessageS_t Vm.bad laws_eqMessageS_K l_ a b) e0
theorem laws_eqMessageS_h : Holds Try.prog 28 laws_eqMessageS_s := by
  refine holds_of_run (A := laws_eqMessageS_A) laws_eqMessageS_x Try.func28 rfl (by kernel_rfl) (of_decide_eq_true (by kernel_rfl)) (of_decide_eq_true (by kernel_rfl)) ?_
  intro ds hw hok
  replace hw : WtL ((.sl [.int .i64, .int .i64, .int .i64]) :: ((.sl [.int .i64, .int .i64, .int .i64]) :: ([]))) ds := hw
  obtain ⟨a, ds, rfl, h_a, hw⟩ := of_wt_sl hw
  obtain ⟨b, ds, rfl, h_b, hw⟩ := of_wt_sl hw
  obtain rfl := of_wt_nil hw
  obtain ⟨N, hN⟩ := laws_eqMessageS_c Vm.bad laws_eqMessageS_K a b h_a h_b hok
  exact ⟨N, ((laws_eqMessageS_r N a b).trans hN).trans (by kernel_rfl)⟩

def laws_szMessageS_s : Sum := { ps := [⟨[.sl [.int .i64, .int .i64, .int .i64]], false⟩, ⟨[.int .i64], false⟩], rs := [⟨[.imm (.int .i64)], false⟩], fn := fun ds => (true, [.int (szFlat (rR ds 0) (rI ds 1))]) }
def laws_szMessageS_G : Ctx := []
theorem laws_szMessageS_x : CtxHolds Try.prog laws_szMessageS_G := ctx_nil
def laws_szMessageS_A : List (Nat × Ann) := []
theorem laws_szMessageS_r (N : Nat) (a : Rows) (left : Int) : runF Try.prog laws_szMessageS_G laws_szMessageS_A N Try.f23 laws_szMessageS_s (.sl a :: (.int left :: ([]))) = laws_szMessageS_t (fun r0 => ((true, [.int r0]) : Res)) a left := by kernel_rfl
theorem laws_szMessageS_h : Holds Try.prog 23 laws_szMessageS_s := by
  refine holds_of_run (A := laws_szMessageS_A) laws_szMessageS_x Try.func23 rfl (by kernel_rfl) (of_decide_eq_true (by kernel_rfl)) (of_decide_eq_true (by kernel_rfl)) ?_
  intro ds hw hok
  replace hw : WtL ((.sl [.int .i64, .int .i64, .int .i64]) :: ((.int .i64) :: ([]))) ds := hw
  obtain ⟨a, ds, rfl, h_a, hw⟩ := of_wt_sl hw
  obtain ⟨left, ds, rfl, h_left, hw⟩ := of_wt_int hw
  obtain rfl := of_wt_nil hw
  exact ⟨0, ((laws_szMessageS_r 0 a left).trans (laws_szMessageS_c _ a left h_a h_left)).trans (by kernel_rfl)⟩

def laws_toMessage_s : Sum := { ps := [⟨[.int .i64, .int .i64, .int .i64], true⟩], rs := [⟨[.imm (.int .i64), .imm (.int .i64), .imm (.int .i64)], true⟩], fn := fun ds => (true, SMessage.enc (idf (SMessage.decAt ds 0))) }
def laws_toMessage_G : Ctx := []
theorem laws_toMessage_x : CtxHolds Try.prog laws_toMessage_G := ctx_nil
def laws_toMessage_A : List (Nat × Ann) := []
theorem laws_toMessage_r (N : Nat) (a : SMessage) : runF Try.prog laws_toMessage_G laws_toMessage_A N Try.f20 laws_toMessage_s (a.enc ++ ([])) = laws_toMessage_t (fun r0 => ((true, SMessage.enc r0) : Res)) a := by kernel_rfl
theorem laws_toMessage_h : Holds Try.prog 20 laws_toMessage_s := by
  refine holds_of_run (A := laws_toMessage_A) laws_toMessage_x Try.func20 rfl (by kernel_rfl) (of_decide_eq_true (by kernel_rfl)) (of_decide_eq_true (by kernel_rfl)) ?_
  intro ds hw hok
  replace hw : WtL (SMessage.ct ++ ([])) ds := hw
  obtain ⟨a, ds, rfl, h_a, hw⟩ := SMessage.of_wt (r := _) hw
  obtain rfl := of_wt_nil hw
  exact ⟨0, ((laws_toMessage_r 0 a).trans (laws_toMessage_c _ a h_a)).trans (by kernel_rfl)⟩

def laws_toMessageS_s : Sum := { ps := [⟨[.sl [.int .i64, .int .i64, .int .i64]], false⟩], rs := [⟨[.own 42 [.int .i64, .int .i64, .int .i64]], false⟩], fn := fun ds => (sm (rR ds 0), [.sl (idf (rR ds 0))]) }
def laws_toMessageS_G : Ctx := [(20, laws_toMessage_s)]
theorem laws_toMessageS_x : CtxHolds Try.prog laws_toMessageS_G := ctx_cons laws_toMessage_h ctx_nil
def laws_toMessageS_A : List (Nat × Ann) := [(3, { slots := [(0, .asis), (3, .asis), (4, .asis)], boxes := [] })]
def laws_toMessageS_K : Rows → Res := (fun r0 => ((true, [.sl r0]) : Res))
def laws_toMessageS_m0 (a : Rows) (i : Int) (out_ : Rows) : St := { n := 23, sl := [(0, .sl [.int .i64, .int .i64, .int .i64] a), (3, .own 640192), (4, .int .i64 i)], hp := [(640192, .row 42 [.int .i64, .int .i64, .int .i64] out_ false true)], ok := true, ls := [], lm := [] }
noncomputable def laws_toMessageS_B0 (N : Nat) : (St → Res) → St → Res := loopB Try.prog laws_toMessageS_G laws_toMessageS_A N Try.f25 laws_toMessageS_s [true, true, false, true, false] []
theorem laws_toMessageS_b0 (N : Nat) (a : Rows) (ih : St → Res) (i : Int) (out_ : Rows) : laws_toMessageS_B0 N ih (laws_toMessageS_m0 a i out_) = laws_toMessageS_l0 Vm.bad laws_toMessageS_K a (fun i out_ => ih (laws_toMessageS_m0 a i out_)) i out_ := by kernel_rfl
theorem laws_toMessageS_n0 (N : Nat) (a : Rows) (m_ : Nat) : (fun i out_ => loopN (laws_toMessageS_B0 N) m_ (laws_toMessageS_m0 a i out_)) = laws_toMessageS_L0 Vm.bad laws_toMessageS_K N a m_ := by
  induction m_ with
  | zero => rfl
  | succ m_ ih =>
    funext i out_
    show laws_toMessageS_B0 N (loopN (laws_toMessageS_B0 N) m_) (laws_toMessageS_m0 a i out_) = _
    rw [laws_toMessageS_b0 N a]
    rw [ih]
    rfl
theorem laws_toMessageS_r (N : Nat) (a : Rows) : runF Try.prog laws_toMessageS_G laws_toMessageS_A N Try.f25 laws_toMessageS_s (.sl a :: ([])) = laws_toMessageS_f Vm.bad laws_toMessageS_K N a := by
  have h : runF Try.prog laws_toMessageS_G laws_toMessageS_A N Try.f25 laws_toMessageS_s (.sl a :: ([])) = laws_toMessageS_t Vm.bad laws_toMessageS_K (fun i out_ => loopN (laws_toMessageS_B0 N) N (laws_toMessageS_m0 a i out_)) a := by kernel_rfl
  refine h.trans ?_
  unfold laws_toMessageS_f
  have e0 : (fun i out_ => loopN (laws_toMessageS_B0 N) N (laws_toMessageS_m0 a i out_)) = (laws_toMessageS_L0 Vm.bad laws_toMessageS_K N a N) := by
    exact laws_toMessageS_n0 N a N
  exact congrArg (fun l_ => laws_toMessageS_t Vm.bad laws_toMessageS_K l_ a) e0
theorem laws_toMessageS_h : Holds Try.prog 25 laws_toMessageS_s := by
  refine holds_of_run (A := laws_toMessageS_A) laws_toMessageS_x Try.func25 rfl (by kernel_rfl) (of_decide_eq_true (by kernel_rfl)) (of_decide_eq_true (by kernel_rfl)) ?_
  intro ds hw hok
  replace hw : WtL ((.sl [.int .i64, .int .i64, .int .i64]) :: ([])) ds := hw
  obtain ⟨a, ds, rfl, h_a, hw⟩ := of_wt_sl hw
  obtain rfl := of_wt_nil hw
  obtain ⟨N, hN⟩ := laws_toMessageS_c Vm.bad laws_toMessageS_K a h_a hok
  exact ⟨N, ((laws_toMessageS_r N a).trans hN).trans (by kernel_rfl)⟩

def laws_szFilter_s : Sum := { ps := [⟨[.int .i64, .bool, .sl [.int .i64]], true⟩, ⟨[.int .i64], false⟩], rs := [⟨[.imm (.int .i64)], false⟩], fn := fun ds => (true, [.int (laws_szFilter (SFilter.decAt ds 0) (rI ds 3))]) }
def laws_szFilter_G : Ctx := [(51, laws_szIntS_s)]
theorem laws_szFilter_x : CtxHolds Try.prog laws_szFilter_G := ctx_cons laws_szIntS_h ctx_nil
def laws_szFilter_A : List (Nat × Ann) := []
theorem laws_szFilter_r (N : Nat) (a : SFilter) (left : Int) : runF Try.prog laws_szFilter_G laws_szFilter_A N Try.f34 laws_szFilter_s (a.enc ++ (.int left :: ([]))) = laws_szFilter_t (fun r0 => ((true, [.int r0]) : Res)) a left := by kernel_rfl
theorem laws_szFilter_h : Holds Try.prog 34 laws_szFilter_s := by
  refine holds_of_run (A := laws_szFilter_A) laws_szFilter_x Try.func34 rfl (by kernel_rfl) (of_decide_eq_true (by kernel_rfl)) (of_decide_eq_true (by kernel_rfl)) ?_
  intro ds hw hok
  replace hw : WtL (SFilter.ct ++ ((.int .i64) :: ([]))) ds := hw
  obtain ⟨a, ds, rfl, h_a, hw⟩ := SFilter.of_wt (r := _) hw
  obtain ⟨left, ds, rfl, h_left, hw⟩ := of_wt_int hw
  obtain rfl := of_wt_nil hw
  exact ⟨0, ((laws_szFilter_r 0 a left).trans (laws_szFilter_c _ a left)).trans (by kernel_rfl)⟩

def laws_szMailbox_s : Sum := { ps := [⟨[.int .i64, .bool, .sl [.int .i64], .int .i64, .int .i64, .int .i64], true⟩, ⟨[.int .i64], false⟩], rs := [⟨[.imm (.int .i64)], false⟩], fn := fun ds => (true, [.int (laws_szMailbox (SMailbox.decAt ds 0) (rI ds 6))]) }
def laws_szMailbox_G : Ctx := [(34, laws_szFilter_s)]
theorem laws_szMailbox_x : CtxHolds Try.prog laws_szMailbox_G := ctx_cons laws_szFilter_h ctx_nil
def laws_szMailbox_A : List (Nat × Ann) := []
theorem laws_szMailbox_r (N : Nat) (a : SMailbox) (left : Int) : runF Try.prog laws_szMailbox_G laws_szMailbox_A N Try.f8 laws_szMailbox_s (a.enc ++ (.int left :: ([]))) = laws_szMailbox_t (fun r0 => ((true, [.int r0]) : Res)) a left := by kernel_rfl
theorem laws_szMailbox_h : Holds Try.prog 8 laws_szMailbox_s := by
  refine holds_of_run (A := laws_szMailbox_A) laws_szMailbox_x Try.func8 rfl (by kernel_rfl) (of_decide_eq_true (by kernel_rfl)) (of_decide_eq_true (by kernel_rfl)) ?_
  intro ds hw hok
  replace hw : WtL (SMailbox.ct ++ ((.int .i64) :: ([]))) ds := hw
  obtain ⟨a, ds, rfl, h_a, hw⟩ := SMailbox.of_wt (r := _) hw
  obtain ⟨left, ds, rfl, h_left, hw⟩ := of_wt_int hw
  obtain rfl := of_wt_nil hw
  exact ⟨0, ((laws_szMailbox_r 0 a left).trans (laws_szMailbox_c _ a left)).trans (by kernel_rfl)⟩

def laws_toMailbox_s : Sum := { ps := [⟨[.int .i64, .bool, .sl [.int .i64], .int .i64, .int .i64, .int .i64], true⟩], rs := [⟨[.imm (.int .i64), .imm .bool, .own 3 [.int .i64], .imm (.int .i64), .imm (.int .i64), .imm (.int .i64)], true⟩], fn := fun ds => (laws_toMailbox_ok (SMailbox.decAt ds 0), SMailbox.enc (idf (SMailbox.decAt ds 0))) }
def laws_toMailbox_G : Ctx := [(37, laws_toFilter_s)]
theorem laws_toMailbox_x : CtxHolds Try.prog laws_toMailbox_G := ctx_cons laws_toFilter_h ctx_nil
def laws_toMailbox_A : List (Nat × Ann) := []
theorem laws_toMailbox_r (N : Nat) (a : SMailbox) : runF Try.prog laws_toMailbox_G laws_toMailbox_A N Try.f10 laws_toMailbox_s (a.enc ++ ([])) = laws_toMailbox_t Vm.bad (fun r0 => ((true, SMailbox.enc r0) : Res)) a := by kernel_rfl
theorem laws_toMailbox_h : Holds Try.prog 10 laws_toMailbox_s := by
  refine holds_of_run (A := laws_toMailbox_A) laws_toMailbox_x Try.func10 rfl (by kernel_rfl) (of_decide_eq_true (by kernel_rfl)) (of_decide_eq_true (by kernel_rfl)) ?_
  intro ds hw hok
  replace hw : WtL (SMailbox.ct ++ ([])) ds := hw
  obtain ⟨a, ds, rfl, h_a, hw⟩ := SMailbox.of_wt (r := _) hw
  obtain rfl := of_wt_nil hw
  exact ⟨0, ((laws_toMailbox_r 0 a).trans (laws_toMailbox_c Vm.bad _ a h_a hok)).trans (by kernel_rfl)⟩

def laws_eqMailbox_s : Sum := { ps := [⟨[.int .i64, .bool, .sl [.int .i64], .int .i64, .int .i64, .int .i64], true⟩, ⟨[.int .i64, .bool, .sl [.int .i64], .int .i64, .int .i64, .int .i64], true⟩], rs := [⟨[.imm .bool], false⟩], fn := fun ds => (same (SMailbox.decAt ds 0) (SMailbox.decAt ds 6), [.bool (yes2 (SMailbox.decAt ds 0) (SMailbox.decAt ds 6))]) }
def laws_eqMailbox_G : Ctx := [(39, laws_eqFilter_s)]
theorem laws_eqMailbox_x : CtxHolds Try.prog laws_eqMailbox_G := ctx_cons laws_eqFilter_h ctx_nil
def laws_eqMailbox_A : List (Nat × Ann) := []
theorem laws_eqMailbox_r (N : Nat) (a : SMailbox) (b : SMailbox) : runF Try.prog laws_eqMailbox_G laws_eqMailbox_A N Try.f12 laws_eqMailbox_s (a.enc ++ (b.enc ++ ([]))) = laws_eqMailbox_t Vm.bad (fun r0 => ((true, [.bool r0]) : Res)) a b := by kernel_rfl
theorem laws_eqMailbox_h : Holds Try.prog 12 laws_eqMailbox_s := by
  refine holds_of_run (A := laws_eqMailbox_A) laws_eqMailbox_x Try.func12 rfl (by kernel_rfl) (of_decide_eq_true (by kernel_rfl)) (of_decide_eq_true (by kernel_rfl)) ?_
  intro ds hw hok
  replace hw : WtL (SMailbox.ct ++ (SMailbox.ct ++ ([]))) ds := hw
  obtain ⟨a, ds, rfl, h_a, hw⟩ := SMailbox.of_wt (r := _) hw
  obtain ⟨b, ds, rfl, h_b, hw⟩ := SMailbox.of_wt (r := _) hw
  obtain rfl := of_wt_nil hw
  exact ⟨0, ((laws_eqMailbox_r 0 a b).trans (laws_eqMailbox_c Vm.bad _ a b h_a h_b hok)).trans (by kernel_rfl)⟩

def laws_markIntS_s : Sum := { ps := [⟨[.sl [.int .i64]], false⟩, ⟨[.int .i64], false⟩], rs := [⟨[.imm (.int .i64)], false⟩], fn := fun ds => (mko 1 (rR ds 0) (rI ds 1), [.int (markIntS (rR ds 0) (rI ds 1)).1] ++ [.sl (markIntS (rR ds 0) (rI ds 1)).2]), ms := [some (.rows [3]), none] }
def laws_markIntS_G : Ctx := []
theorem laws_markIntS_x : CtxHolds Try.prog laws_markIntS_G := ctx_nil
def laws_markIntS_A : List (Nat × Ann) := [(2, { slots := [(0, .asis), (1, .asis), (5, .asis)], boxes := [] })]
def laws_markIntS_K : Int → Rows → Res := (fun r0 r1 => ((true, [.int r0] ++ [.sl r1]) : Res))
def laws_markIntS_m0 (k_1 : Int) (i : Int) (a_1 : Rows) : St := { n := 1099511627795, sl := [(0, .own 640000), (1, .int .i64 k_1), (5, .int .i64 i)], hp := [(640000, .row 3 [.int .i64] a_1 false true)], ok := true, ls := [], lm := [] }
noncomputable def laws_markIntS_B0 (N : Nat) : (St → Res) → St → Res := loopBM Try.prog laws_markIntS_G laws_markIntS_A N Try.f32 laws_markIntS_s [true, false, true, false] []
theorem laws_markIntS_b0 (N : Nat) (ih : St → Res) (k_1 : Int) (i : Int) (a_1 : Rows) : laws_markIntS_B0 N ih (laws_markIntS_m0 k_1 i a_1) = laws_markIntS_l0 Vm.bad laws_markIntS_K (fun k_1 i a_1 => ih (laws_markIntS_m0 k_1 i a_1)) k_1 i a_1 := by kernel_rfl
theorem laws_markIntS_n0 (N : Nat) (m_ : Nat) : (fun k_1 i a_1 => loopN (laws_markIntS_B0 N) m_ (laws_markIntS_m0 k_1 i a_1)) = laws_markIntS_L0 Vm.bad laws_markIntS_K N m_ := by
  induction m_ with
  | zero => rfl
  | succ m_ ih =>
    funext k_1 i a_1
    show laws_markIntS_B0 N (loopN (laws_markIntS_B0 N) m_) (laws_markIntS_m0 k_1 i a_1) = _
    rw [laws_markIntS_b0 N]
    rw [ih]
    rfl
theorem laws_markIntS_r (N : Nat) (a : Rows) (k : Int) : runFM Try.prog laws_markIntS_G laws_markIntS_A N Try.f32 laws_markIntS_s (.sl a :: (.int k :: ([]))) = laws_markIntS_f Vm.bad laws_markIntS_K N a k := by
  have h : runFM Try.prog laws_markIntS_G laws_markIntS_A N Try.f32 laws_markIntS_s (.sl a :: (.int k :: ([]))) = laws_markIntS_t Vm.bad laws_markIntS_K (fun k_1 i a_1 => loopN (laws_markIntS_B0 N) N (laws_markIntS_m0 k_1 i a_1)) a k := by kernel_rfl
  refine h.trans ?_
  unfold laws_markIntS_f
  have e0 : (fun k_1 i a_1 => loopN (laws_markIntS_B0 N) N (laws_markIntS_m0 k_1 i a_1)) = (laws_markIntS_L0 Vm.bad laws_markIntS_K N N) := by
    exact laws_markIntS_n0 N N
  exact congrArg (fun l_ => laws_markIntS_t Vm.bad laws_markIntS_K l_ a k) e0
theorem laws_markIntS_h : HoldsM Try.prog 32 laws_markIntS_s := by
  refine holdsM_of_run (A := laws_markIntS_A) laws_markIntS_x Try.func32 rfl (by kernel_rfl) (of_decide_eq_true (by kernel_rfl)) (of_decide_eq_true (by kernel_rfl)) (by kernel_rfl) (fun ds => by kernel_rfl) ?_
  intro ds hw hok
  replace hw : WtL ((.sl [.int .i64]) :: ((.int .i64) :: ([]))) ds := hw
  obtain ⟨a, ds, rfl, h_a, hw⟩ := of_wt_sl hw
  obtain ⟨k, ds, rfl, h_k, hw⟩ := of_wt_int hw
  obtain rfl := of_wt_nil hw
  obtain ⟨N, hN⟩ := laws_markIntS_c Vm.bad laws_markIntS_K a k h_a h_k hok
  exact ⟨N, ((laws_markIntS_r N a k).trans hN).trans (by kernel_rfl)⟩

def laws_heldIntS_s : Sum := { ps := [⟨[.sl [.int .i64]], false⟩, ⟨[.int .i64], false⟩], rs := [⟨[.imm (.int .i64)], false⟩], fn := fun ds => (hdo fIntS 1 (rR ds 0) (rI ds 1), [.int (heldIntS (rR ds 0) (rI ds 1))]) }
def laws_heldIntS_G : Ctx := []
theorem laws_heldIntS_x : CtxHolds Try.prog laws_heldIntS_G := ctx_nil
def laws_heldIntS_A : List (Nat × Ann) := [(2, { slots := [(0, .asis), (1, .asis), (5, .asis)], boxes := [] })]
def laws_heldIntS_K : Int → Res := (fun r0 => ((true, [.int r0]) : Res))
def laws_heldIntS_m0 (a : Rows) (k_1 : Int) (i : Int) : St := { n := 21, sl := [(0, .sl [.int .i64] a), (1, .int .i64 k_1), (5, .int .i64 i)], hp := [], ok := true, ls := [], lm := [] }
noncomputable def laws_heldIntS_B0 (N : Nat) : (St → Res) → St → Res := loopB Try.prog laws_heldIntS_G laws_heldIntS_A N Try.f33 laws_heldIntS_s [true, false, true, false] []
theorem laws_heldIntS_b0 (N : Nat) (a : Rows) (ih : St → Res) (k_1 : Int) (i : Int) : laws_heldIntS_B0 N ih (laws_heldIntS_m0 a k_1 i) = laws_heldIntS_l0 Vm.bad laws_heldIntS_K a (fun k_1 i => ih (laws_heldIntS_m0 a k_1 i)) k_1 i := by kernel_rfl
theorem laws_heldIntS_n0 (N : Nat) (a : Rows) (m_ : Nat) : (fun k_1 i => loopN (laws_heldIntS_B0 N) m_ (laws_heldIntS_m0 a k_1 i)) = laws_heldIntS_L0 Vm.bad laws_heldIntS_K N a m_ := by
  induction m_ with
  | zero => rfl
  | succ m_ ih =>
    funext k_1 i
    show laws_heldIntS_B0 N (loopN (laws_heldIntS_B0 N) m_) (laws_heldIntS_m0 a k_1 i) = _
    rw [laws_heldIntS_b0 N a]
    rw [ih]
    rfl
theorem laws_heldIntS_r (N : Nat) (a : Rows) (k : Int) : runF Try.prog laws_heldIntS_G laws_heldIntS_A N Try.f33 laws_heldIntS_s (.sl a :: (.int k :: ([]))) = laws_heldIntS_f Vm.bad laws_heldIntS_K N a k := by
  have h : runF Try.prog laws_heldIntS_G laws_heldIntS_A N Try.f33 laws_heldIntS_s (.sl a :: (.int k :: ([]))) = laws_heldIntS_t Vm.bad laws_heldIntS_K (fun k_1 i => loopN (laws_heldIntS_B0 N) N (laws_heldIntS_m0 a k_1 i)) a k := by kernel_rfl
  refine h.trans ?_
  unfold laws_heldIntS_f
  have e0 : (fun k_1 i => loopN (laws_heldIntS_B0 N) N (laws_heldIntS_m0 a k_1 i)) = (laws_heldIntS_L0 Vm.bad laws_heldIntS_K N a N) := by
    exact laws_heldIntS_n0 N a N
  exact congrArg (fun l_ => laws_heldIntS_t Vm.bad laws_heldIntS_K l_ a k) e0
theorem laws_heldIntS_h : Holds Try.prog 33 laws_heldIntS_s := by
  refine holds_of_run (A := laws_heldIntS_A) laws_heldIntS_x Try.func33 rfl (by kernel_rfl) (of_decide_eq_true (by kernel_rfl)) (of_decide_eq_true (by kernel_rfl)) ?_
  intro ds hw hok
  replace hw : WtL ((.sl [.int .i64]) :: ((.int .i64) :: ([]))) ds := hw
  obtain ⟨a, ds, rfl, h_a, hw⟩ := of_wt_sl hw
  obtain ⟨k, ds, rfl, h_k, hw⟩ := of_wt_int hw
  obtain rfl := of_wt_nil hw
  obtain ⟨N, hN⟩ := laws_heldIntS_c Vm.bad laws_heldIntS_K a k h_a h_k hok
  exact ⟨N, ((laws_heldIntS_r N a k).trans hN).trans (by kernel_rfl)⟩

def laws_markBoolS_s : Sum := { ps := [⟨[.sl [.bool]], false⟩, ⟨[.int .i64], false⟩], rs := [⟨[.imm (.int .i64)], false⟩], fn := fun ds => (mko 1 (rR ds 0) (rI ds 1), [.int (markBoolS (rR ds 0) (rI ds 1)).1] ++ [.sl (markBoolS (rR ds 0) (rI ds 1)).2]), ms := [some (.rows [4]), none] }
def laws_markBoolS_G : Ctx := []
theorem laws_markBoolS_x : CtxHolds Try.prog laws_markBoolS_G := ctx_nil
def laws_markBoolS_A : List (Nat × Ann) := [(2, { slots := [(0, .asis), (1, .asis), (5, .asis)], boxes := [] })]
def laws_markBoolS_K : Int → Rows → Res := (fun r0 r1 => ((true, [.int r0] ++ [.sl r1]) : Res))
def laws_markBoolS_m0 (k_1 : Int) (i : Int) (a_1 : Rows) : St := { n := 1099511627797, sl := [(0, .own 640000), (1, .int .i64 k_1), (5, .int .i64 i)], hp := [(640000, .row 4 [.bool] a_1 false true)], ok := true, ls := [], lm := [] }
noncomputable def laws_markBoolS_B0 (N : Nat) : (St → Res) → St → Res := loopBM Try.prog laws_markBoolS_G laws_markBoolS_A N Try.f31 laws_markBoolS_s [true, false, true, false] []
theorem laws_markBoolS_b0 (N : Nat) (ih : St → Res) (k_1 : Int) (i : Int) (a_1 : Rows) : laws_markBoolS_B0 N ih (laws_markBoolS_m0 k_1 i a_1) = laws_markBoolS_l0 Vm.bad laws_markBoolS_K (fun k_1 i a_1 => ih (laws_markBoolS_m0 k_1 i a_1)) k_1 i a_1 := by kernel_rfl
theorem laws_markBoolS_n0 (N : Nat) (m_ : Nat) : (fun k_1 i a_1 => loopN (laws_markBoolS_B0 N) m_ (laws_markBoolS_m0 k_1 i a_1)) = laws_markBoolS_L0 Vm.bad laws_markBoolS_K N m_ := by
  induction m_ with
  | zero => rfl
  | succ m_ ih =>
    funext k_1 i a_1
    show laws_markBoolS_B0 N (loopN (laws_markBoolS_B0 N) m_) (laws_markBoolS_m0 k_1 i a_1) = _
    rw [laws_markBoolS_b0 N]
    rw [ih]
    rfl
theorem laws_markBoolS_r (N : Nat) (a : Rows) (k : Int) : runFM Try.prog laws_markBoolS_G laws_markBoolS_A N Try.f31 laws_markBoolS_s (.sl a :: (.int k :: ([]))) = laws_markBoolS_f Vm.bad laws_markBoolS_K N a k := by
  have h : runFM Try.prog laws_markBoolS_G laws_markBoolS_A N Try.f31 laws_markBoolS_s (.sl a :: (.int k :: ([]))) = laws_markBoolS_t Vm.bad laws_markBoolS_K (fun k_1 i a_1 => loopN (laws_markBoolS_B0 N) N (laws_markBoolS_m0 k_1 i a_1)) a k := by kernel_rfl
  refine h.trans ?_
  unfold laws_markBoolS_f
  have e0 : (fun k_1 i a_1 => loopN (laws_markBoolS_B0 N) N (laws_markBoolS_m0 k_1 i a_1)) = (laws_markBoolS_L0 Vm.bad laws_markBoolS_K N N) := by
    exact laws_markBoolS_n0 N N
  exact congrArg (fun l_ => laws_markBoolS_t Vm.bad laws_markBoolS_K l_ a k) e0
theorem laws_markBoolS_h : HoldsM Try.prog 31 laws_markBoolS_s := by
  refine holdsM_of_run (A := laws_markBoolS_A) laws_markBoolS_x Try.func31 rfl (by kernel_rfl) (of_decide_eq_true (by kernel_rfl)) (of_decide_eq_true (by kernel_rfl)) (by kernel_rfl) (fun ds => by kernel_rfl) ?_
  intro ds hw hok
  replace hw : WtL ((.sl [.bool]) :: ((.int .i64) :: ([]))) ds := hw
  obtain ⟨a, ds, rfl, h_a, hw⟩ := of_wt_sl hw
  obtain ⟨k, ds, rfl, h_k, hw⟩ := of_wt_int hw
  obtain rfl := of_wt_nil hw
  obtain ⟨N, hN⟩ := laws_markBoolS_c Vm.bad laws_markBoolS_K a k h_a h_k hok
  exact ⟨N, ((laws_markBoolS_r N a k).trans hN).trans (by kernel_rfl)⟩

end
end Go.Proofs.Ytjmgpcfmcdlnpaa.Pl
