/- The contracts of functions of the program: each computes what its plain form says. Conditions: none. -/
import Derived.Test.YtbcjbeckcgoanaaPLs
import Derived.Test.YtbcjbeckcgoanaaRows
set_option linter.unusedVariables false
set_option linter.unusedSimpArgs false
set_option maxRecDepth 100000
namespace Go.Proofs.Ytbcjbeckcgoanaa.Pl
open Vm
noncomputable section

def laws_toBoolS_s : Sum := { ps := [⟨[.sl [.bool]], false⟩], rs := [⟨[.own 4 [.bool]], false⟩], fn := fun ds => (sm (rR ds 0), [.sl (idf (rR ds 0))]) }
def laws_toBoolS_G : Ctx := []
theorem laws_toBoolS_x : CtxHolds Try.prog laws_toBoolS_G := ctx_nil
def laws_toBoolS_A : List (Nat × Ann) := [(3, { slots := [(0, .asis), (3, .asis), (4, .asis)], boxes := [] })]
def laws_toBoolS_K : Rows → Res := (fun r0 => ((true, [.sl r0]) : Res))
def laws_toBoolS_m0 (a : Rows) (i : Int) (out_ : Rows) : St := { n := 22, sl := [(0, .sl [.bool] a), (3, .own 640192), (4, .int .i64 i)], hp := [(640192, .row 4 [.bool] out_ false true)], ok := true, ls := [], lm := [] }
noncomputable def laws_toBoolS_B0 (N : Nat) : (St → Res) → St → Res := loopB Try.prog laws_toBoolS_G laws_toBoolS_A N Try.f26 laws_toBoolS_s [true, true, false, true, false] []
theorem laws_toBoolS_b0 (N : Nat) (a : Rows) (ih : St → Res) (i : Int) (out_ : Rows) : laws_toBoolS_B0 N ih (laws_toBoolS_m0 a i out_) = laws_toBoolS_l0 Vm.bad laws_toBoolS_K a (fun i out_ => ih (laws_toBoolS_m0 a i out_)) i out_ := by kernel_rfl
theorem laws_toBoolS_n0 (N : Nat) (a : Rows) (m_ : Nat) : (fun i out_ => loopN (laws_toBoolS_B0 N) m_ (laws_toBoolS_m0 a i out_)) = laws_toBoolS_L0 Vm.bad laws_toBoolS_K N a m_ := by
  induction m_ with
  | zero => rfl
  | succ m_ ih =>
    funext i out_
    show laws_toBoolS_B0 N (loopN (laws_toBoolS_B0 N) m_) (laws_toBoolS_m0 a i out_) = _
    rw [laws_toBoolS_b0 N a]
    rw [ih]
    rfl
theorem laws_toBoolS_r (N : Nat) (a : Rows) : runF Try.prog laws_toBoolS_G laws_toBoolS_A N Try.f26 laws_toBoolS_s (.sl a :: ([])) = laws_toBoolS_f Vm.bad laws_toBoolS_K N a := by
  have h : runF Try.prog laws_toBoolS_G laws_toBoolS_A N Try.f26 laws_toBoolS_s (.sl a :: ([])) = laws_toBoolS_t Vm.bad laws_toBoolS_K (fun i out_ => loopN (laws_toBoolS_B0 N) N (laws_toBoolS_m0 a i out_)) a := by kernel_rfl
  refine h.trans ?_
  unfold laws_toBoolS_f
  have e0 : (fun i out_ => loopN (laws_toBoolS_B0 N) N (laws_toBoolS_m0 a i out_)) = (laws_toBoolS_L0 Vm.bad laws_toBoolS_K N a N) := by
    exact laws_toBoolS_n0 N a N
  exact congrArg (fun l_ => laws_toBoolS_t Vm.bad laws_toBoolS_K l_ a) e0
theorem laws_toBoolS_h : Holds Try.prog 26 laws_toBoolS_s := by
  refine holds_of_run (A := laws_toBoolS_A) laws_toBoolS_x Try.func26 rfl (by kernel_rfl) (of_decide_eq_true (by kernel_rfl)) (of_decide_eq_true (by kernel_rfl)) ?_
  intro ds hw hok
  replace hw : WtL ((.sl [.bool]) :: ([])) ds := hw
  obtain ⟨a, ds, rfl, h_a, hw⟩ := of_wt_sl hw
  obtain rfl := of_wt_nil hw
  obtain ⟨N, hN⟩ := laws_toBoolS_c Vm.bad laws_toBoolS_K a h_a hok
  exact ⟨N, ((laws_toBoolS_r N a).trans hN).trans (by kernel_rfl)⟩

def laws_szIntS_s : Sum := { ps := [⟨[.sl [.int .i64]], false⟩, ⟨[.int .i64], false⟩], rs := [⟨[.imm (.int .i64)], false⟩], fn := fun ds => (true, [.int (szFlat (rR ds 0) (rI ds 1))]) }
def laws_szIntS_G : Ctx := []
theorem laws_szIntS_x : CtxHolds Try.prog laws_szIntS_G := ctx_nil
def laws_szIntS_A : List (Nat × Ann) := []
theorem laws_szIntS_r (N : Nat) (a : Rows) (left : Int) : runF Try.prog laws_szIntS_G laws_szIntS_A N Try.f23 laws_szIntS_s (.sl a :: (.int left :: ([]))) = laws_szIntS_t (fun r0 => ((true, [.int r0]) : Res)) a left := by kernel_rfl
theorem laws_szIntS_h : Holds Try.prog 23 laws_szIntS_s := by
  refine holds_of_run (A := laws_szIntS_A) laws_szIntS_x Try.func23 rfl (by kernel_rfl) (of_decide_eq_true (by kernel_rfl)) (of_decide_eq_true (by kernel_rfl)) ?_
  intro ds hw hok
  replace hw : WtL ((.sl [.int .i64]) :: ((.int .i64) :: ([]))) ds := hw
  obtain ⟨a, ds, rfl, h_a, hw⟩ := of_wt_sl hw
  obtain ⟨left, ds, rfl, h_left, hw⟩ := of_wt_int hw
  obtain rfl := of_wt_nil hw
  exact ⟨0, ((laws_szIntS_r 0 a left).trans (laws_szIntS_c _ a left h_a h_left)).trans (by kernel_rfl)⟩

def laws_szBoolS_s : Sum := { ps := [⟨[.sl [.bool]], false⟩, ⟨[.int .i64], false⟩], rs := [⟨[.imm (.int .i64)], false⟩], fn := fun ds => (true, [.int (szFlat (rR ds 0) (rI ds 1))]) }
def laws_szBoolS_G : Ctx := []
theorem laws_szBoolS_x : CtxHolds Try.prog laws_szBoolS_G := ctx_nil
def laws_szBoolS_A : List (Nat × Ann) := []
theorem laws_szBoolS_r (N : Nat) (a : Rows) (left : Int) : runF Try.prog laws_szBoolS_G laws_szBoolS_A N Try.f24 laws_szBoolS_s (.sl a :: (.int left :: ([]))) = laws_szBoolS_t (fun r0 => ((true, [.int r0]) : Res)) a left := by kernel_rfl
theorem laws_szBoolS_h : Holds Try.prog 24 laws_szBoolS_s := by
  refine holds_of_run (A := laws_szBoolS_A) laws_szBoolS_x Try.func24 rfl (by kernel_rfl) (of_decide_eq_true (by kernel_rfl)) (of_decide_eq_true (by kernel_rfl)) ?_
  intro ds hw hok
  replace hw : WtL ((.sl [.bool]) :: ((.int .i64) :: ([]))) ds := hw
  obtain ⟨a, ds, rfl, h_a, hw⟩ := of_wt_sl hw
  obtain ⟨left, ds, rfl, h_left, hw⟩ := of_wt_int hw
  obtain rfl := of_wt_nil hw
  exact ⟨0, ((laws_szBoolS_r 0 a left).trans (laws_szBoolS_c _ a left h_a h_left)).trans (by kernel_rfl)⟩

def laws_szPauseLink_s : Sum := { ps := [⟨[.int .i64, .int .i64, .int .i64, .int .i64, .int .i64, .bool, .sl [.int .i64], .sl [.bool], .bool, .int .i64], true⟩, ⟨[.int .i64], false⟩], rs := [⟨[.imm (.int .i64)], false⟩], fn := fun ds => (true, [.int (laws_szPauseLink (SPauseLink.decAt ds 0) (rI ds 10))]) }
def laws_szPauseLink_G : Ctx := [(23, laws_szIntS_s), (24, laws_szBoolS_s)]
theorem laws_szPauseLink_x : CtxHolds Try.prog laws_szPauseLink_G := ctx_cons laws_szIntS_h (ctx_cons laws_szBoolS_h ctx_nil)
def laws_szPauseLink_A : List (Nat × Ann) := []
theorem laws_szPauseLink_r (N : Nat) (a : SPauseLink) (left : Int) : runF Try.prog laws_szPauseLink_G laws_szPauseLink_A N Try.f7 laws_szPauseLink_s (a.enc ++ (.int left :: ([]))) = laws_szPauseLink_t (fun r0 => ((true, [.int r0]) : Res)) a left := by kernel_rfl
theorem laws_szPauseLink_h : Holds Try.prog 7 laws_szPauseLink_s := by
  refine holds_of_run (A := laws_szPauseLink_A) laws_szPauseLink_x Try.func7 rfl (by kernel_rfl) (of_decide_eq_true (by kernel_rfl)) (of_decide_eq_true (by kernel_rfl)) ?_
  intro ds hw hok
  replace hw : WtL (SPauseLink.ct ++ ((.int .i64) :: ([]))) ds := hw
  obtain ⟨a, ds, rfl, h_a, hw⟩ := SPauseLink.of_wt (r := _) hw
  obtain ⟨left, ds, rfl, h_left, hw⟩ := of_wt_int hw
  obtain rfl := of_wt_nil hw
  exact ⟨0, ((laws_szPauseLink_r 0 a left).trans (laws_szPauseLink_c _ a left)).trans (by kernel_rfl)⟩

def laws_eqIntS_s : Sum := { ps := [⟨[.sl [.int .i64]], false⟩, ⟨[.sl [.int .i64]], false⟩], rs := [⟨[.imm .bool], false⟩], fn := fun ds => (same (rR ds 0) (rR ds 1), [.bool (yes2 (rR ds 0) (rR ds 1))]) }
def laws_eqIntS_G : Ctx := []
theorem laws_eqIntS_x : CtxHolds Try.prog laws_eqIntS_G := ctx_nil
def laws_eqIntS_A : List (Nat × Ann) := [(4, { slots := [(0, .asis), (1, .asis), (5, .asis)], boxes := [] })]
def laws_eqIntS_K : Bool → Res := (fun r0 => ((true, [.bool r0]) : Res))
def laws_eqIntS_m0 (a : Rows) (b : Rows) (i : Int) : St := { n := 26, sl := [(0, .sl [.int .i64] a), (1, .sl [.int .i64] b), (5, .int .i64 i)], hp := [], ok := true, ls := [], lm := [] }
noncomputable def laws_eqIntS_B0 (N : Nat) : (St → Res) → St → Res := loopB Try.prog laws_eqIntS_G laws_eqIntS_A N Try.f21 laws_eqIntS_s [true, true, false, true, false] []
theorem laws_eqIntS_b0 (N : Nat) (a : Rows) (b : Rows) (ih : St → Res) (i : Int) : laws_eqIntS_B0 N ih (laws_eqIntS_m0 a b i) = laws_eqIntS_l0 Vm.bad laws_eqIntS_K a b (fun i => ih (laws_eqIntS_m0 a b i)) i := by kernel_rfl
theorem laws_eqIntS_n0 (N : Nat) (a : Rows) (b : Rows) (m_ : Nat) : (fun i => loopN (laws_eqIntS_B0 N) m_ (laws_eqIntS_m0 a b i)) = laws_eqIntS_L0 Vm.bad laws_eqIntS_K N a b m_ := by
  induction m_ with
  | zero => rfl
  | succ m_ ih =>
    funext i
    show laws_eqIntS_B0 N (loopN (laws_eqIntS_B0 N) m_) (laws_eqIntS_m0 a b i) = _
    rw [laws_eqIntS_b0 N a b]
    rw [ih]
    rfl
theorem laws_eqIntS_r (N : Nat) (a : Rows) (b : Rows) : runF Try.prog laws_eqIntS_G laws_eqIntS_A N Try.f21 laws_eqIntS_s (.sl a :: (.sl b :: ([]))) = laws_eqIntS_f Vm.bad laws_eqIntS_K N a b := by
  have h : runF Try.prog laws_eqIntS_G laws_eqIntS_A N Try.f21 laws_eqIntS_s (.sl a :: (.sl b :: ([]))) = laws_eqIntS_t Vm.bad laws_eqIntS_K (fun i => loopN (laws_eqIntS_B0 N) N (laws_eqIntS_m0 a b i)) a b := by kernel_rfl
  refine h.trans ?_
  unfold laws_eqIntS_f
  have e0 : (fun i => loopN (laws_eqIntS_B0 N) N (laws_eqIntS_m0 a b i)) = (laws_eqIntS_L0 Vm.bad laws_eqIntS_K N a b N) := by
    exact laws_eqIntS_n0 N a b N
  exact congrArg (fun l_ => laws_eqIntS_t Vm.bad laws_eqIntS_K l_ a b) e0
theorem laws_eqIntS_h : Holds Try.prog 21 laws_eqIntS_s := by
  refine holds_of_run (A := laws_eqIntS_A) laws_eqIntS_x Try.func21 rfl (by kernel_rfl) (of_decide_eq_true (by kernel_rfl)) (of_decide_eq_true (by kernel_rfl)) ?_
  intro ds hw hok
  replace hw : WtL ((.sl [.int .i64]) :: ((.sl [.int .i64]) :: ([]))) ds := hw
  obtain ⟨a, ds, rfl, h_a, hw⟩ := of_wt_sl hw
  obtain ⟨b, ds, rfl, h_b, hw⟩ := of_wt_sl hw
  obtain rfl := of_wt_nil hw
  obtain ⟨N, hN⟩ := laws_eqIntS_c Vm.bad laws_eqIntS_K a b h_a h_b hok
  exact ⟨N, ((laws_eqIntS_r N a b).trans hN).trans (by kernel_rfl)⟩

def laws_eqBoolS_s : Sum := { ps := [⟨[.sl [.bool]], false⟩, ⟨[.sl [.bool]], false⟩], rs := [⟨[.imm .bool], false⟩], fn := fun ds => (same (rR ds 0) (rR ds 1), [.bool (yes2 (rR ds 0) (rR ds 1))]) }
def laws_eqBoolS_G : Ctx := []
theorem laws_eqBoolS_x : CtxHolds Try.prog laws_eqBoolS_G := ctx_nil
def laws_eqBoolS_A : List (Nat × Ann) := [(4, { slots := [(0, .asis), (1, .asis), (5, .asis)], boxes := [] })]
def laws_eqBoolS_K : Bool → Res := (fun r0 => ((true, [.bool r0]) : Res))
def laws_eqBoolS_m0 (a : Rows) (b : Rows) (i : Int) : St := { n := 26, sl := [(0, .sl [.bool] a), (1, .sl [.bool] b), (5, .int .i64 i)], hp := [], ok := true, ls := [], lm := [] }
noncomputable def laws_eqBoolS_B0 (N : Nat) : (St → Res) → St → Res := loopB Try.prog laws_eqBoolS_G laws_eqBoolS_A N Try.f28 laws_eqBoolS_s [true, true, false, true, false] []
theorem laws_eqBoolS_b0 (N : Nat) (a : Rows) (b : Rows) (ih : St → Res) (i : Int) : laws_eqBoolS_B0 N ih (laws_eqBoolS_m0 a b i) = laws_eqBoolS_l0 Vm.bad laws_eqBoolS_K a b (fun i => ih (laws_eqBoolS_m0 a b i)) i := by kernel_rfl
theorem laws_eqBoolS_n0 (N : Nat) (a : Rows) (b : Rows) (m_ : Nat) : (fun i => loopN (laws_eqBoolS_B0 N) m_ (laws_eqBoolS_m0 a b i)) = laws_eqBoolS_L0 Vm.bad laws_eqBoolS_K N a b m_ := by
  induction m_ with
  | zero => rfl
  | succ m_ ih =>
    funext i
    show laws_eqBoolS_B0 N (loopN (laws_eqBoolS_B0 N) m_) (laws_eqBoolS_m0 a b i) = _
    rw [laws_eqBoolS_b0 N a b]
    rw [ih]
    rfl
theorem laws_eqBoolS_r (N : Nat) (a : Rows) (b : Rows) : runF Try.prog laws_eqBoolS_G laws_eqBoolS_A N Try.f28 laws_eqBoolS_s (.sl a :: (.sl b :: ([]))) = laws_eqBoolS_f Vm.bad laws_eqBoolS_K N a b := by
  have h : runF Try.prog laws_eqBoolS_G laws_eqBoolS_A N Try.f28 laws_eqBoolS_s (.sl a :: (.sl b :: ([]))) = laws_eqBoolS_t Vm.bad laws_eqBoolS_K (fun i => loopN (laws_eqBoolS_B0 N) N (laws_eqBoolS_m0 a b i)) a b := by kernel_rfl
  refine h.trans ?_
  unfold laws_eqBoolS_f
  have e0 : (fun i => loopN (laws_eqBoolS_B0 N) N (laws_eqBoolS_m0 a b i)) = (laws_eqBoolS_L0 Vm.bad laws_eqBoolS_K N a b N) := by
    exact laws_eqBoolS_n0 N a b N
  exact congrArg (fun l_ => laws_eqBoolS_t Vm.bad laws_eqBoolS_K l_ a b) e0
theorem laws_eqBoolS_h : Holds Try.prog 28 laws_eqBoolS_s := by
  refine holds_of_run (A := laws_eqBoolS_A) laws_eqBoolS_x Try.func28 rfl (by kernel_rfl) (of_decide_eq_true (by kernel_rfl)) (of_decide_eq_true (by kernel_rfl)) ?_
  intro ds hw hok
  replace hw : WtL ((.sl [.bool]) :: ((.sl [.bool]) :: ([]))) ds := hw
  obtain ⟨a, ds, rfl, h_a, hw⟩ := of_wt_sl hw
  obtain ⟨b, ds, rfl, h_b, hw⟩ := of_wt_sl hw
  obtain rfl := of_wt_nil hw
  obtain ⟨N, hN⟩ := laws_eqBoolS_c Vm.bad laws_eqBoolS_K a b h_a h_b hok
  exact ⟨N, ((laws_eqBoolS_r N a b).trans hN).trans (by kernel_rfl)⟩

def laws_eqPauseLink_s : Sum := { ps := [⟨[.int .i64, .int .i64, .int .i64, .int .i64, .int .i64, .bool, .sl [.int .i64], .sl [.bool], .bool, .int .i64], true⟩, ⟨[.int .i64, .int .i64, .int .i64, .int .i64, .int .i64, .bool, .sl [.int .i64], .sl [.bool], .bool, .int .i64], true⟩], rs := [⟨[.imm .bool], false⟩], fn := fun ds => (same (SPauseLink.decAt ds 0) (SPauseLink.decAt ds 10), [.bool (yes2 (SPauseLink.decAt ds 0) (SPauseLink.decAt ds 10))]) }
def laws_eqPauseLink_G : Ctx := [(21, laws_eqIntS_s), (28, laws_eqBoolS_s)]
theorem laws_eqPauseLink_x : CtxHolds Try.prog laws_eqPauseLink_G := ctx_cons laws_eqIntS_h (ctx_cons laws_eqBoolS_h ctx_nil)
def laws_eqPauseLink_A : List (Nat × Ann) := []
theorem laws_eqPauseLink_r (N : Nat) (a : SPauseLink) (b : SPauseLink) : runF Try.prog laws_eqPauseLink_G laws_eqPauseLink_A N Try.f11 laws_eqPauseLink_s (a.enc ++ (b.enc ++ ([]))) = laws_eqPauseLink_t Vm.bad (fun r0 => ((true, [.bool r0]) : Res)) a b := by kernel_rfl
theorem laws_eqPauseLink_h : Holds Try.prog 11 laws_eqPauseLink_s := by
  refine holds_of_run (A := laws_eqPauseLink_A) laws_eqPauseLink_x Try.func11 rfl (by kernel_rfl) (of_decide_eq_true (by kernel_rfl)) (of_decide_eq_true (by kernel_rfl)) ?_
  intro ds hw hok
  replace hw : WtL (SPauseLink.ct ++ (SPauseLink.ct ++ ([]))) ds := hw
  obtain ⟨a, ds, rfl, h_a, hw⟩ := SPauseLink.of_wt (r := _) hw
  obtain ⟨b, ds, rfl, h_b, hw⟩ := SPauseLink.of_wt (r := _) hw
  obtain rfl := of_wt_nil hw
  exact ⟨0, ((laws_eqPauseLink_r 0 a b).trans (laws_eqPauseLink_c Vm.bad _ a b h_a h_b hok)).trans (by kernel_rfl)⟩

def laws_toIntS_s : Sum := { ps := [⟨[.sl [.int .i64]], false⟩], rs := [⟨[.own 3 [.int .i64]], false⟩], fn := fun ds => (sm (rR ds 0), [.sl (idf (rR ds 0))]) }
def laws_toIntS_G : Ctx := []
theorem laws_toIntS_x : CtxHolds Try.prog laws_toIntS_G := ctx_nil
def laws_toIntS_A : List (Nat × Ann) := [(3, { slots := [(0, .asis), (3, .asis), (4, .asis)], boxes := [] })]
def laws_toIntS_K : Rows → Res := (fun r0 => ((true, [.sl r0]) : Res))
def laws_toIntS_m0 (a : Rows) (i : Int) (out_ : Rows) : St := { n := 22, sl := [(0, .sl [.int .i64] a), (3, .own 640192), (4, .int .i64 i)], hp := [(640192, .row 3 [.int .i64] out_ false true)], ok := true, ls := [], lm := [] }
noncomputable def laws_toIntS_B0 (N : Nat) : (St → Res) → St → Res := loopB Try.prog laws_toIntS_G laws_toIntS_A N Try.f19 laws_toIntS_s [true, true, false, true, false] []
theorem laws_toIntS_b0 (N : Nat) (a : Rows) (ih : St → Res) (i : Int) (out_ : Rows) : laws_toIntS_B0 N ih (laws_toIntS_m0 a i out_) = laws_toIntS_l0 Vm.bad laws_toIntS_K a (fun i out_ => ih (laws_toIntS_m0 a i out_)) i out_ := by kernel_rfl
theorem laws_toIntS_n0 (N : Nat) (a : Rows) (m_ : Nat) : (fun i out_ => loopN (laws_toIntS_B0 N) m_ (laws_toIntS_m0 a i out_)) = laws_toIntS_L0 Vm.bad laws_toIntS_K N a m_ := by
  induction m_ with
  | zero => rfl
  | succ m_ ih =>
    funext i out_
    show laws_toIntS_B0 N (loopN (laws_toIntS_B0 N) m_) (laws_toIntS_m0 a i out_) = _
    rw [laws_toIntS_b0 N a]
    rw [ih]
    rfl
theorem laws_toIntS_r (N : Nat) (a : Rows) : runF Try.prog laws_toIntS_G laws_toIntS_A N Try.f19 laws_toIntS_s (.sl a :: ([])) = laws_toIntS_f Vm.bad laws_toIntS_K N a := by
  have h : runF Try.prog laws_toIntS_G laws_toIntS_A N Try.f19 laws_toIntS_s (.sl a :: ([])) = laws_toIntS_t Vm.bad laws_toIntS_K (fun i out_ => loopN (laws_toIntS_B0 N) N (laws_toIntS_m0 a i out_)) a := by kernel_rfl
  refine h.trans ?_
  unfold laws_toIntS_f
  have e0 : (fun i out_ => loopN (laws_toIntS_B0 N) N (laws_toIntS_m0 a i out_)) = (laws_toIntS_L0 Vm.bad laws_toIntS_K N a N) := by
    exact laws_toIntS_n0 N a N
  exact congrArg (fun l_ => laws_toIntS_t Vm.bad laws_toIntS_K l_ a) e0
theorem laws_toIntS_h : Holds Try.prog 19 laws_toIntS_s := by
  refine holds_of_run (A := laws_toIntS_A) laws_toIntS_x Try.func19 rfl (by kernel_rfl) (of_decide_eq_true (by kernel_rfl)) (of_decide_eq_true (by kernel_rfl)) ?_
  intro ds hw hok
  replace hw : WtL ((.sl [.int .i64]) :: ([])) ds := hw
  obtain ⟨a, ds, rfl, h_a, hw⟩ := of_wt_sl hw
  obtain rfl := of_wt_nil hw
  obtain ⟨N, hN⟩ := laws_toIntS_c Vm.bad laws_toIntS_K a h_a hok
  exact ⟨N, ((laws_toIntS_r N a).trans hN).trans (by kernel_rfl)⟩

def laws_toPauseLink_s : Sum := { ps := [⟨[.int .i64, .int .i64, .int .i64, .int .i64, .int .i64, .bool, .sl [.int .i64], .sl [.bool], .bool, .int .i64], true⟩], rs := [⟨[.imm (.int .i64), .imm (.int .i64), .imm (.int .i64), .imm (.int .i64), .imm (.int .i64), .imm .bool, .own 3 [.int .i64], .own 4 [.bool], .imm .bool, .imm (.int .i64)], true⟩], fn := fun ds => (laws_toPauseLink_ok (SPauseLink.decAt ds 0), SPauseLink.enc (idf (SPauseLink.decAt ds 0))) }
def laws_toPauseLink_G : Ctx := [(19, laws_toIntS_s), (26, laws_toBoolS_s)]
theorem laws_toPauseLink_x : CtxHolds Try.prog laws_toPauseLink_G := ctx_cons laws_toIntS_h (ctx_cons laws_toBoolS_h ctx_nil)
def laws_toPauseLink_A : List (Nat × Ann) := []
theorem laws_toPauseLink_r (N : Nat) (a : SPauseLink) : runF Try.prog laws_toPauseLink_G laws_toPauseLink_A N Try.f9 laws_toPauseLink_s (a.enc ++ ([])) = laws_toPauseLink_t Vm.bad (fun r0 => ((true, SPauseLink.enc r0) : Res)) a := by kernel_rfl
theorem laws_toPauseLink_h : Holds Try.prog 9 laws_toPauseLink_s := by
  refine holds_of_run (A := laws_toPauseLink_A) laws_toPauseLink_x Try.func9 rfl (by kernel_rfl) (of_decide_eq_true (by kernel_rfl)) (of_decide_eq_true (by kernel_rfl)) ?_
  intro ds hw hok
  replace hw : WtL (SPauseLink.ct ++ ([])) ds := hw
  obtain ⟨a, ds, rfl, h_a, hw⟩ := SPauseLink.of_wt (r := _) hw
  obtain rfl := of_wt_nil hw
  exact ⟨0, ((laws_toPauseLink_r 0 a).trans (laws_toPauseLink_c Vm.bad _ a h_a hok)).trans (by kernel_rfl)⟩

def laws_markIntS_s : Sum := { ps := [⟨[.sl [.int .i64]], false⟩, ⟨[.int .i64], false⟩], rs := [⟨[.imm (.int .i64)], false⟩], fn := fun ds => (mko 1 (rR ds 0) (rI ds 1), [.int (markIntS (rR ds 0) (rI ds 1)).1] ++ [.sl (markIntS (rR ds 0) (rI ds 1)).2]), ms := [some (.rows [3]), none] }
def laws_markIntS_G : Ctx := []
theorem laws_markIntS_x : CtxHolds Try.prog laws_markIntS_G := ctx_nil
def laws_markIntS_A : List (Nat × Ann) := [(2, { slots := [(0, .asis), (1, .asis), (5, .asis)], boxes := [] })]
def laws_markIntS_K : Int → Rows → Res := (fun r0 r1 => ((true, [.int r0] ++ [.sl r1]) : Res))
def laws_markIntS_m0 (k_1 : Int) (i : Int) (a_1 : Rows) : St := { n := 1099511627795, sl := [(0, .own 640000), (1, .int .i64 k_1), (5, .int .i64 i)], hp := [(640000, .row 3 [.int .i64] a_1 false true)], ok := true, ls := [], lm := [] }
noncomputable def laws_markIntS_B0 (N : Nat) : (St → Res) → St → Res := loopBM Try.prog laws_markIntS_G laws_markIntS_A N Try.f22 laws_markIntS_s [true, false, true, false] []
theorem laws_markIntS_b0 (N : Nat) (ih : St → Res) (k_1 : Int) (i : Int) (a_1 : Rows) : laws_markIntS_B0 N ih (laws_markIntS_m0 k_1 i a_1) = laws_markIntS_l0 Vm.bad laws_markIntS_K (fun k_1 i a_1 => ih (laws_markIntS_m0 k_1 i a_1)) k_1 i a_1 := by kernel_rfl
theorem laws_markIntS_n0 (N : Nat) (m_ : Nat) : (fun k_1 i a_1 => loopN (laws_markIntS_B0 N) m_ (laws_markIntS_m0 k_1 i a_1)) = laws_markIntS_L0 Vm.bad laws_markIntS_K N m_ := by
  induction m_ with
  | zero => rfl
  | succ m_ ih =>
    funext k_1 i a_1
    show laws_markIntS_B0 N (loopN (laws_markIntS_B0 N) m_) (laws_markIntS_m0 k_1 i a_1) = _
    rw [laws_markIntS_b0 N]
    rw [ih]
    rfl
theorem laws_markIntS_r (N : Nat) (a : Rows) (k : Int) : runFM Try.prog laws_markIntS_G laws_markIntS_A N Try.f22 laws_markIntS_s (.sl a :: (.int k :: ([]))) = laws_markIntS_f Vm.bad laws_markIntS_K N a k := by
  have h : runFM Try.prog laws_markIntS_G laws_markIntS_A N Try.f22 laws_markIntS_s (.sl a :: (.int k :: ([]))) = laws_markIntS_t Vm.bad laws_markIntS_K (fun k_1 i a_1 => loopN (laws_markIntS_B0 N) N (laws_markIntS_m0 k_1 i a_1)) a k := by kernel_rfl
  refine h.trans ?_
  unfold laws_markIntS_f
  have e0 : (fun k_1 i a_1 => loopN (laws_markIntS_B0 N) N (laws_markIntS_m0 k_1 i a_1)) = (laws_markIntS_L0 Vm.bad laws_markIntS_K N N) := by
    exact laws_markIntS_n0 N N
  exact congrArg (fun l_ => laws_markIntS_t Vm.bad laws_markIntS_K l_ a k) e0
theorem laws_markIntS_h : HoldsM Try.prog 22 laws_markIntS_s := by
  refine holdsM_of_run (A := laws_markIntS_A) laws_markIntS_x Try.func22 rfl (by kernel_rfl) (of_decide_eq_true (by kernel_rfl)) (of_decide_eq_true (by kernel_rfl)) (by kernel_rfl) (fun ds => by kernel_rfl) ?_
  intro ds hw hok
  replace hw : WtL ((.sl [.int .i64]) :: ((.int .i64) :: ([]))) ds := hw
  obtain ⟨a, ds, rfl, h_a, hw⟩ := of_wt_sl hw
  obtain ⟨k, ds, rfl, h_k, hw⟩ := of_wt_int hw
  obtain rfl := of_wt_nil hw
  obtain ⟨N, hN⟩ := laws_markIntS_c Vm.bad laws_markIntS_K a k h_a h_k hok
  exact ⟨N, ((laws_markIntS_r N a k).trans hN).trans (by kernel_rfl)⟩

def laws_heldIntS_s : Sum := { ps := [⟨[.sl [.int .i64]], false⟩, ⟨[.int .i64], false⟩], rs := [⟨[.imm (.int .i64)], false⟩], fn := fun ds => (hdo fIntS 1 (rR ds 0) (rI ds 1), [.int (heldIntS (rR ds 0) (rI ds 1))]) }
def laws_heldIntS_G : Ctx := []
theorem laws_heldIntS_x : CtxHolds Try.prog laws_heldIntS_G := ctx_nil
def laws_heldIntS_A : List (Nat × Ann) := [(2, { slots := [(0, .asis), (1, .asis), (5, .asis)], boxes := [] })]
def laws_heldIntS_K : Int → Res := (fun r0 => ((true, [.int r0]) : Res))
def laws_heldIntS_m0 (a : Rows) (k_1 : Int) (i : Int) : St := { n := 21, sl := [(0, .sl [.int .i64] a), (1, .int .i64 k_1), (5, .int .i64 i)], hp := [], ok := true, ls := [], lm := [] }
noncomputable def laws_heldIntS_B0 (N : Nat) : (St → Res) → St → Res := loopB Try.prog laws_heldIntS_G laws_heldIntS_A N Try.f30 laws_heldIntS_s [true, false, true, false] []
theorem laws_heldIntS_b0 (N : Nat) (a : Rows) (ih : St → Res) (k_1 : Int) (i : Int) : laws_heldIntS_B0 N ih (laws_heldIntS_m0 a k_1 i) = laws_heldIntS_l0 Vm.bad laws_heldIntS_K a (fun k_1 i => ih (laws_heldIntS_m0 a k_1 i)) k_1 i := by kernel_rfl
theorem laws_heldIntS_n0 (N : Nat) (a : Rows) (m_ : Nat) : (fun k_1 i => loopN (laws_heldIntS_B0 N) m_ (laws_heldIntS_m0 a k_1 i)) = laws_heldIntS_L0 Vm.bad laws_heldIntS_K N a m_ := by
  induction m_ with
  | zero => rfl
  | succ m_ ih =>
    funext k_1 i
    show laws_heldIntS_B0 N (loopN (laws_heldIntS_B0 N) m_) (laws_heldIntS_m0 a k_1 i) = _
    rw [laws_heldIntS_b0 N a]
    rw [ih]
    rfl
theorem laws_heldIntS_r (N : Nat) (a : Rows) (k : Int) : runF Try.prog laws_heldIntS_G laws_heldIntS_A N Try.f30 laws_heldIntS_s (.sl a :: (.int k :: ([]))) = laws_heldIntS_f Vm.bad laws_heldIntS_K N a k := by
  have h : runF Try.prog laws_heldIntS_G laws_heldIntS_A N Try.f30 laws_heldIntS_s (.sl a :: (.int k :: ([]))) = laws_heldIntS_t Vm.bad laws_heldIntS_K (fun k_1 i => loopN (laws_heldIntS_B0 N) N (laws_heldIntS_m0 a k_1 i)) a k := by kernel_rfl
  refine h.trans ?_
  unfold laws_heldIntS_f
  have e0 : (fun k_1 i => loopN (laws_heldIntS_B0 N) N (laws_heldIntS_m0 a k_1 i)) = (laws_heldIntS_L0 Vm.bad laws_heldIntS_K N a N) := by
    exact laws_heldIntS_n0 N a N
  exact congrArg (fun l_ => laws_heldIntS_t Vm.bad laws_heldIntS_K l_ a k) e0
theorem laws_heldIntS_h : Holds Try.prog 30 laws_heldIntS_s := by
  refine holds_of_run (A := laws_heldIntS_A) laws_heldIntS_x Try.func30 rfl (by kernel_rfl) (of_decide_eq_true (by kernel_rfl)) (of_decide_eq_true (by kernel_rfl)) ?_
  intro ds hw hok
  replace hw : WtL ((.sl [.int .i64]) :: ((.int .i64) :: ([]))) ds := hw
  obtain ⟨a, ds, rfl, h_a, hw⟩ := of_wt_sl hw
  obtain ⟨k, ds, rfl, h_k, hw⟩ := of_wt_int hw
  obtain rfl := of_wt_nil hw
  obtain ⟨N, hN⟩ := laws_heldIntS_c Vm.bad laws_heldIntS_K a k h_a h_k hok
  exact ⟨N, ((laws_heldIntS_r N a k).trans hN).trans (by kernel_rfl)⟩

def laws_markBoolS_s : Sum := { ps := [⟨[.sl [.bool]], false⟩, ⟨[.int .i64], false⟩], rs := [⟨[.imm (.int .i64)], false⟩], fn := fun ds => (mko 1 (rR ds 0) (rI ds 1), [.int (markBoolS (rR ds 0) (rI ds 1)).1] ++ [.sl (markBoolS (rR ds 0) (rI ds 1)).2]), ms := [some (.rows [4]), none] }
def laws_markBoolS_G : Ctx := []
theorem laws_markBoolS_x : CtxHolds Try.prog laws_markBoolS_G := ctx_nil
def laws_markBoolS_A : List (Nat × Ann) := [(2, { slots := [(0, .asis), (1, .asis), (5, .asis)], boxes := [] })]
def laws_markBoolS_K : Int → Rows → Res := (fun r0 r1 => ((true, [.int r0] ++ [.sl r1]) : Res))
def laws_markBoolS_m0 (k_1 : Int) (i : Int) (a_1 : Rows) : St := { n := 1099511627797, sl := [(0, .own 640000), (1, .int .i64 k_1), (5, .int .i64 i)], hp := [(640000, .row 4 [.bool] a_1 false true)], ok := true, ls := [], lm := [] }
noncomputable def laws_markBoolS_B0 (N : Nat) : (St → Res) → St → Res := loopBM Try.prog laws_markBoolS_G laws_markBoolS_A N Try.f29 laws_markBoolS_s [true, false, true, false] []
theorem laws_markBoolS_b0 (N : Nat) (ih : St → Res) (k_1 : Int) (i : Int) (a_1 : Rows) : laws_markBoolS_B0 N ih (laws_markBoolS_m0 k_1 i a_1) = laws_markBoolS_l0 Vm.bad laws_markBoolS_K (fun k_1 i a_1 => ih (laws_markBoolS_m0 k_1 i a_1)) k_1 i a_1 := by kernel_rfl
theorem laws_markBoolS_n0 (N : Nat) (m_ : Nat) : (fun k_1 i a_1 => loopN (laws_markBoolS_B0 N) m_ (laws_markBoolS_m0 k_1 i a_1)) = laws_markBoolS_L0 Vm.bad laws_markBoolS_K N m_ := by
  induction m_ with
  | zero => rfl
  | succ m_ ih =>
    funext k_1 i a_1
    show laws_markBoolS_B0 N (loopN (laws_markBoolS_B0 N) m_) (laws_markBoolS_m0 k_1 i a_1) = _
    rw [laws_markBoolS_b0 N]
    rw [ih]
    rfl
theorem laws_markBoolS_r (N : Nat) (a : Rows) (k : Int) : runFM Try.prog laws_markBoolS_G laws_markBoolS_A N Try.f29 laws_markBoolS_s (.sl a :: (.int k :: ([]))) = laws_markBoolS_f Vm.bad laws_markBoolS_K N a k := by
  have h : runFM Try.prog laws_markBoolS_G laws_markBoolS_A N Try.f29 laws_markBoolS_s (.sl a :: (.int k :: ([]))) = laws_markBoolS_t Vm.bad laws_markBoolS_K (fun k_1 i a_1 => loopN (laws_markBoolS_B0 N) N (laws_markBoolS_m0 k_1 i a_1)) a k := by kernel_rfl
  refine h.trans ?_
  unfold laws_markBoolS_f
  have e0 : (fun k_1 i a_1 => loopN (laws_markBoolS_B0 N) N (laws_markBoolS_m0 k_1 i a_1)) = (laws_markBoolS_L0 Vm.bad laws_markBoolS_K N N) := by
    exact laws_markBoolS_n0 N N
  exact congrArg (fun l_ => laws_markBoolS_t Vm.bad laws_markBoolS_K l_ a k) e0
theorem laws_markBoolS_h : HoldsM Try.prog 29 laws_markBoolS_s := by
  refine holdsM_of_run (A := laws_markBoolS_A) laws_markBoolS_x Try.func29 rfl (by kernel_rfl) (of_decide_eq_true (by kernel_rfl)) (of_decide_eq_true (by kernel_rfl)) (by kernel_rfl) (fun ds => by kernel_rfl) ?_
  intro ds hw hok
  replace hw : WtL ((.sl [.bool]) :: ((.int .i64) :: ([]))) ds := hw
  obtain ⟨a, ds, rfl, h_a, hw⟩ := of_wt_sl hw
  obtain ⟨k, ds, rfl, h_k, hw⟩ := of_wt_int hw
  obtain rfl := of_wt_nil hw
  obtain ⟨N, hN⟩ := laws_markBoolS_c Vm.bad laws_markBoolS_K a k h_a h_k hok
  exact ⟨N, ((laws_markBoolS_r N a k).trans hN).trans (by kernel_rfl)⟩

def laws_heldBoolS_s : Sum := { ps := [⟨[.sl [.bool]], false⟩, ⟨[.int .i64], false⟩], rs := [⟨[.imm (.int .i64)], false⟩], fn := fun ds => (hdo fBoolS 1 (rR ds 0) (rI ds 1), [.int (heldBoolS (rR ds 0) (rI ds 1))]) }
def laws_heldBoolS_G : Ctx := []
theorem laws_heldBoolS_x : CtxHolds Try.prog laws_heldBoolS_G := ctx_nil
def laws_heldBoolS_A : List (Nat × Ann) := [(2, { slots := [(0, .asis), (1, .asis), (5, .asis)], boxes := [] })]
def laws_heldBoolS_K : Int → Res := (fun r0 => ((true, [.int r0]) : Res))
def laws_heldBoolS_m0 (a : Rows) (k_1 : Int) (i : Int) : St := { n := 23, sl := [(0, .sl [.bool] a), (1, .int .i64 k_1), (5, .int .i64 i)], hp := [], ok := true, ls := [], lm := [] }
noncomputable def laws_heldBoolS_B0 (N : Nat) : (St → Res) → St → Res := loopB Try.prog laws_heldBoolS_G laws_heldBoolS_A N Try.f31 laws_heldBoolS_s [true, false, true, false] []
theorem laws_heldBoolS_b0 (N : Nat) (a : Rows) (ih : St → Res) (k_1 : Int) (i : Int) : laws_heldBoolS_B0 N ih (laws_heldBoolS_m0 a k_1 i) = laws_heldBoolS_l0 Vm.bad laws_heldBoolS_K a (fun k_1 i => ih (laws_heldBoolS_m0 a k_1 i)) k_1 i := by kernel_rfl
theorem laws_heldBoolS_n0 (N : Nat) (a : Rows) (m_ : Nat) : (fun k_1 i => loopN (laws_heldBoolS_B0 N) m_ (laws_heldBoolS_m0 a k_1 i)) = laws_heldBoolS_L0 Vm.bad laws_heldBoolS_K N a m_ := by
  induction m_ with
  | zero => rfl
  | succ m_ ih =>
    funext k_1 i
    show laws_heldBoolS_B0 N (loopN (laws_heldBoolS_B0 N) m_) (laws_heldBoolS_m0 a k_1 i) = _
    rw [laws_heldBoolS_b0 N a]
    rw [ih]
    rfl
theorem laws_heldBoolS_r (N : Nat) (a : Rows) (k : Int) : runF Try.prog laws_heldBoolS_G laws_heldBoolS_A N Try.f31 laws_heldBoolS_s (.sl a :: (.int k :: ([]))) = laws_heldBoolS_f Vm.bad laws_heldBoolS_K N a k := by
  have h : runF Try.prog laws_heldBoolS_G laws_heldBoolS_A N Try.f31 laws_heldBoolS_s (.sl a :: (.int k :: ([]))) = laws_heldBoolS_t Vm.bad laws_heldBoolS_K (fun k_1 i => loopN (laws_heldBoolS_B0 N) N (laws_heldBoolS_m0 a k_1 i)) a k := by kernel_rfl
  refine h.trans ?_
  unfold laws_heldBoolS_f
  have e0 : (fun k_1 i => loopN (laws_heldBoolS_B0 N) N (laws_heldBoolS_m0 a k_1 i)) = (laws_heldBoolS_L0 Vm.bad laws_heldBoolS_K N a N) := by
    exact laws_heldBoolS_n0 N a N
  exact congrArg (fun l_ => laws_heldBoolS_t Vm.bad laws_heldBoolS_K l_ a k) e0
theorem laws_heldBoolS_h : Holds Try.prog 31 laws_heldBoolS_s := by
  refine holds_of_run (A := laws_heldBoolS_A) laws_heldBoolS_x Try.func31 rfl (by kernel_rfl) (of_decide_eq_true (by kernel_rfl)) (of_decide_eq_true (by kernel_rfl)) ?_
  intro ds hw hok
  replace hw : WtL ((.sl [.bool]) :: ((.int .i64) :: ([]))) ds := hw
  obtain ⟨a, ds, rfl, h_a, hw⟩ := of_wt_sl hw
  obtain ⟨k, ds, rfl, h_k, hw⟩ := of_wt_int hw
  obtain rfl := of_wt_nil hw
  obtain ⟨N, hN⟩ := laws_heldBoolS_c Vm.bad laws_heldBoolS_K a k h_a h_k hok
  exact ⟨N, ((laws_heldBoolS_r N a k).trans hN).trans (by kernel_rfl)⟩

end
end Go.Proofs.Ytbcjbeckcgoanaa.Pl
