/- The contracts of functions of the program: each computes what its plain form says. Conditions: none. -/
import Derived.Test.YtklbgnodgnlebaaPDm
import Derived.Test.YtklbgnodgnlebaaRows
import Derived.Test.YtklbgnodgnlebaaBLs
set_option linter.unusedVariables false
set_option linter.unusedSimpArgs false
set_option maxRecDepth 100000
namespace Go.Proofs.Ytklbgnodgnlebaa.Pl
open Vm
noncomputable section

def laws_markPortS_s : Sum := { ps := [⟨[.sl [.int .i64, .sl [.int .i64], .int .i64, .bool]], false⟩, ⟨[.int .i64], false⟩], rs := [⟨[.imm (.int .i64)], false⟩], fn := fun ds => (mkdOk fPort gPort (rR ds 0) (rI ds 1), [.int (markPortS (rR ds 0) (rI ds 1)).1] ++ [.sl (markPortS (rR ds 0) (rI ds 1)).2]), ms := [some (.rows [.deep 48 [3]]), none] }
def laws_markPortS_G : Ctx := [(1125899906842647, annS), (30, laws_markIntS_s)]
theorem laws_markPortS_x : CtxHolds Try.prog laws_markPortS_G := ctx_cons ann_h (ctx_cons laws_markIntS_h ctx_nil)
def laws_markPortS_A : List (Nat × Ann) := [(2, { slots := [(0, .asis), (1, .asis), (5, .asis)], boxes := [] })]
def laws_markPortS_K : Int → Rows → Res := (fun r0 r1 => ((true, [.int r0] ++ [.sl r1]) : Res))
def laws_markPortS_m0 (k_1 : Int) (i : Int) (a_1 : Rows) : St := { n := 1099511627819, sl := [(0, .own 640000), (1, .int .i64 k_1), (5, .int .i64 i)], hp := [(640000, .deep 48 [.int .i64, .sl [.int .i64], .int .i64, .bool] [3] a_1 none)], ok := true, ls := [], lm := [] }
noncomputable def laws_markPortS_B0 (N : Nat) : (St → Res) → St → Res := loopBM Try.prog laws_markPortS_G laws_markPortS_A N Try.f29 laws_markPortS_s [true, false, true, false] []
theorem laws_markPortS_b0 (N : Nat) (ih : St → Res) (k_1 : Int) (i : Int) (a_1 : Rows) : laws_markPortS_B0 N ih (laws_markPortS_m0 k_1 i a_1) = laws_markPortS_l0 Vm.bad laws_markPortS_K (fun k_1 i a_1 => ih (laws_markPortS_m0 k_1 i a_1)) k_1 i a_1 := by kernel_rfl
theorem laws_markPortS_n0 (N : Nat) (m_ : Nat) : (fun k_1 i a_1 => loopN (laws_markPortS_B0 N) m_ (laws_markPortS_m0 k_1 i a_1)) = laws_markPortS_L0 Vm.bad laws_markPortS_K N m_ := by
  induction m_ with
  | zero => rfl
  | succ m_ ih =>
    funext k_1 i a_1
    show laws_markPortS_B0 N (loopN (laws_markPortS_B0 N) m_) (laws_markPortS_m0 k_1 i a_1) = _
    rw [laws_markPortS_b0 N]
    rw [ih]
    rfl
theorem laws_markPortS_r (N : Nat) (a : Rows) (k : Int) : runFM Try.prog laws_markPortS_G laws_markPortS_A N Try.f29 laws_markPortS_s (.sl a :: (.int k :: ([]))) = laws_markPortS_f Vm.bad laws_markPortS_K N a k := by
  have run_ : runFM Try.prog laws_markPortS_G laws_markPortS_A N Try.f29 laws_markPortS_s (.sl a :: (.int k :: ([]))) = laws_markPortS_t Vm.bad laws_markPortS_K (fun k_1 i a_1 => loopN (laws_markPortS_B0 N) N (laws_markPortS_m0 k_1 i a_1)) a k := by kernel_rfl
  refine run_.trans ?_
  unfold laws_markPortS_f
  have e0 : (fun k_1 i a_1 => loopN (laws_markPortS_B0 N) N (laws_markPortS_m0 k_1 i a_1)) = (laws_markPortS_L0 Vm.bad laws_markPortS_K N N) := by
    exact laws_markPortS_n0 N N
  exact congrArg (fun l_ => laws_markPortS_t Vm.bad laws_markPortS_K l_ a k) e0
theorem laws_markPortS_h : HoldsM Try.prog 29 laws_markPortS_s := by
  refine holdsM_of_run (A := laws_markPortS_A) laws_markPortS_x Try.func29 rfl (by kernel_rfl) (of_decide_eq_true (by kernel_rfl)) (of_decide_eq_true (by kernel_rfl)) (by kernel_rfl) (fun ds => by kernel_rfl) ?_
  intro ds hw hok
  replace hw : WtL ((.sl [.int .i64, .sl [.int .i64], .int .i64, .bool]) :: ((.int .i64) :: ([]))) ds := hw
  obtain ⟨a, ds, rfl, h_a, hw⟩ := of_wt_sl hw
  obtain ⟨k, ds, rfl, h_k, hw⟩ := of_wt_int hw
  obtain rfl := of_wt_nil hw
  obtain ⟨N, hN⟩ := laws_markPortS_c Vm.bad laws_markPortS_K a k h_a h_k hok
  exact ⟨N, ((laws_markPortS_r N a k).trans hN).trans (by kernel_rfl)⟩

def laws_markPacketS_s : Sum := { ps := [⟨[.sl [.int .i64, .int .i64, .int .i64, .int .i64, .int .i64, .int .i64, .int .i64, .int .i64, .int .i64, .int .i64, .int .i64, .int .i64, .int .i64, .int .i64, .int .i64, .str]], false⟩, ⟨[.int .i64], false⟩], rs := [⟨[.imm (.int .i64)], false⟩], fn := fun ds => (mko 16 (rR ds 0) (rI ds 1), [.int (markPacketS (rR ds 0) (rI ds 1)).1] ++ [.sl (markPacketS (rR ds 0) (rI ds 1)).2]), ms := [some (.rows [.flat 37]), none] }
def laws_markPacketS_G : Ctx := [(62, laws_markText_s)]
theorem laws_markPacketS_x : CtxHolds Try.prog laws_markPacketS_G := ctx_cons laws_markText_h ctx_nil
def laws_markPacketS_A : List (Nat × Ann) := [(2, { slots := [(0, .asis), (1, .asis), (5, .asis)], boxes := [] })]
def laws_markPacketS_K : Int → Rows → Res := (fun r0 r1 => ((true, [.int r0] ++ [.sl r1]) : Res))
def laws_markPacketS_m0 (k_1 : Int) (i : Int) (a_1 : Rows) : St := { n := 1099511627910, sl := [(0, .own 640000), (1, .int .i64 k_1), (5, .int .i64 i)], hp := [(640000, .row 37 [.int .i64, .int .i64, .int .i64, .int .i64, .int .i64, .int .i64, .int .i64, .int .i64, .int .i64, .int .i64, .int .i64, .int .i64, .int .i64, .int .i64, .int .i64, .str] a_1 false true)], ok := true, ls := [], lm := [] }
noncomputable def laws_markPacketS_B0 (N : Nat) : (St → Res) → St → Res := loopBM Try.prog laws_markPacketS_G laws_markPacketS_A N Try.f37 laws_markPacketS_s [true, false, true, false] []
theorem laws_markPacketS_b0 (N : Nat) (ih : St → Res) (k_1 : Int) (i : Int) (a_1 : Rows) : laws_markPacketS_B0 N ih (laws_markPacketS_m0 k_1 i a_1) = laws_markPacketS_l0 Vm.bad laws_markPacketS_K (fun k_1 i a_1 => ih (laws_markPacketS_m0 k_1 i a_1)) k_1 i a_1 := by kernel_rfl
theorem laws_markPacketS_n0 (N : Nat) (m_ : Nat) : (fun k_1 i a_1 => loopN (laws_markPacketS_B0 N) m_ (laws_markPacketS_m0 k_1 i a_1)) = laws_markPacketS_L0 Vm.bad laws_markPacketS_K N m_ := by
  induction m_ with
  | zero => rfl
  | succ m_ ih =>
    funext k_1 i a_1
    show laws_markPacketS_B0 N (loopN (laws_markPacketS_B0 N) m_) (laws_markPacketS_m0 k_1 i a_1) = _
    rw [laws_markPacketS_b0 N]
    rw [ih]
    rfl
theorem laws_markPacketS_r (N : Nat) (a : Rows) (k : Int) : runFM Try.prog laws_markPacketS_G laws_markPacketS_A N Try.f37 laws_markPacketS_s (.sl a :: (.int k :: ([]))) = laws_markPacketS_f Vm.bad laws_markPacketS_K N a k := by
  have run_ : runFM Try.prog laws_markPacketS_G laws_markPacketS_A N Try.f37 laws_markPacketS_s (.sl a :: (.int k :: ([]))) = laws_markPacketS_t Vm.bad laws_markPacketS_K (fun k_1 i a_1 => loopN (laws_markPacketS_B0 N) N (laws_markPacketS_m0 k_1 i a_1)) a k := by kernel_rfl
  refine run_.trans ?_
  unfold laws_markPacketS_f
  have e0 : (fun k_1 i a_1 => loopN (laws_markPacketS_B0 N) N (laws_markPacketS_m0 k_1 i a_1)) = (laws_markPacketS_L0 Vm.bad laws_markPacketS_K N N) := by
    exact laws_markPacketS_n0 N N
  exact congrArg (fun l_ => laws_markPacketS_t Vm.bad laws_markPacketS_K l_ a k) e0
theorem laws_markPacketS_h : HoldsM Try.prog 37 laws_markPacketS_s := by
  refine holdsM_of_run (A := laws_markPacketS_A) laws_markPacketS_x Try.func37 rfl (by kernel_rfl) (of_decide_eq_true (by kernel_rfl)) (of_decide_eq_true (by kernel_rfl)) (by kernel_rfl) (fun ds => by kernel_rfl) ?_
  intro ds hw hok
  replace hw : WtL ((.sl [.int .i64, .int .i64, .int .i64, .int .i64, .int .i64, .int .i64, .int .i64, .int .i64, .int .i64, .int .i64, .int .i64, .int .i64, .int .i64, .int .i64, .int .i64, .str]) :: ((.int .i64) :: ([]))) ds := hw
  obtain ⟨a, ds, rfl, h_a, hw⟩ := of_wt_sl hw
  obtain ⟨k, ds, rfl, h_k, hw⟩ := of_wt_int hw
  obtain rfl := of_wt_nil hw
  obtain ⟨N, hN⟩ := laws_markPacketS_c Vm.bad laws_markPacketS_K a k h_a h_k hok
  exact ⟨N, ((laws_markPacketS_r N a k).trans hN).trans (by kernel_rfl)⟩

def laws_heldPacketS_s : Sum := { ps := [⟨[.sl [.int .i64, .int .i64, .int .i64, .int .i64, .int .i64, .int .i64, .int .i64, .int .i64, .int .i64, .int .i64, .int .i64, .int .i64, .int .i64, .int .i64, .int .i64, .str]], false⟩, ⟨[.int .i64], false⟩], rs := [⟨[.imm (.int .i64)], false⟩], fn := fun ds => (hdo fPacketS 16 (rR ds 0) (rI ds 1), [.int (heldPacketS (rR ds 0) (rI ds 1))]) }
def laws_heldPacketS_G : Ctx := [(62, laws_markText_s)]
theorem laws_heldPacketS_x : CtxHolds Try.prog laws_heldPacketS_G := ctx_cons laws_markText_h ctx_nil
def laws_heldPacketS_A : List (Nat × Ann) := [(2, { slots := [(0, .asis), (1, .asis), (5, .asis)], boxes := [] })]
def laws_heldPacketS_K : Int → Res := (fun r0 => ((true, [.int r0]) : Res))
def laws_heldPacketS_m0 (a : Rows) (k_1 : Int) (i : Int) : St := { n := 166, sl := [(0, .sl [.int .i64, .int .i64, .int .i64, .int .i64, .int .i64, .int .i64, .int .i64, .int .i64, .int .i64, .int .i64, .int .i64, .int .i64, .int .i64, .int .i64, .int .i64, .str] a), (1, .int .i64 k_1), (5, .int .i64 i)], hp := [], ok := true, ls := [], lm := [] }
noncomputable def laws_heldPacketS_B0 (N : Nat) : (St → Res) → St → Res := loopB Try.prog laws_heldPacketS_G laws_heldPacketS_A N Try.f63 laws_heldPacketS_s [true, false, true, false] []
theorem laws_heldPacketS_b0 (N : Nat) (a : Rows) (ih : St → Res) (k_1 : Int) (i : Int) : laws_heldPacketS_B0 N ih (laws_heldPacketS_m0 a k_1 i) = laws_heldPacketS_l0 Vm.bad laws_heldPacketS_K a (fun k_1 i => ih (laws_heldPacketS_m0 a k_1 i)) k_1 i := by kernel_rfl
theorem laws_heldPacketS_n0 (N : Nat) (a : Rows) (m_ : Nat) : (fun k_1 i => loopN (laws_heldPacketS_B0 N) m_ (laws_heldPacketS_m0 a k_1 i)) = laws_heldPacketS_L0 Vm.bad laws_heldPacketS_K N a m_ := by
  induction m_ with
  | zero => rfl
  | succ m_ ih =>
    funext k_1 i
    show laws_heldPacketS_B0 N (loopN (laws_heldPacketS_B0 N) m_) (laws_heldPacketS_m0 a k_1 i) = _
    rw [laws_heldPacketS_b0 N a]
    rw [ih]
    rfl
theorem laws_heldPacketS_r (N : Nat) (a : Rows) (k : Int) : runF Try.prog laws_heldPacketS_G laws_heldPacketS_A N Try.f63 laws_heldPacketS_s (.sl a :: (.int k :: ([]))) = laws_heldPacketS_f Vm.bad laws_heldPacketS_K N a k := by
  have run_ : runF Try.prog laws_heldPacketS_G laws_heldPacketS_A N Try.f63 laws_heldPacketS_s (.sl a :: (.int k :: ([]))) = laws_heldPacketS_t Vm.bad laws_heldPacketS_K (fun k_1 i => loopN (laws_heldPacketS_B0 N) N (laws_heldPacketS_m0 a k_1 i)) a k := by kernel_rfl
  refine run_.trans ?_
  unfold laws_heldPacketS_f
  have e0 : (fun k_1 i => loopN (laws_heldPacketS_B0 N) N (laws_heldPacketS_m0 a k_1 i)) = (laws_heldPacketS_L0 Vm.bad laws_heldPacketS_K N a N) := by
    exact laws_heldPacketS_n0 N a N
  exact congrArg (fun l_ => laws_heldPacketS_t Vm.bad laws_heldPacketS_K l_ a k) e0
theorem laws_heldPacketS_h : Holds Try.prog 63 laws_heldPacketS_s := by
  refine holds_of_run (A := laws_heldPacketS_A) laws_heldPacketS_x Try.func63 rfl (by kernel_rfl) (of_decide_eq_true (by kernel_rfl)) (of_decide_eq_true (by kernel_rfl)) ?_
  intro ds hw hok
  replace hw : WtL ((.sl [.int .i64, .int .i64, .int .i64, .int .i64, .int .i64, .int .i64, .int .i64, .int .i64, .int .i64, .int .i64, .int .i64, .int .i64, .int .i64, .int .i64, .int .i64, .str]) :: ((.int .i64) :: ([]))) ds := hw
  obtain ⟨a, ds, rfl, h_a, hw⟩ := of_wt_sl hw
  obtain ⟨k, ds, rfl, h_k, hw⟩ := of_wt_int hw
  obtain rfl := of_wt_nil hw
  obtain ⟨N, hN⟩ := laws_heldPacketS_c Vm.bad laws_heldPacketS_K a k h_a h_k hok
  exact ⟨N, ((laws_heldPacketS_r N a k).trans hN).trans (by kernel_rfl)⟩

def laws_markPacketSS_s : Sum := { ps := [⟨[.sl [.sl [.int .i64, .int .i64, .int .i64, .int .i64, .int .i64, .int .i64, .int .i64, .int .i64, .int .i64, .int .i64, .int .i64, .int .i64, .int .i64, .int .i64, .int .i64, .str]]], false⟩, ⟨[.int .i64], false⟩], rs := [⟨[.imm (.int .i64)], false⟩], fn := fun ds => (mkdOk fSS gSS (rR ds 0) (rI ds 1), [.int (markPacketSS (rR ds 0) (rI ds 1)).1] ++ [.sl (markPacketSS (rR ds 0) (rI ds 1)).2]), ms := [some (.rows [.deep 52 [37]]), none] }
def laws_markPacketSS_G : Ctx := [(1125899906842639, annS), (37, laws_markPacketS_s)]
theorem laws_markPacketSS_x : CtxHolds Try.prog laws_markPacketSS_G := ctx_cons ann_h (ctx_cons laws_markPacketS_h ctx_nil)
def laws_markPacketSS_A : List (Nat × Ann) := [(2, { slots := [(0, .asis), (1, .asis), (5, .asis)], boxes := [] })]
def laws_markPacketSS_K : Int → Rows → Res := (fun r0 r1 => ((true, [.int r0] ++ [.sl r1]) : Res))
def laws_markPacketSS_m0 (k_1 : Int) (i : Int) (a_1 : Rows) : St := { n := 1099511627795, sl := [(0, .own 640000), (1, .int .i64 k_1), (5, .int .i64 i)], hp := [(640000, .deep 52 [.sl [.int .i64, .int .i64, .int .i64, .int .i64, .int .i64, .int .i64, .int .i64, .int .i64, .int .i64, .int .i64, .int .i64, .int .i64, .int .i64, .int .i64, .int .i64, .str]] [37] a_1 none)], ok := true, ls := [], lm := [] }
noncomputable def laws_markPacketSS_B0 (N : Nat) : (St → Res) → St → Res := loopBM Try.prog laws_markPacketSS_G laws_markPacketSS_A N Try.f38 laws_markPacketSS_s [true, false, true, false] []
theorem laws_markPacketSS_b0 (N : Nat) (ih : St → Res) (k_1 : Int) (i : Int) (a_1 : Rows) : laws_markPacketSS_B0 N ih (laws_markPacketSS_m0 k_1 i a_1) = laws_markPacketSS_l0 Vm.bad laws_markPacketSS_K (fun k_1 i a_1 => ih (laws_markPacketSS_m0 k_1 i a_1)) k_1 i a_1 := by kernel_rfl
theorem laws_markPacketSS_n0 (N : Nat) (m_ : Nat) : (fun k_1 i a_1 => loopN (laws_markPacketSS_B0 N) m_ (laws_markPacketSS_m0 k_1 i a_1)) = laws_markPacketSS_L0 Vm.bad laws_markPacketSS_K N m_ := by
  induction m_ with
  | zero => rfl
  | succ m_ ih =>
    funext k_1 i a_1
    show laws_markPacketSS_B0 N (loopN (laws_markPacketSS_B0 N) m_) (laws_markPacketSS_m0 k_1 i a_1) = _
    rw [laws_markPacketSS_b0 N]
    rw [ih]
    rfl
theorem laws_markPacketSS_r (N : Nat) (a : Rows) (k : Int) : runFM Try.prog laws_markPacketSS_G laws_markPacketSS_A N Try.f38 laws_markPacketSS_s (.sl a :: (.int k :: ([]))) = laws_markPacketSS_f Vm.bad laws_markPacketSS_K N a k := by
  have run_ : runFM Try.prog laws_markPacketSS_G laws_markPacketSS_A N Try.f38 laws_markPacketSS_s (.sl a :: (.int k :: ([]))) = laws_markPacketSS_t Vm.bad laws_markPacketSS_K (fun k_1 i a_1 => loopN (laws_markPacketSS_B0 N) N (laws_markPacketSS_m0 k_1 i a_1)) a k := by kernel_rfl
  refine run_.trans ?_
  unfold laws_markPacketSS_f
  have e0 : (fun k_1 i a_1 => loopN (laws_markPacketSS_B0 N) N (laws_markPacketSS_m0 k_1 i a_1)) = (laws_markPacketSS_L0 Vm.bad laws_markPacketSS_K N N) := by
    exact laws_markPacketSS_n0 N N
  exact congrArg (fun l_ => laws_markPacketSS_t Vm.bad laws_markPacketSS_K l_ a k) e0
theorem laws_markPacketSS_h : HoldsM Try.prog 38 laws_markPacketSS_s := by
  refine holdsM_of_run (A := laws_markPacketSS_A) laws_markPacketSS_x Try.func38 rfl (by kernel_rfl) (of_decide_eq_true (by kernel_rfl)) (of_decide_eq_true (by kernel_rfl)) (by kernel_rfl) (fun ds => by kernel_rfl) ?_
  intro ds hw hok
  replace hw : WtL ((.sl [.sl [.int .i64, .int .i64, .int .i64, .int .i64, .int .i64, .int .i64, .int .i64, .int .i64, .int .i64, .int .i64, .int .i64, .int .i64, .int .i64, .int .i64, .int .i64, .str]]) :: ((.int .i64) :: ([]))) ds := hw
  obtain ⟨a, ds, rfl, h_a, hw⟩ := of_wt_sl hw
  obtain ⟨k, ds, rfl, h_k, hw⟩ := of_wt_int hw
  obtain rfl := of_wt_nil hw
  obtain ⟨N, hN⟩ := laws_markPacketSS_c Vm.bad laws_markPacketSS_K a k h_a h_k hok
  exact ⟨N, ((laws_markPacketSS_r N a k).trans hN).trans (by kernel_rfl)⟩

def laws_heldPacketSS_s : Sum := { ps := [⟨[.sl [.sl [.int .i64, .int .i64, .int .i64, .int .i64, .int .i64, .int .i64, .int .i64, .int .i64, .int .i64, .int .i64, .int .i64, .int .i64, .int .i64, .int .i64, .int .i64, .str]]], false⟩, ⟨[.int .i64], false⟩], rs := [⟨[.imm (.int .i64)], false⟩], fn := fun ds => (hkSS (rR ds 0) (rI ds 1), [.int (heldPacketSS (rR ds 0) (rI ds 1))]) }
def laws_heldPacketSS_G : Ctx := [(63, laws_heldPacketS_s)]
theorem laws_heldPacketSS_x : CtxHolds Try.prog laws_heldPacketSS_G := ctx_cons laws_heldPacketS_h ctx_nil
def laws_heldPacketSS_A : List (Nat × Ann) := [(2, { slots := [(0, .asis), (1, .asis), (5, .asis)], boxes := [] })]
def laws_heldPacketSS_K : Int → Res := (fun r0 => ((true, [.int r0]) : Res))
def laws_heldPacketSS_m0 (a : Rows) (k_1 : Int) (i : Int) : St := { n := 21, sl := [(0, .sl [.sl [.int .i64, .int .i64, .int .i64, .int .i64, .int .i64, .int .i64, .int .i64, .int .i64, .int .i64, .int .i64, .int .i64, .int .i64, .int .i64, .int .i64, .int .i64, .str]] a), (1, .int .i64 k_1), (5, .int .i64 i)], hp := [], ok := true, ls := [], lm := [] }
noncomputable def laws_heldPacketSS_B0 (N : Nat) : (St → Res) → St → Res := loopB Try.prog laws_heldPacketSS_G laws_heldPacketSS_A N Try.f39 laws_heldPacketSS_s [true, false, true, false] []
theorem laws_heldPacketSS_b0 (N : Nat) (a : Rows) (ih : St → Res) (k_1 : Int) (i : Int) : laws_heldPacketSS_B0 N ih (laws_heldPacketSS_m0 a k_1 i) = laws_heldPacketSS_l0 Vm.bad laws_heldPacketSS_K a (fun k_1 i => ih (laws_heldPacketSS_m0 a k_1 i)) k_1 i := by kernel_rfl
theorem laws_heldPacketSS_n0 (N : Nat) (a : Rows) (m_ : Nat) : (fun k_1 i => loopN (laws_heldPacketSS_B0 N) m_ (laws_heldPacketSS_m0 a k_1 i)) = laws_heldPacketSS_L0 Vm.bad laws_heldPacketSS_K N a m_ := by
  induction m_ with
  | zero => rfl
  | succ m_ ih =>
    funext k_1 i
    show laws_heldPacketSS_B0 N (loopN (laws_heldPacketSS_B0 N) m_) (laws_heldPacketSS_m0 a k_1 i) = _
    rw [laws_heldPacketSS_b0 N a]
    rw [ih]
    rfl
theorem laws_heldPacketSS_r (N : Nat) (a : Rows) (k : Int) : runF Try.prog laws_heldPacketSS_G laws_heldPacketSS_A N Try.f39 laws_heldPacketSS_s (.sl a :: (.int k :: ([]))) = laws_heldPacketSS_f Vm.bad laws_heldPacketSS_K N a k := by
  have run_ : runF Try.prog laws_heldPacketSS_G laws_heldPacketSS_A N Try.f39 laws_heldPacketSS_s (.sl a :: (.int k :: ([]))) = laws_heldPacketSS_t Vm.bad laws_heldPacketSS_K (fun k_1 i => loopN (laws_heldPacketSS_B0 N) N (laws_heldPacketSS_m0 a k_1 i)) a k := by kernel_rfl
  refine run_.trans ?_
  unfold laws_heldPacketSS_f
  have e0 : (fun k_1 i => loopN (laws_heldPacketSS_B0 N) N (laws_heldPacketSS_m0 a k_1 i)) = (laws_heldPacketSS_L0 Vm.bad laws_heldPacketSS_K N a N) := by
    exact laws_heldPacketSS_n0 N a N
  exact congrArg (fun l_ => laws_heldPacketSS_t Vm.bad laws_heldPacketSS_K l_ a k) e0
theorem laws_heldPacketSS_h : Holds Try.prog 39 laws_heldPacketSS_s := by
  refine holds_of_run (A := laws_heldPacketSS_A) laws_heldPacketSS_x Try.func39 rfl (by kernel_rfl) (of_decide_eq_true (by kernel_rfl)) (of_decide_eq_true (by kernel_rfl)) ?_
  intro ds hw hok
  replace hw : WtL ((.sl [.sl [.int .i64, .int .i64, .int .i64, .int .i64, .int .i64, .int .i64, .int .i64, .int .i64, .int .i64, .int .i64, .int .i64, .int .i64, .int .i64, .int .i64, .int .i64, .str]]) :: ((.int .i64) :: ([]))) ds := hw
  obtain ⟨a, ds, rfl, h_a, hw⟩ := of_wt_sl hw
  obtain ⟨k, ds, rfl, h_k, hw⟩ := of_wt_int hw
  obtain rfl := of_wt_nil hw
  obtain ⟨N, hN⟩ := laws_heldPacketSS_c Vm.bad laws_heldPacketSS_K a k h_a h_k hok
  exact ⟨N, ((laws_heldPacketSS_r N a k).trans hN).trans (by kernel_rfl)⟩

end
end Go.Proofs.Ytklbgnodgnlebaa.Pl
