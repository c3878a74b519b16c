/- The contracts of functions of the program: each computes what its plain form says. Conditions: none. -/
import Derived.Test.YtfnkhejoihnlnaaPDm
import Derived.Test.YtfnkhejoihnlnaaRows
import Derived.Test.YtfnkhejoihnlnaaBLs
set_option linter.unusedVariables false
set_option linter.unusedSimpArgs false
set_option maxRecDepth 100000
namespace Go.Proofs.Ytfnkhejoihnlnaa.Pl
open Vm
noncomputable section

def laws_markPortS_s : Sum := { ps := [⟨[.sl [.int .i64, .sl [.int .i64], .int .i64, .bool]], false⟩, ⟨[.int .i64], false⟩], rs := [⟨[.imm (.int .i64)], false⟩], fn := fun ds => (mkdOk fPort gPort (rR ds 0) (rI ds 1), [.int (markPortS (rR ds 0) (rI ds 1)).1] ++ [.sl (markPortS (rR ds 0) (rI ds 1)).2]), ms := [some (.rows [.deep 105 [3]]), none] }
def laws_markPortS_G : Ctx := [(1125899906842647, annS), (35, laws_markIntS_s)]
theorem laws_markPortS_x : CtxHolds Try.prog laws_markPortS_G := ctx_cons ann_h (ctx_cons laws_markIntS_h ctx_nil)
def laws_markPortS_A : List (Nat × Ann) := [(2, { slots := [(0, .asis), (1, .asis), (5, .asis)], boxes := [] })]
def laws_markPortS_K : Int → Rows → Res := (fun r0 r1 => ((true, [.int r0] ++ [.sl r1]) : Res))
def laws_markPortS_m0 (k_1 : Int) (i : Int) (a_1 : Rows) : St := { n := 1099511627819, sl := [(0, .own 640000), (1, .int .i64 k_1), (5, .int .i64 i)], hp := [(640000, .deep 105 [.int .i64, .sl [.int .i64], .int .i64, .bool] [3] a_1 none)], ok := true, ls := [], lm := [] }
noncomputable def laws_markPortS_B0 (N : Nat) : (St → Res) → St → Res := loopBM Try.prog laws_markPortS_G laws_markPortS_A N Try.f51 laws_markPortS_s [true, false, true, false] []
theorem laws_markPortS_b0 (N : Nat) (ih : St → Res) (k_1 : Int) (i : Int) (a_1 : Rows) : laws_markPortS_B0 N ih (laws_markPortS_m0 k_1 i a_1) = laws_markPortS_l0 Vm.bad laws_markPortS_K (fun k_1 i a_1 => ih (laws_markPortS_m0 k_1 i a_1)) k_1 i a_1 := by kernel_rfl
theorem laws_markPortS_n0 (N : Nat) (m_ : Nat) : (fun k_1 i a_1 => loopN (laws_markPortS_B0 N) m_ (laws_markPortS_m0 k_1 i a_1)) = laws_markPortS_L0 Vm.bad laws_markPortS_K N m_ := by
  induction m_ with
  | zero => rfl
  | succ m_ ih =>
    funext k_1 i a_1
    show laws_markPortS_B0 N (loopN (laws_markPortS_B0 N) m_) (laws_markPortS_m0 k_1 i a_1) = _
    rw [laws_markPortS_b0 N]
    rw [ih]
    rfl
theorem laws_markPortS_r (N : Nat) (a : Rows) (k : Int) : runFM Try.prog laws_markPortS_G laws_markPortS_A N Try.f51 laws_markPortS_s (.sl a :: (.int k :: ([]))) = laws_markPortS_f Vm.bad laws_markPortS_K N a k := by
  have run_ : runFM Try.prog laws_markPortS_G laws_markPortS_A N Try.f51 laws_markPortS_s (.sl a :: (.int k :: ([]))) = laws_markPortS_t Vm.bad laws_markPortS_K (fun k_1 i a_1 => loopN (laws_markPortS_B0 N) N (laws_markPortS_m0 k_1 i a_1)) a k := by kernel_rfl
  refine run_.trans ?_
  unfold laws_markPortS_f
  have e0 : (fun k_1 i a_1 => loopN (laws_markPortS_B0 N) N (laws_markPortS_m0 k_1 i a_1)) = (laws_markPortS_L0 Vm.bad laws_markPortS_K N N) := by
    exact laws_markPortS_n0 N N
  exact congrArg (fun l_ => laws_markPortS_t Vm.bad laws_markPortS_K l_ a k) e0
theorem laws_markPortS_h : HoldsM Try.prog 51 laws_markPortS_s := by
  refine holdsM_of_run (A := laws_markPortS_A) laws_markPortS_x Try.func51 rfl (by kernel_rfl) (of_decide_eq_true (by kernel_rfl)) (of_decide_eq_true (by kernel_rfl)) (by kernel_rfl) (fun ds => by kernel_rfl) ?_
  intro ds hw hok
  replace hw : WtL ((.sl [.int .i64, .sl [.int .i64], .int .i64, .bool]) :: ((.int .i64) :: ([]))) ds := hw
  obtain ⟨a, ds, rfl, h_a, hw⟩ := of_wt_sl hw
  obtain ⟨k, ds, rfl, h_k, hw⟩ := of_wt_int hw
  obtain rfl := of_wt_nil hw
  obtain ⟨N, hN⟩ := laws_markPortS_c Vm.bad laws_markPortS_K a k h_a h_k hok
  exact ⟨N, ((laws_markPortS_r N a k).trans hN).trans (by kernel_rfl)⟩

end
end Go.Proofs.Ytfnkhejoihnlnaa.Pl
