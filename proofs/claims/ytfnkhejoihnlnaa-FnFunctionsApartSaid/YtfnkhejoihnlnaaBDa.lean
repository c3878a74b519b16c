/- The contracts of functions of the program: each computes what its plain form says. Conditions: none. -/
import Derived.Test.YtfnkhejoihnlnaaPDa
import Derived.Test.YtfnkhejoihnlnaaRows
import Derived.Test.YtfnkhejoihnlnaaBGr
import Derived.Test.YtfnkhejoihnlnaaBDr
set_option linter.unusedVariables false
set_option linter.unusedSimpArgs false
set_option maxRecDepth 100000
namespace Go.Proofs.Ytfnkhejoihnlnaa.Pl
open Vm
noncomputable section

def spec_l33Functions_s : Sum := { ps := [⟨[.sl [.int .u8], .int .i64, .int .i64], true⟩], rs := [⟨[.own 66 [.int .i64, .int .i64, .int .i64, .int .i64, .int .i64, .bool, .int .i64, .int .i64]], false⟩, ⟨[.own 105 [.int .i64, .sl [.int .i64], .int .i64, .bool]], false⟩], fn := fun ds => (curOk (Sl01Cur.decAt ds 0), [.sl (l33Functions (Sl01Cur.decAt ds 0)).1] ++ [.sl (l33Functions (Sl01Cur.decAt ds 0)).2.1] ++ Sl01Cur.enc (l33Functions (Sl01Cur.decAt ds 0)).2.2), ms := [some (.box 141)] }
def spec_l33Functions_G : Ctx := [(105, spec_l32Ports_s), (106, spec_l01PickInt_s), (107, spec_l01Once_s)]
theorem spec_l33Functions_x : CtxHolds Try.prog spec_l33Functions_G := ctx_cons spec_l32Ports_h (ctx_cons spec_l01PickInt_h (ctx_cons spec_l01Once_h ctx_nil))
def spec_l33Functions_A : List (Nat × Ann) := [(4, { slots := [(0, .asis), (4, .asis), (5, .asis), (6, .asis)], boxes := [(320000000, [])] })]
def spec_l33Functions_K : Rows → Rows → Sl01Cur → Res := (fun r0 r1 r2 => ((true, [.sl r0] ++ [.sl r1] ++ Sl01Cur.enc r2) : Res))
def spec_l33Functions_m0 (k : Int) (b5000000 : Rows) (b5000000_1 : Int) (b5000000_2 : Int) (ports : Rows) (list_ : Rows) : St := { n := 1099511627814, sl := [(0, .ptr 320000000 0), (4, .own 640256), (5, .own 640320), (6, .int .i64 k)], hp := [(320000000, .box 141 [.sl [.int .u8] b5000000, .int .i64 b5000000_1, .int .i64 b5000000_2]), (640256, .row 105 [.int .i64, .sl [.int .i64], .int .i64, .bool] ports false true), (640320, .row 66 [.int .i64, .int .i64, .int .i64, .int .i64, .int .i64, .bool, .int .i64, .int .i64] list_ false true)], ok := true, ls := [], lm := [] }
noncomputable def spec_l33Functions_B0 (N : Nat) : (St → Res) → St → Res := loopBM Try.prog spec_l33Functions_G spec_l33Functions_A N Try.f75 spec_l33Functions_s [true, true, true, false, true, false] []
theorem spec_l33Functions_b0 (N : Nat) (ports : Rows) (ih : St → Res) (k : Int) (b5000000 : Rows) (b5000000_1 : Int) (b5000000_2 : Int) (list_ : Rows) : spec_l33Functions_B0 N ih (spec_l33Functions_m0 k b5000000 b5000000_1 b5000000_2 ports list_) = spec_l33Functions_l0 Vm.bad spec_l33Functions_K ports (fun k b5000000 b5000000_1 b5000000_2 list_ => ih (spec_l33Functions_m0 k b5000000 b5000000_1 b5000000_2 ports list_)) k b5000000 b5000000_1 b5000000_2 list_ := by kernel_rfl
theorem spec_l33Functions_n0 (N : Nat) (ports : Rows) (m_ : Nat) : (fun k b5000000 b5000000_1 b5000000_2 list_ => loopN (spec_l33Functions_B0 N) m_ (spec_l33Functions_m0 k b5000000 b5000000_1 b5000000_2 ports list_)) = spec_l33Functions_L0 Vm.bad spec_l33Functions_K N ports m_ := by
  induction m_ with
  | zero => rfl
  | succ m_ ih =>
    funext k b5000000 b5000000_1 b5000000_2 list_
    show spec_l33Functions_B0 N (loopN (spec_l33Functions_B0 N) m_) (spec_l33Functions_m0 k b5000000 b5000000_1 b5000000_2 ports list_) = _
    rw [spec_l33Functions_b0 N ports]
    rw [ih]
    rfl
theorem spec_l33Functions_r (N : Nat) (c : Sl01Cur) : runFM Try.prog spec_l33Functions_G spec_l33Functions_A N Try.f75 spec_l33Functions_s (c.enc ++ ([])) = spec_l33Functions_f Vm.bad spec_l33Functions_K N c := by
  have run_ : runFM Try.prog spec_l33Functions_G spec_l33Functions_A N Try.f75 spec_l33Functions_s (c.enc ++ ([])) = spec_l33Functions_t Vm.bad spec_l33Functions_K (fun ports k b5000000 b5000000_1 b5000000_2 list_ => loopN (spec_l33Functions_B0 N) N (spec_l33Functions_m0 k b5000000 b5000000_1 b5000000_2 ports list_)) c := by kernel_rfl
  refine run_.trans ?_
  unfold spec_l33Functions_f
  have e0 : (fun ports k b5000000 b5000000_1 b5000000_2 list_ => loopN (spec_l33Functions_B0 N) N (spec_l33Functions_m0 k b5000000 b5000000_1 b5000000_2 ports list_)) = (fun ports => spec_l33Functions_L0 Vm.bad spec_l33Functions_K N ports N) := by
    funext ports
    exact spec_l33Functions_n0 N ports N
  exact congrArg (fun l_ => spec_l33Functions_t Vm.bad spec_l33Functions_K l_ c) e0
theorem spec_l33Functions_h : HoldsM Try.prog 75 spec_l33Functions_s := by
  refine holdsM_of_run (A := spec_l33Functions_A) spec_l33Functions_x Try.func75 rfl (by kernel_rfl) (of_decide_eq_true (by kernel_rfl)) (of_decide_eq_true (by kernel_rfl)) (by kernel_rfl) (fun ds => by kernel_rfl) ?_
  intro ds hw hok
  replace hw : WtL (Sl01Cur.ct ++ ([])) ds := hw
  obtain ⟨c, ds, rfl, h_c, hw⟩ := Sl01Cur.of_wt (r := _) hw
  obtain rfl := of_wt_nil hw
  obtain ⟨N, hN⟩ := spec_l33Functions_c Vm.bad spec_l33Functions_K c h_c hok
  exact ⟨N, ((spec_l33Functions_r N c).trans hN).trans (by kernel_rfl)⟩

end
end Go.Proofs.Ytfnkhejoihnlnaa.Pl
