/- The contracts of functions of the program: each computes what its plain form says. Conditions: none. -/
import Derived.Test.YtjknoknkbfhelaaPBo
import Derived.Test.YtjknoknkbfhelaaRows
import Derived.Test.YtjknoknkbfhelaaBIm
import Derived.Test.YtjknoknkbfhelaaBFd
set_option linter.unusedVariables false
set_option linter.unusedSimpArgs false
set_option maxRecDepth 100000
namespace Go.Proofs.Ytjknoknkbfhelaa.Pl
open Vm
noncomputable section

def spec_l36Image_s : Sum := { ps := [⟨[.sl [.int .u8], .int .i64, .int .i64], true⟩], rs := [⟨[.imm .str], false⟩], fn := fun ds => (curOk (Sl01Cur.decAt ds 0), [.str (l36Image (Sl01Cur.decAt ds 0)).1] ++ Sl01Cur.enc (l36Image (Sl01Cur.decAt ds 0)).2), ms := [some (.box 85)] }
def spec_l36Image_G : Ctx := [(23, spec_MakeImage_s), (71, spec_l01Below_s), (75, spec_l01Text_s), (77, spec_l01PickInt_s)]
theorem spec_l36Image_x : CtxHolds Try.prog spec_l36Image_G := ctx_cons spec_MakeImage_h (ctx_cons spec_l01Below_h (ctx_cons spec_l01Text_h (ctx_cons spec_l01PickInt_h ctx_nil)))
def spec_l36Image_A : List (Nat × Ann) := []
theorem spec_l36Image_r (N : Nat) (c : Sl01Cur) : runFM Try.prog spec_l36Image_G spec_l36Image_A N Try.f70 spec_l36Image_s (c.enc ++ ([])) = spec_l36Image_t Vm.bad (fun r0 r1 => ((true, [.str r0] ++ Sl01Cur.enc r1) : Res)) c := by kernel_rfl
theorem spec_l36Image_h : HoldsM Try.prog 70 spec_l36Image_s := by
  refine holdsM_of_run (A := spec_l36Image_A) spec_l36Image_x Try.func70 rfl (by kernel_rfl) (of_decide_eq_true (by kernel_rfl)) (of_decide_eq_true (by kernel_rfl)) (by kernel_rfl) (fun ds => by kernel_rfl) ?_
  intro ds hw hok
  replace hw : WtL (Sl01Cur.ct ++ ([])) ds := hw
  obtain ⟨c, ds, rfl, h_c, hw⟩ := Sl01Cur.of_wt (r := _) hw
  obtain rfl := of_wt_nil hw
  exact ⟨0, ((spec_l36Image_r 0 c).trans (spec_l36Image_c Vm.bad _ c h_c hok)).trans (by kernel_rfl)⟩

def spec_l36Flash_s : Sum := { ps := [⟨[.sl [.int .u8], .int .i64, .int .i64], true⟩], rs := [⟨[.own 9 [.str]], true⟩], fn := fun ds => (curOk (Sl01Cur.decAt ds 0), SFlash.enc (l36Flash (Sl01Cur.decAt ds 0)).1 ++ Sl01Cur.enc (l36Flash (Sl01Cur.decAt ds 0)).2), ms := [some (.box 85)] }
def spec_l36Flash_G : Ctx := [(63, spec_l01Long_s), (70, spec_l36Image_s), (74, spec_l01Once_s), (75, spec_l01Text_s)]
theorem spec_l36Flash_x : CtxHolds Try.prog spec_l36Flash_G := ctx_cons spec_l01Long_h (ctx_cons spec_l36Image_h (ctx_cons spec_l01Once_h (ctx_cons spec_l01Text_h ctx_nil)))
def spec_l36Flash_A : List (Nat × Ann) := [(3, { slots := [(0, .asis), (2, .asis), (3, .asis), (4, .asis)], boxes := [(320000000, []), (128, []), (192, [(0, .own 9)])] })]
def spec_l36Flash_K : SFlash → Sl01Cur → Res := (fun r0 r1 => ((true, SFlash.enc r0 ++ Sl01Cur.enc r1) : Res))
def spec_l36Flash_m0 (k : Int) (b5000000 : Rows) (b5000000_1 : Int) (b5000000_2 : Int) (f_0 : Rows) : St := { n := 1099511627805, sl := [(0, .ptr 320000000 0), (2, .ptr 128 0), (3, .ptr 192 0), (4, .int .i64 k)], hp := [(320000000, .box 85 [.sl [.int .u8] b5000000, .int .i64 b5000000_1, .int .i64 b5000000_2]), (128, .box 34 [.nil]), (192, .box 34 [.own 1329152]), (1329152, .row 9 [.str] f_0 false true)], ok := true, ls := [], lm := [] }
noncomputable def spec_l36Flash_B0 (N : Nat) : (St → Res) → St → Res := loopBM Try.prog spec_l36Flash_G spec_l36Flash_A N Try.f69 spec_l36Flash_s [true, true, false, true, false] []
theorem spec_l36Flash_b0 (N : Nat) (ih : St → Res) (k : Int) (b5000000 : Rows) (b5000000_1 : Int) (b5000000_2 : Int) (f_0 : Rows) : spec_l36Flash_B0 N ih (spec_l36Flash_m0 k b5000000 b5000000_1 b5000000_2 f_0) = spec_l36Flash_l0 Vm.bad spec_l36Flash_K (fun k b5000000 b5000000_1 b5000000_2 f_0 => ih (spec_l36Flash_m0 k b5000000 b5000000_1 b5000000_2 f_0)) k b5000000 b5000000_1 b5000000_2 f_0 := by kernel_rfl
theorem spec_l36Flash_n0 (N : Nat) (m_ : Nat) : (fun k b5000000 b5000000_1 b5000000_2 f_0 => loopN (spec_l36Flash_B0 N) m_ (spec_l36Flash_m0 k b5000000 b5000000_1 b5000000_2 f_0)) = spec_l36Flash_L0 Vm.bad spec_l36Flash_K N m_ := by
  induction m_ with
  | zero => rfl
  | succ m_ ih =>
    funext k b5000000 b5000000_1 b5000000_2 f_0
    show spec_l36Flash_B0 N (loopN (spec_l36Flash_B0 N) m_) (spec_l36Flash_m0 k b5000000 b5000000_1 b5000000_2 f_0) = _
    rw [spec_l36Flash_b0 N]
    rw [ih]
    rfl
theorem spec_l36Flash_r (N : Nat) (c : Sl01Cur) : runFM Try.prog spec_l36Flash_G spec_l36Flash_A N Try.f69 spec_l36Flash_s (c.enc ++ ([])) = spec_l36Flash_f Vm.bad spec_l36Flash_K N c := by
  have h : runFM Try.prog spec_l36Flash_G spec_l36Flash_A N Try.f69 spec_l36Flash_s (c.enc ++ ([])) = spec_l36Flash_t Vm.bad spec_l36Flash_K (fun k b5000000 b5000000_1 b5000000_2 f_0 => loopN (spec_l36Flash_B0 N) N (spec_l36Flash_m0 k b5000000 b5000000_1 b5000000_2 f_0)) c := by kernel_rfl
  refine h.trans ?_
  unfold spec_l36Flash_f
  have e0 : (fun k b5000000 b5000000_1 b5000000_2 f_0 => loopN (spec_l36Flash_B0 N) N (spec_l36Flash_m0 k b5000000 b5000000_1 b5000000_2 f_0)) = (spec_l36Flash_L0 Vm.bad spec_l36Flash_K N N) := by
    exact spec_l36Flash_n0 N N
  exact congrArg (fun l_ => spec_l36Flash_t Vm.bad spec_l36Flash_K l_ c) e0
theorem spec_l36Flash_h : HoldsM Try.prog 69 spec_l36Flash_s := by
  refine holdsM_of_run (A := spec_l36Flash_A) spec_l36Flash_x Try.func69 rfl (by kernel_rfl) (of_decide_eq_true (by kernel_rfl)) (of_decide_eq_true (by kernel_rfl)) (by kernel_rfl) (fun ds => by kernel_rfl) ?_
  intro ds hw hok
  replace hw : WtL (Sl01Cur.ct ++ ([])) ds := hw
  obtain ⟨c, ds, rfl, h_c, hw⟩ := Sl01Cur.of_wt (r := _) hw
  obtain rfl := of_wt_nil hw
  obtain ⟨N, hN⟩ := spec_l36Flash_c Vm.bad spec_l36Flash_K c h_c hok
  exact ⟨N, ((spec_l36Flash_r N c).trans hN).trans (by kernel_rfl)⟩

def spec_DrawUpdate_s : Sum := { ps := [⟨[.sl [.int .u8]], false⟩], rs := [⟨[.own 9 [.str]], true⟩, ⟨[.imm .str], false⟩, ⟨[.imm (.int .i64)], false⟩, ⟨[.imm (.int .i64)], false⟩], fn := fun ds => (true, SFlash.enc (DrawUpdate (rR ds 0)).1 ++ [.str (DrawUpdate (rR ds 0)).2.1] ++ [.int (DrawUpdate (rR ds 0)).2.2.1] ++ [.int (DrawUpdate (rR ds 0)).2.2.2]) }
def spec_DrawUpdate_G : Ctx := [(61, spec_l01New_s), (69, spec_l36Flash_s), (70, spec_l36Image_s), (71, spec_l01Below_s)]
theorem spec_DrawUpdate_x : CtxHolds Try.prog spec_DrawUpdate_G := ctx_cons spec_l01New_h (ctx_cons spec_l36Flash_h (ctx_cons spec_l36Image_h (ctx_cons spec_l01Below_h ctx_nil)))
def spec_DrawUpdate_A : List (Nat × Ann) := []
theorem spec_DrawUpdate_r (N : Nat) (code : Rows) : runF Try.prog spec_DrawUpdate_G spec_DrawUpdate_A N Try.f45 spec_DrawUpdate_s (.sl code :: ([])) = spec_DrawUpdate_t Vm.bad (fun r0 r1 r2 r3 => ((true, SFlash.enc r0 ++ [.str r1] ++ [.int r2] ++ [.int r3]) : Res)) code := by kernel_rfl
theorem spec_DrawUpdate_h : Holds Try.prog 45 spec_DrawUpdate_s := by
  refine holds_of_run (A := spec_DrawUpdate_A) spec_DrawUpdate_x Try.func45 rfl (by kernel_rfl) (of_decide_eq_true (by kernel_rfl)) (of_decide_eq_true (by kernel_rfl)) ?_
  intro ds hw hok
  replace hw : WtL ((.sl [.int .u8]) :: ([])) ds := hw
  obtain ⟨code, ds, rfl, h_code, hw⟩ := of_wt_sl hw
  obtain rfl := of_wt_nil hw
  exact ⟨0, ((spec_DrawUpdate_r 0 code).trans (spec_DrawUpdate_c Vm.bad _ code h_code)).trans (by kernel_rfl)⟩

end
end Go.Proofs.Ytjknoknkbfhelaa.Pl
