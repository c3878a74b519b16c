/- The contracts of functions of the program: each computes what its plain form says. Conditions: none. -/
import Derived.Test.YtpkkffngnchieaaPCm
import Derived.Test.YtpkkffngnchieaaRows
import Derived.Test.YtpkkffngnchieaaBCl
import Derived.Test.YtpkkffngnchieaaBCu
set_option linter.unusedVariables false
set_option linter.unusedSimpArgs false
set_option maxRecDepth 100000
namespace Go.Proofs.Ytpkkffngnchieaa.Pl
open Vm
noncomputable section

def spec_l34Clock_s : Sum := { ps := [⟨[.sl [.int .u8], .int .i64, .int .i64], true⟩], rs := [⟨[.imm (.int .i64), .imm (.int .i64), .imm (.int .i64), .imm (.int .i64)], true⟩], fn := fun ds => (curOk (Sl01Cur.decAt ds 0), SClock.enc (l34Clock (Sl01Cur.decAt ds 0)).1 ++ Sl01Cur.enc (l34Clock (Sl01Cur.decAt ds 0)).2), ms := [some (.box 46)] }
def spec_l34Clock_G : Ctx := [(37, spec_l01Below_s), (38, spec_l01PickInt_s)]
theorem spec_l34Clock_x : CtxHolds Try.prog spec_l34Clock_G := ctx_cons spec_l01Below_h (ctx_cons spec_l01PickInt_h ctx_nil)
def spec_l34Clock_A : List (Nat × Ann) := []
theorem spec_l34Clock_r (N : Nat) (c : Sl01Cur) : runFM Try.prog spec_l34Clock_G spec_l34Clock_A N Try.f33 spec_l34Clock_s (c.enc ++ ([])) = spec_l34Clock_t Vm.bad (fun r0 r1 => ((true, SClock.enc r0 ++ Sl01Cur.enc r1) : Res)) c := by kernel_rfl
theorem spec_l34Clock_h : HoldsM Try.prog 33 spec_l34Clock_s := by
  refine holdsM_of_run (A := spec_l34Clock_A) spec_l34Clock_x Try.func33 rfl (by kernel_rfl) (of_decide_eq_true (by kernel_rfl)) (of_decide_eq_true (by kernel_rfl)) (by kernel_rfl) (fun ds => by kernel_rfl) ?_
  intro ds hw hok
  replace hw : WtL (Sl01Cur.ct ++ ([])) ds := hw
  obtain ⟨c, ds, rfl, h_c, hw⟩ := Sl01Cur.of_wt (r := _) hw
  obtain rfl := of_wt_nil hw
  exact ⟨0, ((spec_l34Clock_r 0 c).trans (spec_l34Clock_c Vm.bad _ c h_c hok)).trans (by kernel_rfl)⟩

def spec_DrawClock_s : Sum := { ps := [⟨[.sl [.int .u8]], false⟩], rs := [⟨[.imm (.int .i64), .imm (.int .i64), .imm (.int .i64), .imm (.int .i64)], true⟩], fn := fun ds => (true, SClock.enc (DrawClock (rR ds 0))) }
def spec_DrawClock_G : Ctx := [(33, spec_l34Clock_s), (34, spec_l01New_s)]
theorem spec_DrawClock_x : CtxHolds Try.prog spec_DrawClock_G := ctx_cons spec_l34Clock_h (ctx_cons spec_l01New_h ctx_nil)
def spec_DrawClock_A : List (Nat × Ann) := []
theorem spec_DrawClock_r (N : Nat) (code : Rows) : runF Try.prog spec_DrawClock_G spec_DrawClock_A N Try.f24 spec_DrawClock_s (.sl code :: ([])) = spec_DrawClock_t Vm.bad (fun r0 => ((true, SClock.enc r0) : Res)) code := by kernel_rfl
theorem spec_DrawClock_h : Holds Try.prog 24 spec_DrawClock_s := by
  refine holds_of_run (A := spec_DrawClock_A) spec_DrawClock_x Try.func24 rfl (by kernel_rfl) (of_decide_eq_true (by kernel_rfl)) (of_decide_eq_true (by kernel_rfl)) ?_
  intro ds hw hok
  replace hw : WtL ((.sl [.int .u8]) :: ([])) ds := hw
  obtain ⟨code, ds, rfl, h_code, hw⟩ := of_wt_sl hw
  obtain rfl := of_wt_nil hw
  exact ⟨0, ((spec_DrawClock_r 0 code).trans (spec_DrawClock_c Vm.bad _ code h_code)).trans (by kernel_rfl)⟩

def laws_FnClockParts_s : Sum := { ps := [⟨[.sl [.int .u8]], false⟩], rs := [⟨[.imm .bool], false⟩], fn := fun ds => (fitL ((.sl [.int .u8]) :: ([])) ds, [.bool true]) }
def laws_FnClockParts_G : Ctx := [(14, impl_ClockOk_s), (15, laws_big_s), (16, laws_at_s), (24, spec_DrawClock_s), (25, impl_AdvanceClock_s)]
theorem laws_FnClockParts_x : CtxHolds Try.prog laws_FnClockParts_G := ctx_cons impl_ClockOk_h (ctx_cons laws_big_h (ctx_cons laws_at_h (ctx_cons spec_DrawClock_h (ctx_cons impl_AdvanceClock_h ctx_nil))))
def laws_FnClockParts_A : List (Nat × Ann) := []
theorem laws_FnClockParts_r (N : Nat) (code : Rows) : runF Try.prog laws_FnClockParts_G laws_FnClockParts_A N Try.f8 laws_FnClockParts_s (.sl code :: ([])) = laws_FnClockParts_t Vm.bad (fun r0 => ((true, [.bool r0]) : Res)) code := by kernel_rfl
theorem laws_FnClockParts_h : Holds Try.prog 8 laws_FnClockParts_s := by
  refine holds_of_run (A := laws_FnClockParts_A) laws_FnClockParts_x Try.func8 rfl (by kernel_rfl) (of_decide_eq_true (by kernel_rfl)) (of_decide_eq_true (by kernel_rfl)) ?_
  intro ds hw hok
  replace hw : WtL ((.sl [.int .u8]) :: ([])) ds := hw
  obtain ⟨code, ds, rfl, h_code, hw⟩ := of_wt_sl hw
  obtain rfl := of_wt_nil hw
  exact ⟨0, ((laws_FnClockParts_r 0 code).trans (laws_FnClockParts_c Vm.bad _ code h_code hok)).trans (by kernel_rfl)⟩

def laws_FnClockForward_s : Sum := { ps := [⟨[.sl [.int .u8]], false⟩], rs := [⟨[.imm .bool], false⟩], fn := fun ds => (fitL ((.sl [.int .u8]) :: ([])) ds, [.bool true]) }
def laws_FnClockForward_G : Ctx := [(14, impl_ClockOk_s), (15, laws_big_s), (16, laws_at_s), (22, impl_TrimClock_s), (24, spec_DrawClock_s), (25, impl_AdvanceClock_s), (28, impl_StepClock_s)]
theorem laws_FnClockForward_x : CtxHolds Try.prog laws_FnClockForward_G := ctx_cons impl_ClockOk_h (ctx_cons laws_big_h (ctx_cons laws_at_h (ctx_cons impl_TrimClock_h (ctx_cons spec_DrawClock_h (ctx_cons impl_AdvanceClock_h (ctx_cons impl_StepClock_h ctx_nil))))))
def laws_FnClockForward_A : List (Nat × Ann) := [(6, { slots := [(0, .asis), (3, .asis), (4, .asis), (5, .asis)], boxes := [(192, []), (256, [])] })]
def laws_FnClockForward_K : Bool → Res := (fun r0 => ((true, [.bool r0]) : Res))
def laws_FnClockForward_m0 (code : Rows) (i : Int) (k : Int) (k_1 : Int) (k_2 : Int) (k_3 : Int) (j : Int) (j_1 : Int) (j_2 : Int) (j_3 : Int) : St := { n := 81, sl := [(0, .sl [.int .u8] code), (3, .ptr 192 0), (4, .ptr 256 0), (5, .int .i64 i)], hp := [(192, .box 25 [.int .i64 k, .int .i64 k_1, .int .i64 k_2, .int .i64 k_3]), (256, .box 25 [.int .i64 j, .int .i64 j_1, .int .i64 j_2, .int .i64 j_3])], ok := true, ls := [], lm := [] }
noncomputable def laws_FnClockForward_B0 (N : Nat) : (St → Res) → St → Res := loopB Try.prog laws_FnClockForward_G laws_FnClockForward_A N Try.f11 laws_FnClockForward_s [true, true, true, true, false, true, false] []
theorem laws_FnClockForward_b0 (N : Nat) (code : Rows) (j : Int) (j_1 : Int) (j_2 : Int) (j_3 : Int) (ih : St → Res) (i : Int) (k : Int) (k_1 : Int) (k_2 : Int) (k_3 : Int) : laws_FnClockForward_B0 N ih (laws_FnClockForward_m0 code i k k_1 k_2 k_3 j j_1 j_2 j_3) = laws_FnClockForward_l0 Vm.bad laws_FnClockForward_K code j j_1 j_2 j_3 (fun i k k_1 k_2 k_3 => ih (laws_FnClockForward_m0 code i k k_1 k_2 k_3 j j_1 j_2 j_3)) i k k_1 k_2 k_3 := by kernel_rfl
theorem laws_FnClockForward_n0 (N : Nat) (code : Rows) (j : Int) (j_1 : Int) (j_2 : Int) (j_3 : Int) (m_ : Nat) : (fun i k k_1 k_2 k_3 => loopN (laws_FnClockForward_B0 N) m_ (laws_FnClockForward_m0 code i k k_1 k_2 k_3 j j_1 j_2 j_3)) = laws_FnClockForward_L0 Vm.bad laws_FnClockForward_K N code j j_1 j_2 j_3 m_ := by
  induction m_ with
  | zero => rfl
  | succ m_ ih =>
    funext i k k_1 k_2 k_3
    show laws_FnClockForward_B0 N (loopN (laws_FnClockForward_B0 N) m_) (laws_FnClockForward_m0 code i k k_1 k_2 k_3 j j_1 j_2 j_3) = _
    rw [laws_FnClockForward_b0 N code j j_1 j_2 j_3]
    rw [ih]
    rfl
theorem laws_FnClockForward_r (N : Nat) (code : Rows) : runF Try.prog laws_FnClockForward_G laws_FnClockForward_A N Try.f11 laws_FnClockForward_s (.sl code :: ([])) = laws_FnClockForward_f Vm.bad laws_FnClockForward_K N code := by
  have h : runF Try.prog laws_FnClockForward_G laws_FnClockForward_A N Try.f11 laws_FnClockForward_s (.sl code :: ([])) = laws_FnClockForward_t Vm.bad laws_FnClockForward_K (fun j j_1 j_2 j_3 i k k_1 k_2 k_3 => loopN (laws_FnClockForward_B0 N) N (laws_FnClockForward_m0 code i k k_1 k_2 k_3 j j_1 j_2 j_3)) code := by kernel_rfl
  refine h.trans ?_
  unfold laws_FnClockForward_f
  have e0 : (fun j j_1 j_2 j_3 i k k_1 k_2 k_3 => loopN (laws_FnClockForward_B0 N) N (laws_FnClockForward_m0 code i k k_1 k_2 k_3 j j_1 j_2 j_3)) = (fun j j_1 j_2 j_3 => laws_FnClockForward_L0 Vm.bad laws_FnClockForward_K N code j j_1 j_2 j_3 N) := by
    funext j j_1 j_2 j_3
    exact laws_FnClockForward_n0 N code j j_1 j_2 j_3 N
  exact congrArg (fun l_ => laws_FnClockForward_t Vm.bad laws_FnClockForward_K l_ code) e0
theorem laws_FnClockForward_h : Holds Try.prog 11 laws_FnClockForward_s := by
  refine holds_of_run (A := laws_FnClockForward_A) laws_FnClockForward_x Try.func11 rfl (by kernel_rfl) (of_decide_eq_true (by kernel_rfl)) (of_decide_eq_true (by kernel_rfl)) ?_
  intro ds hw hok
  replace hw : WtL ((.sl [.int .u8]) :: ([])) ds := hw
  obtain ⟨code, ds, rfl, h_code, hw⟩ := of_wt_sl hw
  obtain rfl := of_wt_nil hw
  obtain ⟨N, hN⟩ := laws_FnClockForward_c Vm.bad laws_FnClockForward_K code h_code hok
  exact ⟨N, ((laws_FnClockForward_r N code).trans hN).trans (by kernel_rfl)⟩

end
end Go.Proofs.Ytpkkffngnchieaa.Pl
