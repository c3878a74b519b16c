/- The contracts of functions of the program: each computes what its plain form says. Conditions: none. -/
import Derived.Test.YtbcjbeckcgoanaaPPa
import Derived.Test.YtbcjbeckcgoanaaRows
import Derived.Test.YtbcjbeckcgoanaaBBa
set_option linter.unusedVariables false
set_option linter.unusedSimpArgs false
set_option maxRecDepth 100000
namespace Go.Proofs.Ytbcjbeckcgoanaa.Pl
open Vm
noncomputable section

def impl_PauseOk_s : Sum := { ps := [⟨[.int .i64, .int .i64, .int .i64, .int .i64, .int .i64, .bool, .sl [.int .i64], .sl [.bool], .bool, .int .i64], true⟩], rs := [⟨[.imm .bool], false⟩], fn := fun ds => (true, [.bool (PauseOk (SPauseLink.decAt ds 0))]) }
def impl_PauseOk_G : Ctx := [(27, impl_between_s)]
theorem impl_PauseOk_x : CtxHolds Try.prog impl_PauseOk_G := ctx_cons impl_between_h ctx_nil
def impl_PauseOk_A : List (Nat × Ann) := [(4, { slots := [(1, .asis), (48, .asis), (49, .asis), (50, .asis)], boxes := [(64, [])] })]
def impl_PauseOk_K : Bool → Res := (fun r0 => ((true, [.bool r0]) : Res))
def impl_PauseOk_m0 (x : Rows) (x_1 : Int) (x_2 : Int) (p_1 : Int) (p_2 : Int) (p_3 : Int) (p_4 : Int) (p_5 : Int) (p_6 : Bool) (p_7 : Rows) (p_8 : Rows) (p_9 : Bool) (p_10 : Int) : St := { n := 72, sl := [(1, .ptr 64 0), (48, .sl [.int .i64] x), (49, .int .i64 x_1), (50, .int .i64 x_2)], hp := [(64, .box 28 [.int .i64 p_1, .int .i64 p_2, .int .i64 p_3, .int .i64 p_4, .int .i64 p_5, .bool p_6, .sl [.int .i64] p_7, .sl [.bool] p_8, .bool p_9, .int .i64 p_10])], ok := true, ls := [], lm := [] }
noncomputable def impl_PauseOk_B0 (N : Nat) : (St → Res) → St → Res := loopB Try.prog impl_PauseOk_G impl_PauseOk_A N Try.f10 impl_PauseOk_s [true, true, false, true, false] []
theorem impl_PauseOk_b0 (N : Nat) (x : Rows) (x_1 : Int) (p_1 : Int) (p_2 : Int) (p_3 : Int) (p_4 : Int) (p_5 : Int) (p_6 : Bool) (p_7 : Rows) (p_8 : Rows) (p_9 : Bool) (p_10 : Int) (ih : St → Res) (x_2 : Int) : impl_PauseOk_B0 N ih (impl_PauseOk_m0 x x_1 x_2 p_1 p_2 p_3 p_4 p_5 p_6 p_7 p_8 p_9 p_10) = impl_PauseOk_l0 Vm.bad impl_PauseOk_K x x_1 p_4 p_7 p_8 (fun x_2 => ih (impl_PauseOk_m0 x x_1 x_2 p_1 p_2 p_3 p_4 p_5 p_6 p_7 p_8 p_9 p_10)) x_2 := by kernel_rfl
theorem impl_PauseOk_n0 (N : Nat) (x : Rows) (x_1 : Int) (p_1 : Int) (p_2 : Int) (p_3 : Int) (p_4 : Int) (p_5 : Int) (p_6 : Bool) (p_7 : Rows) (p_8 : Rows) (p_9 : Bool) (p_10 : Int) (m_ : Nat) : (fun x_2 => loopN (impl_PauseOk_B0 N) m_ (impl_PauseOk_m0 x x_1 x_2 p_1 p_2 p_3 p_4 p_5 p_6 p_7 p_8 p_9 p_10)) = impl_PauseOk_L0 Vm.bad impl_PauseOk_K N x x_1 p_4 p_7 p_8 m_ := by
  induction m_ with
  | zero => rfl
  | succ m_ ih =>
    funext x_2
    show impl_PauseOk_B0 N (loopN (impl_PauseOk_B0 N) m_) (impl_PauseOk_m0 x x_1 x_2 p_1 p_2 p_3 p_4 p_5 p_6 p_7 p_8 p_9 p_10) = _
    rw [impl_PauseOk_b0 N x x_1 p_1 p_2 p_3 p_4 p_5 p_6 p_7 p_8 p_9 p_10]
    rw [ih]
    rfl
theorem impl_PauseOk_r (N : Nat) (p : SPauseLink) : runF Try.prog impl_PauseOk_G impl_PauseOk_A N Try.f10 impl_PauseOk_s (p.enc ++ ([])) = impl_PauseOk_f Vm.bad impl_PauseOk_K N p := by
  have h : runF Try.prog impl_PauseOk_G impl_PauseOk_A N Try.f10 impl_PauseOk_s (p.enc ++ ([])) = impl_PauseOk_t Vm.bad impl_PauseOk_K (fun x x_1 p_4 p_7 p_8 x_2 => loopN (impl_PauseOk_B0 N) N (impl_PauseOk_m0 x x_1 x_2 p.Capacity p.High p.Low p_4 p.Fill p.Paused p_7 p_8 p.Stopped p.Lost)) p := by kernel_rfl
  refine h.trans ?_
  unfold impl_PauseOk_f
  have e0 : (fun x x_1 p_4 p_7 p_8 x_2 => loopN (impl_PauseOk_B0 N) N (impl_PauseOk_m0 x x_1 x_2 p.Capacity p.High p.Low p_4 p.Fill p.Paused p_7 p_8 p.Stopped p.Lost)) = (fun x x_1 p_4 p_7 p_8 => impl_PauseOk_L0 Vm.bad impl_PauseOk_K N x x_1 p_4 p_7 p_8 N) := by
    funext x x_1 p_4 p_7 p_8
    exact impl_PauseOk_n0 N x x_1 p.Capacity p.High p.Low p_4 p.Fill p.Paused p_7 p_8 p.Stopped p.Lost N
  exact congrArg (fun l => impl_PauseOk_t Vm.bad impl_PauseOk_K l p) e0
theorem impl_PauseOk_h : Holds Try.prog 10 impl_PauseOk_s := by
  refine holds_of_run (A := impl_PauseOk_A) impl_PauseOk_x Try.func10 rfl (by kernel_rfl) (of_decide_eq_true (by kernel_rfl)) ?_
  intro ds hw hok
  replace hw : WtL (SPauseLink.ct ++ ([])) ds := hw
  obtain ⟨p, ds, rfl, h_p, hw⟩ := SPauseLink.of_wt (r := _) hw
  obtain rfl := of_wt_nil hw
  obtain ⟨N, hN⟩ := impl_PauseOk_c Vm.bad impl_PauseOk_K p h_p
  exact ⟨N, ((impl_PauseOk_r N p).trans hN).trans (by kernel_rfl)⟩

def spec_PauseOk_s : Sum := { ps := [⟨[.int .i64, .int .i64, .int .i64, .int .i64, .int .i64, .bool, .sl [.int .i64], .sl [.bool], .bool, .int .i64], true⟩], rs := [⟨[.imm .bool], false⟩], fn := fun ds => (true, [.bool (PauseOk (SPauseLink.decAt ds 0))]) }
def spec_PauseOk_G : Ctx := [(25, spec_l01In_s)]
theorem spec_PauseOk_x : CtxHolds Try.prog spec_PauseOk_G := ctx_cons spec_l01In_h ctx_nil
def spec_PauseOk_A : List (Nat × Ann) := [(4, { slots := [(1, .asis), (3, .asis)], boxes := [(64, [])] })]
def spec_PauseOk_K : Bool → Res := (fun r0 => ((true, [.bool r0]) : Res))
def spec_PauseOk_m0 (k : Int) (p_1 : Int) (p_2 : Int) (p_3 : Int) (p_4 : Int) (p_5 : Int) (p_6 : Bool) (p_7 : Rows) (p_8 : Rows) (p_9 : Bool) (p_10 : Int) : St := { n := 74, sl := [(1, .ptr 64 0), (3, .int .i64 k)], hp := [(64, .box 28 [.int .i64 p_1, .int .i64 p_2, .int .i64 p_3, .int .i64 p_4, .int .i64 p_5, .bool p_6, .sl [.int .i64] p_7, .sl [.bool] p_8, .bool p_9, .int .i64 p_10])], ok := true, ls := [], lm := [] }
noncomputable def spec_PauseOk_B0 (N : Nat) : (St → Res) → St → Res := loopB Try.prog spec_PauseOk_G spec_PauseOk_A N Try.f8 spec_PauseOk_s [true, true, false, true, false] []
theorem spec_PauseOk_b0 (N : Nat) (p_1 : Int) (p_2 : Int) (p_3 : Int) (p_4 : Int) (p_5 : Int) (p_6 : Bool) (p_7 : Rows) (p_8 : Rows) (p_9 : Bool) (p_10 : Int) (ih : St → Res) (k : Int) : spec_PauseOk_B0 N ih (spec_PauseOk_m0 k p_1 p_2 p_3 p_4 p_5 p_6 p_7 p_8 p_9 p_10) = spec_PauseOk_l0 Vm.bad spec_PauseOk_K p_4 p_7 p_8 (fun k => ih (spec_PauseOk_m0 k p_1 p_2 p_3 p_4 p_5 p_6 p_7 p_8 p_9 p_10)) k := by kernel_rfl
theorem spec_PauseOk_n0 (N : Nat) (p_1 : Int) (p_2 : Int) (p_3 : Int) (p_4 : Int) (p_5 : Int) (p_6 : Bool) (p_7 : Rows) (p_8 : Rows) (p_9 : Bool) (p_10 : Int) (m_ : Nat) : (fun k => loopN (spec_PauseOk_B0 N) m_ (spec_PauseOk_m0 k p_1 p_2 p_3 p_4 p_5 p_6 p_7 p_8 p_9 p_10)) = spec_PauseOk_L0 Vm.bad spec_PauseOk_K N p_4 p_7 p_8 m_ := by
  induction m_ with
  | zero => rfl
  | succ m_ ih =>
    funext k
    show spec_PauseOk_B0 N (loopN (spec_PauseOk_B0 N) m_) (spec_PauseOk_m0 k p_1 p_2 p_3 p_4 p_5 p_6 p_7 p_8 p_9 p_10) = _
    rw [spec_PauseOk_b0 N p_1 p_2 p_3 p_4 p_5 p_6 p_7 p_8 p_9 p_10]
    rw [ih]
    rfl
theorem spec_PauseOk_r (N : Nat) (p : SPauseLink) : runF Try.prog spec_PauseOk_G spec_PauseOk_A N Try.f8 spec_PauseOk_s (p.enc ++ ([])) = spec_PauseOk_f Vm.bad spec_PauseOk_K N p := by
  have h : runF Try.prog spec_PauseOk_G spec_PauseOk_A N Try.f8 spec_PauseOk_s (p.enc ++ ([])) = spec_PauseOk_t Vm.bad spec_PauseOk_K (fun p_4 p_7 p_8 k => loopN (spec_PauseOk_B0 N) N (spec_PauseOk_m0 k p.Capacity p.High p.Low p_4 p.Fill p.Paused p_7 p_8 p.Stopped p.Lost)) p := by kernel_rfl
  refine h.trans ?_
  unfold spec_PauseOk_f
  have e0 : (fun p_4 p_7 p_8 k => loopN (spec_PauseOk_B0 N) N (spec_PauseOk_m0 k p.Capacity p.High p.Low p_4 p.Fill p.Paused p_7 p_8 p.Stopped p.Lost)) = (fun p_4 p_7 p_8 => spec_PauseOk_L0 Vm.bad spec_PauseOk_K N p_4 p_7 p_8 N) := by
    funext p_4 p_7 p_8
    exact spec_PauseOk_n0 N p.Capacity p.High p.Low p_4 p.Fill p.Paused p_7 p_8 p.Stopped p.Lost N
  exact congrArg (fun l => spec_PauseOk_t Vm.bad spec_PauseOk_K l p) e0
theorem spec_PauseOk_h : Holds Try.prog 8 spec_PauseOk_s := by
  refine holds_of_run (A := spec_PauseOk_A) spec_PauseOk_x Try.func8 rfl (by kernel_rfl) (of_decide_eq_true (by kernel_rfl)) ?_
  intro ds hw hok
  replace hw : WtL (SPauseLink.ct ++ ([])) ds := hw
  obtain ⟨p, ds, rfl, h_p, hw⟩ := SPauseLink.of_wt (r := _) hw
  obtain rfl := of_wt_nil hw
  obtain ⟨N, hN⟩ := spec_PauseOk_c Vm.bad spec_PauseOk_K p h_p
  exact ⟨N, ((spec_PauseOk_r N p).trans hN).trans (by kernel_rfl)⟩

def laws_FnExactPauseOk_s : Sum := { ps := [⟨[.int .i64, .int .i64, .int .i64, .int .i64, .int .i64, .bool, .sl [.int .i64], .sl [.bool], .bool, .int .i64], true⟩], rs := [⟨[.imm .bool], false⟩], fn := fun ds => (fitL (SPauseLink.ct ++ ([])) ds, [.bool true]) }
def laws_FnExactPauseOk_G : Ctx := [(7, laws_szPauseLink_s), (8, spec_PauseOk_s), (9, laws_toPauseLink_s), (10, impl_PauseOk_s), (11, laws_eqPauseLink_s)]
theorem laws_FnExactPauseOk_x : CtxHolds Try.prog laws_FnExactPauseOk_G := ctx_cons laws_szPauseLink_h (ctx_cons spec_PauseOk_h (ctx_cons laws_toPauseLink_h (ctx_cons impl_PauseOk_h (ctx_cons laws_eqPauseLink_h ctx_nil))))
def laws_FnExactPauseOk_A : List (Nat × Ann) := []
theorem laws_FnExactPauseOk_r (N : Nat) (aP : SPauseLink) : runF Try.prog laws_FnExactPauseOk_G laws_FnExactPauseOk_A N Try.f3 laws_FnExactPauseOk_s (aP.enc ++ ([])) = laws_FnExactPauseOk_t Vm.bad (fun r0 => ((true, [.bool r0]) : Res)) aP := by kernel_rfl
theorem laws_FnExactPauseOk_h : Holds Try.prog 3 laws_FnExactPauseOk_s := by
  refine holds_of_run (A := laws_FnExactPauseOk_A) laws_FnExactPauseOk_x Try.func3 rfl (by kernel_rfl) (of_decide_eq_true (by kernel_rfl)) ?_
  intro ds hw hok
  replace hw : WtL (SPauseLink.ct ++ ([])) ds := hw
  obtain ⟨aP, ds, rfl, h_aP, hw⟩ := SPauseLink.of_wt (r := _) hw
  obtain rfl := of_wt_nil hw
  exact ⟨0, ((laws_FnExactPauseOk_r 0 aP).trans (laws_FnExactPauseOk_c Vm.bad _ aP h_aP hok)).trans (by kernel_rfl)⟩

end
end Go.Proofs.Ytbcjbeckcgoanaa.Pl
