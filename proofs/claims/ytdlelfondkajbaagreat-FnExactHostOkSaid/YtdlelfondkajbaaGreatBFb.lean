/- The contracts of functions of the program: each computes what its plain form says. Conditions: none. -/
import Derived.Test.YtdlelfondkajbaaGreatPFb
import Derived.Test.YtdlelfondkajbaaGreatRows
import Derived.Test.YtdlelfondkajbaaGreatBFa
set_option linter.unusedVariables false
set_option linter.unusedSimpArgs false
set_option maxRecDepth 100000
namespace Go.Proofs.YtdlelfondkajbaaGreat.Pl
open Vm
noncomputable section

def impl_TableOk_s : Sum := { ps := [⟨[.sl [.int .i64, .int .i64, .int .i64, .int .i64, .int .i64, .int .i64, .int .i64]], true⟩], rs := [⟨[.imm .bool], false⟩], fn := fun ds => (true, [.bool (TableOk (SFlowTable.decAt ds 0))]) }
def impl_TableOk_G : Ctx := [(82, impl_between_s), (209, impl_slotOf_s), (210, impl_wayOf_s)]
theorem impl_TableOk_x : CtxHolds Tryz.prog impl_TableOk_G := ctx_cons impl_between_h (ctx_cons impl_slotOf_h (ctx_cons impl_wayOf_h ctx_nil))
def impl_TableOk_A : List (Nat × Ann) := [(4, { slots := [(1, .asis), (12, .asis), (13, .asis), (14, .asis)], boxes := [(64, [])] }), (14, { slots := [(1, .asis), (3, .asis), (12, .asis), (13, .asis), (14, .asis), (49, .asis), (50, .asis), (51, .asis)], boxes := [(64, []), (256, [])] })]
def impl_TableOk_K : Bool → Res := (fun r0 => ((true, [.bool r0]) : Res))
def impl_TableOk_m0 (x : Rows) (x_1 : Int) (x_2 : Int) (t_1 : Rows) : St := { n := 67, sl := [(1, .ptr 64 0), (12, .sl [.int .i64, .int .i64, .int .i64, .int .i64, .int .i64, .int .i64, .int .i64] x), (13, .int .i64 x_1), (14, .int .i64 x_2)], hp := [(64, .box 69 [.sl [.int .i64, .int .i64, .int .i64, .int .i64, .int .i64, .int .i64, .int .i64] t_1])], ok := true, ls := [], lm := [] }
def impl_TableOk_m1 (x_2 : Int) (x : Rows) (x_1 : Int) (x_5 : Int) (x_6 : Int) (x_7 : Int) (t_1 : Rows) (s : Int) (s_1 : Int) (s_2 : Int) (s_3 : Int) (s_4 : Int) (s_5 : Int) (s_6 : Int) (x_8 : Rows) : St := { n := 67, sl := [(1, .ptr 64 0), (3, .int .i64 x_2), (12, .sl [.int .i64, .int .i64, .int .i64, .int .i64, .int .i64, .int .i64, .int .i64] x), (13, .int .i64 x_1), (14, .int .i64 x_5), (49, .own 643136), (50, .int .i64 x_6), (51, .int .i64 x_7)], hp := [(64, .box 69 [.sl [.int .i64, .int .i64, .int .i64, .int .i64, .int .i64, .int .i64, .int .i64] t_1]), (256, .box 228 [.int .i64 s, .int .i64 s_1, .int .i64 s_2, .int .i64 s_3, .int .i64 s_4, .int .i64 s_5, .int .i64 s_6]), (643136, .row 3 [.int .i64] x_8 false true)], ok := true, ls := [], lm := [] }
noncomputable def impl_TableOk_B1 (N : Nat) (o0 : St → Res) : (St → Res) → St → Res := loopB Tryz.prog impl_TableOk_G impl_TableOk_A N Tryz.f159 impl_TableOk_s [true, true, false, true, false, false, true, true, false, false, true, true, true, true, true, false] [o0]
noncomputable def impl_TableOk_B0 (N : Nat) : (St → Res) → St → Res := loopB Tryz.prog impl_TableOk_G impl_TableOk_A N Tryz.f159 impl_TableOk_s [true, true, false, true, false] []
theorem impl_TableOk_b1 (N : Nat) (o0 : St → Res) (x_2 : Int) (x : Rows) (x_1 : Int) (x_5 : Int) (x_6 : Int) (t_1 : Rows) (s : Int) (s_1 : Int) (s_2 : Int) (s_3 : Int) (s_4 : Int) (s_5 : Int) (s_6 : Int) (x_8 : Rows) (ih : St → Res) (x_7 : Int) : impl_TableOk_B1 N o0 ih (impl_TableOk_m1 x_2 x x_1 x_5 x_6 x_7 t_1 s s_1 s_2 s_3 s_4 s_5 s_6 x_8) = impl_TableOk_l1 Vm.bad impl_TableOk_K (fun x_2 => o0 (impl_TableOk_m0 x x_1 x_2 t_1)) x_2 x_5 x_6 t_1 x_8 (fun x_7 => ih (impl_TableOk_m1 x_2 x x_1 x_5 x_6 x_7 t_1 s s_1 s_2 s_3 s_4 s_5 s_6 x_8)) x_7 := by kernel_rfl
theorem impl_TableOk_n1 (N : Nat) (o0 : St → Res) (x_2 : Int) (x : Rows) (x_1 : Int) (x_5 : Int) (x_6 : Int) (t_1 : Rows) (s : Int) (s_1 : Int) (s_2 : Int) (s_3 : Int) (s_4 : Int) (s_5 : Int) (s_6 : Int) (x_8 : Rows) (m_ : Nat) : (fun x_7 => loopN (impl_TableOk_B1 N o0) m_ (impl_TableOk_m1 x_2 x x_1 x_5 x_6 x_7 t_1 s s_1 s_2 s_3 s_4 s_5 s_6 x_8)) = impl_TableOk_L1 Vm.bad impl_TableOk_K N (fun x_2 => o0 (impl_TableOk_m0 x x_1 x_2 t_1)) x_2 x_5 x_6 t_1 x_8 m_ := by
  induction m_ with
  | zero => rfl
  | succ m_ ih =>
    funext x_7
    show impl_TableOk_B1 N o0 (loopN (impl_TableOk_B1 N o0) m_) (impl_TableOk_m1 x_2 x x_1 x_5 x_6 x_7 t_1 s s_1 s_2 s_3 s_4 s_5 s_6 x_8) = _
    rw [impl_TableOk_b1 N o0 x_2 x x_1 x_5 x_6 t_1 s s_1 s_2 s_3 s_4 s_5 s_6 x_8]
    rw [ih]
    rfl
theorem impl_TableOk_b0 (N : Nat) (x : Rows) (x_1 : Int) (t_1 : Rows) (ih : St → Res) (x_2 : Int) : impl_TableOk_B0 N ih (impl_TableOk_m0 x x_1 x_2 t_1) = impl_TableOk_l0 Vm.bad impl_TableOk_K (fun x_2 x_5 x_6 x_8 x_7 => loopN (impl_TableOk_B1 N ih) N (impl_TableOk_m1 x_2 x x_1 x_5 x_6 x_7 t_1 (rI (nth x (Int.toNat x_2)) 0) (rI (nth x (Int.toNat x_2)) 1) (rI (nth x (Int.toNat x_2)) 2) (rI (nth x (Int.toNat x_2)) 3) (rI (nth x (Int.toNat x_2)) 4) (rI (nth x (Int.toNat x_2)) 5) (rI (nth x (Int.toNat x_2)) 6) x_8)) x x_1 t_1 (fun x_2 => ih (impl_TableOk_m0 x x_1 x_2 t_1)) x_2 := by kernel_rfl
theorem impl_TableOk_n0 (N : Nat) (x : Rows) (x_1 : Int) (t_1 : Rows) (m_ : Nat) : (fun x_2 => loopN (impl_TableOk_B0 N) m_ (impl_TableOk_m0 x x_1 x_2 t_1)) = impl_TableOk_L0 Vm.bad impl_TableOk_K N x x_1 t_1 m_ := by
  induction m_ with
  | zero => rfl
  | succ m_ ih =>
    funext x_2
    show impl_TableOk_B0 N (loopN (impl_TableOk_B0 N) m_) (impl_TableOk_m0 x x_1 x_2 t_1) = _
    rw [impl_TableOk_b0 N x x_1 t_1]
    have e1 := funext fun x_2 => funext fun x_5 => funext fun x_6 => funext fun x_8 => impl_TableOk_n1 N (loopN (impl_TableOk_B0 N) m_) x_2 x x_1 x_5 x_6 t_1 (rI (nth x (Int.toNat x_2)) 0) (rI (nth x (Int.toNat x_2)) 1) (rI (nth x (Int.toNat x_2)) 2) (rI (nth x (Int.toNat x_2)) 3) (rI (nth x (Int.toNat x_2)) 4) (rI (nth x (Int.toNat x_2)) 5) (rI (nth x (Int.toNat x_2)) 6) x_8 N
    rw [e1]
    rw [ih]
    rfl
theorem impl_TableOk_r (N : Nat) (t : SFlowTable) : runF Tryz.prog impl_TableOk_G impl_TableOk_A N Tryz.f159 impl_TableOk_s (t.enc ++ ([])) = impl_TableOk_f Vm.bad impl_TableOk_K N t := by
  have run_ : runF Tryz.prog impl_TableOk_G impl_TableOk_A N Tryz.f159 impl_TableOk_s (t.enc ++ ([])) = impl_TableOk_t Vm.bad impl_TableOk_K (fun x x_1 t_1 x_2 => loopN (impl_TableOk_B0 N) N (impl_TableOk_m0 x x_1 x_2 t_1)) t := by kernel_rfl
  refine run_.trans ?_
  unfold impl_TableOk_f
  have e0 : (fun x x_1 t_1 x_2 => loopN (impl_TableOk_B0 N) N (impl_TableOk_m0 x x_1 x_2 t_1)) = (fun x x_1 t_1 => impl_TableOk_L0 Vm.bad impl_TableOk_K N x x_1 t_1 N) := by
    funext x x_1 t_1
    exact impl_TableOk_n0 N x x_1 t_1 N
  exact congrArg (fun l_ => impl_TableOk_t Vm.bad impl_TableOk_K l_ t) e0
theorem impl_TableOk_h : Holds Tryz.prog 159 impl_TableOk_s := by
  refine holds_of_run (A := impl_TableOk_A) impl_TableOk_x Tryz.func159 rfl (by kernel_rfl) (of_decide_eq_true (by kernel_rfl)) (of_decide_eq_true (by kernel_rfl)) ?_
  intro ds hw hok
  replace hw : WtL (SFlowTable.ct ++ ([])) ds := hw
  obtain ⟨t, ds, rfl, h_t, hw⟩ := SFlowTable.of_wt (r := _) hw
  obtain rfl := of_wt_nil hw
  obtain ⟨N, hN⟩ := impl_TableOk_c Vm.bad impl_TableOk_K t h_t
  exact ⟨N, ((impl_TableOk_r N t).trans hN).trans (by kernel_rfl)⟩

def spec_TableOk_s : Sum := { ps := [⟨[.sl [.int .i64, .int .i64, .int .i64, .int .i64, .int .i64, .int .i64, .int .i64]], true⟩], rs := [⟨[.imm .bool], false⟩], fn := fun ds => (true, [.bool (TableOk (SFlowTable.decAt ds 0))]) }
def spec_TableOk_G : Ctx := [(73, spec_l01In_s), (201, spec_l13Find_s)]
theorem spec_TableOk_x : CtxHolds Tryz.prog spec_TableOk_G := ctx_cons spec_l01In_h (ctx_cons spec_l13Find_h ctx_nil)
def spec_TableOk_A : List (Nat × Ann) := [(4, { slots := [(1, .asis), (3, .asis)], boxes := [(64, [])] })]
def spec_TableOk_K : Bool → Res := (fun r0 => ((true, [.bool r0]) : Res))
def spec_TableOk_m0 (k : Int) (t_1 : Rows) : St := { n := 49, sl := [(1, .ptr 64 0), (3, .int .i64 k)], hp := [(64, .box 69 [.sl [.int .i64, .int .i64, .int .i64, .int .i64, .int .i64, .int .i64, .int .i64] t_1])], ok := true, ls := [], lm := [] }
noncomputable def spec_TableOk_B0 (N : Nat) : (St → Res) → St → Res := loopB Tryz.prog spec_TableOk_G spec_TableOk_A N Tryz.f147 spec_TableOk_s [true, true, false, true, false] []
theorem spec_TableOk_b0 (N : Nat) (t_1 : Rows) (ih : St → Res) (k : Int) : spec_TableOk_B0 N ih (spec_TableOk_m0 k t_1) = spec_TableOk_l0 Vm.bad spec_TableOk_K t_1 (fun k => ih (spec_TableOk_m0 k t_1)) k := by kernel_rfl
theorem spec_TableOk_n0 (N : Nat) (t_1 : Rows) (m_ : Nat) : (fun k => loopN (spec_TableOk_B0 N) m_ (spec_TableOk_m0 k t_1)) = spec_TableOk_L0 Vm.bad spec_TableOk_K N t_1 m_ := by
  induction m_ with
  | zero => rfl
  | succ m_ ih =>
    funext k
    show spec_TableOk_B0 N (loopN (spec_TableOk_B0 N) m_) (spec_TableOk_m0 k t_1) = _
    rw [spec_TableOk_b0 N t_1]
    rw [ih]
    rfl
theorem spec_TableOk_r (N : Nat) (t : SFlowTable) : runF Tryz.prog spec_TableOk_G spec_TableOk_A N Tryz.f147 spec_TableOk_s (t.enc ++ ([])) = spec_TableOk_f Vm.bad spec_TableOk_K N t := by
  have run_ : runF Tryz.prog spec_TableOk_G spec_TableOk_A N Tryz.f147 spec_TableOk_s (t.enc ++ ([])) = spec_TableOk_t Vm.bad spec_TableOk_K (fun t_1 k => loopN (spec_TableOk_B0 N) N (spec_TableOk_m0 k t_1)) t := by kernel_rfl
  refine run_.trans ?_
  unfold spec_TableOk_f
  have e0 : (fun t_1 k => loopN (spec_TableOk_B0 N) N (spec_TableOk_m0 k t_1)) = (fun t_1 => spec_TableOk_L0 Vm.bad spec_TableOk_K N t_1 N) := by
    funext t_1
    exact spec_TableOk_n0 N t_1 N
  exact congrArg (fun l_ => spec_TableOk_t Vm.bad spec_TableOk_K l_ t) e0
theorem spec_TableOk_h : Holds Tryz.prog 147 spec_TableOk_s := by
  refine holds_of_run (A := spec_TableOk_A) spec_TableOk_x Tryz.func147 rfl (by kernel_rfl) (of_decide_eq_true (by kernel_rfl)) (of_decide_eq_true (by kernel_rfl)) ?_
  intro ds hw hok
  replace hw : WtL (SFlowTable.ct ++ ([])) ds := hw
  obtain ⟨t, ds, rfl, h_t, hw⟩ := SFlowTable.of_wt (r := _) hw
  obtain rfl := of_wt_nil hw
  obtain ⟨N, hN⟩ := spec_TableOk_c Vm.bad spec_TableOk_K t h_t
  exact ⟨N, ((spec_TableOk_r N t).trans hN).trans (by kernel_rfl)⟩

end
end Go.Proofs.YtdlelfondkajbaaGreat.Pl
