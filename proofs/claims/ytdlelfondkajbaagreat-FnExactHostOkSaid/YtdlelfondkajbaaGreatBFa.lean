/- The contracts of functions of the program: each computes what its plain form says. Conditions: none. -/
import Derived.Test.YtdlelfondkajbaaGreatPFa
import Derived.Test.YtdlelfondkajbaaGreatRows
import Derived.Test.YtdlelfondkajbaaGreatBTq
set_option linter.unusedVariables false
set_option linter.unusedSimpArgs false
set_option maxRecDepth 100000
namespace Go.Proofs.YtdlelfondkajbaaGreat.Pl
open Vm
noncomputable section

def impl_HomeSlot_s : Sum := { ps := [⟨[.int .i64, .int .i64, .int .i64, .int .i64, .int .i64], true⟩], rs := [⟨[.imm (.int .i64)], false⟩], fn := fun ds => (true, [.int (HomeSlot (SFlow.decAt ds 0))]) }
def impl_HomeSlot_G : Ctx := [(232, impl_modulo_s)]
theorem impl_HomeSlot_x : CtxHolds Tryz.prog impl_HomeSlot_G := ctx_cons impl_modulo_h ctx_nil
def impl_HomeSlot_A : List (Nat × Ann) := [(3, { slots := [(3, .asis), (16, .asis), (17, .asis), (18, .asis)], boxes := [(64, [])] })]
def impl_HomeSlot_K : Int → Res := (fun r0 => ((true, [.int r0]) : Res))
def impl_HomeSlot_m0 (n : Int) (x : Int) (x_1 : Int) (f_1 : Int) (f_2 : Int) (f_3 : Int) (f_4 : Int) (f_5 : Int) (x_2 : Rows) : St := { n := 29, sl := [(3, .int .i64 n), (16, .own 641024), (17, .int .i64 x), (18, .int .i64 x_1)], hp := [(64, .box 205 [.int .i64 f_1, .int .i64 f_2, .int .i64 f_3, .int .i64 f_4, .int .i64 f_5]), (641024, .row 3 [.int .i64] x_2 false true)], ok := true, ls := [], lm := [] }
noncomputable def impl_HomeSlot_B0 (N : Nat) : (St → Res) → St → Res := loopB Tryz.prog impl_HomeSlot_G impl_HomeSlot_A N Tryz.f233 impl_HomeSlot_s [true, true, false, true, false] []
theorem impl_HomeSlot_b0 (N : Nat) (x : Int) (f_1 : Int) (f_2 : Int) (f_3 : Int) (f_4 : Int) (f_5 : Int) (x_2 : Rows) (ih : St → Res) (n : Int) (x_1 : Int) : impl_HomeSlot_B0 N ih (impl_HomeSlot_m0 n x x_1 f_1 f_2 f_3 f_4 f_5 x_2) = impl_HomeSlot_l0 Vm.bad impl_HomeSlot_K x x_2 (fun n x_1 => ih (impl_HomeSlot_m0 n x x_1 f_1 f_2 f_3 f_4 f_5 x_2)) n x_1 := by kernel_rfl
theorem impl_HomeSlot_n0 (N : Nat) (x : Int) (f_1 : Int) (f_2 : Int) (f_3 : Int) (f_4 : Int) (f_5 : Int) (x_2 : Rows) (m_ : Nat) : (fun n x_1 => loopN (impl_HomeSlot_B0 N) m_ (impl_HomeSlot_m0 n x x_1 f_1 f_2 f_3 f_4 f_5 x_2)) = impl_HomeSlot_L0 Vm.bad impl_HomeSlot_K N x x_2 m_ := by
  induction m_ with
  | zero => rfl
  | succ m_ ih =>
    funext n x_1
    show impl_HomeSlot_B0 N (loopN (impl_HomeSlot_B0 N) m_) (impl_HomeSlot_m0 n x x_1 f_1 f_2 f_3 f_4 f_5 x_2) = _
    rw [impl_HomeSlot_b0 N x f_1 f_2 f_3 f_4 f_5 x_2]
    rw [ih]
    rfl
theorem impl_HomeSlot_r (N : Nat) (f : SFlow) : runF Tryz.prog impl_HomeSlot_G impl_HomeSlot_A N Tryz.f233 impl_HomeSlot_s (f.enc ++ ([])) = impl_HomeSlot_f Vm.bad impl_HomeSlot_K N f := by
  have run_ : runF Tryz.prog impl_HomeSlot_G impl_HomeSlot_A N Tryz.f233 impl_HomeSlot_s (f.enc ++ ([])) = impl_HomeSlot_t Vm.bad impl_HomeSlot_K (fun x x_2 n x_1 => loopN (impl_HomeSlot_B0 N) N (impl_HomeSlot_m0 n x x_1 f.Kind f.SrcIp f.DstIp f.SrcPort f.DstPort x_2)) f := by kernel_rfl
  refine run_.trans ?_
  unfold impl_HomeSlot_f
  have e0 : (fun x x_2 n x_1 => loopN (impl_HomeSlot_B0 N) N (impl_HomeSlot_m0 n x x_1 f.Kind f.SrcIp f.DstIp f.SrcPort f.DstPort x_2)) = (fun x x_2 => impl_HomeSlot_L0 Vm.bad impl_HomeSlot_K N x x_2 N) := by
    funext x x_2
    exact impl_HomeSlot_n0 N x f.Kind f.SrcIp f.DstIp f.SrcPort f.DstPort x_2 N
  exact congrArg (fun l_ => impl_HomeSlot_t Vm.bad impl_HomeSlot_K l_ f) e0
theorem impl_HomeSlot_h : Holds Tryz.prog 233 impl_HomeSlot_s := by
  refine holds_of_run (A := impl_HomeSlot_A) impl_HomeSlot_x Tryz.func233 rfl (by kernel_rfl) (of_decide_eq_true (by kernel_rfl)) (of_decide_eq_true (by kernel_rfl)) ?_
  intro ds hw hok
  replace hw : WtL (SFlow.ct ++ ([])) ds := hw
  obtain ⟨f, ds, rfl, h_f, hw⟩ := SFlow.of_wt (r := _) hw
  obtain rfl := of_wt_nil hw
  obtain ⟨N, hN⟩ := impl_HomeSlot_c Vm.bad impl_HomeSlot_K f h_f
  exact ⟨N, ((impl_HomeSlot_r N f).trans hN).trans (by kernel_rfl)⟩

def spec_HomeSlot_s : Sum := { ps := [⟨[.int .i64, .int .i64, .int .i64, .int .i64, .int .i64], true⟩], rs := [⟨[.imm (.int .i64)], false⟩], fn := fun ds => (true, [.int (HomeSlot (SFlow.decAt ds 0))]) }
def spec_HomeSlot_G : Ctx := []
theorem spec_HomeSlot_x : CtxHolds Tryz.prog spec_HomeSlot_G := ctx_nil
def spec_HomeSlot_A : List (Nat × Ann) := [(4, { slots := [(3, .asis), (4, .asis), (5, .asis)], boxes := [(64, [])] })]
def spec_HomeSlot_K : Int → Res := (fun r0 => ((true, [.int r0]) : Res))
def spec_HomeSlot_m0 (n : Int) (k : Int) (f_1 : Int) (f_2 : Int) (f_3 : Int) (f_4 : Int) (f_5 : Int) (list_ : Rows) : St := { n := 32, sl := [(3, .int .i64 n), (4, .own 640256), (5, .int .i64 k)], hp := [(64, .box 205 [.int .i64 f_1, .int .i64 f_2, .int .i64 f_3, .int .i64 f_4, .int .i64 f_5]), (640256, .row 3 [.int .i64] list_ false true)], ok := true, ls := [], lm := [] }
noncomputable def spec_HomeSlot_B0 (N : Nat) : (St → Res) → St → Res := loopB Tryz.prog spec_HomeSlot_G spec_HomeSlot_A N Tryz.f231 spec_HomeSlot_s [true, true, true, false, true, false] []
theorem spec_HomeSlot_b0 (N : Nat) (f_1 : Int) (f_2 : Int) (f_3 : Int) (f_4 : Int) (f_5 : Int) (list_ : Rows) (ih : St → Res) (n : Int) (k : Int) : spec_HomeSlot_B0 N ih (spec_HomeSlot_m0 n k f_1 f_2 f_3 f_4 f_5 list_) = spec_HomeSlot_l0 Vm.bad spec_HomeSlot_K list_ (fun n k => ih (spec_HomeSlot_m0 n k f_1 f_2 f_3 f_4 f_5 list_)) n k := by kernel_rfl
theorem spec_HomeSlot_n0 (N : Nat) (f_1 : Int) (f_2 : Int) (f_3 : Int) (f_4 : Int) (f_5 : Int) (list_ : Rows) (m_ : Nat) : (fun n k => loopN (spec_HomeSlot_B0 N) m_ (spec_HomeSlot_m0 n k f_1 f_2 f_3 f_4 f_5 list_)) = spec_HomeSlot_L0 Vm.bad spec_HomeSlot_K N list_ m_ := by
  induction m_ with
  | zero => rfl
  | succ m_ ih =>
    funext n k
    show spec_HomeSlot_B0 N (loopN (spec_HomeSlot_B0 N) m_) (spec_HomeSlot_m0 n k f_1 f_2 f_3 f_4 f_5 list_) = _
    rw [spec_HomeSlot_b0 N f_1 f_2 f_3 f_4 f_5 list_]
    rw [ih]
    rfl
theorem spec_HomeSlot_r (N : Nat) (f : SFlow) : runF Tryz.prog spec_HomeSlot_G spec_HomeSlot_A N Tryz.f231 spec_HomeSlot_s (f.enc ++ ([])) = spec_HomeSlot_f Vm.bad spec_HomeSlot_K N f := by
  have run_ : runF Tryz.prog spec_HomeSlot_G spec_HomeSlot_A N Tryz.f231 spec_HomeSlot_s (f.enc ++ ([])) = spec_HomeSlot_t Vm.bad spec_HomeSlot_K (fun list_ n k => loopN (spec_HomeSlot_B0 N) N (spec_HomeSlot_m0 n k f.Kind f.SrcIp f.DstIp f.SrcPort f.DstPort list_)) f := by kernel_rfl
  refine run_.trans ?_
  unfold spec_HomeSlot_f
  have e0 : (fun list_ n k => loopN (spec_HomeSlot_B0 N) N (spec_HomeSlot_m0 n k f.Kind f.SrcIp f.DstIp f.SrcPort f.DstPort list_)) = (fun list_ => spec_HomeSlot_L0 Vm.bad spec_HomeSlot_K N list_ N) := by
    funext list_
    exact spec_HomeSlot_n0 N f.Kind f.SrcIp f.DstIp f.SrcPort f.DstPort list_ N
  exact congrArg (fun l_ => spec_HomeSlot_t Vm.bad spec_HomeSlot_K l_ f) e0
theorem spec_HomeSlot_h : Holds Tryz.prog 231 spec_HomeSlot_s := by
  refine holds_of_run (A := spec_HomeSlot_A) spec_HomeSlot_x Tryz.func231 rfl (by kernel_rfl) (of_decide_eq_true (by kernel_rfl)) (of_decide_eq_true (by kernel_rfl)) ?_
  intro ds hw hok
  replace hw : WtL (SFlow.ct ++ ([])) ds := hw
  obtain ⟨f, ds, rfl, h_f, hw⟩ := SFlow.of_wt (r := _) hw
  obtain rfl := of_wt_nil hw
  obtain ⟨N, hN⟩ := spec_HomeSlot_c Vm.bad spec_HomeSlot_K f h_f
  exact ⟨N, ((spec_HomeSlot_r N f).trans hN).trans (by kernel_rfl)⟩

def impl_slotOf_s : Sum := { ps := [⟨[.sl [.int .i64, .int .i64, .int .i64, .int .i64, .int .i64, .int .i64, .int .i64]], true⟩, ⟨[.int .i64, .int .i64, .int .i64, .int .i64, .int .i64], true⟩], rs := [⟨[.imm (.int .i64)], false⟩], fn := fun ds => (true, [.int (slotOf (SFlowTable.decAt ds 0) (SFlow.decAt ds 1))]) }
def impl_slotOf_G : Ctx := []
theorem impl_slotOf_x : CtxHolds Tryz.prog impl_slotOf_G := ctx_nil
def impl_slotOf_A : List (Nat × Ann) := [(2, { slots := [(3, .asis), (8, .asis), (9, .asis), (10, .asis)], boxes := [(128, []), (192, [])] })]
def impl_slotOf_K : Int → Res := (fun r0 => ((true, [.int r0]) : Res))
def impl_slotOf_m0 (x : Rows) (x_1 : Int) (x_2 : Int) (t_1 : Rows) (f_1 : Int) (f_2 : Int) (f_3 : Int) (f_4 : Int) (f_5 : Int) : St := { n := 26, sl := [(3, .ptr 192 0), (8, .sl [.int .i64, .int .i64, .int .i64, .int .i64, .int .i64, .int .i64, .int .i64] x), (9, .int .i64 x_1), (10, .int .i64 x_2)], hp := [(128, .box 69 [.sl [.int .i64, .int .i64, .int .i64, .int .i64, .int .i64, .int .i64, .int .i64] t_1]), (192, .box 205 [.int .i64 f_1, .int .i64 f_2, .int .i64 f_3, .int .i64 f_4, .int .i64 f_5])], ok := true, ls := [], lm := [] }
noncomputable def impl_slotOf_B0 (N : Nat) : (St → Res) → St → Res := loopB Tryz.prog impl_slotOf_G impl_slotOf_A N Tryz.f209 impl_slotOf_s [true, false, true, false] []
theorem impl_slotOf_b0 (N : Nat) (x : Rows) (x_1 : Int) (t_1 : Rows) (f_1 : Int) (f_2 : Int) (f_3 : Int) (f_4 : Int) (f_5 : Int) (ih : St → Res) (x_2 : Int) : impl_slotOf_B0 N ih (impl_slotOf_m0 x x_1 x_2 t_1 f_1 f_2 f_3 f_4 f_5) = impl_slotOf_l0 Vm.bad impl_slotOf_K x x_1 f_1 f_2 f_3 f_4 f_5 (fun x_2 => ih (impl_slotOf_m0 x x_1 x_2 t_1 f_1 f_2 f_3 f_4 f_5)) x_2 := by kernel_rfl
theorem impl_slotOf_n0 (N : Nat) (x : Rows) (x_1 : Int) (t_1 : Rows) (f_1 : Int) (f_2 : Int) (f_3 : Int) (f_4 : Int) (f_5 : Int) (m_ : Nat) : (fun x_2 => loopN (impl_slotOf_B0 N) m_ (impl_slotOf_m0 x x_1 x_2 t_1 f_1 f_2 f_3 f_4 f_5)) = impl_slotOf_L0 Vm.bad impl_slotOf_K N x x_1 f_1 f_2 f_3 f_4 f_5 m_ := by
  induction m_ with
  | zero => rfl
  | succ m_ ih =>
    funext x_2
    show impl_slotOf_B0 N (loopN (impl_slotOf_B0 N) m_) (impl_slotOf_m0 x x_1 x_2 t_1 f_1 f_2 f_3 f_4 f_5) = _
    rw [impl_slotOf_b0 N x x_1 t_1 f_1 f_2 f_3 f_4 f_5]
    rw [ih]
    rfl
theorem impl_slotOf_r (N : Nat) (t : SFlowTable) (f : SFlow) : runF Tryz.prog impl_slotOf_G impl_slotOf_A N Tryz.f209 impl_slotOf_s (t.enc ++ (f.enc ++ ([]))) = impl_slotOf_f Vm.bad impl_slotOf_K N t f := by
  have run_ : runF Tryz.prog impl_slotOf_G impl_slotOf_A N Tryz.f209 impl_slotOf_s (t.enc ++ (f.enc ++ ([]))) = impl_slotOf_t Vm.bad impl_slotOf_K (fun x x_1 f_1 f_2 f_3 f_4 f_5 x_2 => loopN (impl_slotOf_B0 N) N (impl_slotOf_m0 x x_1 x_2 t.Slots f_1 f_2 f_3 f_4 f_5)) t f := by kernel_rfl
  refine run_.trans ?_
  unfold impl_slotOf_f
  have e0 : (fun x x_1 f_1 f_2 f_3 f_4 f_5 x_2 => loopN (impl_slotOf_B0 N) N (impl_slotOf_m0 x x_1 x_2 t.Slots f_1 f_2 f_3 f_4 f_5)) = (fun x x_1 f_1 f_2 f_3 f_4 f_5 => impl_slotOf_L0 Vm.bad impl_slotOf_K N x x_1 f_1 f_2 f_3 f_4 f_5 N) := by
    funext x x_1 f_1 f_2 f_3 f_4 f_5
    exact impl_slotOf_n0 N x x_1 t.Slots f_1 f_2 f_3 f_4 f_5 N
  exact congrArg (fun l_ => impl_slotOf_t Vm.bad impl_slotOf_K l_ t f) e0
theorem impl_slotOf_h : Holds Tryz.prog 209 impl_slotOf_s := by
  refine holds_of_run (A := impl_slotOf_A) impl_slotOf_x Tryz.func209 rfl (by kernel_rfl) (of_decide_eq_true (by kernel_rfl)) (of_decide_eq_true (by kernel_rfl)) ?_
  intro ds hw hok
  replace hw : WtL (SFlowTable.ct ++ (SFlow.ct ++ ([]))) ds := hw
  obtain ⟨t, ds, rfl, h_t, hw⟩ := SFlowTable.of_wt (r := _) hw
  obtain ⟨f, ds, rfl, h_f, hw⟩ := SFlow.of_wt (r := _) hw
  obtain rfl := of_wt_nil hw
  obtain ⟨N, hN⟩ := impl_slotOf_c Vm.bad impl_slotOf_K t f h_t h_f
  exact ⟨N, ((impl_slotOf_r N t f).trans hN).trans (by kernel_rfl)⟩

def spec_l13Find_s : Sum := { ps := [⟨[.sl [.int .i64, .int .i64, .int .i64, .int .i64, .int .i64, .int .i64, .int .i64]], true⟩, ⟨[.int .i64, .int .i64, .int .i64, .int .i64, .int .i64], true⟩], rs := [⟨[.imm (.int .i64)], false⟩], fn := fun ds => (l13ok (SFlowTable.decAt ds 0) (SFlow.decAt ds 1), [.int (l13Find (SFlowTable.decAt ds 0) (SFlow.decAt ds 1))]) }
def spec_l13Find_G : Ctx := [(231, spec_HomeSlot_s)]
theorem spec_l13Find_x : CtxHolds Tryz.prog spec_l13Find_G := ctx_cons spec_HomeSlot_h ctx_nil
def spec_l13Find_A : List (Nat × Ann) := [(2, { slots := [(2, .asis), (3, .asis), (5, .asis)], boxes := [(128, []), (192, [])] })]
def spec_l13Find_K : Int → Res := (fun r0 => ((true, [.int r0]) : Res))
def spec_l13Find_m0 (k : Int) (t_1 : Rows) (f_1 : Int) (f_2 : Int) (f_3 : Int) (f_4 : Int) (f_5 : Int) : St := { n := 41, sl := [(2, .ptr 128 0), (3, .ptr 192 0), (5, .int .i64 k)], hp := [(128, .box 69 [.sl [.int .i64, .int .i64, .int .i64, .int .i64, .int .i64, .int .i64, .int .i64] t_1]), (192, .box 205 [.int .i64 f_1, .int .i64 f_2, .int .i64 f_3, .int .i64 f_4, .int .i64 f_5])], ok := true, ls := [], lm := [] }
noncomputable def spec_l13Find_B0 (N : Nat) : (St → Res) → St → Res := loopB Tryz.prog spec_l13Find_G spec_l13Find_A N Tryz.f201 spec_l13Find_s [true, false, true, false] []
theorem spec_l13Find_b0 (N : Nat) (t_1 : Rows) (f_1 : Int) (f_2 : Int) (f_3 : Int) (f_4 : Int) (f_5 : Int) (ih : St → Res) (k : Int) : spec_l13Find_B0 N ih (spec_l13Find_m0 k t_1 f_1 f_2 f_3 f_4 f_5) = spec_l13Find_l0 Vm.bad spec_l13Find_K t_1 f_1 f_2 f_3 f_4 f_5 (fun k => ih (spec_l13Find_m0 k t_1 f_1 f_2 f_3 f_4 f_5)) k := by kernel_rfl
theorem spec_l13Find_n0 (N : Nat) (t_1 : Rows) (f_1 : Int) (f_2 : Int) (f_3 : Int) (f_4 : Int) (f_5 : Int) (m_ : Nat) : (fun k => loopN (spec_l13Find_B0 N) m_ (spec_l13Find_m0 k t_1 f_1 f_2 f_3 f_4 f_5)) = spec_l13Find_L0 Vm.bad spec_l13Find_K N t_1 f_1 f_2 f_3 f_4 f_5 m_ := by
  induction m_ with
  | zero => rfl
  | succ m_ ih =>
    funext k
    show spec_l13Find_B0 N (loopN (spec_l13Find_B0 N) m_) (spec_l13Find_m0 k t_1 f_1 f_2 f_3 f_4 f_5) = _
    rw [spec_l13Find_b0 N t_1 f_1 f_2 f_3 f_4 f_5]
    rw [ih]
    rfl
theorem spec_l13Find_r (N : Nat) (t : SFlowTable) (f : SFlow) : runF Tryz.prog spec_l13Find_G spec_l13Find_A N Tryz.f201 spec_l13Find_s (t.enc ++ (f.enc ++ ([]))) = spec_l13Find_f Vm.bad spec_l13Find_K N t f := by
  have run_ : runF Tryz.prog spec_l13Find_G spec_l13Find_A N Tryz.f201 spec_l13Find_s (t.enc ++ (f.enc ++ ([]))) = spec_l13Find_t Vm.bad spec_l13Find_K (fun t_1 f_1 f_2 f_3 f_4 f_5 k => loopN (spec_l13Find_B0 N) N (spec_l13Find_m0 k t_1 f_1 f_2 f_3 f_4 f_5)) t f := by kernel_rfl
  refine run_.trans ?_
  unfold spec_l13Find_f
  have e0 : (fun t_1 f_1 f_2 f_3 f_4 f_5 k => loopN (spec_l13Find_B0 N) N (spec_l13Find_m0 k t_1 f_1 f_2 f_3 f_4 f_5)) = (fun t_1 f_1 f_2 f_3 f_4 f_5 => spec_l13Find_L0 Vm.bad spec_l13Find_K N t_1 f_1 f_2 f_3 f_4 f_5 N) := by
    funext t_1 f_1 f_2 f_3 f_4 f_5
    exact spec_l13Find_n0 N t_1 f_1 f_2 f_3 f_4 f_5 N
  exact congrArg (fun l_ => spec_l13Find_t Vm.bad spec_l13Find_K l_ t f) e0
theorem spec_l13Find_h : Holds Tryz.prog 201 spec_l13Find_s := by
  refine holds_of_run (A := spec_l13Find_A) spec_l13Find_x Tryz.func201 rfl (by kernel_rfl) (of_decide_eq_true (by kernel_rfl)) (of_decide_eq_true (by kernel_rfl)) ?_
  intro ds hw hok
  replace hw : WtL (SFlowTable.ct ++ (SFlow.ct ++ ([]))) ds := hw
  obtain ⟨t, ds, rfl, h_t, hw⟩ := SFlowTable.of_wt (r := _) hw
  obtain ⟨f, ds, rfl, h_f, hw⟩ := SFlow.of_wt (r := _) hw
  obtain rfl := of_wt_nil hw
  obtain ⟨N, hN⟩ := spec_l13Find_c Vm.bad spec_l13Find_K t f h_t h_f hok
  exact ⟨N, ((spec_l13Find_r N t f).trans hN).trans (by kernel_rfl)⟩

def impl_wayOf_s : Sum := { ps := [⟨[.int .i64, .int .i64, .int .i64, .int .i64, .int .i64], true⟩], rs := [⟨[.own 3 [.int .i64]], false⟩], fn := fun ds => (true, [.sl (wayOf (SFlow.decAt ds 0))]) }
def impl_wayOf_G : Ctx := [(233, impl_HomeSlot_s)]
theorem impl_wayOf_x : CtxHolds Tryz.prog impl_wayOf_G := ctx_cons impl_HomeSlot_h ctx_nil
def impl_wayOf_A : List (Nat × Ann) := [(3, { slots := [(1, .asis), (3, .asis), (4, .asis)], boxes := [(64, [])] })]
def impl_wayOf_K : Rows → Res := (fun r0 => ((true, [.sl r0]) : Res))
def impl_wayOf_m0 (i : Int) (f_1 : Int) (f_2 : Int) (f_3 : Int) (f_4 : Int) (f_5 : Int) (out_ : Rows) : St := { n := 19, sl := [(1, .ptr 64 0), (3, .own 640192), (4, .int .i64 i)], hp := [(64, .box 205 [.int .i64 f_1, .int .i64 f_2, .int .i64 f_3, .int .i64 f_4, .int .i64 f_5]), (640192, .row 3 [.int .i64] out_ false true)], ok := true, ls := [], lm := [] }
noncomputable def impl_wayOf_B0 (N : Nat) : (St → Res) → St → Res := loopB Tryz.prog impl_wayOf_G impl_wayOf_A N Tryz.f210 impl_wayOf_s [true, true, false, true, false] []
theorem impl_wayOf_b0 (N : Nat) (f_1 : Int) (f_2 : Int) (f_3 : Int) (f_4 : Int) (f_5 : Int) (ih : St → Res) (i : Int) (out_ : Rows) : impl_wayOf_B0 N ih (impl_wayOf_m0 i f_1 f_2 f_3 f_4 f_5 out_) = impl_wayOf_l0 Vm.bad impl_wayOf_K f_1 f_2 f_3 f_4 f_5 (fun i out_ => ih (impl_wayOf_m0 i f_1 f_2 f_3 f_4 f_5 out_)) i out_ := by kernel_rfl
theorem impl_wayOf_n0 (N : Nat) (f_1 : Int) (f_2 : Int) (f_3 : Int) (f_4 : Int) (f_5 : Int) (m_ : Nat) : (fun i out_ => loopN (impl_wayOf_B0 N) m_ (impl_wayOf_m0 i f_1 f_2 f_3 f_4 f_5 out_)) = impl_wayOf_L0 Vm.bad impl_wayOf_K N f_1 f_2 f_3 f_4 f_5 m_ := by
  induction m_ with
  | zero => rfl
  | succ m_ ih =>
    funext i out_
    show impl_wayOf_B0 N (loopN (impl_wayOf_B0 N) m_) (impl_wayOf_m0 i f_1 f_2 f_3 f_4 f_5 out_) = _
    rw [impl_wayOf_b0 N f_1 f_2 f_3 f_4 f_5]
    rw [ih]
    rfl
theorem impl_wayOf_r (N : Nat) (f : SFlow) : runF Tryz.prog impl_wayOf_G impl_wayOf_A N Tryz.f210 impl_wayOf_s (f.enc ++ ([])) = impl_wayOf_f Vm.bad impl_wayOf_K N f := by
  have run_ : runF Tryz.prog impl_wayOf_G impl_wayOf_A N Tryz.f210 impl_wayOf_s (f.enc ++ ([])) = impl_wayOf_t Vm.bad impl_wayOf_K (fun f_1 f_2 f_3 f_4 f_5 i out_ => loopN (impl_wayOf_B0 N) N (impl_wayOf_m0 i f_1 f_2 f_3 f_4 f_5 out_)) f := by kernel_rfl
  refine run_.trans ?_
  unfold impl_wayOf_f
  have e0 : (fun f_1 f_2 f_3 f_4 f_5 i out_ => loopN (impl_wayOf_B0 N) N (impl_wayOf_m0 i f_1 f_2 f_3 f_4 f_5 out_)) = (fun f_1 f_2 f_3 f_4 f_5 => impl_wayOf_L0 Vm.bad impl_wayOf_K N f_1 f_2 f_3 f_4 f_5 N) := by
    funext f_1 f_2 f_3 f_4 f_5
    exact impl_wayOf_n0 N f_1 f_2 f_3 f_4 f_5 N
  exact congrArg (fun l_ => impl_wayOf_t Vm.bad impl_wayOf_K l_ f) e0
theorem impl_wayOf_h : Holds Tryz.prog 210 impl_wayOf_s := by
  refine holds_of_run (A := impl_wayOf_A) impl_wayOf_x Tryz.func210 rfl (by kernel_rfl) (of_decide_eq_true (by kernel_rfl)) (of_decide_eq_true (by kernel_rfl)) ?_
  intro ds hw hok
  replace hw : WtL (SFlow.ct ++ ([])) ds := hw
  obtain ⟨f, ds, rfl, h_f, hw⟩ := SFlow.of_wt (r := _) hw
  obtain rfl := of_wt_nil hw
  obtain ⟨N, hN⟩ := impl_wayOf_c Vm.bad impl_wayOf_K f h_f
  exact ⟨N, ((impl_wayOf_r N f).trans hN).trans (by kernel_rfl)⟩

end
end Go.Proofs.YtdlelfondkajbaaGreat.Pl
