/- The contracts of functions of the program: each computes what its plain form says. Conditions: none. -/
import Derived.Test.YtdlelfondkajbaaGreatPFc
import Derived.Test.YtdlelfondkajbaaGreatRows
import Derived.Test.YtdlelfondkajbaaGreatBFb
set_option linter.unusedVariables false
set_option linter.unusedSimpArgs false
set_option maxRecDepth 100000
namespace Go.Proofs.YtdlelfondkajbaaGreat.Pl
open Vm
noncomputable section

def impl_SpreadOk_s : Sum := { ps := [⟨[.str, .sl [.int .i64]], true⟩, ⟨[.int .i64], false⟩], rs := [⟨[.imm .bool], false⟩], fn := fun ds => (true, [.bool (SpreadOk (SSpread.decAt ds 0) (rI ds 2))]) }
def impl_SpreadOk_G : Ctx := [(82, impl_between_s), (211, impl_tableSize_s)]
theorem impl_SpreadOk_x : CtxHolds Tryz.prog impl_SpreadOk_G := ctx_cons impl_between_h (ctx_cons impl_tableSize_h ctx_nil)
def impl_SpreadOk_A : List (Nat × Ann) := [(4, { slots := [(1, .asis), (24, .asis), (25, .asis), (26, .asis)], boxes := [(128, [])] })]
def impl_SpreadOk_K : Bool → Res := (fun r0 => ((true, [.bool r0]) : Res))
def impl_SpreadOk_m0 (queues : Int) (x : Rows) (x_1 : Int) (x_2 : Int) (s_1 : Bytes) (s_2 : Rows) : St := { n := 36, sl := [(1, .int .i64 queues), (24, .sl [.int .i64] x), (25, .int .i64 x_1), (26, .int .i64 x_2)], hp := [(128, .box 70 [.str s_1, .sl [.int .i64] s_2])], ok := true, ls := [], lm := [] }
noncomputable def impl_SpreadOk_B0 (N : Nat) : (St → Res) → St → Res := loopB Tryz.prog impl_SpreadOk_G impl_SpreadOk_A N Tryz.f160 impl_SpreadOk_s [true, true, false, true, false] []
theorem impl_SpreadOk_b0 (N : Nat) (queues : Int) (x : Rows) (x_1 : Int) (s_1 : Bytes) (s_2 : Rows) (ih : St → Res) (x_2 : Int) : impl_SpreadOk_B0 N ih (impl_SpreadOk_m0 queues x x_1 x_2 s_1 s_2) = impl_SpreadOk_l0 Vm.bad impl_SpreadOk_K queues x x_1 (fun x_2 => ih (impl_SpreadOk_m0 queues x x_1 x_2 s_1 s_2)) x_2 := by kernel_rfl
theorem impl_SpreadOk_n0 (N : Nat) (queues : Int) (x : Rows) (x_1 : Int) (s_1 : Bytes) (s_2 : Rows) (m_ : Nat) : (fun x_2 => loopN (impl_SpreadOk_B0 N) m_ (impl_SpreadOk_m0 queues x x_1 x_2 s_1 s_2)) = impl_SpreadOk_L0 Vm.bad impl_SpreadOk_K N queues x x_1 m_ := by
  induction m_ with
  | zero => rfl
  | succ m_ ih =>
    funext x_2
    show impl_SpreadOk_B0 N (loopN (impl_SpreadOk_B0 N) m_) (impl_SpreadOk_m0 queues x x_1 x_2 s_1 s_2) = _
    rw [impl_SpreadOk_b0 N queues x x_1 s_1 s_2]
    rw [ih]
    rfl
theorem impl_SpreadOk_r (N : Nat) (s : SSpread) (queues : Int) : runF Tryz.prog impl_SpreadOk_G impl_SpreadOk_A N Tryz.f160 impl_SpreadOk_s (s.enc ++ (.int queues :: ([]))) = impl_SpreadOk_f Vm.bad impl_SpreadOk_K N s queues := by
  have run_ : runF Tryz.prog impl_SpreadOk_G impl_SpreadOk_A N Tryz.f160 impl_SpreadOk_s (s.enc ++ (.int queues :: ([]))) = impl_SpreadOk_t Vm.bad impl_SpreadOk_K (fun x x_1 x_2 => loopN (impl_SpreadOk_B0 N) N (impl_SpreadOk_m0 queues x x_1 x_2 s.Key s.Table)) s queues := by kernel_rfl
  refine run_.trans ?_
  unfold impl_SpreadOk_f
  have e0 : (fun x x_1 x_2 => loopN (impl_SpreadOk_B0 N) N (impl_SpreadOk_m0 queues x x_1 x_2 s.Key s.Table)) = (fun x x_1 => impl_SpreadOk_L0 Vm.bad impl_SpreadOk_K N queues x x_1 N) := by
    funext x x_1
    exact impl_SpreadOk_n0 N queues x x_1 s.Key s.Table N
  exact congrArg (fun l_ => impl_SpreadOk_t Vm.bad impl_SpreadOk_K l_ s queues) e0
theorem impl_SpreadOk_h : Holds Tryz.prog 160 impl_SpreadOk_s := by
  refine holds_of_run (A := impl_SpreadOk_A) impl_SpreadOk_x Tryz.func160 rfl (by kernel_rfl) (of_decide_eq_true (by kernel_rfl)) (of_decide_eq_true (by kernel_rfl)) ?_
  intro ds hw hok
  replace hw : WtL (SSpread.ct ++ ((.int .i64) :: ([]))) ds := hw
  obtain ⟨s, ds, rfl, h_s, hw⟩ := SSpread.of_wt (r := _) hw
  obtain ⟨queues, ds, rfl, h_queues, hw⟩ := of_wt_int hw
  obtain rfl := of_wt_nil hw
  obtain ⟨N, hN⟩ := impl_SpreadOk_c Vm.bad impl_SpreadOk_K s queues h_s h_queues
  exact ⟨N, ((impl_SpreadOk_r N s queues).trans hN).trans (by kernel_rfl)⟩

def spec_SpreadOk_s : Sum := { ps := [⟨[.str, .sl [.int .i64]], true⟩, ⟨[.int .i64], false⟩], rs := [⟨[.imm .bool], false⟩], fn := fun ds => (true, [.bool (SpreadOk (SSpread.decAt ds 0) (rI ds 2))]) }
def spec_SpreadOk_G : Ctx := [(73, spec_l01In_s), (202, spec_l12Size_s)]
theorem spec_SpreadOk_x : CtxHolds Tryz.prog spec_SpreadOk_G := ctx_cons spec_l01In_h (ctx_cons spec_l12Size_h ctx_nil)
def spec_SpreadOk_A : List (Nat × Ann) := [(4, { slots := [(1, .asis), (2, .asis), (5, .asis)], boxes := [(128, [])] })]
def spec_SpreadOk_K : Bool → Res := (fun r0 => ((true, [.bool r0]) : Res))
def spec_SpreadOk_m0 (queues : Int) (k : Int) (s_1 : Bytes) (s_2 : Rows) : St := { n := 38, sl := [(1, .int .i64 queues), (2, .ptr 128 0), (5, .int .i64 k)], hp := [(128, .box 70 [.str s_1, .sl [.int .i64] s_2])], ok := true, ls := [], lm := [] }
noncomputable def spec_SpreadOk_B0 (N : Nat) : (St → Res) → St → Res := loopB Tryz.prog spec_SpreadOk_G spec_SpreadOk_A N Tryz.f148 spec_SpreadOk_s [true, true, false, true, false] []
theorem spec_SpreadOk_b0 (N : Nat) (queues : Int) (s_1 : Bytes) (s_2 : Rows) (ih : St → Res) (k : Int) : spec_SpreadOk_B0 N ih (spec_SpreadOk_m0 queues k s_1 s_2) = spec_SpreadOk_l0 Vm.bad spec_SpreadOk_K queues s_2 (fun k => ih (spec_SpreadOk_m0 queues k s_1 s_2)) k := by kernel_rfl
theorem spec_SpreadOk_n0 (N : Nat) (queues : Int) (s_1 : Bytes) (s_2 : Rows) (m_ : Nat) : (fun k => loopN (spec_SpreadOk_B0 N) m_ (spec_SpreadOk_m0 queues k s_1 s_2)) = spec_SpreadOk_L0 Vm.bad spec_SpreadOk_K N queues s_2 m_ := by
  induction m_ with
  | zero => rfl
  | succ m_ ih =>
    funext k
    show spec_SpreadOk_B0 N (loopN (spec_SpreadOk_B0 N) m_) (spec_SpreadOk_m0 queues k s_1 s_2) = _
    rw [spec_SpreadOk_b0 N queues s_1 s_2]
    rw [ih]
    rfl
theorem spec_SpreadOk_r (N : Nat) (s : SSpread) (queues : Int) : runF Tryz.prog spec_SpreadOk_G spec_SpreadOk_A N Tryz.f148 spec_SpreadOk_s (s.enc ++ (.int queues :: ([]))) = spec_SpreadOk_f Vm.bad spec_SpreadOk_K N s queues := by
  have run_ : runF Tryz.prog spec_SpreadOk_G spec_SpreadOk_A N Tryz.f148 spec_SpreadOk_s (s.enc ++ (.int queues :: ([]))) = spec_SpreadOk_t Vm.bad spec_SpreadOk_K (fun s_2 k => loopN (spec_SpreadOk_B0 N) N (spec_SpreadOk_m0 queues k s.Key s_2)) s queues := by kernel_rfl
  refine run_.trans ?_
  unfold spec_SpreadOk_f
  have e0 : (fun s_2 k => loopN (spec_SpreadOk_B0 N) N (spec_SpreadOk_m0 queues k s.Key s_2)) = (fun s_2 => spec_SpreadOk_L0 Vm.bad spec_SpreadOk_K N queues s_2 N) := by
    funext s_2
    exact spec_SpreadOk_n0 N queues s.Key s_2 N
  exact congrArg (fun l_ => spec_SpreadOk_t Vm.bad spec_SpreadOk_K l_ s queues) e0
theorem spec_SpreadOk_h : Holds Tryz.prog 148 spec_SpreadOk_s := by
  refine holds_of_run (A := spec_SpreadOk_A) spec_SpreadOk_x Tryz.func148 rfl (by kernel_rfl) (of_decide_eq_true (by kernel_rfl)) (of_decide_eq_true (by kernel_rfl)) ?_
  intro ds hw hok
  replace hw : WtL (SSpread.ct ++ ((.int .i64) :: ([]))) ds := hw
  obtain ⟨s, ds, rfl, h_s, hw⟩ := SSpread.of_wt (r := _) hw
  obtain ⟨queues, ds, rfl, h_queues, hw⟩ := of_wt_int hw
  obtain rfl := of_wt_nil hw
  obtain ⟨N, hN⟩ := spec_SpreadOk_c Vm.bad spec_SpreadOk_K s queues h_s h_queues
  exact ⟨N, ((spec_SpreadOk_r N s queues).trans hN).trans (by kernel_rfl)⟩

def impl_SteeringOk_s : Sum := { ps := [⟨[.sl [.int .i64, .int .i64, .int .i64, .int .i64, .int .i64, .int .i64, .int .i64, .int .i64, .int .i64], .sl [.int .i64, .int .i64, .int .i64, .int .i64, .int .i64, .int .i64, .int .i64], .str, .sl [.int .i64]], true⟩, ⟨[.int .i64], false⟩], rs := [⟨[.imm .bool], false⟩], fn := fun ds => (true, [.bool (SteeringOk (SSteering.decAt ds 0) (rI ds 4))]) }
def impl_SteeringOk_G : Ctx := [(158, impl_RulesOk_s), (159, impl_TableOk_s), (160, impl_SpreadOk_s)]
theorem impl_SteeringOk_x : CtxHolds Tryz.prog impl_SteeringOk_G := ctx_cons impl_RulesOk_h (ctx_cons impl_TableOk_h (ctx_cons impl_SpreadOk_h ctx_nil))
def impl_SteeringOk_A : List (Nat × Ann) := [(4, { slots := [(1, .asis), (2, .asis), (27, .asis), (28, .asis), (29, .asis)], boxes := [(128, [])] }), (10, { slots := [(1, .asis), (45, .asis), (46, .asis), (47, .asis)], boxes := [(128, [])] })]
def impl_SteeringOk_K : Bool → Res := (fun r0 => ((true, [.bool r0]) : Res))
def impl_SteeringOk_m0 (queues : Int) (x : Rows) (x_1 : Int) (x_2 : Int) (s_1 : Rows) (s_2 : Rows) (s_3 : Bytes) (s_4 : Rows) : St := { n := 61, sl := [(1, .int .i64 queues), (2, .ptr 128 0), (27, .sl [.int .i64, .int .i64, .int .i64, .int .i64, .int .i64, .int .i64, .int .i64, .int .i64, .int .i64] x), (28, .int .i64 x_1), (29, .int .i64 x_2)], hp := [(128, .box 72 [.sl [.int .i64, .int .i64, .int .i64, .int .i64, .int .i64, .int .i64, .int .i64, .int .i64, .int .i64] s_1, .sl [.int .i64, .int .i64, .int .i64, .int .i64, .int .i64, .int .i64, .int .i64] s_2, .str s_3, .sl [.int .i64] s_4])], ok := true, ls := [], lm := [] }
def impl_SteeringOk_m1 (queues : Int) (s_2 : Rows) (x_4 : Int) (x_5 : Int) (s_1 : Rows) (s_6 : Rows) (s_3 : Bytes) (s_4 : Rows) : St := { n := 61, sl := [(1, .int .i64 queues), (45, .sl [.int .i64, .int .i64, .int .i64, .int .i64, .int .i64, .int .i64, .int .i64] s_2), (46, .int .i64 x_4), (47, .int .i64 x_5)], hp := [(128, .box 72 [.sl [.int .i64, .int .i64, .int .i64, .int .i64, .int .i64, .int .i64, .int .i64, .int .i64, .int .i64] s_1, .sl [.int .i64, .int .i64, .int .i64, .int .i64, .int .i64, .int .i64, .int .i64] s_6, .str s_3, .sl [.int .i64] s_4])], ok := true, ls := [], lm := [] }
noncomputable def impl_SteeringOk_B1 (N : Nat) : (St → Res) → St → Res := loopB Tryz.prog impl_SteeringOk_G impl_SteeringOk_A N Tryz.f86 impl_SteeringOk_s [true, true, true, false, true, false] []
noncomputable def impl_SteeringOk_B0 (N : Nat) : (St → Res) → St → Res := loopB Tryz.prog impl_SteeringOk_G impl_SteeringOk_A N Tryz.f86 impl_SteeringOk_s [true, true, false, true, false] []
theorem impl_SteeringOk_b1 (N : Nat) (queues : Int) (s_2 : Rows) (x_4 : Int) (s_1 : Rows) (s_6 : Rows) (s_3 : Bytes) (s_4 : Rows) (ih : St → Res) (x_5 : Int) : impl_SteeringOk_B1 N ih (impl_SteeringOk_m1 queues s_2 x_4 x_5 s_1 s_6 s_3 s_4) = impl_SteeringOk_l1 Vm.bad impl_SteeringOk_K queues s_2 x_4 (fun x_5 => ih (impl_SteeringOk_m1 queues s_2 x_4 x_5 s_1 s_6 s_3 s_4)) x_5 := by kernel_rfl
theorem impl_SteeringOk_n1 (N : Nat) (queues : Int) (s_2 : Rows) (x_4 : Int) (s_1 : Rows) (s_6 : Rows) (s_3 : Bytes) (s_4 : Rows) (m_ : Nat) : (fun x_5 => loopN (impl_SteeringOk_B1 N) m_ (impl_SteeringOk_m1 queues s_2 x_4 x_5 s_1 s_6 s_3 s_4)) = impl_SteeringOk_L1 Vm.bad impl_SteeringOk_K N queues s_2 x_4 m_ := by
  induction m_ with
  | zero => rfl
  | succ m_ ih =>
    funext x_5
    show impl_SteeringOk_B1 N (loopN (impl_SteeringOk_B1 N) m_) (impl_SteeringOk_m1 queues s_2 x_4 x_5 s_1 s_6 s_3 s_4) = _
    rw [impl_SteeringOk_b1 N queues s_2 x_4 s_1 s_6 s_3 s_4]
    rw [ih]
    rfl
theorem impl_SteeringOk_b0 (N : Nat) (queues : Int) (x : Rows) (x_1 : Int) (s_1 : Rows) (s_2 : Rows) (s_3 : Bytes) (s_4 : Rows) (ih : St → Res) (x_2 : Int) : impl_SteeringOk_B0 N ih (impl_SteeringOk_m0 queues x x_1 x_2 s_1 s_2 s_3 s_4) = impl_SteeringOk_l0 Vm.bad impl_SteeringOk_K (fun x_4 x_5 => loopN (impl_SteeringOk_B1 N) N (impl_SteeringOk_m1 queues s_2 x_4 x_5 s_1 s_2 s_3 s_4)) queues x x_1 s_2 (fun x_2 => ih (impl_SteeringOk_m0 queues x x_1 x_2 s_1 s_2 s_3 s_4)) x_2 := by kernel_rfl
theorem impl_SteeringOk_n0 (N : Nat) (queues : Int) (x : Rows) (x_1 : Int) (s_1 : Rows) (s_2 : Rows) (s_3 : Bytes) (s_4 : Rows) (m_ : Nat) : (fun x_2 => loopN (impl_SteeringOk_B0 N) m_ (impl_SteeringOk_m0 queues x x_1 x_2 s_1 s_2 s_3 s_4)) = impl_SteeringOk_L0 Vm.bad impl_SteeringOk_K N queues x x_1 s_2 m_ := by
  induction m_ with
  | zero => rfl
  | succ m_ ih =>
    funext x_2
    show impl_SteeringOk_B0 N (loopN (impl_SteeringOk_B0 N) m_) (impl_SteeringOk_m0 queues x x_1 x_2 s_1 s_2 s_3 s_4) = _
    rw [impl_SteeringOk_b0 N queues x x_1 s_1 s_2 s_3 s_4]
    have e1 := funext fun x_4 => impl_SteeringOk_n1 N queues s_2 x_4 s_1 s_2 s_3 s_4 N
    rw [e1]
    rw [ih]
    rfl
theorem impl_SteeringOk_r (N : Nat) (s : SSteering) (queues : Int) : runF Tryz.prog impl_SteeringOk_G impl_SteeringOk_A N Tryz.f86 impl_SteeringOk_s (s.enc ++ (.int queues :: ([]))) = impl_SteeringOk_f Vm.bad impl_SteeringOk_K N s queues := by
  have run_ : runF Tryz.prog impl_SteeringOk_G impl_SteeringOk_A N Tryz.f86 impl_SteeringOk_s (s.enc ++ (.int queues :: ([]))) = impl_SteeringOk_t Vm.bad impl_SteeringOk_K (fun x x_1 s_2 x_2 => loopN (impl_SteeringOk_B0 N) N (impl_SteeringOk_m0 queues x x_1 x_2 s.Rules s_2 s.Spread.Key s.Spread.Table)) s queues := by kernel_rfl
  refine run_.trans ?_
  unfold impl_SteeringOk_f
  have e0 : (fun x x_1 s_2 x_2 => loopN (impl_SteeringOk_B0 N) N (impl_SteeringOk_m0 queues x x_1 x_2 s.Rules s_2 s.Spread.Key s.Spread.Table)) = (fun x x_1 s_2 => impl_SteeringOk_L0 Vm.bad impl_SteeringOk_K N queues x x_1 s_2 N) := by
    funext x x_1 s_2
    exact impl_SteeringOk_n0 N queues x x_1 s.Rules s_2 s.Spread.Key s.Spread.Table N
  exact congrArg (fun l_ => impl_SteeringOk_t Vm.bad impl_SteeringOk_K l_ s queues) e0
theorem impl_SteeringOk_h : Holds Tryz.prog 86 impl_SteeringOk_s := by
  refine holds_of_run (A := impl_SteeringOk_A) impl_SteeringOk_x Tryz.func86 rfl (by kernel_rfl) (of_decide_eq_true (by kernel_rfl)) (of_decide_eq_true (by kernel_rfl)) ?_
  intro ds hw hok
  replace hw : WtL (SSteering.ct ++ ((.int .i64) :: ([]))) ds := hw
  obtain ⟨s, ds, rfl, h_s, hw⟩ := SSteering.of_wt (r := _) hw
  obtain ⟨queues, ds, rfl, h_queues, hw⟩ := of_wt_int hw
  obtain rfl := of_wt_nil hw
  obtain ⟨N, hN⟩ := impl_SteeringOk_c Vm.bad impl_SteeringOk_K s queues h_s h_queues
  exact ⟨N, ((impl_SteeringOk_r N s queues).trans hN).trans (by kernel_rfl)⟩

def spec_SteeringOk_s : Sum := { ps := [⟨[.sl [.int .i64, .int .i64, .int .i64, .int .i64, .int .i64, .int .i64, .int .i64, .int .i64, .int .i64], .sl [.int .i64, .int .i64, .int .i64, .int .i64, .int .i64, .int .i64, .int .i64], .str, .sl [.int .i64]], true⟩, ⟨[.int .i64], false⟩], rs := [⟨[.imm .bool], false⟩], fn := fun ds => (true, [.bool (SteeringOk (SSteering.decAt ds 0) (rI ds 4))]) }
def spec_SteeringOk_G : Ctx := [(146, spec_RulesOk_s), (147, spec_TableOk_s), (148, spec_SpreadOk_s)]
theorem spec_SteeringOk_x : CtxHolds Tryz.prog spec_SteeringOk_G := ctx_cons spec_RulesOk_h (ctx_cons spec_TableOk_h (ctx_cons spec_SpreadOk_h ctx_nil))
def spec_SteeringOk_A : List (Nat × Ann) := [(4, { slots := [(1, .asis), (2, .asis), (5, .asis)], boxes := [(128, [])] }), (9, { slots := [(1, .asis), (2, .asis), (6, .asis)], boxes := [(128, [])] })]
def spec_SteeringOk_K : Bool → Res := (fun r0 => ((true, [.bool r0]) : Res))
def spec_SteeringOk_m0 (queues : Int) (k : Int) (s_1 : Rows) (s_2 : Rows) (s_3 : Bytes) (s_4 : Rows) : St := { n := 56, sl := [(1, .int .i64 queues), (2, .ptr 128 0), (5, .int .i64 k)], hp := [(128, .box 72 [.sl [.int .i64, .int .i64, .int .i64, .int .i64, .int .i64, .int .i64, .int .i64, .int .i64, .int .i64] s_1, .sl [.int .i64, .int .i64, .int .i64, .int .i64, .int .i64, .int .i64, .int .i64] s_2, .str s_3, .sl [.int .i64] s_4])], ok := true, ls := [], lm := [] }
def spec_SteeringOk_m1 (queues : Int) (k_1 : Int) (s_1 : Rows) (s_2 : Rows) (s_3 : Bytes) (s_4 : Rows) : St := { n := 56, sl := [(1, .int .i64 queues), (2, .ptr 128 0), (6, .int .i64 k_1)], hp := [(128, .box 72 [.sl [.int .i64, .int .i64, .int .i64, .int .i64, .int .i64, .int .i64, .int .i64, .int .i64, .int .i64] s_1, .sl [.int .i64, .int .i64, .int .i64, .int .i64, .int .i64, .int .i64, .int .i64] s_2, .str s_3, .sl [.int .i64] s_4])], ok := true, ls := [], lm := [] }
noncomputable def spec_SteeringOk_B1 (N : Nat) : (St → Res) → St → Res := loopB Tryz.prog spec_SteeringOk_G spec_SteeringOk_A N Tryz.f74 spec_SteeringOk_s [true, true, true, false, true, false] []
noncomputable def spec_SteeringOk_B0 (N : Nat) : (St → Res) → St → Res := loopB Tryz.prog spec_SteeringOk_G spec_SteeringOk_A N Tryz.f74 spec_SteeringOk_s [true, true, false, true, false] []
theorem spec_SteeringOk_b1 (N : Nat) (queues : Int) (s_1 : Rows) (s_2 : Rows) (s_3 : Bytes) (s_4 : Rows) (ih : St → Res) (k_1 : Int) : spec_SteeringOk_B1 N ih (spec_SteeringOk_m1 queues k_1 s_1 s_2 s_3 s_4) = spec_SteeringOk_l1 Vm.bad spec_SteeringOk_K queues s_2 (fun k_1 => ih (spec_SteeringOk_m1 queues k_1 s_1 s_2 s_3 s_4)) k_1 := by kernel_rfl
theorem spec_SteeringOk_n1 (N : Nat) (queues : Int) (s_1 : Rows) (s_2 : Rows) (s_3 : Bytes) (s_4 : Rows) (m_ : Nat) : (fun k_1 => loopN (spec_SteeringOk_B1 N) m_ (spec_SteeringOk_m1 queues k_1 s_1 s_2 s_3 s_4)) = spec_SteeringOk_L1 Vm.bad spec_SteeringOk_K N queues s_2 m_ := by
  induction m_ with
  | zero => rfl
  | succ m_ ih =>
    funext k_1
    show spec_SteeringOk_B1 N (loopN (spec_SteeringOk_B1 N) m_) (spec_SteeringOk_m1 queues k_1 s_1 s_2 s_3 s_4) = _
    rw [spec_SteeringOk_b1 N queues s_1 s_2 s_3 s_4]
    rw [ih]
    rfl
theorem spec_SteeringOk_b0 (N : Nat) (queues : Int) (s_1 : Rows) (s_2 : Rows) (s_3 : Bytes) (s_4 : Rows) (ih : St → Res) (k : Int) : spec_SteeringOk_B0 N ih (spec_SteeringOk_m0 queues k s_1 s_2 s_3 s_4) = spec_SteeringOk_l0 Vm.bad spec_SteeringOk_K (fun k_1 => loopN (spec_SteeringOk_B1 N) N (spec_SteeringOk_m1 queues k_1 s_1 s_2 s_3 s_4)) queues s_1 s_2 (fun k => ih (spec_SteeringOk_m0 queues k s_1 s_2 s_3 s_4)) k := by kernel_rfl
theorem spec_SteeringOk_n0 (N : Nat) (queues : Int) (s_1 : Rows) (s_2 : Rows) (s_3 : Bytes) (s_4 : Rows) (m_ : Nat) : (fun k => loopN (spec_SteeringOk_B0 N) m_ (spec_SteeringOk_m0 queues k s_1 s_2 s_3 s_4)) = spec_SteeringOk_L0 Vm.bad spec_SteeringOk_K N queues s_1 s_2 m_ := by
  induction m_ with
  | zero => rfl
  | succ m_ ih =>
    funext k
    show spec_SteeringOk_B0 N (loopN (spec_SteeringOk_B0 N) m_) (spec_SteeringOk_m0 queues k s_1 s_2 s_3 s_4) = _
    rw [spec_SteeringOk_b0 N queues s_1 s_2 s_3 s_4]
    have e1 := spec_SteeringOk_n1 N queues s_1 s_2 s_3 s_4 N
    rw [e1]
    rw [ih]
    rfl
theorem spec_SteeringOk_r (N : Nat) (s : SSteering) (queues : Int) : runF Tryz.prog spec_SteeringOk_G spec_SteeringOk_A N Tryz.f74 spec_SteeringOk_s (s.enc ++ (.int queues :: ([]))) = spec_SteeringOk_f Vm.bad spec_SteeringOk_K N s queues := by
  have run_ : runF Tryz.prog spec_SteeringOk_G spec_SteeringOk_A N Tryz.f74 spec_SteeringOk_s (s.enc ++ (.int queues :: ([]))) = spec_SteeringOk_t Vm.bad spec_SteeringOk_K (fun s_1 s_2 k => loopN (spec_SteeringOk_B0 N) N (spec_SteeringOk_m0 queues k s_1 s_2 s.Spread.Key s.Spread.Table)) s queues := by kernel_rfl
  refine run_.trans ?_
  unfold spec_SteeringOk_f
  have e0 : (fun s_1 s_2 k => loopN (spec_SteeringOk_B0 N) N (spec_SteeringOk_m0 queues k s_1 s_2 s.Spread.Key s.Spread.Table)) = (fun s_1 s_2 => spec_SteeringOk_L0 Vm.bad spec_SteeringOk_K N queues s_1 s_2 N) := by
    funext s_1 s_2
    exact spec_SteeringOk_n0 N queues s_1 s_2 s.Spread.Key s.Spread.Table N
  exact congrArg (fun l_ => spec_SteeringOk_t Vm.bad spec_SteeringOk_K l_ s queues) e0
theorem spec_SteeringOk_h : Holds Tryz.prog 74 spec_SteeringOk_s := by
  refine holds_of_run (A := spec_SteeringOk_A) spec_SteeringOk_x Tryz.func74 rfl (by kernel_rfl) (of_decide_eq_true (by kernel_rfl)) (of_decide_eq_true (by kernel_rfl)) ?_
  intro ds hw hok
  replace hw : WtL (SSteering.ct ++ ((.int .i64) :: ([]))) ds := hw
  obtain ⟨s, ds, rfl, h_s, hw⟩ := SSteering.of_wt (r := _) hw
  obtain ⟨queues, ds, rfl, h_queues, hw⟩ := of_wt_int hw
  obtain rfl := of_wt_nil hw
  obtain ⟨N, hN⟩ := spec_SteeringOk_c Vm.bad spec_SteeringOk_K s queues h_s h_queues
  exact ⟨N, ((spec_SteeringOk_r N s queues).trans hN).trans (by kernel_rfl)⟩

end
end Go.Proofs.YtdlelfondkajbaaGreat.Pl
