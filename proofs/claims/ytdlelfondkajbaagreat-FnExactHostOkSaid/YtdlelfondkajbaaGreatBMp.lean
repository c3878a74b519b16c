/- The contracts of functions of the program: each computes what its plain form says. Conditions: none. -/
import Derived.Test.YtdlelfondkajbaaGreatPMp
import Derived.Test.YtdlelfondkajbaaGreatRows
import Derived.Test.YtdlelfondkajbaaGreatBSx
import Derived.Test.YtdlelfondkajbaaGreatBBa
set_option linter.unusedVariables false
set_option linter.unusedSimpArgs false
set_option maxRecDepth 100000
namespace Go.Proofs.YtdlelfondkajbaaGreat.Pl
open Vm
noncomputable section

def impl_pageMapping_s : Sum := { ps := [⟨[.sl [.int .i64, .int .i64, .int .i64, .bool]], false⟩, ⟨[.int .i64], false⟩, ⟨[.int .i64], false⟩], rs := [⟨[.imm (.int .i64)], false⟩], fn := fun ds => (true, [.int (pageMapping (rR ds 0) (rI ds 1) (rI ds 2))]) }
def impl_pageMapping_G : Ctx := []
theorem impl_pageMapping_x : CtxHolds Tryz.prog impl_pageMapping_G := ctx_nil
def impl_pageMapping_A : List (Nat × Ann) := [(2, { slots := [(1, .asis), (2, .asis), (9, .asis), (10, .asis), (11, .asis)], boxes := [] })]
def impl_pageMapping_K : Int → Res := (fun r0 => ((true, [.int r0]) : Res))
def impl_pageMapping_m0 (domain : Int) (virtual : Int) (list_ : Rows) (x_1 : Int) (x_2 : Int) : St := { n := 28, sl := [(1, .int .i64 domain), (2, .int .i64 virtual), (9, .sl [.int .i64, .int .i64, .int .i64, .bool] list_), (10, .int .i64 x_1), (11, .int .i64 x_2)], hp := [], ok := true, ls := [], lm := [] }
noncomputable def impl_pageMapping_B0 (N : Nat) : (St → Res) → St → Res := loopB Tryz.prog impl_pageMapping_G impl_pageMapping_A N Tryz.f152 impl_pageMapping_s [true, false, true, false] []
theorem impl_pageMapping_b0 (N : Nat) (domain : Int) (virtual : Int) (list_ : Rows) (x_1 : Int) (ih : St → Res) (x_2 : Int) : impl_pageMapping_B0 N ih (impl_pageMapping_m0 domain virtual list_ x_1 x_2) = impl_pageMapping_l0 Vm.bad impl_pageMapping_K domain virtual list_ x_1 (fun x_2 => ih (impl_pageMapping_m0 domain virtual list_ x_1 x_2)) x_2 := by kernel_rfl
theorem impl_pageMapping_n0 (N : Nat) (domain : Int) (virtual : Int) (list_ : Rows) (x_1 : Int) (m_ : Nat) : (fun x_2 => loopN (impl_pageMapping_B0 N) m_ (impl_pageMapping_m0 domain virtual list_ x_1 x_2)) = impl_pageMapping_L0 Vm.bad impl_pageMapping_K N domain virtual list_ x_1 m_ := by
  induction m_ with
  | zero => rfl
  | succ m_ ih =>
    funext x_2
    show impl_pageMapping_B0 N (loopN (impl_pageMapping_B0 N) m_) (impl_pageMapping_m0 domain virtual list_ x_1 x_2) = _
    rw [impl_pageMapping_b0 N domain virtual list_ x_1]
    rw [ih]
    rfl
theorem impl_pageMapping_r (N : Nat) (list_ : Rows) (domain : Int) (virtual : Int) : runF Tryz.prog impl_pageMapping_G impl_pageMapping_A N Tryz.f152 impl_pageMapping_s (.sl list_ :: (.int domain :: (.int virtual :: ([])))) = impl_pageMapping_f Vm.bad impl_pageMapping_K N list_ domain virtual := by
  have run_ : runF Tryz.prog impl_pageMapping_G impl_pageMapping_A N Tryz.f152 impl_pageMapping_s (.sl list_ :: (.int domain :: (.int virtual :: ([])))) = impl_pageMapping_t Vm.bad impl_pageMapping_K (fun x_1 x_2 => loopN (impl_pageMapping_B0 N) N (impl_pageMapping_m0 domain virtual list_ x_1 x_2)) list_ domain virtual := by kernel_rfl
  refine run_.trans ?_
  unfold impl_pageMapping_f
  have e0 : (fun x_1 x_2 => loopN (impl_pageMapping_B0 N) N (impl_pageMapping_m0 domain virtual list_ x_1 x_2)) = (fun x_1 => impl_pageMapping_L0 Vm.bad impl_pageMapping_K N domain virtual list_ x_1 N) := by
    funext x_1
    exact impl_pageMapping_n0 N domain virtual list_ x_1 N
  exact congrArg (fun l_ => impl_pageMapping_t Vm.bad impl_pageMapping_K l_ list_ domain virtual) e0
theorem impl_pageMapping_h : Holds Tryz.prog 152 impl_pageMapping_s := by
  refine holds_of_run (A := impl_pageMapping_A) impl_pageMapping_x Tryz.func152 rfl (by kernel_rfl) (of_decide_eq_true (by kernel_rfl)) (of_decide_eq_true (by kernel_rfl)) ?_
  intro ds hw hok
  replace hw : WtL ((.sl [.int .i64, .int .i64, .int .i64, .bool]) :: ((.int .i64) :: ((.int .i64) :: ([])))) ds := hw
  obtain ⟨list_, ds, rfl, h_list_, hw⟩ := of_wt_sl hw
  obtain ⟨domain, ds, rfl, h_domain, hw⟩ := of_wt_int hw
  obtain ⟨virtual, ds, rfl, h_virtual, hw⟩ := of_wt_int hw
  obtain rfl := of_wt_nil hw
  obtain ⟨N, hN⟩ := impl_pageMapping_c Vm.bad impl_pageMapping_K list_ domain virtual h_list_ h_domain h_virtual
  exact ⟨N, ((impl_pageMapping_r N list_ domain virtual).trans hN).trans (by kernel_rfl)⟩

def impl_MappingsOk_s : Sum := { ps := [⟨[.sl [.int .i64, .int .i64, .int .i64, .bool]], false⟩], rs := [⟨[.imm .bool], false⟩], fn := fun ds => (true, [.bool (MappingsOk (rR ds 0))]) }
def impl_MappingsOk_G : Ctx := [(82, impl_between_s), (152, impl_pageMapping_s)]
theorem impl_MappingsOk_x : CtxHolds Tryz.prog impl_MappingsOk_G := ctx_cons impl_between_h (ctx_cons impl_pageMapping_h ctx_nil)
def impl_MappingsOk_A : List (Nat × Ann) := [(2, { slots := [(0, .asis), (5, .asis), (6, .asis), (7, .asis)], boxes := [] })]
def impl_MappingsOk_K : Bool → Res := (fun r0 => ((true, [.bool r0]) : Res))
def impl_MappingsOk_m0 (list_ : Rows) (x : Rows) (x_1 : Int) (x_2 : Int) : St := { n := 42, sl := [(0, .sl [.int .i64, .int .i64, .int .i64, .bool] list_), (5, .sl [.int .i64, .int .i64, .int .i64, .bool] x), (6, .int .i64 x_1), (7, .int .i64 x_2)], hp := [], ok := true, ls := [], lm := [] }
noncomputable def impl_MappingsOk_B0 (N : Nat) : (St → Res) → St → Res := loopB Tryz.prog impl_MappingsOk_G impl_MappingsOk_A N Tryz.f79 impl_MappingsOk_s [true, false, true, false] []
theorem impl_MappingsOk_b0 (N : Nat) (list_ : Rows) (x : Rows) (x_1 : Int) (ih : St → Res) (x_2 : Int) : impl_MappingsOk_B0 N ih (impl_MappingsOk_m0 list_ x x_1 x_2) = impl_MappingsOk_l0 Vm.bad impl_MappingsOk_K list_ x x_1 (fun x_2 => ih (impl_MappingsOk_m0 list_ x x_1 x_2)) x_2 := by kernel_rfl
theorem impl_MappingsOk_n0 (N : Nat) (list_ : Rows) (x : Rows) (x_1 : Int) (m_ : Nat) : (fun x_2 => loopN (impl_MappingsOk_B0 N) m_ (impl_MappingsOk_m0 list_ x x_1 x_2)) = impl_MappingsOk_L0 Vm.bad impl_MappingsOk_K N list_ x x_1 m_ := by
  induction m_ with
  | zero => rfl
  | succ m_ ih =>
    funext x_2
    show impl_MappingsOk_B0 N (loopN (impl_MappingsOk_B0 N) m_) (impl_MappingsOk_m0 list_ x x_1 x_2) = _
    rw [impl_MappingsOk_b0 N list_ x x_1]
    rw [ih]
    rfl
theorem impl_MappingsOk_r (N : Nat) (list_ : Rows) : runF Tryz.prog impl_MappingsOk_G impl_MappingsOk_A N Tryz.f79 impl_MappingsOk_s (.sl list_ :: ([])) = impl_MappingsOk_f Vm.bad impl_MappingsOk_K N list_ := by
  have run_ : runF Tryz.prog impl_MappingsOk_G impl_MappingsOk_A N Tryz.f79 impl_MappingsOk_s (.sl list_ :: ([])) = impl_MappingsOk_t Vm.bad impl_MappingsOk_K (fun x x_1 x_2 => loopN (impl_MappingsOk_B0 N) N (impl_MappingsOk_m0 list_ x x_1 x_2)) list_ := by kernel_rfl
  refine run_.trans ?_
  unfold impl_MappingsOk_f
  have e0 : (fun x x_1 x_2 => loopN (impl_MappingsOk_B0 N) N (impl_MappingsOk_m0 list_ x x_1 x_2)) = (fun x x_1 => impl_MappingsOk_L0 Vm.bad impl_MappingsOk_K N list_ x x_1 N) := by
    funext x x_1
    exact impl_MappingsOk_n0 N list_ x x_1 N
  exact congrArg (fun l_ => impl_MappingsOk_t Vm.bad impl_MappingsOk_K l_ list_) e0
theorem impl_MappingsOk_h : Holds Tryz.prog 79 impl_MappingsOk_s := by
  refine holds_of_run (A := impl_MappingsOk_A) impl_MappingsOk_x Tryz.func79 rfl (by kernel_rfl) (of_decide_eq_true (by kernel_rfl)) (of_decide_eq_true (by kernel_rfl)) ?_
  intro ds hw hok
  replace hw : WtL ((.sl [.int .i64, .int .i64, .int .i64, .bool]) :: ([])) ds := hw
  obtain ⟨list_, ds, rfl, h_list_, hw⟩ := of_wt_sl hw
  obtain rfl := of_wt_nil hw
  obtain ⟨N, hN⟩ := impl_MappingsOk_c Vm.bad impl_MappingsOk_K list_ h_list_
  exact ⟨N, ((impl_MappingsOk_r N list_).trans hN).trans (by kernel_rfl)⟩

def spec_MappingsOk_s : Sum := { ps := [⟨[.sl [.int .i64, .int .i64, .int .i64, .bool]], false⟩], rs := [⟨[.imm .bool], false⟩], fn := fun ds => (true, [.bool (MappingsOk (rR ds 0))]) }
def spec_MappingsOk_G : Ctx := [(73, spec_l01In_s)]
theorem spec_MappingsOk_x : CtxHolds Tryz.prog spec_MappingsOk_G := ctx_cons spec_l01In_h ctx_nil
def spec_MappingsOk_A : List (Nat × Ann) := [(4, { slots := [(0, .asis), (3, .asis)], boxes := [] }), (10, { slots := [(0, .asis), (3, .asis), (4, .asis), (5, .asis)], boxes := [(256, [])] })]
def spec_MappingsOk_K : Bool → Res := (fun r0 => ((true, [.bool r0]) : Res))
def spec_MappingsOk_m0 (list_ : Rows) (k : Int) : St := { n := 58, sl := [(0, .sl [.int .i64, .int .i64, .int .i64, .bool] list_), (3, .int .i64 k)], hp := [], ok := true, ls := [], lm := [] }
def spec_MappingsOk_m1 (list_ : Rows) (k : Int) (i : Int) (x : Int) (x_1 : Int) (x_2 : Int) (x_3 : Bool) : St := { n := 58, sl := [(0, .sl [.int .i64, .int .i64, .int .i64, .bool] list_), (3, .int .i64 k), (4, .ptr 256 0), (5, .int .i64 i)], hp := [(256, .box 165 [.int .i64 x, .int .i64 x_1, .int .i64 x_2, .bool x_3])], ok := true, ls := [], lm := [] }
noncomputable def spec_MappingsOk_B1 (N : Nat) (o0 : St → Res) : (St → Res) → St → Res := loopB Tryz.prog spec_MappingsOk_G spec_MappingsOk_A N Tryz.f70 spec_MappingsOk_s [true, true, false, true, false, false, true, false, false, true, true, true, false] [o0]
noncomputable def spec_MappingsOk_B0 (N : Nat) : (St → Res) → St → Res := loopB Tryz.prog spec_MappingsOk_G spec_MappingsOk_A N Tryz.f70 spec_MappingsOk_s [true, true, false, true, false] []
theorem spec_MappingsOk_b1 (N : Nat) (o0 : St → Res) (list_ : Rows) (k : Int) (x : Int) (x_1 : Int) (x_2 : Int) (x_3 : Bool) (ih : St → Res) (i : Int) : spec_MappingsOk_B1 N o0 ih (spec_MappingsOk_m1 list_ k i x x_1 x_2 x_3) = spec_MappingsOk_l1 Vm.bad spec_MappingsOk_K (fun k => o0 (spec_MappingsOk_m0 list_ k)) list_ k x x_1 (fun i => ih (spec_MappingsOk_m1 list_ k i x x_1 x_2 x_3)) i := by kernel_rfl
theorem spec_MappingsOk_n1 (N : Nat) (o0 : St → Res) (list_ : Rows) (k : Int) (x : Int) (x_1 : Int) (x_2 : Int) (x_3 : Bool) (m_ : Nat) : (fun i => loopN (spec_MappingsOk_B1 N o0) m_ (spec_MappingsOk_m1 list_ k i x x_1 x_2 x_3)) = spec_MappingsOk_L1 Vm.bad spec_MappingsOk_K N (fun k => o0 (spec_MappingsOk_m0 list_ k)) list_ k x x_1 m_ := by
  induction m_ with
  | zero => rfl
  | succ m_ ih =>
    funext i
    show spec_MappingsOk_B1 N o0 (loopN (spec_MappingsOk_B1 N o0) m_) (spec_MappingsOk_m1 list_ k i x x_1 x_2 x_3) = _
    rw [spec_MappingsOk_b1 N o0 list_ k x x_1 x_2 x_3]
    rw [ih]
    rfl
theorem spec_MappingsOk_b0 (N : Nat) (list_ : Rows) (ih : St → Res) (k : Int) : spec_MappingsOk_B0 N ih (spec_MappingsOk_m0 list_ k) = spec_MappingsOk_l0 Vm.bad spec_MappingsOk_K (fun k x x_1 i => loopN (spec_MappingsOk_B1 N ih) N (spec_MappingsOk_m1 list_ k i x x_1 (rI (nth list_ (Int.toNat k)) 2) (rB (nth list_ (Int.toNat k)) 3))) list_ (fun k => ih (spec_MappingsOk_m0 list_ k)) k := by kernel_rfl
theorem spec_MappingsOk_n0 (N : Nat) (list_ : Rows) (m_ : Nat) : (fun k => loopN (spec_MappingsOk_B0 N) m_ (spec_MappingsOk_m0 list_ k)) = spec_MappingsOk_L0 Vm.bad spec_MappingsOk_K N list_ m_ := by
  induction m_ with
  | zero => rfl
  | succ m_ ih =>
    funext k
    show spec_MappingsOk_B0 N (loopN (spec_MappingsOk_B0 N) m_) (spec_MappingsOk_m0 list_ k) = _
    rw [spec_MappingsOk_b0 N list_]
    have e1 := funext fun k => funext fun x => funext fun x_1 => spec_MappingsOk_n1 N (loopN (spec_MappingsOk_B0 N) m_) list_ k x x_1 (rI (nth list_ (Int.toNat k)) 2) (rB (nth list_ (Int.toNat k)) 3) N
    rw [e1]
    rw [ih]
    rfl
theorem spec_MappingsOk_r (N : Nat) (list_ : Rows) : runF Tryz.prog spec_MappingsOk_G spec_MappingsOk_A N Tryz.f70 spec_MappingsOk_s (.sl list_ :: ([])) = spec_MappingsOk_f Vm.bad spec_MappingsOk_K N list_ := by
  have run_ : runF Tryz.prog spec_MappingsOk_G spec_MappingsOk_A N Tryz.f70 spec_MappingsOk_s (.sl list_ :: ([])) = spec_MappingsOk_t Vm.bad spec_MappingsOk_K (fun k => loopN (spec_MappingsOk_B0 N) N (spec_MappingsOk_m0 list_ k)) list_ := by kernel_rfl
  refine run_.trans ?_
  unfold spec_MappingsOk_f
  have e0 : (fun k => loopN (spec_MappingsOk_B0 N) N (spec_MappingsOk_m0 list_ k)) = (spec_MappingsOk_L0 Vm.bad spec_MappingsOk_K N list_ N) := by
    exact spec_MappingsOk_n0 N list_ N
  exact congrArg (fun l_ => spec_MappingsOk_t Vm.bad spec_MappingsOk_K l_ list_) e0
theorem spec_MappingsOk_h : Holds Tryz.prog 70 spec_MappingsOk_s := by
  refine holds_of_run (A := spec_MappingsOk_A) spec_MappingsOk_x Tryz.func70 rfl (by kernel_rfl) (of_decide_eq_true (by kernel_rfl)) (of_decide_eq_true (by kernel_rfl)) ?_
  intro ds hw hok
  replace hw : WtL ((.sl [.int .i64, .int .i64, .int .i64, .bool]) :: ([])) ds := hw
  obtain ⟨list_, ds, rfl, h_list_, hw⟩ := of_wt_sl hw
  obtain rfl := of_wt_nil hw
  obtain ⟨N, hN⟩ := spec_MappingsOk_c Vm.bad spec_MappingsOk_K list_ h_list_
  exact ⟨N, ((spec_MappingsOk_r N list_).trans hN).trans (by kernel_rfl)⟩

end
end Go.Proofs.YtdlelfondkajbaaGreat.Pl
