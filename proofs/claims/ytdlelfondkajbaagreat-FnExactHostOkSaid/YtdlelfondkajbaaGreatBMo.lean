/- The contracts of functions of the program: each computes what its plain form says. Conditions: none. -/
import Derived.Test.YtdlelfondkajbaaGreatPMo
import Derived.Test.YtdlelfondkajbaaGreatRows
import Derived.Test.YtdlelfondkajbaaGreatBMp
set_option linter.unusedVariables false
set_option linter.unusedSimpArgs false
set_option maxRecDepth 100000
namespace Go.Proofs.YtdlelfondkajbaaGreat.Pl
open Vm
noncomputable section

def impl_MemoryOk_s : Sum := { ps := [⟨[.sl [.str]], true⟩], rs := [⟨[.imm .bool], false⟩], fn := fun ds => (true, [.bool (MemoryOk (SMemory.decAt ds 0))]) }
def impl_MemoryOk_G : Ctx := []
theorem impl_MemoryOk_x : CtxHolds Tryz.prog impl_MemoryOk_G := ctx_nil
def impl_MemoryOk_A : List (Nat × Ann) := [(2, { slots := [(1, .asis), (6, .asis), (7, .asis), (8, .asis)], boxes := [(64, [])] })]
def impl_MemoryOk_K : Bool → Res := (fun r0 => ((true, [.bool r0]) : Res))
def impl_MemoryOk_m0 (x : Rows) (x_1 : Int) (x_2 : Int) (m_1 : Rows) : St := { n := 20, sl := [(1, .ptr 64 0), (6, .sl [.str] x), (7, .int .i64 x_1), (8, .int .i64 x_2)], hp := [(64, .box 55 [.sl [.str] m_1])], ok := true, ls := [], lm := [] }
noncomputable def impl_MemoryOk_B0 (N : Nat) : (St → Res) → St → Res := loopB Tryz.prog impl_MemoryOk_G impl_MemoryOk_A N Tryz.f78 impl_MemoryOk_s [true, false, true, false] []
theorem impl_MemoryOk_b0 (N : Nat) (x : Rows) (x_1 : Int) (m_1 : Rows) (ih : St → Res) (x_2 : Int) : impl_MemoryOk_B0 N ih (impl_MemoryOk_m0 x x_1 x_2 m_1) = impl_MemoryOk_l0 Vm.bad impl_MemoryOk_K x x_1 m_1 (fun x_2 => ih (impl_MemoryOk_m0 x x_1 x_2 m_1)) x_2 := by kernel_rfl
theorem impl_MemoryOk_n0 (N : Nat) (x : Rows) (x_1 : Int) (m_1 : Rows) (m_ : Nat) : (fun x_2 => loopN (impl_MemoryOk_B0 N) m_ (impl_MemoryOk_m0 x x_1 x_2 m_1)) = impl_MemoryOk_L0 Vm.bad impl_MemoryOk_K N x x_1 m_1 m_ := by
  induction m_ with
  | zero => rfl
  | succ m_ ih =>
    funext x_2
    show impl_MemoryOk_B0 N (loopN (impl_MemoryOk_B0 N) m_) (impl_MemoryOk_m0 x x_1 x_2 m_1) = _
    rw [impl_MemoryOk_b0 N x x_1 m_1]
    rw [ih]
    rfl
theorem impl_MemoryOk_r (N : Nat) (m : SMemory) : runF Tryz.prog impl_MemoryOk_G impl_MemoryOk_A N Tryz.f78 impl_MemoryOk_s (m.enc ++ ([])) = impl_MemoryOk_f Vm.bad impl_MemoryOk_K N m := by
  have run_ : runF Tryz.prog impl_MemoryOk_G impl_MemoryOk_A N Tryz.f78 impl_MemoryOk_s (m.enc ++ ([])) = impl_MemoryOk_t Vm.bad impl_MemoryOk_K (fun x x_1 m_1 x_2 => loopN (impl_MemoryOk_B0 N) N (impl_MemoryOk_m0 x x_1 x_2 m_1)) m := by kernel_rfl
  refine run_.trans ?_
  unfold impl_MemoryOk_f
  have e0 : (fun x x_1 m_1 x_2 => loopN (impl_MemoryOk_B0 N) N (impl_MemoryOk_m0 x x_1 x_2 m_1)) = (fun x x_1 m_1 => impl_MemoryOk_L0 Vm.bad impl_MemoryOk_K N x x_1 m_1 N) := by
    funext x x_1 m_1
    exact impl_MemoryOk_n0 N x x_1 m_1 N
  exact congrArg (fun l_ => impl_MemoryOk_t Vm.bad impl_MemoryOk_K l_ m) e0
theorem impl_MemoryOk_h : Holds Tryz.prog 78 impl_MemoryOk_s := by
  refine holds_of_run (A := impl_MemoryOk_A) impl_MemoryOk_x Tryz.func78 rfl (by kernel_rfl) (of_decide_eq_true (by kernel_rfl)) (of_decide_eq_true (by kernel_rfl)) ?_
  intro ds hw hok
  replace hw : WtL (SMemory.ct ++ ([])) ds := hw
  obtain ⟨m, ds, rfl, h_m, hw⟩ := SMemory.of_wt (r := _) hw
  obtain rfl := of_wt_nil hw
  obtain ⟨N, hN⟩ := impl_MemoryOk_c Vm.bad impl_MemoryOk_K m h_m
  exact ⟨N, ((impl_MemoryOk_r N m).trans hN).trans (by kernel_rfl)⟩

def spec_MemoryOk_s : Sum := { ps := [⟨[.sl [.str]], true⟩], rs := [⟨[.imm .bool], false⟩], fn := fun ds => (true, [.bool (MemoryOk (SMemory.decAt ds 0))]) }
def spec_MemoryOk_G : Ctx := []
theorem spec_MemoryOk_x : CtxHolds Tryz.prog spec_MemoryOk_G := ctx_nil
def spec_MemoryOk_A : List (Nat × Ann) := [(2, { slots := [(1, .asis), (3, .asis)], boxes := [(64, [])] })]
def spec_MemoryOk_K : Bool → Res := (fun r0 => ((true, [.bool r0]) : Res))
def spec_MemoryOk_m0 (k : Int) (m_1 : Rows) : St := { n := 22, sl := [(1, .ptr 64 0), (3, .int .i64 k)], hp := [(64, .box 55 [.sl [.str] m_1])], ok := true, ls := [], lm := [] }
noncomputable def spec_MemoryOk_B0 (N : Nat) : (St → Res) → St → Res := loopB Tryz.prog spec_MemoryOk_G spec_MemoryOk_A N Tryz.f69 spec_MemoryOk_s [true, false, true, false] []
theorem spec_MemoryOk_b0 (N : Nat) (m_1 : Rows) (ih : St → Res) (k : Int) : spec_MemoryOk_B0 N ih (spec_MemoryOk_m0 k m_1) = spec_MemoryOk_l0 Vm.bad spec_MemoryOk_K m_1 (fun k => ih (spec_MemoryOk_m0 k m_1)) k := by kernel_rfl
theorem spec_MemoryOk_n0 (N : Nat) (m_1 : Rows) (m_ : Nat) : (fun k => loopN (spec_MemoryOk_B0 N) m_ (spec_MemoryOk_m0 k m_1)) = spec_MemoryOk_L0 Vm.bad spec_MemoryOk_K N m_1 m_ := by
  induction m_ with
  | zero => rfl
  | succ m_ ih =>
    funext k
    show spec_MemoryOk_B0 N (loopN (spec_MemoryOk_B0 N) m_) (spec_MemoryOk_m0 k m_1) = _
    rw [spec_MemoryOk_b0 N m_1]
    rw [ih]
    rfl
theorem spec_MemoryOk_r (N : Nat) (m : SMemory) : runF Tryz.prog spec_MemoryOk_G spec_MemoryOk_A N Tryz.f69 spec_MemoryOk_s (m.enc ++ ([])) = spec_MemoryOk_f Vm.bad spec_MemoryOk_K N m := by
  have run_ : runF Tryz.prog spec_MemoryOk_G spec_MemoryOk_A N Tryz.f69 spec_MemoryOk_s (m.enc ++ ([])) = spec_MemoryOk_t Vm.bad spec_MemoryOk_K (fun m_1 k => loopN (spec_MemoryOk_B0 N) N (spec_MemoryOk_m0 k m_1)) m := by kernel_rfl
  refine run_.trans ?_
  unfold spec_MemoryOk_f
  have e0 : (fun m_1 k => loopN (spec_MemoryOk_B0 N) N (spec_MemoryOk_m0 k m_1)) = (fun m_1 => spec_MemoryOk_L0 Vm.bad spec_MemoryOk_K N m_1 N) := by
    funext m_1
    exact spec_MemoryOk_n0 N m_1 N
  exact congrArg (fun l_ => spec_MemoryOk_t Vm.bad spec_MemoryOk_K l_ m) e0
theorem spec_MemoryOk_h : Holds Tryz.prog 69 spec_MemoryOk_s := by
  refine holds_of_run (A := spec_MemoryOk_A) spec_MemoryOk_x Tryz.func69 rfl (by kernel_rfl) (of_decide_eq_true (by kernel_rfl)) (of_decide_eq_true (by kernel_rfl)) ?_
  intro ds hw hok
  replace hw : WtL (SMemory.ct ++ ([])) ds := hw
  obtain ⟨m, ds, rfl, h_m, hw⟩ := SMemory.of_wt (r := _) hw
  obtain rfl := of_wt_nil hw
  obtain ⟨N, hN⟩ := spec_MemoryOk_c Vm.bad spec_MemoryOk_K m h_m
  exact ⟨N, ((spec_MemoryOk_r N m).trans hN).trans (by kernel_rfl)⟩

end
end Go.Proofs.YtdlelfondkajbaaGreat.Pl
