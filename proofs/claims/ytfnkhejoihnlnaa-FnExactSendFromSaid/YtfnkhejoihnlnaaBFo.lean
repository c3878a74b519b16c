/- The contracts of functions of the program: each computes what its plain form says. Conditions: none. -/
import Derived.Test.YtfnkhejoihnlnaaPFo
import Derived.Test.YtfnkhejoihnlnaaRows
import Derived.Test.YtfnkhejoihnlnaaBSx
import Derived.Test.YtfnkhejoihnlnaaBBa
set_option linter.unusedVariables false
set_option linter.unusedSimpArgs false
set_option maxRecDepth 100000
namespace Go.Proofs.Ytfnkhejoihnlnaa.Pl
open Vm
noncomputable section

def impl_BucketOk_s : Sum := { ps := [⟨[.int .i64, .int .i64, .int .i64], true⟩], rs := [⟨[.imm .bool], false⟩], fn := fun ds => (true, [.bool (BucketOk (SBucket.decAt ds 0))]) }
def impl_BucketOk_G : Ctx := [(68, impl_between_s)]
theorem impl_BucketOk_x : CtxHolds Try.prog impl_BucketOk_G := ctx_cons impl_between_h ctx_nil
def impl_BucketOk_A : List (Nat × Ann) := []
theorem impl_BucketOk_r (N : Nat) (b : SBucket) : runF Try.prog impl_BucketOk_G impl_BucketOk_A N Try.f69 impl_BucketOk_s (b.enc ++ ([])) = impl_BucketOk_t (fun r0 => ((true, [.bool r0]) : Res)) b := by kernel_rfl
theorem impl_BucketOk_h : Holds Try.prog 69 impl_BucketOk_s := by
  refine holds_of_run (A := impl_BucketOk_A) impl_BucketOk_x Try.func69 rfl (by kernel_rfl) (of_decide_eq_true (by kernel_rfl)) (of_decide_eq_true (by kernel_rfl)) ?_
  intro ds hw hok
  replace hw : WtL (SBucket.ct ++ ([])) ds := hw
  obtain ⟨b, ds, rfl, h_b, hw⟩ := SBucket.of_wt (r := _) hw
  obtain rfl := of_wt_nil hw
  exact ⟨0, ((impl_BucketOk_r 0 b).trans (impl_BucketOk_c _ b)).trans (by kernel_rfl)⟩

def spec_BucketOk_s : Sum := { ps := [⟨[.int .i64, .int .i64, .int .i64], true⟩], rs := [⟨[.imm .bool], false⟩], fn := fun ds => (true, [.bool (BucketOk (SBucket.decAt ds 0))]) }
def spec_BucketOk_G : Ctx := [(64, spec_l01In_s)]
theorem spec_BucketOk_x : CtxHolds Try.prog spec_BucketOk_G := ctx_cons spec_l01In_h ctx_nil
def spec_BucketOk_A : List (Nat × Ann) := []
theorem spec_BucketOk_r (N : Nat) (b : SBucket) : runF Try.prog spec_BucketOk_G spec_BucketOk_A N Try.f65 spec_BucketOk_s (b.enc ++ ([])) = spec_BucketOk_t (fun r0 => ((true, [.bool r0]) : Res)) b := by kernel_rfl
theorem spec_BucketOk_h : Holds Try.prog 65 spec_BucketOk_s := by
  refine holds_of_run (A := spec_BucketOk_A) spec_BucketOk_x Try.func65 rfl (by kernel_rfl) (of_decide_eq_true (by kernel_rfl)) (of_decide_eq_true (by kernel_rfl)) ?_
  intro ds hw hok
  replace hw : WtL (SBucket.ct ++ ([])) ds := hw
  obtain ⟨b, ds, rfl, h_b, hw⟩ := SBucket.of_wt (r := _) hw
  obtain rfl := of_wt_nil hw
  exact ⟨0, ((spec_BucketOk_r 0 b).trans (spec_BucketOk_c _ b h_b)).trans (by kernel_rfl)⟩

def impl_FunctionsOk_s : Sum := { ps := [⟨[.sl [.int .i64, .int .i64, .int .i64, .int .i64, .int .i64, .bool, .int .i64, .int .i64]], false⟩, ⟨[.sl [.int .i64, .sl [.int .i64], .int .i64, .bool]], false⟩], rs := [⟨[.imm .bool], false⟩], fn := fun ds => (true, [.bool (FunctionsOk (rR ds 0) (rR ds 1))]) }
def impl_FunctionsOk_G : Ctx := [(67, impl_PortsOk_s), (68, impl_between_s), (69, impl_BucketOk_s)]
theorem impl_FunctionsOk_x : CtxHolds Try.prog impl_FunctionsOk_G := ctx_cons impl_PortsOk_h (ctx_cons impl_between_h (ctx_cons impl_BucketOk_h ctx_nil))
def impl_FunctionsOk_A : List (Nat × Ann) := [(4, { slots := [(0, .asis), (1, .asis), (12, .asis), (13, .asis), (14, .asis)], boxes := [] }), (9, { slots := [(0, .asis), (1, .asis), (6, .asis), (12, .asis), (13, .asis), (14, .asis), (52, .asis), (53, .asis), (54, .asis)], boxes := [(384, [])] })]
def impl_FunctionsOk_K : Bool → Res := (fun r0 => ((true, [.bool r0]) : Res))
def impl_FunctionsOk_m0 (list_ : Rows) (ports : Rows) (x : Rows) (x_1 : Int) (x_2 : Int) : St := { n := 72, sl := [(0, .sl [.int .i64, .int .i64, .int .i64, .int .i64, .int .i64, .bool, .int .i64, .int .i64] list_), (1, .sl [.int .i64, .sl [.int .i64], .int .i64, .bool] ports), (12, .sl [.int .i64, .int .i64, .int .i64, .int .i64, .int .i64, .bool, .int .i64, .int .i64] x), (13, .int .i64 x_1), (14, .int .i64 x_2)], hp := [], ok := true, ls := [], lm := [] }
def impl_FunctionsOk_m1 (list_ : Rows) (ports : Rows) (x : Rows) (x_1 : Int) (x_2 : Int) (x_6 : Rows) (x_7 : Int) (x_8 : Int) (f : Int) (f_1 : Int) (f_2 : Int) (f_3 : Int) (f_4 : Int) (f_5 : Bool) (f_6 : Int) (f_7 : Int) : St := { n := 72, sl := [(0, .sl [.int .i64, .int .i64, .int .i64, .int .i64, .int .i64, .bool, .int .i64, .int .i64] list_), (1, .sl [.int .i64, .sl [.int .i64], .int .i64, .bool] ports), (6, .ptr 384 0), (12, .sl [.int .i64, .int .i64, .int .i64, .int .i64, .int .i64, .bool, .int .i64, .int .i64] x), (13, .int .i64 x_1), (14, .int .i64 x_2), (52, .sl [.int .i64, .int .i64, .int .i64, .int .i64, .int .i64, .bool, .int .i64, .int .i64] x_6), (53, .int .i64 x_7), (54, .int .i64 x_8)], hp := [(384, .box 66 [.int .i64 f, .int .i64 f_1, .int .i64 f_2, .int .i64 f_3, .int .i64 f_4, .bool f_5, .int .i64 f_6, .int .i64 f_7])], ok := true, ls := [], lm := [] }
noncomputable def impl_FunctionsOk_B1 (N : Nat) (o0 : St → Res) : (St → Res) → St → Res := loopB Try.prog impl_FunctionsOk_G impl_FunctionsOk_A N Try.f28 impl_FunctionsOk_s [true, true, false, true, false, false, true, true, false, false, true, true, true, false] [o0]
noncomputable def impl_FunctionsOk_B0 (N : Nat) : (St → Res) → St → Res := loopB Try.prog impl_FunctionsOk_G impl_FunctionsOk_A N Try.f28 impl_FunctionsOk_s [true, true, false, true, false] []
theorem impl_FunctionsOk_b1 (N : Nat) (o0 : St → Res) (list_ : Rows) (ports : Rows) (x : Rows) (x_1 : Int) (x_2 : Int) (x_6 : Rows) (x_7 : Int) (f : Int) (f_1 : Int) (f_2 : Int) (f_3 : Int) (f_4 : Int) (f_5 : Bool) (f_6 : Int) (f_7 : Int) (ih : St → Res) (x_8 : Int) : impl_FunctionsOk_B1 N o0 ih (impl_FunctionsOk_m1 list_ ports x x_1 x_2 x_6 x_7 x_8 f f_1 f_2 f_3 f_4 f_5 f_6 f_7) = impl_FunctionsOk_l1 Vm.bad impl_FunctionsOk_K (fun x_2 => o0 (impl_FunctionsOk_m0 list_ ports x x_1 x_2)) x_2 x_6 x_7 f f_1 (fun x_8 => ih (impl_FunctionsOk_m1 list_ ports x x_1 x_2 x_6 x_7 x_8 f f_1 f_2 f_3 f_4 f_5 f_6 f_7)) x_8 := by kernel_rfl
theorem impl_FunctionsOk_n1 (N : Nat) (o0 : St → Res) (list_ : Rows) (ports : Rows) (x : Rows) (x_1 : Int) (x_2 : Int) (x_6 : Rows) (x_7 : Int) (f : Int) (f_1 : Int) (f_2 : Int) (f_3 : Int) (f_4 : Int) (f_5 : Bool) (f_6 : Int) (f_7 : Int) (m_ : Nat) : (fun x_8 => loopN (impl_FunctionsOk_B1 N o0) m_ (impl_FunctionsOk_m1 list_ ports x x_1 x_2 x_6 x_7 x_8 f f_1 f_2 f_3 f_4 f_5 f_6 f_7)) = impl_FunctionsOk_L1 Vm.bad impl_FunctionsOk_K N (fun x_2 => o0 (impl_FunctionsOk_m0 list_ ports x x_1 x_2)) x_2 x_6 x_7 f f_1 m_ := by
  induction m_ with
  | zero => rfl
  | succ m_ ih =>
    funext x_8
    show impl_FunctionsOk_B1 N o0 (loopN (impl_FunctionsOk_B1 N o0) m_) (impl_FunctionsOk_m1 list_ ports x x_1 x_2 x_6 x_7 x_8 f f_1 f_2 f_3 f_4 f_5 f_6 f_7) = _
    rw [impl_FunctionsOk_b1 N o0 list_ ports x x_1 x_2 x_6 x_7 f f_1 f_2 f_3 f_4 f_5 f_6 f_7]
    rw [ih]
    rfl
theorem impl_FunctionsOk_b0 (N : Nat) (list_ : Rows) (ports : Rows) (x : Rows) (x_1 : Int) (ih : St → Res) (x_2 : Int) : impl_FunctionsOk_B0 N ih (impl_FunctionsOk_m0 list_ ports x x_1 x_2) = impl_FunctionsOk_l0 Vm.bad impl_FunctionsOk_K (fun x_2 x_6 x_7 f f_1 x_8 => loopN (impl_FunctionsOk_B1 N ih) N (impl_FunctionsOk_m1 list_ ports x x_1 x_2 x_6 x_7 x_8 f f_1 (rI (nth x (Int.toNat x_2)) 2) (rI (nth x (Int.toNat x_2)) 3) (rI (nth x (Int.toNat x_2)) 4) (rB (nth x (Int.toNat x_2)) 5) (rI (nth x (Int.toNat x_2)) 6) (rI (nth x (Int.toNat x_2)) 7))) list_ ports x x_1 (fun x_2 => ih (impl_FunctionsOk_m0 list_ ports x x_1 x_2)) x_2 := by kernel_rfl
theorem impl_FunctionsOk_n0 (N : Nat) (list_ : Rows) (ports : Rows) (x : Rows) (x_1 : Int) (m_ : Nat) : (fun x_2 => loopN (impl_FunctionsOk_B0 N) m_ (impl_FunctionsOk_m0 list_ ports x x_1 x_2)) = impl_FunctionsOk_L0 Vm.bad impl_FunctionsOk_K N list_ ports x x_1 m_ := by
  induction m_ with
  | zero => rfl
  | succ m_ ih =>
    funext x_2
    show impl_FunctionsOk_B0 N (loopN (impl_FunctionsOk_B0 N) m_) (impl_FunctionsOk_m0 list_ ports x x_1 x_2) = _
    rw [impl_FunctionsOk_b0 N list_ ports x x_1]
    have e1 := funext fun x_2 => funext fun x_6 => funext fun x_7 => funext fun f => funext fun f_1 => impl_FunctionsOk_n1 N (loopN (impl_FunctionsOk_B0 N) m_) list_ ports x x_1 x_2 x_6 x_7 f f_1 (rI (nth x (Int.toNat x_2)) 2) (rI (nth x (Int.toNat x_2)) 3) (rI (nth x (Int.toNat x_2)) 4) (rB (nth x (Int.toNat x_2)) 5) (rI (nth x (Int.toNat x_2)) 6) (rI (nth x (Int.toNat x_2)) 7) N
    rw [e1]
    rw [ih]
    rfl
theorem impl_FunctionsOk_r (N : Nat) (list_ : Rows) (ports : Rows) : runF Try.prog impl_FunctionsOk_G impl_FunctionsOk_A N Try.f28 impl_FunctionsOk_s (.sl list_ :: (.sl ports :: ([]))) = impl_FunctionsOk_f Vm.bad impl_FunctionsOk_K N list_ ports := by
  have run_ : runF Try.prog impl_FunctionsOk_G impl_FunctionsOk_A N Try.f28 impl_FunctionsOk_s (.sl list_ :: (.sl ports :: ([]))) = impl_FunctionsOk_t Vm.bad impl_FunctionsOk_K (fun x x_1 x_2 => loopN (impl_FunctionsOk_B0 N) N (impl_FunctionsOk_m0 list_ ports x x_1 x_2)) list_ ports := by kernel_rfl
  refine run_.trans ?_
  unfold impl_FunctionsOk_f
  have e0 : (fun x x_1 x_2 => loopN (impl_FunctionsOk_B0 N) N (impl_FunctionsOk_m0 list_ ports x x_1 x_2)) = (fun x x_1 => impl_FunctionsOk_L0 Vm.bad impl_FunctionsOk_K N list_ ports x x_1 N) := by
    funext x x_1
    exact impl_FunctionsOk_n0 N list_ ports x x_1 N
  exact congrArg (fun l_ => impl_FunctionsOk_t Vm.bad impl_FunctionsOk_K l_ list_ ports) e0
theorem impl_FunctionsOk_h : Holds Try.prog 28 impl_FunctionsOk_s := by
  refine holds_of_run (A := impl_FunctionsOk_A) impl_FunctionsOk_x Try.func28 rfl (by kernel_rfl) (of_decide_eq_true (by kernel_rfl)) (of_decide_eq_true (by kernel_rfl)) ?_
  intro ds hw hok
  replace hw : WtL ((.sl [.int .i64, .int .i64, .int .i64, .int .i64, .int .i64, .bool, .int .i64, .int .i64]) :: ((.sl [.int .i64, .sl [.int .i64], .int .i64, .bool]) :: ([]))) ds := hw
  obtain ⟨list_, ds, rfl, h_list_, hw⟩ := of_wt_sl hw
  obtain ⟨ports, ds, rfl, h_ports, hw⟩ := of_wt_sl hw
  obtain rfl := of_wt_nil hw
  obtain ⟨N, hN⟩ := impl_FunctionsOk_c Vm.bad impl_FunctionsOk_K list_ ports h_list_ h_ports
  exact ⟨N, ((impl_FunctionsOk_r N list_ ports).trans hN).trans (by kernel_rfl)⟩

def spec_FunctionsOk_s : Sum := { ps := [⟨[.sl [.int .i64, .int .i64, .int .i64, .int .i64, .int .i64, .bool, .int .i64, .int .i64]], false⟩, ⟨[.sl [.int .i64, .sl [.int .i64], .int .i64, .bool]], false⟩], rs := [⟨[.imm .bool], false⟩], fn := fun ds => (true, [.bool (FunctionsOk (rR ds 0) (rR ds 1))]) }
def spec_FunctionsOk_G : Ctx := [(63, spec_PortsOk_s), (64, spec_l01In_s), (65, spec_BucketOk_s)]
theorem spec_FunctionsOk_x : CtxHolds Try.prog spec_FunctionsOk_G := ctx_cons spec_PortsOk_h (ctx_cons spec_l01In_h (ctx_cons spec_BucketOk_h ctx_nil))
def spec_FunctionsOk_A : List (Nat × Ann) := [(4, { slots := [(0, .asis), (1, .asis), (5, .asis)], boxes := [] }), (10, { slots := [(0, .asis), (1, .asis), (5, .asis), (6, .asis), (7, .asis)], boxes := [(384, [])] })]
def spec_FunctionsOk_K : Bool → Res := (fun r0 => ((true, [.bool r0]) : Res))
def spec_FunctionsOk_m0 (list_ : Rows) (ports : Rows) (k : Int) : St := { n := 75, sl := [(0, .sl [.int .i64, .int .i64, .int .i64, .int .i64, .int .i64, .bool, .int .i64, .int .i64] list_), (1, .sl [.int .i64, .sl [.int .i64], .int .i64, .bool] ports), (5, .int .i64 k)], hp := [], ok := true, ls := [], lm := [] }
def spec_FunctionsOk_m1 (list_ : Rows) (ports : Rows) (k : Int) (i : Int) (x : Int) (x_1 : Int) (x_2 : Int) (x_3 : Int) (x_4 : Int) (x_5 : Bool) (x_6 : Int) (x_7 : Int) : St := { n := 75, sl := [(0, .sl [.int .i64, .int .i64, .int .i64, .int .i64, .int .i64, .bool, .int .i64, .int .i64] list_), (1, .sl [.int .i64, .sl [.int .i64], .int .i64, .bool] ports), (5, .int .i64 k), (6, .ptr 384 0), (7, .int .i64 i)], hp := [(384, .box 66 [.int .i64 x, .int .i64 x_1, .int .i64 x_2, .int .i64 x_3, .int .i64 x_4, .bool x_5, .int .i64 x_6, .int .i64 x_7])], ok := true, ls := [], lm := [] }
noncomputable def spec_FunctionsOk_B1 (N : Nat) (o0 : St → Res) : (St → Res) → St → Res := loopB Try.prog spec_FunctionsOk_G spec_FunctionsOk_A N Try.f26 spec_FunctionsOk_s [true, true, false, true, false, false, true, false, false, true, true, true, false] [o0]
noncomputable def spec_FunctionsOk_B0 (N : Nat) : (St → Res) → St → Res := loopB Try.prog spec_FunctionsOk_G spec_FunctionsOk_A N Try.f26 spec_FunctionsOk_s [true, true, false, true, false] []
theorem spec_FunctionsOk_b1 (N : Nat) (o0 : St → Res) (list_ : Rows) (ports : Rows) (k : Int) (x : Int) (x_1 : Int) (x_2 : Int) (x_3 : Int) (x_4 : Int) (x_5 : Bool) (x_6 : Int) (x_7 : Int) (ih : St → Res) (i : Int) : spec_FunctionsOk_B1 N o0 ih (spec_FunctionsOk_m1 list_ ports k i x x_1 x_2 x_3 x_4 x_5 x_6 x_7) = spec_FunctionsOk_l1 Vm.bad spec_FunctionsOk_K (fun k => o0 (spec_FunctionsOk_m0 list_ ports k)) list_ k x x_1 (fun i => ih (spec_FunctionsOk_m1 list_ ports k i x x_1 x_2 x_3 x_4 x_5 x_6 x_7)) i := by kernel_rfl
theorem spec_FunctionsOk_n1 (N : Nat) (o0 : St → Res) (list_ : Rows) (ports : Rows) (k : Int) (x : Int) (x_1 : Int) (x_2 : Int) (x_3 : Int) (x_4 : Int) (x_5 : Bool) (x_6 : Int) (x_7 : Int) (m_ : Nat) : (fun i => loopN (spec_FunctionsOk_B1 N o0) m_ (spec_FunctionsOk_m1 list_ ports k i x x_1 x_2 x_3 x_4 x_5 x_6 x_7)) = spec_FunctionsOk_L1 Vm.bad spec_FunctionsOk_K N (fun k => o0 (spec_FunctionsOk_m0 list_ ports k)) list_ k x x_1 m_ := by
  induction m_ with
  | zero => rfl
  | succ m_ ih =>
    funext i
    show spec_FunctionsOk_B1 N o0 (loopN (spec_FunctionsOk_B1 N o0) m_) (spec_FunctionsOk_m1 list_ ports k i x x_1 x_2 x_3 x_4 x_5 x_6 x_7) = _
    rw [spec_FunctionsOk_b1 N o0 list_ ports k x x_1 x_2 x_3 x_4 x_5 x_6 x_7]
    rw [ih]
    rfl
theorem spec_FunctionsOk_b0 (N : Nat) (list_ : Rows) (ports : Rows) (ih : St → Res) (k : Int) : spec_FunctionsOk_B0 N ih (spec_FunctionsOk_m0 list_ ports k) = spec_FunctionsOk_l0 Vm.bad spec_FunctionsOk_K (fun k x x_1 i => loopN (spec_FunctionsOk_B1 N ih) N (spec_FunctionsOk_m1 list_ ports k i x x_1 (rI (nth list_ (Int.toNat k)) 2) (rI (nth list_ (Int.toNat k)) 3) (rI (nth list_ (Int.toNat k)) 4) (rB (nth list_ (Int.toNat k)) 5) (rI (nth list_ (Int.toNat k)) 6) (rI (nth list_ (Int.toNat k)) 7))) list_ ports (fun k => ih (spec_FunctionsOk_m0 list_ ports k)) k := by kernel_rfl
theorem spec_FunctionsOk_n0 (N : Nat) (list_ : Rows) (ports : Rows) (m_ : Nat) : (fun k => loopN (spec_FunctionsOk_B0 N) m_ (spec_FunctionsOk_m0 list_ ports k)) = spec_FunctionsOk_L0 Vm.bad spec_FunctionsOk_K N list_ ports m_ := by
  induction m_ with
  | zero => rfl
  | succ m_ ih =>
    funext k
    show spec_FunctionsOk_B0 N (loopN (spec_FunctionsOk_B0 N) m_) (spec_FunctionsOk_m0 list_ ports k) = _
    rw [spec_FunctionsOk_b0 N list_ ports]
    have e1 := funext fun k => funext fun x => funext fun x_1 => spec_FunctionsOk_n1 N (loopN (spec_FunctionsOk_B0 N) m_) list_ ports k x x_1 (rI (nth list_ (Int.toNat k)) 2) (rI (nth list_ (Int.toNat k)) 3) (rI (nth list_ (Int.toNat k)) 4) (rB (nth list_ (Int.toNat k)) 5) (rI (nth list_ (Int.toNat k)) 6) (rI (nth list_ (Int.toNat k)) 7) N
    rw [e1]
    rw [ih]
    rfl
theorem spec_FunctionsOk_r (N : Nat) (list_ : Rows) (ports : Rows) : runF Try.prog spec_FunctionsOk_G spec_FunctionsOk_A N Try.f26 spec_FunctionsOk_s (.sl list_ :: (.sl ports :: ([]))) = spec_FunctionsOk_f Vm.bad spec_FunctionsOk_K N list_ ports := by
  have run_ : runF Try.prog spec_FunctionsOk_G spec_FunctionsOk_A N Try.f26 spec_FunctionsOk_s (.sl list_ :: (.sl ports :: ([]))) = spec_FunctionsOk_t Vm.bad spec_FunctionsOk_K (fun k => loopN (spec_FunctionsOk_B0 N) N (spec_FunctionsOk_m0 list_ ports k)) list_ ports := by kernel_rfl
  refine run_.trans ?_
  unfold spec_FunctionsOk_f
  have e0 : (fun k => loopN (spec_FunctionsOk_B0 N) N (spec_FunctionsOk_m0 list_ ports k)) = (spec_FunctionsOk_L0 Vm.bad spec_FunctionsOk_K N list_ ports N) := by
    exact spec_FunctionsOk_n0 N list_ ports N
  exact congrArg (fun l_ => spec_FunctionsOk_t Vm.bad spec_FunctionsOk_K l_ list_ ports) e0
theorem spec_FunctionsOk_h : Holds Try.prog 26 spec_FunctionsOk_s := by
  refine holds_of_run (A := spec_FunctionsOk_A) spec_FunctionsOk_x Try.func26 rfl (by kernel_rfl) (of_decide_eq_true (by kernel_rfl)) (of_decide_eq_true (by kernel_rfl)) ?_
  intro ds hw hok
  replace hw : WtL ((.sl [.int .i64, .int .i64, .int .i64, .int .i64, .int .i64, .bool, .int .i64, .int .i64]) :: ((.sl [.int .i64, .sl [.int .i64], .int .i64, .bool]) :: ([]))) ds := hw
  obtain ⟨list_, ds, rfl, h_list_, hw⟩ := of_wt_sl hw
  obtain ⟨ports, ds, rfl, h_ports, hw⟩ := of_wt_sl hw
  obtain rfl := of_wt_nil hw
  obtain ⟨N, hN⟩ := spec_FunctionsOk_c Vm.bad spec_FunctionsOk_K list_ ports h_list_ h_ports
  exact ⟨N, ((spec_FunctionsOk_r N list_ ports).trans hN).trans (by kernel_rfl)⟩

end
end Go.Proofs.Ytfnkhejoihnlnaa.Pl
