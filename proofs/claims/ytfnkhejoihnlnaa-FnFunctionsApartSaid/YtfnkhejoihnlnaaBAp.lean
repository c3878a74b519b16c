/- The contracts of functions of the program: each computes what its plain form says. Conditions: none. -/
import Derived.Test.YtfnkhejoihnlnaaPAp
import Derived.Test.YtfnkhejoihnlnaaRows
import Derived.Test.YtfnkhejoihnlnaaBMp
set_option linter.unusedVariables false
set_option linter.unusedSimpArgs false
set_option maxRecDepth 100000
namespace Go.Proofs.Ytfnkhejoihnlnaa.Pl
open Vm
noncomputable section

def impl_FunctionsApart_s : Sum := { ps := [⟨[.sl [.int .i64, .int .i64, .int .i64, .int .i64, .int .i64, .bool, .int .i64, .int .i64]], false⟩, ⟨[.sl [.int .i64, .int .i64, .int .i64, .bool]], false⟩], rs := [⟨[.imm .bool], false⟩], fn := fun ds => (true, [.bool (FunctionsApart (rR ds 0) (rR ds 1))]) }
def impl_FunctionsApart_G : Ctx := [(43, impl_WritablePages_s)]
theorem impl_FunctionsApart_x : CtxHolds Try.prog impl_FunctionsApart_G := ctx_cons impl_WritablePages_h ctx_nil
def impl_FunctionsApart_A : List (Nat × Ann) := [(3, { slots := [(1, .asis), (5, .asis), (11, .asis), (12, .asis), (13, .asis)], boxes := [] }), (6, { slots := [(1, .asis), (5, .asis), (6, .asis), (11, .asis), (12, .asis), (13, .asis), (21, .asis), (22, .asis), (23, .asis)], boxes := [(448, [])] })]
def impl_FunctionsApart_K : Bool → Res := (fun r0 => ((true, [.bool r0]) : Res))
def impl_FunctionsApart_m0 (maps : Rows) (list_ : Rows) (x_1 : Int) (x_2 : Int) (owner : Rows) : St := { n := 39, sl := [(1, .sl [.int .i64, .int .i64, .int .i64, .bool] maps), (5, .own 640320), (11, .sl [.int .i64, .int .i64, .int .i64, .int .i64, .int .i64, .bool, .int .i64, .int .i64] list_), (12, .int .i64 x_1), (13, .int .i64 x_2)], hp := [(640320, .row 3 [.int .i64] owner false true)], ok := true, ls := [], lm := [] }
def impl_FunctionsApart_m1 (maps : Rows) (x_2 : Int) (list_ : Rows) (x_1 : Int) (x_5 : Int) (x_6 : Int) (x_7 : Int) (f : Int) (f_1 : Int) (f_2 : Int) (f_3 : Int) (f_4 : Int) (f_5 : Bool) (f_6 : Int) (f_7 : Int) (owner_1 : Rows) (x_8 : Rows) : St := { n := 39, sl := [(1, .sl [.int .i64, .int .i64, .int .i64, .bool] maps), (5, .own 640320), (6, .int .i64 x_2), (11, .sl [.int .i64, .int .i64, .int .i64, .int .i64, .int .i64, .bool, .int .i64, .int .i64] list_), (12, .int .i64 x_1), (13, .int .i64 x_5), (21, .own 641344), (22, .int .i64 x_6), (23, .int .i64 x_7)], hp := [(448, .box 66 [.int .i64 f, .int .i64 f_1, .int .i64 f_2, .int .i64 f_3, .int .i64 f_4, .bool f_5, .int .i64 f_6, .int .i64 f_7]), (640320, .row 3 [.int .i64] owner_1 false true), (641344, .row 3 [.int .i64] x_8 false true)], ok := true, ls := [], lm := [] }
noncomputable def impl_FunctionsApart_B1 (N : Nat) (o0 : St → Res) : (St → Res) → St → Res := loopB Try.prog impl_FunctionsApart_G impl_FunctionsApart_A N Try.f23 impl_FunctionsApart_s [true, true, false, true, false, false, true, true, false, false, true, true, false] [o0]
noncomputable def impl_FunctionsApart_B0 (N : Nat) : (St → Res) → St → Res := loopB Try.prog impl_FunctionsApart_G impl_FunctionsApart_A N Try.f23 impl_FunctionsApart_s [true, true, false, true, false] []
theorem impl_FunctionsApart_b1 (N : Nat) (o0 : St → Res) (maps : Rows) (x_2 : Int) (list_ : Rows) (x_1 : Int) (x_5 : Int) (x_6 : Int) (f : Int) (f_1 : Int) (f_2 : Int) (f_3 : Int) (f_4 : Int) (f_5 : Bool) (f_6 : Int) (f_7 : Int) (x_8 : Rows) (ih : St → Res) (x_7 : Int) (owner_1 : Rows) : impl_FunctionsApart_B1 N o0 ih (impl_FunctionsApart_m1 maps x_2 list_ x_1 x_5 x_6 x_7 f f_1 f_2 f_3 f_4 f_5 f_6 f_7 owner_1 x_8) = impl_FunctionsApart_l1 Vm.bad impl_FunctionsApart_K (fun x_2 owner => o0 (impl_FunctionsApart_m0 maps list_ x_1 x_2 owner)) x_2 x_5 x_6 x_8 (fun x_7 owner_1 => ih (impl_FunctionsApart_m1 maps x_2 list_ x_1 x_5 x_6 x_7 f f_1 f_2 f_3 f_4 f_5 f_6 f_7 owner_1 x_8)) x_7 owner_1 := by kernel_rfl
theorem impl_FunctionsApart_n1 (N : Nat) (o0 : St → Res) (maps : Rows) (x_2 : Int) (list_ : Rows) (x_1 : Int) (x_5 : Int) (x_6 : Int) (f : Int) (f_1 : Int) (f_2 : Int) (f_3 : Int) (f_4 : Int) (f_5 : Bool) (f_6 : Int) (f_7 : Int) (x_8 : Rows) (m_ : Nat) : (fun x_7 owner_1 => loopN (impl_FunctionsApart_B1 N o0) m_ (impl_FunctionsApart_m1 maps x_2 list_ x_1 x_5 x_6 x_7 f f_1 f_2 f_3 f_4 f_5 f_6 f_7 owner_1 x_8)) = impl_FunctionsApart_L1 Vm.bad impl_FunctionsApart_K N (fun x_2 owner => o0 (impl_FunctionsApart_m0 maps list_ x_1 x_2 owner)) x_2 x_5 x_6 x_8 m_ := by
  induction m_ with
  | zero => rfl
  | succ m_ ih =>
    funext x_7 owner_1
    show impl_FunctionsApart_B1 N o0 (loopN (impl_FunctionsApart_B1 N o0) m_) (impl_FunctionsApart_m1 maps x_2 list_ x_1 x_5 x_6 x_7 f f_1 f_2 f_3 f_4 f_5 f_6 f_7 owner_1 x_8) = _
    rw [impl_FunctionsApart_b1 N o0 maps x_2 list_ x_1 x_5 x_6 f f_1 f_2 f_3 f_4 f_5 f_6 f_7 x_8]
    rw [ih]
    rfl
theorem impl_FunctionsApart_b0 (N : Nat) (maps : Rows) (list_ : Rows) (x_1 : Int) (ih : St → Res) (x_2 : Int) (owner : Rows) : impl_FunctionsApart_B0 N ih (impl_FunctionsApart_m0 maps list_ x_1 x_2 owner) = impl_FunctionsApart_l0 Vm.bad impl_FunctionsApart_K (fun x_2 x_5 x_6 x_8 x_7 owner_1 => loopN (impl_FunctionsApart_B1 N ih) N (impl_FunctionsApart_m1 maps x_2 list_ x_1 x_5 x_6 x_7 (rI (nth list_ (Int.toNat x_2)) 0) (rI (nth list_ (Int.toNat x_2)) 1) (rI (nth list_ (Int.toNat x_2)) 2) (rI (nth list_ (Int.toNat x_2)) 3) (rI (nth list_ (Int.toNat x_2)) 4) (rB (nth list_ (Int.toNat x_2)) 5) (rI (nth list_ (Int.toNat x_2)) 6) (rI (nth list_ (Int.toNat x_2)) 7) owner_1 x_8)) maps list_ x_1 (fun x_2 owner => ih (impl_FunctionsApart_m0 maps list_ x_1 x_2 owner)) x_2 owner := by kernel_rfl
theorem impl_FunctionsApart_n0 (N : Nat) (maps : Rows) (list_ : Rows) (x_1 : Int) (m_ : Nat) : (fun x_2 owner => loopN (impl_FunctionsApart_B0 N) m_ (impl_FunctionsApart_m0 maps list_ x_1 x_2 owner)) = impl_FunctionsApart_L0 Vm.bad impl_FunctionsApart_K N maps list_ x_1 m_ := by
  induction m_ with
  | zero => rfl
  | succ m_ ih =>
    funext x_2 owner
    show impl_FunctionsApart_B0 N (loopN (impl_FunctionsApart_B0 N) m_) (impl_FunctionsApart_m0 maps list_ x_1 x_2 owner) = _
    rw [impl_FunctionsApart_b0 N maps list_ x_1]
    have e1 := funext fun x_2 => funext fun x_5 => funext fun x_6 => funext fun x_8 => impl_FunctionsApart_n1 N (loopN (impl_FunctionsApart_B0 N) m_) maps x_2 list_ x_1 x_5 x_6 (rI (nth list_ (Int.toNat x_2)) 0) (rI (nth list_ (Int.toNat x_2)) 1) (rI (nth list_ (Int.toNat x_2)) 2) (rI (nth list_ (Int.toNat x_2)) 3) (rI (nth list_ (Int.toNat x_2)) 4) (rB (nth list_ (Int.toNat x_2)) 5) (rI (nth list_ (Int.toNat x_2)) 6) (rI (nth list_ (Int.toNat x_2)) 7) x_8 N
    rw [e1]
    rw [ih]
    rfl
theorem impl_FunctionsApart_r (N : Nat) (list_ : Rows) (maps : Rows) : runF Try.prog impl_FunctionsApart_G impl_FunctionsApart_A N Try.f23 impl_FunctionsApart_s (.sl list_ :: (.sl maps :: ([]))) = impl_FunctionsApart_f Vm.bad impl_FunctionsApart_K N list_ maps := by
  have run_ : runF Try.prog impl_FunctionsApart_G impl_FunctionsApart_A N Try.f23 impl_FunctionsApart_s (.sl list_ :: (.sl maps :: ([]))) = impl_FunctionsApart_t Vm.bad impl_FunctionsApart_K (fun x_1 x_2 owner => loopN (impl_FunctionsApart_B0 N) N (impl_FunctionsApart_m0 maps list_ x_1 x_2 owner)) list_ maps := by kernel_rfl
  refine run_.trans ?_
  unfold impl_FunctionsApart_f
  have e0 : (fun x_1 x_2 owner => loopN (impl_FunctionsApart_B0 N) N (impl_FunctionsApart_m0 maps list_ x_1 x_2 owner)) = (fun x_1 => impl_FunctionsApart_L0 Vm.bad impl_FunctionsApart_K N maps list_ x_1 N) := by
    funext x_1
    exact impl_FunctionsApart_n0 N maps list_ x_1 N
  exact congrArg (fun l_ => impl_FunctionsApart_t Vm.bad impl_FunctionsApart_K l_ list_ maps) e0
theorem impl_FunctionsApart_h : Holds Try.prog 23 impl_FunctionsApart_s := by
  refine holds_of_run (A := impl_FunctionsApart_A) impl_FunctionsApart_x Try.func23 rfl (by kernel_rfl) (of_decide_eq_true (by kernel_rfl)) (of_decide_eq_true (by kernel_rfl)) ?_
  intro ds hw hok
  replace hw : WtL ((.sl [.int .i64, .int .i64, .int .i64, .int .i64, .int .i64, .bool, .int .i64, .int .i64]) :: ((.sl [.int .i64, .int .i64, .int .i64, .bool]) :: ([]))) ds := hw
  obtain ⟨list_, ds, rfl, h_list_, hw⟩ := of_wt_sl hw
  obtain ⟨maps, ds, rfl, h_maps, hw⟩ := of_wt_sl hw
  obtain rfl := of_wt_nil hw
  obtain ⟨N, hN⟩ := impl_FunctionsApart_c Vm.bad impl_FunctionsApart_K list_ maps h_list_ h_maps
  exact ⟨N, ((impl_FunctionsApart_r N list_ maps).trans hN).trans (by kernel_rfl)⟩

def spec_FunctionsApart_s : Sum := { ps := [⟨[.sl [.int .i64, .int .i64, .int .i64, .int .i64, .int .i64, .bool, .int .i64, .int .i64]], false⟩, ⟨[.sl [.int .i64, .int .i64, .int .i64, .bool]], false⟩], rs := [⟨[.imm .bool], false⟩], fn := fun ds => (true, [.bool (FunctionsApart (rR ds 0) (rR ds 1))]) }
def spec_FunctionsApart_G : Ctx := [(58, spec_WritablePages_s), (59, spec_l24Has_s)]
theorem spec_FunctionsApart_x : CtxHolds Try.prog spec_FunctionsApart_G := ctx_cons spec_WritablePages_h (ctx_cons spec_l24Has_h ctx_nil)
def spec_FunctionsApart_A : List (Nat × Ann) := [(2, { slots := [(0, .asis), (1, .asis), (5, .asis)], boxes := [] }), (5, { slots := [(0, .asis), (1, .asis), (5, .asis), (6, .asis)], boxes := [] }), (10, { slots := [(0, .asis), (1, .asis), (5, .asis), (6, .asis), (7, .asis), (8, .asis), (9, .asis)], boxes := [] })]
def spec_FunctionsApart_K : Bool → Res := (fun r0 => ((true, [.bool r0]) : Res))
def spec_FunctionsApart_m0 (list_ : Rows) (maps : Rows) (k : Int) : St := { n := 47, sl := [(0, .sl [.int .i64, .int .i64, .int .i64, .int .i64, .int .i64, .bool, .int .i64, .int .i64] list_), (1, .sl [.int .i64, .int .i64, .int .i64, .bool] maps), (5, .int .i64 k)], hp := [], ok := true, ls := [], lm := [] }
def spec_FunctionsApart_m1 (list_ : Rows) (maps : Rows) (k : Int) (i : Int) : St := { n := 47, sl := [(0, .sl [.int .i64, .int .i64, .int .i64, .int .i64, .int .i64, .bool, .int .i64, .int .i64] list_), (1, .sl [.int .i64, .int .i64, .int .i64, .bool] maps), (5, .int .i64 k), (6, .int .i64 i)], hp := [], ok := true, ls := [], lm := [] }
def spec_FunctionsApart_m2 (list_ : Rows) (maps : Rows) (k : Int) (i : Int) (j : Int) (a : Rows) (b : Rows) : St := { n := 47, sl := [(0, .sl [.int .i64, .int .i64, .int .i64, .int .i64, .int .i64, .bool, .int .i64, .int .i64] list_), (1, .sl [.int .i64, .int .i64, .int .i64, .bool] maps), (5, .int .i64 k), (6, .int .i64 i), (7, .own 640448), (8, .own 640512), (9, .int .i64 j)], hp := [(640448, .row 3 [.int .i64] a false true), (640512, .row 3 [.int .i64] b false true)], ok := true, ls := [], lm := [] }
noncomputable def spec_FunctionsApart_B2 (N : Nat) (o0 : St → Res) (o1 : St → Res) : (St → Res) → St → Res := loopB Try.prog spec_FunctionsApart_G spec_FunctionsApart_A N Try.f21 spec_FunctionsApart_s [true, false, true, false, false, true, false, false, true, false, false, true, false, false, true, true, true, false] [o0, o1]
noncomputable def spec_FunctionsApart_B1 (N : Nat) (o0 : St → Res) : (St → Res) → St → Res := loopB Try.prog spec_FunctionsApart_G spec_FunctionsApart_A N Try.f21 spec_FunctionsApart_s [true, false, true, false, false, true, false, false, true, false] [o0]
noncomputable def spec_FunctionsApart_B0 (N : Nat) : (St → Res) → St → Res := loopB Try.prog spec_FunctionsApart_G spec_FunctionsApart_A N Try.f21 spec_FunctionsApart_s [true, false, true, false] []
theorem spec_FunctionsApart_b2 (N : Nat) (o0 : St → Res) (o1 : St → Res) (list_ : Rows) (maps : Rows) (k : Int) (i : Int) (a : Rows) (b : Rows) (ih : St → Res) (j : Int) : spec_FunctionsApart_B2 N o0 o1 ih (spec_FunctionsApart_m2 list_ maps k i j a b) = spec_FunctionsApart_l2 Vm.bad spec_FunctionsApart_K (fun i => o1 (spec_FunctionsApart_m1 list_ maps k i)) i a b (fun j => ih (spec_FunctionsApart_m2 list_ maps k i j a b)) j := by kernel_rfl
theorem spec_FunctionsApart_n2 (N : Nat) (o0 : St → Res) (o1 : St → Res) (list_ : Rows) (maps : Rows) (k : Int) (i : Int) (a : Rows) (b : Rows) (m_ : Nat) : (fun j => loopN (spec_FunctionsApart_B2 N o0 o1) m_ (spec_FunctionsApart_m2 list_ maps k i j a b)) = spec_FunctionsApart_L2 Vm.bad spec_FunctionsApart_K N (fun i => o1 (spec_FunctionsApart_m1 list_ maps k i)) i a b m_ := by
  induction m_ with
  | zero => rfl
  | succ m_ ih =>
    funext j
    show spec_FunctionsApart_B2 N o0 o1 (loopN (spec_FunctionsApart_B2 N o0 o1) m_) (spec_FunctionsApart_m2 list_ maps k i j a b) = _
    rw [spec_FunctionsApart_b2 N o0 o1 list_ maps k i a b]
    rw [ih]
    rfl
theorem spec_FunctionsApart_b1 (N : Nat) (o0 : St → Res) (list_ : Rows) (maps : Rows) (k : Int) (ih : St → Res) (i : Int) : spec_FunctionsApart_B1 N o0 ih (spec_FunctionsApart_m1 list_ maps k i) = spec_FunctionsApart_l1 Vm.bad spec_FunctionsApart_K (fun i a b j => loopN (spec_FunctionsApart_B2 N o0 ih) N (spec_FunctionsApart_m2 list_ maps k i j a b)) (fun k => o0 (spec_FunctionsApart_m0 list_ maps k)) list_ maps k (fun i => ih (spec_FunctionsApart_m1 list_ maps k i)) i := by kernel_rfl
theorem spec_FunctionsApart_n1 (N : Nat) (o0 : St → Res) (list_ : Rows) (maps : Rows) (k : Int) (m_ : Nat) : (fun i => loopN (spec_FunctionsApart_B1 N o0) m_ (spec_FunctionsApart_m1 list_ maps k i)) = spec_FunctionsApart_L1 Vm.bad spec_FunctionsApart_K N (fun k => o0 (spec_FunctionsApart_m0 list_ maps k)) list_ maps k m_ := by
  induction m_ with
  | zero => rfl
  | succ m_ ih =>
    funext i
    show spec_FunctionsApart_B1 N o0 (loopN (spec_FunctionsApart_B1 N o0) m_) (spec_FunctionsApart_m1 list_ maps k i) = _
    rw [spec_FunctionsApart_b1 N o0 list_ maps k]
    have e2 := funext fun i => funext fun a => funext fun b => spec_FunctionsApart_n2 N o0 (loopN (spec_FunctionsApart_B1 N o0) m_) list_ maps k i a b N
    rw [e2]
    rw [ih]
    rfl
theorem spec_FunctionsApart_b0 (N : Nat) (list_ : Rows) (maps : Rows) (ih : St → Res) (k : Int) : spec_FunctionsApart_B0 N ih (spec_FunctionsApart_m0 list_ maps k) = spec_FunctionsApart_l0 Vm.bad spec_FunctionsApart_K (fun k i => loopN (spec_FunctionsApart_B1 N ih) N (spec_FunctionsApart_m1 list_ maps k i)) list_ maps (fun k => ih (spec_FunctionsApart_m0 list_ maps k)) k := by kernel_rfl
theorem spec_FunctionsApart_n0 (N : Nat) (list_ : Rows) (maps : Rows) (m_ : Nat) : (fun k => loopN (spec_FunctionsApart_B0 N) m_ (spec_FunctionsApart_m0 list_ maps k)) = spec_FunctionsApart_L0 Vm.bad spec_FunctionsApart_K N list_ maps m_ := by
  induction m_ with
  | zero => rfl
  | succ m_ ih =>
    funext k
    show spec_FunctionsApart_B0 N (loopN (spec_FunctionsApart_B0 N) m_) (spec_FunctionsApart_m0 list_ maps k) = _
    rw [spec_FunctionsApart_b0 N list_ maps]
    have e1 := funext fun k => spec_FunctionsApart_n1 N (loopN (spec_FunctionsApart_B0 N) m_) list_ maps k N
    rw [e1]
    rw [ih]
    rfl
theorem spec_FunctionsApart_r (N : Nat) (list_ : Rows) (maps : Rows) : runF Try.prog spec_FunctionsApart_G spec_FunctionsApart_A N Try.f21 spec_FunctionsApart_s (.sl list_ :: (.sl maps :: ([]))) = spec_FunctionsApart_f Vm.bad spec_FunctionsApart_K N list_ maps := by
  have run_ : runF Try.prog spec_FunctionsApart_G spec_FunctionsApart_A N Try.f21 spec_FunctionsApart_s (.sl list_ :: (.sl maps :: ([]))) = spec_FunctionsApart_t Vm.bad spec_FunctionsApart_K (fun k => loopN (spec_FunctionsApart_B0 N) N (spec_FunctionsApart_m0 list_ maps k)) list_ maps := by kernel_rfl
  refine run_.trans ?_
  unfold spec_FunctionsApart_f
  have e0 : (fun k => loopN (spec_FunctionsApart_B0 N) N (spec_FunctionsApart_m0 list_ maps k)) = (spec_FunctionsApart_L0 Vm.bad spec_FunctionsApart_K N list_ maps N) := by
    exact spec_FunctionsApart_n0 N list_ maps N
  exact congrArg (fun l_ => spec_FunctionsApart_t Vm.bad spec_FunctionsApart_K l_ list_ maps) e0
theorem spec_FunctionsApart_h : Holds Try.prog 21 spec_FunctionsApart_s := by
  refine holds_of_run (A := spec_FunctionsApart_A) spec_FunctionsApart_x Try.func21 rfl (by kernel_rfl) (of_decide_eq_true (by kernel_rfl)) (of_decide_eq_true (by kernel_rfl)) ?_
  intro ds hw hok
  replace hw : WtL ((.sl [.int .i64, .int .i64, .int .i64, .int .i64, .int .i64, .bool, .int .i64, .int .i64]) :: ((.sl [.int .i64, .int .i64, .int .i64, .bool]) :: ([]))) ds := hw
  obtain ⟨list_, ds, rfl, h_list_, hw⟩ := of_wt_sl hw
  obtain ⟨maps, ds, rfl, h_maps, hw⟩ := of_wt_sl hw
  obtain rfl := of_wt_nil hw
  obtain ⟨N, hN⟩ := spec_FunctionsApart_c Vm.bad spec_FunctionsApart_K list_ maps h_list_ h_maps
  exact ⟨N, ((spec_FunctionsApart_r N list_ maps).trans hN).trans (by kernel_rfl)⟩

end
end Go.Proofs.Ytfnkhejoihnlnaa.Pl
