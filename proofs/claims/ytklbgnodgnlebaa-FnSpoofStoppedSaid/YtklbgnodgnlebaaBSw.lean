/- The contracts of functions of the program: each computes what its plain form says. Conditions: none. -/
import Derived.Test.YtklbgnodgnlebaaPSw
import Derived.Test.YtklbgnodgnlebaaRows
import Derived.Test.YtklbgnodgnlebaaBBa
set_option linter.unusedVariables false
set_option linter.unusedSimpArgs false
set_option maxRecDepth 100000
namespace Go.Proofs.Ytklbgnodgnlebaa.Pl
open Vm
noncomputable section

def impl_filterOf_s : Sum := { ps := [⟨[.int .i64, .sl [.int .i64], .int .i64, .bool], true⟩], rs := [⟨[.imm (.int .i64), .imm .bool, .imm (.sl [.int .i64])], true⟩], fn := fun ds => (true, SFilter.enc (filterOf (SPort.decAt ds 0))) }
def impl_filterOf_G : Ctx := []
theorem impl_filterOf_x : CtxHolds Try.prog impl_filterOf_G := ctx_nil
def impl_filterOf_A : List (Nat × Ann) := []
theorem impl_filterOf_r (N : Nat) (x : SPort) : runF Try.prog impl_filterOf_G impl_filterOf_A N Try.f47 impl_filterOf_s (x.enc ++ ([])) = impl_filterOf_t (fun r0 => ((true, SFilter.enc r0) : Res)) x := by kernel_rfl
theorem impl_filterOf_h : Holds Try.prog 47 impl_filterOf_s := by
  refine holds_of_run (A := impl_filterOf_A) impl_filterOf_x Try.func47 rfl (by kernel_rfl) (of_decide_eq_true (by kernel_rfl)) (of_decide_eq_true (by kernel_rfl)) ?_
  intro ds hw hok
  replace hw : WtL (SPort.ct ++ ([])) ds := hw
  obtain ⟨x, ds, rfl, h_x, hw⟩ := SPort.of_wt (r := _) hw
  obtain rfl := of_wt_nil hw
  exact ⟨0, ((impl_filterOf_r 0 x).trans (impl_filterOf_c _ x)).trans (by kernel_rfl)⟩

def impl_portWith_s : Sum := { ps := [⟨[.sl [.int .i64, .sl [.int .i64], .int .i64, .bool]], false⟩, ⟨[.int .i64], false⟩], rs := [⟨[.imm (.int .i64)], false⟩], fn := fun ds => (true, [.int (portWith (rR ds 0) (rI ds 1))]) }
def impl_portWith_G : Ctx := []
theorem impl_portWith_x : CtxHolds Try.prog impl_portWith_G := ctx_nil
def impl_portWith_A : List (Nat × Ann) := [(2, { slots := [(1, .asis), (7, .asis), (8, .asis), (9, .asis)], boxes := [] })]
def impl_portWith_K : Int → Res := (fun r0 => ((true, [.int r0]) : Res))
def impl_portWith_m0 (mac : Int) (list_ : Rows) (x_1 : Int) (x_2 : Int) : St := { n := 24, sl := [(1, .int .i64 mac), (7, .sl [.int .i64, .sl [.int .i64], .int .i64, .bool] list_), (8, .int .i64 x_1), (9, .int .i64 x_2)], hp := [], ok := true, ls := [], lm := [] }
noncomputable def impl_portWith_B0 (N : Nat) : (St → Res) → St → Res := loopB Try.prog impl_portWith_G impl_portWith_A N Try.f49 impl_portWith_s [true, false, true, false] []
theorem impl_portWith_b0 (N : Nat) (mac : Int) (list_ : Rows) (x_1 : Int) (ih : St → Res) (x_2 : Int) : impl_portWith_B0 N ih (impl_portWith_m0 mac list_ x_1 x_2) = impl_portWith_l0 Vm.bad impl_portWith_K mac list_ x_1 (fun x_2 => ih (impl_portWith_m0 mac list_ x_1 x_2)) x_2 := by kernel_rfl
theorem impl_portWith_n0 (N : Nat) (mac : Int) (list_ : Rows) (x_1 : Int) (m_ : Nat) : (fun x_2 => loopN (impl_portWith_B0 N) m_ (impl_portWith_m0 mac list_ x_1 x_2)) = impl_portWith_L0 Vm.bad impl_portWith_K N mac list_ x_1 m_ := by
  induction m_ with
  | zero => rfl
  | succ m_ ih =>
    funext x_2
    show impl_portWith_B0 N (loopN (impl_portWith_B0 N) m_) (impl_portWith_m0 mac list_ x_1 x_2) = _
    rw [impl_portWith_b0 N mac list_ x_1]
    rw [ih]
    rfl
theorem impl_portWith_r (N : Nat) (list_ : Rows) (mac : Int) : runF Try.prog impl_portWith_G impl_portWith_A N Try.f49 impl_portWith_s (.sl list_ :: (.int mac :: ([]))) = impl_portWith_f Vm.bad impl_portWith_K N list_ mac := by
  have run_ : runF Try.prog impl_portWith_G impl_portWith_A N Try.f49 impl_portWith_s (.sl list_ :: (.int mac :: ([]))) = impl_portWith_t Vm.bad impl_portWith_K (fun x_1 x_2 => loopN (impl_portWith_B0 N) N (impl_portWith_m0 mac list_ x_1 x_2)) list_ mac := by kernel_rfl
  refine run_.trans ?_
  unfold impl_portWith_f
  have e0 : (fun x_1 x_2 => loopN (impl_portWith_B0 N) N (impl_portWith_m0 mac list_ x_1 x_2)) = (fun x_1 => impl_portWith_L0 Vm.bad impl_portWith_K N mac list_ x_1 N) := by
    funext x_1
    exact impl_portWith_n0 N mac list_ x_1 N
  exact congrArg (fun l_ => impl_portWith_t Vm.bad impl_portWith_K l_ list_ mac) e0
theorem impl_portWith_h : Holds Try.prog 49 impl_portWith_s := by
  refine holds_of_run (A := impl_portWith_A) impl_portWith_x Try.func49 rfl (by kernel_rfl) (of_decide_eq_true (by kernel_rfl)) (of_decide_eq_true (by kernel_rfl)) ?_
  intro ds hw hok
  replace hw : WtL ((.sl [.int .i64, .sl [.int .i64], .int .i64, .bool]) :: ((.int .i64) :: ([]))) ds := hw
  obtain ⟨list_, ds, rfl, h_list_, hw⟩ := of_wt_sl hw
  obtain ⟨mac, ds, rfl, h_mac, hw⟩ := of_wt_int hw
  obtain rfl := of_wt_nil hw
  obtain ⟨N, hN⟩ := impl_portWith_c Vm.bad impl_portWith_K list_ mac h_list_ h_mac
  exact ⟨N, ((impl_portWith_r N list_ mac).trans hN).trans (by kernel_rfl)⟩

def impl_PortsOk_s : Sum := { ps := [⟨[.sl [.int .i64, .sl [.int .i64], .int .i64, .bool]], false⟩], rs := [⟨[.imm .bool], false⟩], fn := fun ds => (true, [.bool (PortsOk (rR ds 0))]) }
def impl_PortsOk_G : Ctx := [(45, impl_between_s), (46, impl_FilterOk_s), (47, impl_filterOf_s), (48, impl_hasInt_s), (49, impl_portWith_s)]
theorem impl_PortsOk_x : CtxHolds Try.prog impl_PortsOk_G := ctx_cons impl_between_h (ctx_cons impl_FilterOk_h (ctx_cons impl_filterOf_h (ctx_cons impl_hasInt_h (ctx_cons impl_portWith_h ctx_nil))))
def impl_PortsOk_A : List (Nat × Ann) := [(4, { slots := [(0, .asis), (9, .asis), (10, .asis), (11, .asis)], boxes := [] })]
def impl_PortsOk_K : Bool → Res := (fun r0 => ((true, [.bool r0]) : Res))
def impl_PortsOk_m0 (list_ : Rows) (x : Rows) (x_1 : Int) (x_2 : Int) : St := { n := 39, sl := [(0, .sl [.int .i64, .sl [.int .i64], .int .i64, .bool] list_), (9, .sl [.int .i64, .sl [.int .i64], .int .i64, .bool] x), (10, .int .i64 x_1), (11, .int .i64 x_2)], hp := [], ok := true, ls := [], lm := [] }
noncomputable def impl_PortsOk_B0 (N : Nat) : (St → Res) → St → Res := loopB Try.prog impl_PortsOk_G impl_PortsOk_A N Try.f13 impl_PortsOk_s [true, true, false, true, false] []
theorem impl_PortsOk_b0 (N : Nat) (list_ : Rows) (x : Rows) (x_1 : Int) (ih : St → Res) (x_2 : Int) : impl_PortsOk_B0 N ih (impl_PortsOk_m0 list_ x x_1 x_2) = impl_PortsOk_l0 Vm.bad impl_PortsOk_K list_ x x_1 (fun x_2 => ih (impl_PortsOk_m0 list_ x x_1 x_2)) x_2 := by kernel_rfl
theorem impl_PortsOk_n0 (N : Nat) (list_ : Rows) (x : Rows) (x_1 : Int) (m_ : Nat) : (fun x_2 => loopN (impl_PortsOk_B0 N) m_ (impl_PortsOk_m0 list_ x x_1 x_2)) = impl_PortsOk_L0 Vm.bad impl_PortsOk_K N list_ x x_1 m_ := by
  induction m_ with
  | zero => rfl
  | succ m_ ih =>
    funext x_2
    show impl_PortsOk_B0 N (loopN (impl_PortsOk_B0 N) m_) (impl_PortsOk_m0 list_ x x_1 x_2) = _
    rw [impl_PortsOk_b0 N list_ x x_1]
    rw [ih]
    rfl
theorem impl_PortsOk_r (N : Nat) (list_ : Rows) : runF Try.prog impl_PortsOk_G impl_PortsOk_A N Try.f13 impl_PortsOk_s (.sl list_ :: ([])) = impl_PortsOk_f Vm.bad impl_PortsOk_K N list_ := by
  have run_ : runF Try.prog impl_PortsOk_G impl_PortsOk_A N Try.f13 impl_PortsOk_s (.sl list_ :: ([])) = impl_PortsOk_t Vm.bad impl_PortsOk_K (fun x x_1 x_2 => loopN (impl_PortsOk_B0 N) N (impl_PortsOk_m0 list_ x x_1 x_2)) list_ := by kernel_rfl
  refine run_.trans ?_
  unfold impl_PortsOk_f
  have e0 : (fun x x_1 x_2 => loopN (impl_PortsOk_B0 N) N (impl_PortsOk_m0 list_ x x_1 x_2)) = (fun x x_1 => impl_PortsOk_L0 Vm.bad impl_PortsOk_K N list_ x x_1 N) := by
    funext x x_1
    exact impl_PortsOk_n0 N list_ x x_1 N
  exact congrArg (fun l_ => impl_PortsOk_t Vm.bad impl_PortsOk_K l_ list_) e0
theorem impl_PortsOk_h : Holds Try.prog 13 impl_PortsOk_s := by
  refine holds_of_run (A := impl_PortsOk_A) impl_PortsOk_x Try.func13 rfl (by kernel_rfl) (of_decide_eq_true (by kernel_rfl)) (of_decide_eq_true (by kernel_rfl)) ?_
  intro ds hw hok
  replace hw : WtL ((.sl [.int .i64, .sl [.int .i64], .int .i64, .bool]) :: ([])) ds := hw
  obtain ⟨list_, ds, rfl, h_list_, hw⟩ := of_wt_sl hw
  obtain rfl := of_wt_nil hw
  obtain ⟨N, hN⟩ := impl_PortsOk_c Vm.bad impl_PortsOk_K list_ h_list_
  exact ⟨N, ((impl_PortsOk_r N list_).trans hN).trans (by kernel_rfl)⟩

def spec_PortsOk_s : Sum := { ps := [⟨[.sl [.int .i64, .sl [.int .i64], .int .i64, .bool]], false⟩], rs := [⟨[.imm .bool], false⟩], fn := fun ds => (true, [.bool (PortsOk (rR ds 0))]) }
def spec_PortsOk_G : Ctx := [(41, spec_l01In_s), (42, spec_FilterOk_s), (43, spec_l24Has_s)]
theorem spec_PortsOk_x : CtxHolds Try.prog spec_PortsOk_G := ctx_cons spec_l01In_h (ctx_cons spec_FilterOk_h (ctx_cons spec_l24Has_h ctx_nil))
def spec_PortsOk_A : List (Nat × Ann) := [(4, { slots := [(0, .asis), (3, .asis)], boxes := [] }), (9, { slots := [(0, .asis), (3, .asis), (4, .asis)], boxes := [] })]
def spec_PortsOk_K : Bool → Res := (fun r0 => ((true, [.bool r0]) : Res))
def spec_PortsOk_m0 (list_ : Rows) (k : Int) : St := { n := 58, sl := [(0, .sl [.int .i64, .sl [.int .i64], .int .i64, .bool] list_), (3, .int .i64 k)], hp := [], ok := true, ls := [], lm := [] }
def spec_PortsOk_m1 (list_ : Rows) (k : Int) (i : Int) : St := { n := 58, sl := [(0, .sl [.int .i64, .sl [.int .i64], .int .i64, .bool] list_), (3, .int .i64 k), (4, .int .i64 i)], hp := [], ok := true, ls := [], lm := [] }
noncomputable def spec_PortsOk_B1 (N : Nat) (o0 : St → Res) : (St → Res) → St → Res := loopB Try.prog spec_PortsOk_G spec_PortsOk_A N Try.f11 spec_PortsOk_s [true, true, false, true, false, false, true, false, false, true, true, false] [o0]
noncomputable def spec_PortsOk_B0 (N : Nat) : (St → Res) → St → Res := loopB Try.prog spec_PortsOk_G spec_PortsOk_A N Try.f11 spec_PortsOk_s [true, true, false, true, false] []
theorem spec_PortsOk_b1 (N : Nat) (o0 : St → Res) (list_ : Rows) (k : Int) (ih : St → Res) (i : Int) : spec_PortsOk_B1 N o0 ih (spec_PortsOk_m1 list_ k i) = spec_PortsOk_l1 Vm.bad spec_PortsOk_K (fun k => o0 (spec_PortsOk_m0 list_ k)) list_ k (fun i => ih (spec_PortsOk_m1 list_ k i)) i := by kernel_rfl
theorem spec_PortsOk_n1 (N : Nat) (o0 : St → Res) (list_ : Rows) (k : Int) (m_ : Nat) : (fun i => loopN (spec_PortsOk_B1 N o0) m_ (spec_PortsOk_m1 list_ k i)) = spec_PortsOk_L1 Vm.bad spec_PortsOk_K N (fun k => o0 (spec_PortsOk_m0 list_ k)) list_ k m_ := by
  induction m_ with
  | zero => rfl
  | succ m_ ih =>
    funext i
    show spec_PortsOk_B1 N o0 (loopN (spec_PortsOk_B1 N o0) m_) (spec_PortsOk_m1 list_ k i) = _
    rw [spec_PortsOk_b1 N o0 list_ k]
    rw [ih]
    rfl
theorem spec_PortsOk_b0 (N : Nat) (list_ : Rows) (ih : St → Res) (k : Int) : spec_PortsOk_B0 N ih (spec_PortsOk_m0 list_ k) = spec_PortsOk_l0 Vm.bad spec_PortsOk_K (fun k i => loopN (spec_PortsOk_B1 N ih) N (spec_PortsOk_m1 list_ k i)) list_ (fun k => ih (spec_PortsOk_m0 list_ k)) k := by kernel_rfl
theorem spec_PortsOk_n0 (N : Nat) (list_ : Rows) (m_ : Nat) : (fun k => loopN (spec_PortsOk_B0 N) m_ (spec_PortsOk_m0 list_ k)) = spec_PortsOk_L0 Vm.bad spec_PortsOk_K N list_ m_ := by
  induction m_ with
  | zero => rfl
  | succ m_ ih =>
    funext k
    show spec_PortsOk_B0 N (loopN (spec_PortsOk_B0 N) m_) (spec_PortsOk_m0 list_ k) = _
    rw [spec_PortsOk_b0 N list_]
    have e1 := funext fun k => spec_PortsOk_n1 N (loopN (spec_PortsOk_B0 N) m_) list_ k N
    rw [e1]
    rw [ih]
    rfl
theorem spec_PortsOk_r (N : Nat) (list_ : Rows) : runF Try.prog spec_PortsOk_G spec_PortsOk_A N Try.f11 spec_PortsOk_s (.sl list_ :: ([])) = spec_PortsOk_f Vm.bad spec_PortsOk_K N list_ := by
  have run_ : runF Try.prog spec_PortsOk_G spec_PortsOk_A N Try.f11 spec_PortsOk_s (.sl list_ :: ([])) = spec_PortsOk_t Vm.bad spec_PortsOk_K (fun k => loopN (spec_PortsOk_B0 N) N (spec_PortsOk_m0 list_ k)) list_ := by kernel_rfl
  refine run_.trans ?_
  unfold spec_PortsOk_f
  have e0 : (fun k => loopN (spec_PortsOk_B0 N) N (spec_PortsOk_m0 list_ k)) = (spec_PortsOk_L0 Vm.bad spec_PortsOk_K N list_ N) := by
    exact spec_PortsOk_n0 N list_ N
  exact congrArg (fun l_ => spec_PortsOk_t Vm.bad spec_PortsOk_K l_ list_) e0
theorem spec_PortsOk_h : Holds Try.prog 11 spec_PortsOk_s := by
  refine holds_of_run (A := spec_PortsOk_A) spec_PortsOk_x Try.func11 rfl (by kernel_rfl) (of_decide_eq_true (by kernel_rfl)) (of_decide_eq_true (by kernel_rfl)) ?_
  intro ds hw hok
  replace hw : WtL ((.sl [.int .i64, .sl [.int .i64], .int .i64, .bool]) :: ([])) ds := hw
  obtain ⟨list_, ds, rfl, h_list_, hw⟩ := of_wt_sl hw
  obtain rfl := of_wt_nil hw
  obtain ⟨N, hN⟩ := spec_PortsOk_c Vm.bad spec_PortsOk_K list_ h_list_
  exact ⟨N, ((spec_PortsOk_r N list_).trans hN).trans (by kernel_rfl)⟩

def laws_FnExactPortsOk_s : Sum := { ps := [⟨[.sl [.int .i64, .sl [.int .i64], .int .i64, .bool]], false⟩], rs := [⟨[.imm .bool], false⟩], fn := fun ds => (fitL ((.sl [.int .i64, .sl [.int .i64], .int .i64, .bool]) :: ([])) ds, [.bool true]) }
def laws_FnExactPortsOk_G : Ctx := [(10, laws_szPortS_s), (11, spec_PortsOk_s), (12, laws_toPortS_s), (13, impl_PortsOk_s), (14, laws_eqPortS_s)]
theorem laws_FnExactPortsOk_x : CtxHolds Try.prog laws_FnExactPortsOk_G := ctx_cons laws_szPortS_h (ctx_cons spec_PortsOk_h (ctx_cons laws_toPortS_h (ctx_cons impl_PortsOk_h (ctx_cons laws_eqPortS_h ctx_nil))))
def laws_FnExactPortsOk_A : List (Nat × Ann) := []
theorem laws_FnExactPortsOk_r (N : Nat) (aList : Rows) : runF Try.prog laws_FnExactPortsOk_G laws_FnExactPortsOk_A N Try.f3 laws_FnExactPortsOk_s (.sl aList :: ([])) = laws_FnExactPortsOk_t Vm.bad (fun r0 => ((true, [.bool r0]) : Res)) aList := by kernel_rfl
theorem laws_FnExactPortsOk_h : Holds Try.prog 3 laws_FnExactPortsOk_s := by
  refine holds_of_run (A := laws_FnExactPortsOk_A) laws_FnExactPortsOk_x Try.func3 rfl (by kernel_rfl) (of_decide_eq_true (by kernel_rfl)) (of_decide_eq_true (by kernel_rfl)) ?_
  intro ds hw hok
  replace hw : WtL ((.sl [.int .i64, .sl [.int .i64], .int .i64, .bool]) :: ([])) ds := hw
  obtain ⟨aList, ds, rfl, h_aList, hw⟩ := of_wt_sl hw
  obtain rfl := of_wt_nil hw
  exact ⟨0, ((laws_FnExactPortsOk_r 0 aList).trans (laws_FnExactPortsOk_c Vm.bad _ aList h_aList hok)).trans (by kernel_rfl)⟩

end
end Go.Proofs.Ytklbgnodgnlebaa.Pl
