/- The contracts of functions of the program: each computes what its plain form says. Conditions: none. -/
import Derived.Test.YtfnkhejoihnlnaaPMl
import Derived.Test.YtfnkhejoihnlnaaRows
import Derived.Test.YtfnkhejoihnlnaaBMf
import Derived.Test.YtfnkhejoihnlnaaBDc
import Derived.Test.YtfnkhejoihnlnaaBCl
set_option linter.unusedVariables false
set_option linter.unusedSimpArgs false
set_option maxRecDepth 100000
namespace Go.Proofs.Ytfnkhejoihnlnaa.Pl
open Vm
noncomputable section

def laws_has_s : Sum := { ps := [⟨[.sl [.int .i64]], false⟩, ⟨[.int .i64], false⟩], rs := [⟨[.imm .bool], false⟩], fn := fun ds => (true, [.bool (hasInt (rR ds 0) (rI ds 1))]) }
def laws_has_G : Ctx := []
theorem laws_has_x : CtxHolds Try.prog laws_has_G := ctx_nil
def laws_has_A : List (Nat × Ann) := [(2, { slots := [(0, .asis), (1, .asis), (5, .asis)], boxes := [] })]
def laws_has_K : Bool → Res := (fun r0 => ((true, [.bool r0]) : Res))
def laws_has_m0 (list_ : Rows) (k : Int) (i : Int) : St := { n := 18, sl := [(0, .sl [.int .i64] list_), (1, .int .i64 k), (5, .int .i64 i)], hp := [], ok := true, ls := [], lm := [] }
noncomputable def laws_has_B0 (N : Nat) : (St → Res) → St → Res := loopB Try.prog laws_has_G laws_has_A N Try.f44 laws_has_s [true, false, true, false] []
theorem laws_has_b0 (N : Nat) (list_ : Rows) (k : Int) (ih : St → Res) (i : Int) : laws_has_B0 N ih (laws_has_m0 list_ k i) = laws_has_l0 Vm.bad laws_has_K list_ k (fun i => ih (laws_has_m0 list_ k i)) i := by kernel_rfl
theorem laws_has_n0 (N : Nat) (list_ : Rows) (k : Int) (m_ : Nat) : (fun i => loopN (laws_has_B0 N) m_ (laws_has_m0 list_ k i)) = laws_has_L0 Vm.bad laws_has_K N list_ k m_ := by
  induction m_ with
  | zero => rfl
  | succ m_ ih =>
    funext i
    show laws_has_B0 N (loopN (laws_has_B0 N) m_) (laws_has_m0 list_ k i) = _
    rw [laws_has_b0 N list_ k]
    rw [ih]
    rfl
theorem laws_has_r (N : Nat) (list_ : Rows) (k : Int) : runF Try.prog laws_has_G laws_has_A N Try.f44 laws_has_s (.sl list_ :: (.int k :: ([]))) = laws_has_f Vm.bad laws_has_K N list_ k := by
  have run_ : runF Try.prog laws_has_G laws_has_A N Try.f44 laws_has_s (.sl list_ :: (.int k :: ([]))) = laws_has_t Vm.bad laws_has_K (fun i => loopN (laws_has_B0 N) N (laws_has_m0 list_ k i)) list_ k := by kernel_rfl
  refine run_.trans ?_
  unfold laws_has_f
  have e0 : (fun i => loopN (laws_has_B0 N) N (laws_has_m0 list_ k i)) = (laws_has_L0 Vm.bad laws_has_K N list_ k N) := by
    exact laws_has_n0 N list_ k N
  exact congrArg (fun l_ => laws_has_t Vm.bad laws_has_K l_ list_ k) e0
theorem laws_has_h : Holds Try.prog 44 laws_has_s := by
  refine holds_of_run (A := laws_has_A) laws_has_x Try.func44 rfl (by kernel_rfl) (of_decide_eq_true (by kernel_rfl)) (of_decide_eq_true (by kernel_rfl)) ?_
  intro ds hw hok
  replace hw : WtL ((.sl [.int .i64]) :: ((.int .i64) :: ([]))) ds := hw
  obtain ⟨list_, ds, rfl, h_list_, hw⟩ := of_wt_sl hw
  obtain ⟨k, ds, rfl, h_k, hw⟩ := of_wt_int hw
  obtain rfl := of_wt_nil hw
  obtain ⟨N, hN⟩ := laws_has_c Vm.bad laws_has_K list_ k h_list_ h_k
  exact ⟨N, ((laws_has_r N list_ k).trans hN).trans (by kernel_rfl)⟩

def laws_FnFunctionsApart_s : Sum := { ps := [⟨[.sl [.int .u8]], false⟩], rs := [⟨[.imm .bool], false⟩], fn := fun ds => (fitL ((.sl [.int .u8]) :: ([])) ds, [.bool true]) }
def laws_FnFunctionsApart_G : Ctx := [(23, impl_FunctionsApart_s), (28, impl_FunctionsOk_s), (32, impl_GrantPages_s), (37, laws_big_s), (38, spec_DrawFunctions_s), (39, spec_NewMemory_s), (40, laws_at_s), (41, impl_DmaWrite_s), (42, impl_ChangedPages_s), (43, impl_WritablePages_s), (44, laws_has_s)]
theorem laws_FnFunctionsApart_x : CtxHolds Try.prog laws_FnFunctionsApart_G := ctx_cons impl_FunctionsApart_h (ctx_cons impl_FunctionsOk_h (ctx_cons impl_GrantPages_h (ctx_cons laws_big_h (ctx_cons spec_DrawFunctions_h (ctx_cons spec_NewMemory_h (ctx_cons laws_at_h (ctx_cons impl_DmaWrite_h (ctx_cons impl_ChangedPages_h (ctx_cons impl_WritablePages_h (ctx_cons laws_has_h ctx_nil))))))))))
def laws_FnFunctionsApart_A : List (Nat × Ann) := [(9, { slots := [(3, .asis), (4, .asis), (5, .asis), (7, .asis), (8, .asis), (10, .asis), (11, .asis)], boxes := [(384, []), (512, [])] }), (13, { slots := [(3, .asis), (4, .asis), (5, .asis), (7, .asis), (8, .asis), (10, .asis), (11, .asis), (12, .asis), (13, .asis)], boxes := [(384, []), (512, [])] })]
def laws_FnFunctionsApart_K : Bool → Res := (fun r0 => ((true, [.bool r0]) : Res))
def laws_FnFunctionsApart_m0 (k : Int) (i : Int) (list_ : Rows) (ports : Rows) (maps : Rows) (changed : Rows) (m_0 : Rows) (n_0 : Rows) : St := { n := 111, sl := [(3, .own 640192), (4, .own 640256), (5, .own 640320), (7, .int .i64 k), (8, .ptr 512 0), (10, .own 640640), (11, .int .i64 i)], hp := [(384, .box 58 [.own 1378304]), (512, .box 58 [.own 1411072]), (640192, .row 66 [.int .i64, .int .i64, .int .i64, .int .i64, .int .i64, .bool, .int .i64, .int .i64] list_ false true), (640256, .row 105 [.int .i64, .sl [.int .i64], .int .i64, .bool] ports false true), (640320, .row 95 [.int .i64, .int .i64, .int .i64, .bool] maps false true), (640640, .row 3 [.int .i64] changed false true), (1378304, .row 9 [.str] m_0 false true), (1411072, .row 9 [.str] n_0 false true)], ok := true, ls := [], lm := [] }
def laws_FnFunctionsApart_m1 (k : Int) (i : Int) (j : Int) (list_ : Rows) (ports : Rows) (maps : Rows) (changed : Rows) (pages : Rows) (m_0 : Rows) (n_0 : Rows) : St := { n := 111, sl := [(3, .own 640192), (4, .own 640256), (5, .own 640320), (7, .int .i64 k), (8, .ptr 512 0), (10, .own 640640), (11, .int .i64 i), (12, .own 640768), (13, .int .i64 j)], hp := [(384, .box 58 [.own 1378304]), (512, .box 58 [.own 1411072]), (640192, .row 66 [.int .i64, .int .i64, .int .i64, .int .i64, .int .i64, .bool, .int .i64, .int .i64] list_ false true), (640256, .row 105 [.int .i64, .sl [.int .i64], .int .i64, .bool] ports false true), (640320, .row 95 [.int .i64, .int .i64, .int .i64, .bool] maps false true), (640640, .row 3 [.int .i64] changed false true), (640768, .row 3 [.int .i64] pages false true), (1378304, .row 9 [.str] m_0 false true), (1411072, .row 9 [.str] n_0 false true)], ok := true, ls := [], lm := [] }
noncomputable def laws_FnFunctionsApart_B1 (N : Nat) (o0 : St → Res) : (St → Res) → St → Res := loopB Try.prog laws_FnFunctionsApart_G laws_FnFunctionsApart_A N Try.f8 laws_FnFunctionsApart_s [true, true, true, true, true, true, true, false, true, false, false, true, false, false, true, true, false] [o0]
noncomputable def laws_FnFunctionsApart_B0 (N : Nat) : (St → Res) → St → Res := loopB Try.prog laws_FnFunctionsApart_G laws_FnFunctionsApart_A N Try.f8 laws_FnFunctionsApart_s [true, true, true, true, true, true, true, false, true, false] []
theorem laws_FnFunctionsApart_b1 (N : Nat) (o0 : St → Res) (k : Int) (i : Int) (list_ : Rows) (ports : Rows) (maps : Rows) (changed : Rows) (pages : Rows) (m_0 : Rows) (n_0 : Rows) (ih : St → Res) (j : Int) : laws_FnFunctionsApart_B1 N o0 ih (laws_FnFunctionsApart_m1 k i j list_ ports maps changed pages m_0 n_0) = laws_FnFunctionsApart_l1 Vm.bad laws_FnFunctionsApart_K (fun i => o0 (laws_FnFunctionsApart_m0 k i list_ ports maps changed m_0 n_0)) k i changed pages (fun j => ih (laws_FnFunctionsApart_m1 k i j list_ ports maps changed pages m_0 n_0)) j := by kernel_rfl
theorem laws_FnFunctionsApart_n1 (N : Nat) (o0 : St → Res) (k : Int) (i : Int) (list_ : Rows) (ports : Rows) (maps : Rows) (changed : Rows) (pages : Rows) (m_0 : Rows) (n_0 : Rows) (m_ : Nat) : (fun j => loopN (laws_FnFunctionsApart_B1 N o0) m_ (laws_FnFunctionsApart_m1 k i j list_ ports maps changed pages m_0 n_0)) = laws_FnFunctionsApart_L1 Vm.bad laws_FnFunctionsApart_K N (fun i => o0 (laws_FnFunctionsApart_m0 k i list_ ports maps changed m_0 n_0)) k i changed pages m_ := by
  induction m_ with
  | zero => rfl
  | succ m_ ih =>
    funext j
    show laws_FnFunctionsApart_B1 N o0 (loopN (laws_FnFunctionsApart_B1 N o0) m_) (laws_FnFunctionsApart_m1 k i j list_ ports maps changed pages m_0 n_0) = _
    rw [laws_FnFunctionsApart_b1 N o0 k i list_ ports maps changed pages m_0 n_0]
    rw [ih]
    rfl
theorem laws_FnFunctionsApart_b0 (N : Nat) (k : Int) (list_ : Rows) (ports : Rows) (maps : Rows) (changed : Rows) (m_0 : Rows) (n_0 : Rows) (ih : St → Res) (i : Int) : laws_FnFunctionsApart_B0 N ih (laws_FnFunctionsApart_m0 k i list_ ports maps changed m_0 n_0) = laws_FnFunctionsApart_l0 Vm.bad laws_FnFunctionsApart_K (fun i pages j => loopN (laws_FnFunctionsApart_B1 N ih) N (laws_FnFunctionsApart_m1 k i j list_ ports maps changed pages m_0 n_0)) k list_ ports maps changed n_0 (fun i => ih (laws_FnFunctionsApart_m0 k i list_ ports maps changed m_0 n_0)) i := by kernel_rfl
theorem laws_FnFunctionsApart_n0 (N : Nat) (k : Int) (list_ : Rows) (ports : Rows) (maps : Rows) (changed : Rows) (m_0 : Rows) (n_0 : Rows) (m_ : Nat) : (fun i => loopN (laws_FnFunctionsApart_B0 N) m_ (laws_FnFunctionsApart_m0 k i list_ ports maps changed m_0 n_0)) = laws_FnFunctionsApart_L0 Vm.bad laws_FnFunctionsApart_K N k list_ ports maps changed n_0 m_ := by
  induction m_ with
  | zero => rfl
  | succ m_ ih =>
    funext i
    show laws_FnFunctionsApart_B0 N (loopN (laws_FnFunctionsApart_B0 N) m_) (laws_FnFunctionsApart_m0 k i list_ ports maps changed m_0 n_0) = _
    rw [laws_FnFunctionsApart_b0 N k list_ ports maps changed m_0 n_0]
    have e1 := funext fun i => funext fun pages => laws_FnFunctionsApart_n1 N (loopN (laws_FnFunctionsApart_B0 N) m_) k i list_ ports maps changed pages m_0 n_0 N
    rw [e1]
    rw [ih]
    rfl
theorem laws_FnFunctionsApart_r (N : Nat) (code : Rows) : runF Try.prog laws_FnFunctionsApart_G laws_FnFunctionsApart_A N Try.f8 laws_FnFunctionsApart_s (.sl code :: ([])) = laws_FnFunctionsApart_f Vm.bad laws_FnFunctionsApart_K N code := by
  have run_ : runF Try.prog laws_FnFunctionsApart_G laws_FnFunctionsApart_A N Try.f8 laws_FnFunctionsApart_s (.sl code :: ([])) = laws_FnFunctionsApart_t Vm.bad laws_FnFunctionsApart_K (fun k list_ ports maps changed n_0 i => loopN (laws_FnFunctionsApart_B0 N) N (laws_FnFunctionsApart_m0 k i list_ ports maps changed ((NewMemory 16).Pages) n_0)) code := by kernel_rfl
  refine run_.trans ?_
  unfold laws_FnFunctionsApart_f
  have e0 : (fun k list_ ports maps changed n_0 i => loopN (laws_FnFunctionsApart_B0 N) N (laws_FnFunctionsApart_m0 k i list_ ports maps changed ((NewMemory 16).Pages) n_0)) = (fun k list_ ports maps changed n_0 => laws_FnFunctionsApart_L0 Vm.bad laws_FnFunctionsApart_K N k list_ ports maps changed n_0 N) := by
    funext k list_ ports maps changed n_0
    exact laws_FnFunctionsApart_n0 N k list_ ports maps changed ((NewMemory 16).Pages) n_0 N
  exact congrArg (fun l_ => laws_FnFunctionsApart_t Vm.bad laws_FnFunctionsApart_K l_ code) e0
theorem laws_FnFunctionsApart_h : Holds Try.prog 8 laws_FnFunctionsApart_s := by
  refine holds_of_run (A := laws_FnFunctionsApart_A) laws_FnFunctionsApart_x Try.func8 rfl (by kernel_rfl) (of_decide_eq_true (by kernel_rfl)) (of_decide_eq_true (by kernel_rfl)) ?_
  intro ds hw hok
  replace hw : WtL ((.sl [.int .u8]) :: ([])) ds := hw
  obtain ⟨code, ds, rfl, h_code, hw⟩ := of_wt_sl hw
  obtain rfl := of_wt_nil hw
  obtain ⟨N, hN⟩ := laws_FnFunctionsApart_c Vm.bad laws_FnFunctionsApart_K code h_code hok
  exact ⟨N, ((laws_FnFunctionsApart_r N code).trans hN).trans (by kernel_rfl)⟩

end
end Go.Proofs.Ytfnkhejoihnlnaa.Pl
