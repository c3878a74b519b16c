/- The contracts of functions of the program: each computes what its plain form says. Conditions: none. -/
import Derived.Test.YtbcjbeckcgoanaaPPa
import Derived.Test.YtbcjbeckcgoanaaRows
import Derived.Test.YtbcjbeckcgoanaaBBa
set_option linter.unusedVariables false
set_option linter.unusedSimpArgs false
set_option maxRecDepth 100000
namespace Go.Proofs.Ytbcjbeckcgoanaa.Pl
open Vm
noncomputable section

def impl_PauseOk_s : Sum := { ps := [⟨[.int .i64, .int .i64, .int .i64, .int .i64, .int .i64, .bool, .sl [.int .i64], .sl [.bool], .bool, .int .i64], true⟩], rs := [⟨[.imm .bool], false⟩], fn := fun ds => (true, [.bool (PauseOk (SPauseLink.decAt ds 0))]) }
def impl_PauseOk_G : Ctx := [(27, impl_between_s)]
theorem impl_PauseOk_x : CtxHolds Try.prog impl_PauseOk_G := ctx_cons impl_between_h ctx_nil
def impl_PauseOk_A : List (Nat × Ann) := [(4, { slots := [(1, .asis), (48, .asis), (49, .asis), (50, .asis)], boxes := [(64, [])] })]
def impl_PauseOk_K : Bool → Res := (fun r0 => ((true, [.bool r0]) : Res))
def impl_PauseOk_m0 (x : Rows) (x_1 : Int) (x_2 : Int) (p_1 : Int) (p_2 : Int) (p_3 : Int) (p_4 : Int) (p_5 : Int) (p_6 : Bool) (p_7 : Rows) (p_8 : Rows) (p_9 : Bool) (p_10 : Int) : St := { n := 72, sl := [(1, .ptr 64 0), (48, .sl [.int .i64] x), (49, .int .i64 x_1), (50, .int .i64 x_2)], hp := [(64, .box 28 [.int .i64 p_1, .int .i64 p_2, .int .i64 p_3, .int .i64 p_4, .int .i64 p_5, .bool p_6, .sl [.int .i64] p_7, .sl [.bool] p_8, .bool p_9, .int .i64 p_10])], ok := true, ls := [], lm := [] }
noncomputable def impl_PauseOk_B0 (N : Nat) : (St → Res) → St → Res := loopB Try.prog impl_PauseOk_G impl_PauseOk_A N Try.f10 impl_PauseOk_s [true, true, false, true, false] []
theorem impl_PauseOk_b0 (N : Nat) (x : Rows) (x_1 : Int) (p_1 : Int) (p_2 : Int) (p_3 : Int) (p_4 : Int) (p_5 : Int) (p_6 : Bool) (p_7 : Rows) (p_8 : Rows) (p_9 : Bool) (p_10 : Int) (ih : St → Res) (x_2 : Int) : impl_PauseOk_B0 N ih (impl_PauseOk_m0 x x_1 x_2 p_1 p_2 p_3 p_4 p_5 p_6 p_7 p_8 p_9 p_10) = impl_PauseOk_l0 Vm.bad impl_PauseOk_K x x_1 p_4 p_7 p_8 (fun x_2 => ih (impl_PauseOk_m0 x x_1 x_2 p_1 p_2 p_3 p_4 p_5 p_6 p_7 p_8 p_9 p_10)) x_2 := by kernel_rfl
theorem impl_PauseOk_n0 (N : Nat) (x : Rows) (x_1 : Int) (p_1 : Int) (p_2 : Int) (p_3 : Int) (p_4 : Int) (p_5 : Int) (p_6 : Bool) (p_7 : Rows) (p_8 : Rows) (p_9 : Bool) (p_10 : Int) (m_ : Nat) : (fun x_2 => loopN (impl_PauseOk_B0 N) m_ (impl_PauseOk_m0 x x_1 x_2 p_1 p_2 p_3 p_4 p_5 p_6 p_7 p_8 p_9 p_10)) = impl_PauseOk_L0 Vm.bad impl_PauseOk_K N x x_1 p_4 p_7 p_8 m_ := by
  induction m_ with
  | zero => rfl
  | succ m_ ih =>
    funext x_2
    show impl_PauseOk_B0 N (loopN (impl_PauseOk_B0 N) m_) (impl_PauseOk_m0 x x_1 x_2 p_1 p_2 p_3 p_4 p_5 p_6 p_7 p_8 p_9 p_10) = _
    rw [impl_PauseOk_b0 N x x_1 p_1 p_2 p_3 p_4 p_5 p_6 p_7 p_8 p_9 p_10]
    rw [ih]
    rfl
theorem impl_PauseOk_r (N : Nat) (p : SPauseLink) : runF Try.prog impl_PauseOk_G impl_PauseOk_A N Try.f10 impl_PauseOk_s (p.enc ++ ([])) = impl_PauseOk_f Vm.bad impl_PauseOk_K N p := by
  have h : runF Try.prog impl_PauseOk_G impl_PauseOk_A N Try.f10 impl_PauseOk_s (p.enc ++ ([])) = impl_PauseOk_t Vm.bad impl_PauseOk_K (fun x x_1 p_4 p_7 p_8 x_2 => loopN (impl_PauseOk_B0 N) N (impl_PauseOk_m0 x x_1 x_2 p.Capacity p.High p.Low p_4 p.Fill p.Paused p_7 p_8 p.Stopped p.Lost)) p := by kernel_rfl
  refine h.trans ?_
  unfold impl_PauseOk_f
  have e0 : (fun x x_1 p_4 p_7 p_8 x_2 => loopN (impl_PauseOk_B0 N) N (impl_PauseOk_m0 x x_1 x_2 p.Capacity p.High p.Low p_4 p.Fill p.Paused p_7 p_8 p.Stopped p.Lost)) = (fun x x_1 p_4 p_7 p_8 => impl_PauseOk_L0 Vm.bad impl_PauseOk_K N x x_1 p_4 p_7 p_8 N) := by
    funext x x_1 p_4 p_7 p_8
    exact impl_PauseOk_n0 N x x_1 p.Capacity p.High p.Low p_4 p.Fill p.Paused p_7 p_8 p.Stopped p.Lost N
  exact congrArg (fun l_ => impl_PauseOk_t Vm.bad impl_PauseOk_K l_ p) e0
theorem impl_PauseOk_h : Holds Try.prog 10 impl_PauseOk_s := by
  refine holds_of_run (A := impl_PauseOk_A) impl_PauseOk_x Try.func10 rfl (by kernel_rfl) (of_decide_eq_true (by kernel_rfl)) (of_decide_eq_true (by kernel_rfl)) ?_
  intro ds hw hok
  replace hw : WtL (SPauseLink.ct ++ ([])) ds := hw
  obtain ⟨p, ds, rfl, h_p, hw⟩ := SPauseLink.of_wt (r := _) hw
  obtain rfl := of_wt_nil hw
  obtain ⟨N, hN⟩ := impl_PauseOk_c Vm.bad impl_PauseOk_K p h_p
  exact ⟨N, ((impl_PauseOk_r N p).trans hN).trans (by kernel_rfl)⟩

def spec_PauseOk_s : Sum := { ps := [⟨[.int .i64, .int .i64, .int .i64, .int .i64, .int .i64, .bool, .sl [.int .i64], .sl [.bool], .bool, .int .i64], true⟩], rs := [⟨[.imm .bool], false⟩], fn := fun ds => (true, [.bool (PauseOk (SPauseLink.decAt ds 0))]) }
def spec_PauseOk_G : Ctx := [(25, spec_l01In_s)]
theorem spec_PauseOk_x : CtxHolds Try.prog spec_PauseOk_G := ctx_cons spec_l01In_h ctx_nil
def spec_PauseOk_A : List (Nat × Ann) := [(4, { slots := [(1, .asis), (3, .asis)], boxes := [(64, [])] })]
def spec_PauseOk_K : Bool → Res := (fun r0 => ((true, [.bool r0]) : Res))
def spec_PauseOk_m0 (k : Int) (p_1 : Int) (p_2 : Int) (p_3 : Int) (p_4 : Int) (p_5 : Int) (p_6 : Bool) (p_7 : Rows) (p_8 : Rows) (p_9 : Bool) (p_10 : Int) : St := { n := 74, sl := [(1, .ptr 64 0), (3, .int .i64 k)], hp := [(64, .box 28 [.int .i64 p_1, .int .i64 p_2, .int .i64 p_3, .int .i64 p_4, .int .i64 p_5, .bool p_6, .sl [.int .i64] p_7, .sl [.bool] p_8, .bool p_9, .int .i64 p_10])], ok := true, ls := [], lm := [] }
noncomputable def spec_PauseOk_B0 (N : Nat) : (St → Res) → St → Res := loopB Try.prog spec_PauseOk_G spec_PauseOk_A N Try.f8 spec_PauseOk_s [true, true, false, true, false] []
theorem spec_PauseOk_b0 (N : Nat) (p_1 : Int) (p_2 : Int) (p_3 : Int) (p_4 : Int) (p_5 : Int) (p_6 : Bool) (p_7 : Rows) (p_8 : Rows) (p_9 : Bool) (p_10 : Int) (ih : St → Res) (k : Int) : spec_PauseOk_B0 N ih (spec_PauseOk_m0 k p_1 p_2 p_3 p_4 p_5 p_6 p_7 p_8 p_9 p_10) = spec_PauseOk_l0 Vm.bad spec_PauseOk_K p_4 p_7 p_8 (fun k => ih (spec_PauseOk_m0 k p_1 p_2 p_3 p_4 p_5 p_6 p_7 p_8 p_9 p_10)) k := by kernel_rfl
theorem spec_PauseOk_n0 (N : Nat) (p_1 : Int) (p_2 : Int) (p_3 : Int) (p_4 : Int) (p_5 : Int) (p_6 : Bool) (p_7 : Rows) (p_8 : Rows) (p_9 : Bool) (p_10 : Int) (m_ : Nat) : (fun k => loopN (spec_PauseOk_B0 N) m_ (spec_PauseOk_m0 k p_1 p_2 p_3 p_4 p_5 p_6 p_7 p_8 p_9 p_10)) = spec_PauseOk_L0 Vm.bad spec_PauseOk_K N p_4 p_7 p_8 m_ := by
  induction m_ with
  | zero => rfl
  | succ m_ ih =>
    funext k
    show spec_PauseOk_B0 N (loopN (spec_PauseOk_B0 N) m_) (spec_PauseOk_m0 k p_1 p_2 p_3 p_4 p_5 p_6 p_7 p_8 p_9 p_10) = _
    rw [spec_PauseOk_b0 N p_1 p_2 p_3 p_4 p_5 p_6 p_7 p_8 p_9 p_10]
    rw [ih]
    rfl
theorem spec_PauseOk_r (N : Nat) (p : SPauseLink) : runF Try.prog spec_PauseOk_G spec_PauseOk_A N Try.f8 spec_PauseOk_s (p.enc ++ ([])) = spec_PauseOk_f Vm.bad spec_PauseOk_K N p := by
  have h : runF Try.prog spec_PauseOk_G spec_PauseOk_A N Try.f8 spec_PauseOk_s (p.enc ++ ([])) = spec_PauseOk_t Vm.bad spec_PauseOk_K (fun p_4 p_7 p_8 k => loopN (spec_PauseOk_B0 N) N (spec_PauseOk_m0 k p.Capacity p.High p.Low p_4 p.Fill p.Paused p_7 p_8 p.Stopped p.Lost)) p := by kernel_rfl
  refine h.trans ?_
  unfold spec_PauseOk_f
  have e0 : (fun p_4 p_7 p_8 k => loopN (spec_PauseOk_B0 N) N (spec_PauseOk_m0 k p.Capacity p.High p.Low p_4 p.Fill p.Paused p_7 p_8 p.Stopped p.Lost)) = (fun p_4 p_7 p_8 => spec_PauseOk_L0 Vm.bad spec_PauseOk_K N p_4 p_7 p_8 N) := by
    funext p_4 p_7 p_8
    exact spec_PauseOk_n0 N p.Capacity p.High p.Low p_4 p.Fill p.Paused p_7 p_8 p.Stopped p.Lost N
  exact congrArg (fun l_ => spec_PauseOk_t Vm.bad spec_PauseOk_K l_ p) e0
theorem spec_PauseOk_h : Holds Try.prog 8 spec_PauseOk_s := by
  refine holds_of_run (A := spec_PauseOk_A) spec_PauseOk_x Try.func8 rfl (by kernel_rfl) (of_decide_eq_true (by kernel_rfl)) (of_decide_eq_true (by kernel_rfl)) ?_
  intro ds hw hok
  replace hw : WtL (SPauseLink.ct ++ ([])) ds := hw
  obtain ⟨p, ds, rfl, h_p, hw⟩ := SPauseLink.of_wt (r := _) hw
  obtain rfl := of_wt_nil hw
  obtain ⟨N, hN⟩ := spec_PauseOk_c Vm.bad spec_PauseOk_K p h_p
  exact ⟨N, ((spec_PauseOk_r N p).trans hN).trans (by kernel_rfl)⟩

def laws_FnExactPauseOk_s : Sum := { ps := [⟨[.int .i64, .int .i64, .int .i64, .int .i64, .int .i64, .bool, .sl [.int .i64], .sl [.bool], .bool, .int .i64], true⟩], rs := [⟨[.imm .bool], false⟩], fn := fun ds => (fitL (SPauseLink.ct ++ ([])) ds, [.bool true]) }
def laws_FnExactPauseOk_G : Ctx := [(7, laws_szPauseLink_s), (8, spec_PauseOk_s), (9, laws_toPauseLink_s), (10, impl_PauseOk_s), (11, laws_eqPauseLink_s)]
theorem laws_FnExactPauseOk_x : CtxHolds Try.prog laws_FnExactPauseOk_G := ctx_cons laws_szPauseLink_h (ctx_cons spec_PauseOk_h (ctx_cons laws_toPauseLink_h (ctx_cons impl_PauseOk_h (ctx_cons laws_eqPauseLink_h ctx_nil))))
def laws_FnExactPauseOk_A : List (Nat × Ann) := []
theorem laws_FnExactPauseOk_r (N : Nat) (aP : SPauseLink) : runF Try.prog laws_FnExactPauseOk_G laws_FnExactPauseOk_A N Try.f3 laws_FnExactPauseOk_s (aP.enc ++ ([])) = laws_FnExactPauseOk_t Vm.bad (fun r0 => ((true, [.bool r0]) : Res)) aP := by kernel_rfl
theorem laws_FnExactPauseOk_h : Holds Try.prog 3 laws_FnExactPauseOk_s := by
  refine holds_of_run (A := laws_FnExactPauseOk_A) laws_FnExactPauseOk_x Try.func3 rfl (by kernel_rfl) (of_decide_eq_true (by kernel_rfl)) (of_decide_eq_true (by kernel_rfl)) ?_
  intro ds hw hok
  replace hw : WtL (SPauseLink.ct ++ ([])) ds := hw
  obtain ⟨aP, ds, rfl, h_aP, hw⟩ := SPauseLink.of_wt (r := _) hw
  obtain rfl := of_wt_nil hw
  exact ⟨0, ((laws_FnExactPauseOk_r 0 aP).trans (laws_FnExactPauseOk_c Vm.bad _ aP h_aP hok)).trans (by kernel_rfl)⟩

def laws_markPauseLink_s : Sum := { ps := [⟨[.int .i64, .int .i64, .int .i64, .int .i64, .int .i64, .bool, .sl [.int .i64], .sl [.bool], .bool, .int .i64], true⟩, ⟨[.int .i64], false⟩], rs := [⟨[.imm (.int .i64)], false⟩], fn := fun ds => (markPauseLink_ok (SPauseLink.decAt ds 0) (rI ds 10), [.int (markPauseLink (SPauseLink.decAt ds 0) (rI ds 10)).1] ++ [.sl (markPauseLink (SPauseLink.decAt ds 0) (rI ds 10)).2.1] ++ [.sl (markPauseLink (SPauseLink.decAt ds 0) (rI ds 10)).2.2]), ms := [some (.rows [3, 4]), none] }
def laws_markPauseLink_G : Ctx := [(22, laws_markIntS_s), (29, laws_markBoolS_s)]
theorem laws_markPauseLink_x : CtxHolds Try.prog laws_markPauseLink_G := ctx_cons laws_markIntS_h (ctx_cons laws_markBoolS_h ctx_nil)
def laws_markPauseLink_A : List (Nat × Ann) := []
theorem laws_markPauseLink_r (N : Nat) (a : SPauseLink) (k : Int) : runFM Try.prog laws_markPauseLink_G laws_markPauseLink_A N Try.f14 laws_markPauseLink_s (a.enc ++ (.int k :: ([]))) = laws_markPauseLink_t Vm.bad (fun r0 r1 r2 => ((true, [.int r0] ++ [.sl r1] ++ [.sl r2]) : Res)) a k := by kernel_rfl
theorem laws_markPauseLink_h : HoldsM Try.prog 14 laws_markPauseLink_s := by
  refine holdsM_of_run (A := laws_markPauseLink_A) laws_markPauseLink_x Try.func14 rfl (by kernel_rfl) (of_decide_eq_true (by kernel_rfl)) (of_decide_eq_true (by kernel_rfl)) (by kernel_rfl) (fun ds => by kernel_rfl) ?_
  intro ds hw hok
  replace hw : WtL (SPauseLink.ct ++ ((.int .i64) :: ([]))) ds := hw
  obtain ⟨a, ds, rfl, h_a, hw⟩ := SPauseLink.of_wt (r := _) hw
  obtain ⟨k, ds, rfl, h_k, hw⟩ := of_wt_int hw
  obtain rfl := of_wt_nil hw
  exact ⟨0, ((laws_markPauseLink_r 0 a k).trans (laws_markPauseLink_c Vm.bad _ a k hok)).trans (by kernel_rfl)⟩

def laws_heldPauseLink_s : Sum := { ps := [⟨[.int .i64, .int .i64, .int .i64, .int .i64, .int .i64, .bool, .sl [.int .i64], .sl [.bool], .bool, .int .i64], true⟩, ⟨[.int .i64], false⟩], rs := [⟨[.imm (.int .i64)], false⟩], fn := fun ds => (heldPauseLink_ok (SPauseLink.decAt ds 0) (rI ds 10), [.int (heldPauseLink (SPauseLink.decAt ds 0) (rI ds 10))]) }
def laws_heldPauseLink_G : Ctx := [(30, laws_heldIntS_s), (31, laws_heldBoolS_s)]
theorem laws_heldPauseLink_x : CtxHolds Try.prog laws_heldPauseLink_G := ctx_cons laws_heldIntS_h (ctx_cons laws_heldBoolS_h ctx_nil)
def laws_heldPauseLink_A : List (Nat × Ann) := []
theorem laws_heldPauseLink_r (N : Nat) (a : SPauseLink) (k : Int) : runF Try.prog laws_heldPauseLink_G laws_heldPauseLink_A N Try.f15 laws_heldPauseLink_s (a.enc ++ (.int k :: ([]))) = laws_heldPauseLink_t Vm.bad (fun r0 => ((true, [.int r0]) : Res)) a k := by kernel_rfl
theorem laws_heldPauseLink_h : Holds Try.prog 15 laws_heldPauseLink_s := by
  refine holds_of_run (A := laws_heldPauseLink_A) laws_heldPauseLink_x Try.func15 rfl (by kernel_rfl) (of_decide_eq_true (by kernel_rfl)) (of_decide_eq_true (by kernel_rfl)) ?_
  intro ds hw hok
  replace hw : WtL (SPauseLink.ct ++ ((.int .i64) :: ([]))) ds := hw
  obtain ⟨a, ds, rfl, h_a, hw⟩ := SPauseLink.of_wt (r := _) hw
  obtain ⟨k, ds, rfl, h_k, hw⟩ := of_wt_int hw
  obtain rfl := of_wt_nil hw
  exact ⟨0, ((laws_heldPauseLink_r 0 a k).trans (laws_heldPauseLink_c Vm.bad _ a k hok)).trans (by kernel_rfl)⟩

def impl_NewPauseLink_s : Sum := { ps := [⟨[.int .i64], false⟩, ⟨[.int .i64], false⟩, ⟨[.int .i64], false⟩, ⟨[.int .i64], false⟩], rs := [⟨[.imm (.int .i64), .imm (.int .i64), .imm (.int .i64), .imm (.int .i64), .imm (.int .i64), .imm .bool, .own 3 [.int .i64], .own 4 [.bool], .imm .bool, .imm (.int .i64)], true⟩, ⟨[.imm .bool], false⟩], fn := fun ds => (true, SPauseLink.enc (NewPauseLink (rI ds 0) (rI ds 1) (rI ds 2) (rI ds 3)).1 ++ [.bool (NewPauseLink (rI ds 0) (rI ds 1) (rI ds 2) (rI ds 3)).2]) }
def impl_NewPauseLink_G : Ctx := [(10, impl_PauseOk_s), (27, impl_between_s)]
theorem impl_NewPauseLink_x : CtxHolds Try.prog impl_NewPauseLink_G := ctx_cons impl_PauseOk_h (ctx_cons impl_between_h ctx_nil)
def impl_NewPauseLink_A : List (Nat × Ann) := []
theorem impl_NewPauseLink_r (N : Nat) (capacity : Int) (high : Int) (low : Int) (delay : Int) : runF Try.prog impl_NewPauseLink_G impl_NewPauseLink_A N Try.f13 impl_NewPauseLink_s (.int capacity :: (.int high :: (.int low :: (.int delay :: ([]))))) = impl_NewPauseLink_t Vm.bad (fun r0 r1 => ((true, SPauseLink.enc r0 ++ [.bool r1]) : Res)) capacity high low delay := by kernel_rfl
theorem impl_NewPauseLink_h : Holds Try.prog 13 impl_NewPauseLink_s := by
  refine holds_of_run (A := impl_NewPauseLink_A) impl_NewPauseLink_x Try.func13 rfl (by kernel_rfl) (of_decide_eq_true (by kernel_rfl)) (of_decide_eq_true (by kernel_rfl)) ?_
  intro ds hw hok
  replace hw : WtL ((.int .i64) :: ((.int .i64) :: ((.int .i64) :: ((.int .i64) :: ([]))))) ds := hw
  obtain ⟨capacity, ds, rfl, h_capacity, hw⟩ := of_wt_int hw
  obtain ⟨high, ds, rfl, h_high, hw⟩ := of_wt_int hw
  obtain ⟨low, ds, rfl, h_low, hw⟩ := of_wt_int hw
  obtain ⟨delay, ds, rfl, h_delay, hw⟩ := of_wt_int hw
  obtain rfl := of_wt_nil hw
  exact ⟨0, ((impl_NewPauseLink_r 0 capacity high low delay).trans (impl_NewPauseLink_c Vm.bad _ capacity high low delay h_capacity h_high h_low h_delay)).trans (by kernel_rfl)⟩

def spec_NewPauseLink_s : Sum := { ps := [⟨[.int .i64], false⟩, ⟨[.int .i64], false⟩, ⟨[.int .i64], false⟩, ⟨[.int .i64], false⟩], rs := [⟨[.imm (.int .i64), .imm (.int .i64), .imm (.int .i64), .imm (.int .i64), .imm (.int .i64), .imm .bool, .own 3 [.int .i64], .own 4 [.bool], .imm .bool, .imm (.int .i64)], true⟩, ⟨[.imm .bool], false⟩], fn := fun ds => (true, SPauseLink.enc (NewPauseLink (rI ds 0) (rI ds 1) (rI ds 2) (rI ds 3)).1 ++ [.bool (NewPauseLink (rI ds 0) (rI ds 1) (rI ds 2) (rI ds 3)).2]) }
def spec_NewPauseLink_G : Ctx := [(8, spec_PauseOk_s)]
theorem spec_NewPauseLink_x : CtxHolds Try.prog spec_NewPauseLink_G := ctx_cons spec_PauseOk_h ctx_nil
def spec_NewPauseLink_A : List (Nat × Ann) := [(3, { slots := [(3, .asis), (8, .asis), (10, .asis), (11, .asis)], boxes := [(512, []), (640, [(6, .own 3), (7, .own 4)])] })]
def spec_NewPauseLink_K : SPauseLink → Bool → Res := (fun r0 r1 => ((true, SPauseLink.enc r0 ++ [.bool r1]) : Res))
def spec_NewPauseLink_m0 (delay : Int) (k : Int) (b8 : Int) (b8_1 : Int) (b8_2 : Int) (b8_3 : Int) (b8_4 : Int) (b8_5 : Bool) (b8_6 : Bool) (b8_7 : Int) (capacity : Int) (high : Int) (low : Int) (p_3 : Int) (p_4 : Int) (p_5 : Bool) (p_6 : Bool) (p_7 : Int) (p_6_1 : Rows) (p_7_1 : Rows) : St := { n := 41, sl := [(3, .int .i64 delay), (8, .ptr 512 0), (10, .ptr 640 0), (11, .int .i64 k)], hp := [(512, .box 28 [.int .i64 b8, .int .i64 b8_1, .int .i64 b8_2, .int .i64 b8_3, .int .i64 b8_4, .bool b8_5, .nil, .nil, .bool b8_6, .int .i64 b8_7]), (640, .box 28 [.int .i64 capacity, .int .i64 high, .int .i64 low, .int .i64 p_3, .int .i64 p_4, .bool p_5, .own 1443846, .own 1443847, .bool p_6, .int .i64 p_7]), (1443846, .row 3 [.int .i64] p_6_1 false true), (1443847, .row 4 [.bool] p_7_1 false true)], ok := true, ls := [], lm := [] }
noncomputable def spec_NewPauseLink_B0 (N : Nat) : (St → Res) → St → Res := loopB Try.prog spec_NewPauseLink_G spec_NewPauseLink_A N Try.f12 spec_NewPauseLink_s [true, true, false, true, false] []
theorem spec_NewPauseLink_b0 (N : Nat) (delay : Int) (b8 : Int) (b8_1 : Int) (b8_2 : Int) (b8_3 : Int) (b8_4 : Int) (b8_5 : Bool) (b8_6 : Bool) (b8_7 : Int) (capacity : Int) (high : Int) (low : Int) (p_3 : Int) (p_4 : Int) (p_5 : Bool) (p_6 : Bool) (p_7 : Int) (ih : St → Res) (k : Int) (p_6_1 : Rows) (p_7_1 : Rows) : spec_NewPauseLink_B0 N ih (spec_NewPauseLink_m0 delay k b8 b8_1 b8_2 b8_3 b8_4 b8_5 b8_6 b8_7 capacity high low p_3 p_4 p_5 p_6 p_7 p_6_1 p_7_1) = spec_NewPauseLink_l0 Vm.bad spec_NewPauseLink_K delay capacity high low p_3 p_4 p_5 p_6 p_7 (fun k p_6_1 p_7_1 => ih (spec_NewPauseLink_m0 delay k b8 b8_1 b8_2 b8_3 b8_4 b8_5 b8_6 b8_7 capacity high low p_3 p_4 p_5 p_6 p_7 p_6_1 p_7_1)) k p_6_1 p_7_1 := by kernel_rfl
theorem spec_NewPauseLink_n0 (N : Nat) (delay : Int) (b8 : Int) (b8_1 : Int) (b8_2 : Int) (b8_3 : Int) (b8_4 : Int) (b8_5 : Bool) (b8_6 : Bool) (b8_7 : Int) (capacity : Int) (high : Int) (low : Int) (p_3 : Int) (p_4 : Int) (p_5 : Bool) (p_6 : Bool) (p_7 : Int) (m_ : Nat) : (fun k p_6_1 p_7_1 => loopN (spec_NewPauseLink_B0 N) m_ (spec_NewPauseLink_m0 delay k b8 b8_1 b8_2 b8_3 b8_4 b8_5 b8_6 b8_7 capacity high low p_3 p_4 p_5 p_6 p_7 p_6_1 p_7_1)) = spec_NewPauseLink_L0 Vm.bad spec_NewPauseLink_K N delay capacity high low p_3 p_4 p_5 p_6 p_7 m_ := by
  induction m_ with
  | zero => rfl
  | succ m_ ih =>
    funext k p_6_1 p_7_1
    show spec_NewPauseLink_B0 N (loopN (spec_NewPauseLink_B0 N) m_) (spec_NewPauseLink_m0 delay k b8 b8_1 b8_2 b8_3 b8_4 b8_5 b8_6 b8_7 capacity high low p_3 p_4 p_5 p_6 p_7 p_6_1 p_7_1) = _
    rw [spec_NewPauseLink_b0 N delay b8 b8_1 b8_2 b8_3 b8_4 b8_5 b8_6 b8_7 capacity high low p_3 p_4 p_5 p_6 p_7]
    rw [ih]
    rfl
theorem spec_NewPauseLink_r (N : Nat) (capacity : Int) (high : Int) (low : Int) (delay : Int) : runF Try.prog spec_NewPauseLink_G spec_NewPauseLink_A N Try.f12 spec_NewPauseLink_s (.int capacity :: (.int high :: (.int low :: (.int delay :: ([]))))) = spec_NewPauseLink_f Vm.bad spec_NewPauseLink_K N capacity high low delay := by
  have h : runF Try.prog spec_NewPauseLink_G spec_NewPauseLink_A N Try.f12 spec_NewPauseLink_s (.int capacity :: (.int high :: (.int low :: (.int delay :: ([]))))) = spec_NewPauseLink_t Vm.bad spec_NewPauseLink_K (fun p_3 p_4 p_5 p_6 p_7 k p_6_1 p_7_1 => loopN (spec_NewPauseLink_B0 N) N (spec_NewPauseLink_m0 delay k 0 0 0 0 0 false false 0 capacity high low p_3 p_4 p_5 p_6 p_7 p_6_1 p_7_1)) capacity high low delay := by kernel_rfl
  refine h.trans ?_
  unfold spec_NewPauseLink_f
  have e0 : (fun p_3 p_4 p_5 p_6 p_7 k p_6_1 p_7_1 => loopN (spec_NewPauseLink_B0 N) N (spec_NewPauseLink_m0 delay k 0 0 0 0 0 false false 0 capacity high low p_3 p_4 p_5 p_6 p_7 p_6_1 p_7_1)) = (fun p_3 p_4 p_5 p_6 p_7 => spec_NewPauseLink_L0 Vm.bad spec_NewPauseLink_K N delay capacity high low p_3 p_4 p_5 p_6 p_7 N) := by
    funext p_3 p_4 p_5 p_6 p_7
    exact spec_NewPauseLink_n0 N delay 0 0 0 0 0 false false 0 capacity high low p_3 p_4 p_5 p_6 p_7 N
  exact congrArg (fun l_ => spec_NewPauseLink_t Vm.bad spec_NewPauseLink_K l_ capacity high low delay) e0
theorem spec_NewPauseLink_h : Holds Try.prog 12 spec_NewPauseLink_s := by
  refine holds_of_run (A := spec_NewPauseLink_A) spec_NewPauseLink_x Try.func12 rfl (by kernel_rfl) (of_decide_eq_true (by kernel_rfl)) (of_decide_eq_true (by kernel_rfl)) ?_
  intro ds hw hok
  replace hw : WtL ((.int .i64) :: ((.int .i64) :: ((.int .i64) :: ((.int .i64) :: ([]))))) ds := hw
  obtain ⟨capacity, ds, rfl, h_capacity, hw⟩ := of_wt_int hw
  obtain ⟨high, ds, rfl, h_high, hw⟩ := of_wt_int hw
  obtain ⟨low, ds, rfl, h_low, hw⟩ := of_wt_int hw
  obtain ⟨delay, ds, rfl, h_delay, hw⟩ := of_wt_int hw
  obtain rfl := of_wt_nil hw
  obtain ⟨N, hN⟩ := spec_NewPauseLink_c Vm.bad spec_NewPauseLink_K capacity high low delay h_capacity h_high h_low h_delay
  exact ⟨N, ((spec_NewPauseLink_r N capacity high low delay).trans hN).trans (by kernel_rfl)⟩

def laws_FnExactNewPauseLink_s : Sum := { ps := [⟨[.int .i64], false⟩, ⟨[.int .i64], false⟩, ⟨[.int .i64], false⟩, ⟨[.int .i64], false⟩], rs := [⟨[.imm .bool], false⟩], fn := fun ds => (fitL ((.int .i64) :: ((.int .i64) :: ((.int .i64) :: ((.int .i64) :: ([]))))) ds, [.bool true]) }
def laws_FnExactNewPauseLink_G : Ctx := [(11, laws_eqPauseLink_s), (12, spec_NewPauseLink_s), (13, impl_NewPauseLink_s), (14, laws_markPauseLink_s), (15, laws_heldPauseLink_s)]
theorem laws_FnExactNewPauseLink_x : CtxHolds Try.prog laws_FnExactNewPauseLink_G := ctx_cons laws_eqPauseLink_h (ctx_cons spec_NewPauseLink_h (ctx_cons impl_NewPauseLink_h (ctx_cons laws_markPauseLink_h (ctx_cons laws_heldPauseLink_h ctx_nil))))
def laws_FnExactNewPauseLink_A : List (Nat × Ann) := []
theorem laws_FnExactNewPauseLink_r (N : Nat) (aCapacity : Int) (aHigh : Int) (aLow : Int) (aDelay : Int) : runF Try.prog laws_FnExactNewPauseLink_G laws_FnExactNewPauseLink_A N Try.f4 laws_FnExactNewPauseLink_s (.int aCapacity :: (.int aHigh :: (.int aLow :: (.int aDelay :: ([]))))) = laws_FnExactNewPauseLink_t Vm.bad (fun r0 => ((true, [.bool r0]) : Res)) aCapacity aHigh aLow aDelay := by kernel_rfl
theorem laws_FnExactNewPauseLink_h : Holds Try.prog 4 laws_FnExactNewPauseLink_s := by
  refine holds_of_run (A := laws_FnExactNewPauseLink_A) laws_FnExactNewPauseLink_x Try.func4 rfl (by kernel_rfl) (of_decide_eq_true (by kernel_rfl)) (of_decide_eq_true (by kernel_rfl)) ?_
  intro ds hw hok
  replace hw : WtL ((.int .i64) :: ((.int .i64) :: ((.int .i64) :: ((.int .i64) :: ([]))))) ds := hw
  obtain ⟨aCapacity, ds, rfl, h_aCapacity, hw⟩ := of_wt_int hw
  obtain ⟨aHigh, ds, rfl, h_aHigh, hw⟩ := of_wt_int hw
  obtain ⟨aLow, ds, rfl, h_aLow, hw⟩ := of_wt_int hw
  obtain ⟨aDelay, ds, rfl, h_aDelay, hw⟩ := of_wt_int hw
  obtain rfl := of_wt_nil hw
  exact ⟨0, ((laws_FnExactNewPauseLink_r 0 aCapacity aHigh aLow aDelay).trans (laws_FnExactNewPauseLink_c Vm.bad _ aCapacity aHigh aLow aDelay h_aCapacity h_aHigh h_aLow h_aDelay hok)).trans (by kernel_rfl)⟩

end
end Go.Proofs.Ytbcjbeckcgoanaa.Pl
