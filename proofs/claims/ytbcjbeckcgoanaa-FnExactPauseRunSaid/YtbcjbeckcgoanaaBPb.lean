/- The contracts of functions of the program: each computes what its plain form says. Conditions: none. -/
import Derived.Test.YtbcjbeckcgoanaaPPb
import Derived.Test.YtbcjbeckcgoanaaRows
import Derived.Test.YtbcjbeckcgoanaaBPa
set_option linter.unusedVariables false
set_option linter.unusedSimpArgs false
set_option maxRecDepth 100000
namespace Go.Proofs.Ytbcjbeckcgoanaa.Pl
open Vm
noncomputable section

def impl_copyInts_s : Sum := { ps := [⟨[.sl [.int .i64]], false⟩], rs := [⟨[.own 3 [.int .i64]], false⟩], fn := fun ds => (sm (rR ds 0), [.sl (idf (rR ds 0))]) }
def impl_copyInts_G : Ctx := []
theorem impl_copyInts_x : CtxHolds Try.prog impl_copyInts_G := ctx_nil
def impl_copyInts_A : List (Nat × Ann) := []
theorem impl_copyInts_r (N : Nat) (l : Rows) : runF Try.prog impl_copyInts_G impl_copyInts_A N Try.f34 impl_copyInts_s (.sl l :: ([])) = impl_copyInts_t Vm.bad (fun r0 => ((true, [.sl r0]) : Res)) l := by kernel_rfl
theorem impl_copyInts_h : Holds Try.prog 34 impl_copyInts_s := by
  refine holds_of_run (A := impl_copyInts_A) impl_copyInts_x Try.func34 rfl (by kernel_rfl) (of_decide_eq_true (by kernel_rfl)) (of_decide_eq_true (by kernel_rfl)) ?_
  intro ds hw hok
  replace hw : WtL ((.sl [.int .i64]) :: ([])) ds := hw
  obtain ⟨l, ds, rfl, h_l, hw⟩ := of_wt_sl hw
  obtain rfl := of_wt_nil hw
  exact ⟨0, ((impl_copyInts_r 0 l).trans (impl_copyInts_c Vm.bad _ l h_l hok)).trans (by kernel_rfl)⟩

def impl_copyPause_s : Sum := { ps := [⟨[.int .i64, .int .i64, .int .i64, .int .i64, .int .i64, .bool, .sl [.int .i64], .sl [.bool], .bool, .int .i64], true⟩], rs := [⟨[.imm (.int .i64), .imm (.int .i64), .imm (.int .i64), .imm (.int .i64), .imm (.int .i64), .imm .bool, .own 3 [.int .i64], .own 4 [.bool], .imm .bool, .imm (.int .i64)], true⟩], fn := fun ds => (plSm (SPauseLink.decAt ds 0), SPauseLink.enc (idf (SPauseLink.decAt ds 0))) }
def impl_copyPause_G : Ctx := [(34, impl_copyInts_s)]
theorem impl_copyPause_x : CtxHolds Try.prog impl_copyPause_G := ctx_cons impl_copyInts_h ctx_nil
def impl_copyPause_A : List (Nat × Ann) := []
theorem impl_copyPause_r (N : Nat) (p : SPauseLink) : runF Try.prog impl_copyPause_G impl_copyPause_A N Try.f33 impl_copyPause_s (p.enc ++ ([])) = impl_copyPause_t Vm.bad (fun r0 => ((true, SPauseLink.enc r0) : Res)) p := by kernel_rfl
theorem impl_copyPause_h : Holds Try.prog 33 impl_copyPause_s := by
  refine holds_of_run (A := impl_copyPause_A) impl_copyPause_x Try.func33 rfl (by kernel_rfl) (of_decide_eq_true (by kernel_rfl)) (of_decide_eq_true (by kernel_rfl)) ?_
  intro ds hw hok
  replace hw : WtL (SPauseLink.ct ++ ([])) ds := hw
  obtain ⟨p, ds, rfl, h_p, hw⟩ := SPauseLink.of_wt (r := _) hw
  obtain rfl := of_wt_nil hw
  exact ⟨0, ((impl_copyPause_r 0 p).trans (impl_copyPause_c Vm.bad _ p h_p hok)).trans (by kernel_rfl)⟩

def spec_l31Copy_s : Sum := { ps := [⟨[.int .i64, .int .i64, .int .i64, .int .i64, .int .i64, .bool, .sl [.int .i64], .sl [.bool], .bool, .int .i64], true⟩], rs := [⟨[.imm (.int .i64), .imm (.int .i64), .imm (.int .i64), .imm (.int .i64), .imm (.int .i64), .imm .bool, .own 3 [.int .i64], .own 4 [.bool], .imm .bool, .imm (.int .i64)], true⟩], fn := fun ds => (plSm (SPauseLink.decAt ds 0), SPauseLink.enc (idf (SPauseLink.decAt ds 0))) }
def spec_l31Copy_G : Ctx := []
theorem spec_l31Copy_x : CtxHolds Try.prog spec_l31Copy_G := ctx_nil
def spec_l31Copy_A : List (Nat × Ann) := []
theorem spec_l31Copy_r (N : Nat) (p : SPauseLink) : runF Try.prog spec_l31Copy_G spec_l31Copy_A N Try.f32 spec_l31Copy_s (p.enc ++ ([])) = spec_l31Copy_t Vm.bad (fun r0 => ((true, SPauseLink.enc r0) : Res)) p := by kernel_rfl
theorem spec_l31Copy_h : Holds Try.prog 32 spec_l31Copy_s := by
  refine holds_of_run (A := spec_l31Copy_A) spec_l31Copy_x Try.func32 rfl (by kernel_rfl) (of_decide_eq_true (by kernel_rfl)) (of_decide_eq_true (by kernel_rfl)) ?_
  intro ds hw hok
  replace hw : WtL (SPauseLink.ct ++ ([])) ds := hw
  obtain ⟨p, ds, rfl, h_p, hw⟩ := SPauseLink.of_wt (r := _) hw
  obtain rfl := of_wt_nil hw
  exact ⟨0, ((spec_l31Copy_r 0 p).trans (spec_l31Copy_c Vm.bad _ p h_p hok)).trans (by kernel_rfl)⟩

def impl_PauseTick_s : Sum := { ps := [⟨[.int .i64, .int .i64, .int .i64, .int .i64, .int .i64, .bool, .sl [.int .i64], .sl [.bool], .bool, .int .i64], true⟩, ⟨[.int .i64], false⟩, ⟨[.int .i64], false⟩], rs := [⟨[.imm (.int .i64), .imm (.int .i64), .imm (.int .i64), .imm (.int .i64), .imm (.int .i64), .imm .bool, .own 3 [.int .i64], .own 4 [.bool], .imm .bool, .imm (.int .i64)], true⟩, ⟨[.imm (.int .i64)], false⟩], fn := fun ds => (PauseTick_ok (SPauseLink.decAt ds 0) (rI ds 10) (rI ds 11), SPauseLink.enc (PauseTick (SPauseLink.decAt ds 0) (rI ds 10) (rI ds 11)).1 ++ [.int (PauseTick (SPauseLink.decAt ds 0) (rI ds 10) (rI ds 11)).2]) }
def impl_PauseTick_G : Ctx := [(10, impl_PauseOk_s), (27, impl_between_s), (33, impl_copyPause_s), (34, impl_copyInts_s)]
theorem impl_PauseTick_x : CtxHolds Try.prog impl_PauseTick_G := ctx_cons impl_PauseOk_h (ctx_cons impl_between_h (ctx_cons impl_copyPause_h (ctx_cons impl_copyInts_h ctx_nil)))
def impl_PauseTick_A : List (Nat × Ann) := []
theorem impl_PauseTick_r (N : Nat) (p : SPauseLink) (offer : Int) (drain : Int) : runF Try.prog impl_PauseTick_G impl_PauseTick_A N Try.f17 impl_PauseTick_s (p.enc ++ (.int offer :: (.int drain :: ([])))) = impl_PauseTick_t Vm.bad (fun r0 r1 => ((true, SPauseLink.enc r0 ++ [.int r1]) : Res)) p offer drain := by kernel_rfl
theorem impl_PauseTick_h : Holds Try.prog 17 impl_PauseTick_s := by
  refine holds_of_run (A := impl_PauseTick_A) impl_PauseTick_x Try.func17 rfl (by kernel_rfl) (of_decide_eq_true (by kernel_rfl)) (of_decide_eq_true (by kernel_rfl)) ?_
  intro ds hw hok
  replace hw : WtL (SPauseLink.ct ++ ((.int .i64) :: ((.int .i64) :: ([])))) ds := hw
  obtain ⟨p, ds, rfl, h_p, hw⟩ := SPauseLink.of_wt (r := _) hw
  obtain ⟨offer, ds, rfl, h_offer, hw⟩ := of_wt_int hw
  obtain ⟨drain, ds, rfl, h_drain, hw⟩ := of_wt_int hw
  obtain rfl := of_wt_nil hw
  exact ⟨0, ((impl_PauseTick_r 0 p offer drain).trans (impl_PauseTick_c Vm.bad _ p offer drain h_p h_offer h_drain hok)).trans (by kernel_rfl)⟩

def spec_PauseTick_s : Sum := { ps := [⟨[.int .i64, .int .i64, .int .i64, .int .i64, .int .i64, .bool, .sl [.int .i64], .sl [.bool], .bool, .int .i64], true⟩, ⟨[.int .i64], false⟩, ⟨[.int .i64], false⟩], rs := [⟨[.imm (.int .i64), .imm (.int .i64), .imm (.int .i64), .imm (.int .i64), .imm (.int .i64), .imm .bool, .own 3 [.int .i64], .own 4 [.bool], .imm .bool, .imm (.int .i64)], true⟩, ⟨[.imm (.int .i64)], false⟩], fn := fun ds => (PauseTick_ok (SPauseLink.decAt ds 0) (rI ds 10) (rI ds 11), SPauseLink.enc (PauseTick (SPauseLink.decAt ds 0) (rI ds 10) (rI ds 11)).1 ++ [.int (PauseTick (SPauseLink.decAt ds 0) (rI ds 10) (rI ds 11)).2]) }
def spec_PauseTick_G : Ctx := [(1125899906842702, annS), (1125899906842709, annS), (8, spec_PauseOk_s), (25, spec_l01In_s), (32, spec_l31Copy_s)]
theorem spec_PauseTick_x : CtxHolds Try.prog spec_PauseTick_G := ctx_cons ann_h (ctx_cons ann_h (ctx_cons spec_PauseOk_h (ctx_cons spec_l01In_h (ctx_cons spec_l31Copy_h ctx_nil))))
def spec_PauseTick_A : List (Nat × Ann) := []
theorem spec_PauseTick_r (N : Nat) (p : SPauseLink) (offer : Int) (drain : Int) : runF Try.prog spec_PauseTick_G spec_PauseTick_A N Try.f16 spec_PauseTick_s (p.enc ++ (.int offer :: (.int drain :: ([])))) = spec_PauseTick_t Vm.bad (fun r0 r1 => ((true, SPauseLink.enc r0 ++ [.int r1]) : Res)) p offer drain := by kernel_rfl
theorem spec_PauseTick_h : Holds Try.prog 16 spec_PauseTick_s := by
  refine holds_of_run (A := spec_PauseTick_A) spec_PauseTick_x Try.func16 rfl (by kernel_rfl) (of_decide_eq_true (by kernel_rfl)) (of_decide_eq_true (by kernel_rfl)) ?_
  intro ds hw hok
  replace hw : WtL (SPauseLink.ct ++ ((.int .i64) :: ((.int .i64) :: ([])))) ds := hw
  obtain ⟨p, ds, rfl, h_p, hw⟩ := SPauseLink.of_wt (r := _) hw
  obtain ⟨offer, ds, rfl, h_offer, hw⟩ := of_wt_int hw
  obtain ⟨drain, ds, rfl, h_drain, hw⟩ := of_wt_int hw
  obtain rfl := of_wt_nil hw
  exact ⟨0, ((spec_PauseTick_r 0 p offer drain).trans (spec_PauseTick_c Vm.bad _ p offer drain h_p h_offer h_drain hok)).trans (by kernel_rfl)⟩

def laws_FnExactPauseTick_s : Sum := { ps := [⟨[.int .i64, .int .i64, .int .i64, .int .i64, .int .i64, .bool, .sl [.int .i64], .sl [.bool], .bool, .int .i64], true⟩, ⟨[.int .i64], false⟩, ⟨[.int .i64], false⟩], rs := [⟨[.imm .bool], false⟩], fn := fun ds => (fitL (SPauseLink.ct ++ ((.int .i64) :: ((.int .i64) :: ([])))) ds, [.bool true]) }
def laws_FnExactPauseTick_G : Ctx := [(7, laws_szPauseLink_s), (9, laws_toPauseLink_s), (11, laws_eqPauseLink_s), (14, laws_markPauseLink_s), (15, laws_heldPauseLink_s), (16, spec_PauseTick_s), (17, impl_PauseTick_s)]
theorem laws_FnExactPauseTick_x : CtxHolds Try.prog laws_FnExactPauseTick_G := ctx_cons laws_szPauseLink_h (ctx_cons laws_toPauseLink_h (ctx_cons laws_eqPauseLink_h (ctx_cons laws_markPauseLink_h (ctx_cons laws_heldPauseLink_h (ctx_cons spec_PauseTick_h (ctx_cons impl_PauseTick_h ctx_nil))))))
def laws_FnExactPauseTick_A : List (Nat × Ann) := []
theorem laws_FnExactPauseTick_r (N : Nat) (aP : SPauseLink) (aOffer : Int) (aDrain : Int) : runF Try.prog laws_FnExactPauseTick_G laws_FnExactPauseTick_A N Try.f5 laws_FnExactPauseTick_s (aP.enc ++ (.int aOffer :: (.int aDrain :: ([])))) = laws_FnExactPauseTick_t Vm.bad (fun r0 => ((true, [.bool r0]) : Res)) aP aOffer aDrain := by kernel_rfl
theorem laws_FnExactPauseTick_h : Holds Try.prog 5 laws_FnExactPauseTick_s := by
  refine holds_of_run (A := laws_FnExactPauseTick_A) laws_FnExactPauseTick_x Try.func5 rfl (by kernel_rfl) (of_decide_eq_true (by kernel_rfl)) (of_decide_eq_true (by kernel_rfl)) ?_
  intro ds hw hok
  replace hw : WtL (SPauseLink.ct ++ ((.int .i64) :: ((.int .i64) :: ([])))) ds := hw
  obtain ⟨aP, ds, rfl, h_aP, hw⟩ := SPauseLink.of_wt (r := _) hw
  obtain ⟨aOffer, ds, rfl, h_aOffer, hw⟩ := of_wt_int hw
  obtain ⟨aDrain, ds, rfl, h_aDrain, hw⟩ := of_wt_int hw
  obtain rfl := of_wt_nil hw
  exact ⟨0, ((laws_FnExactPauseTick_r 0 aP aOffer aDrain).trans (laws_FnExactPauseTick_c Vm.bad _ aP aOffer aDrain h_aP h_aOffer h_aDrain hok)).trans (by kernel_rfl)⟩

def impl_PauseRun_s : Sum := { ps := [⟨[.int .i64, .int .i64, .int .i64, .int .i64, .int .i64, .bool, .sl [.int .i64], .sl [.bool], .bool, .int .i64], true⟩, ⟨[.sl [.int .i64]], false⟩, ⟨[.sl [.int .i64]], false⟩], rs := [⟨[.imm (.int .i64), .imm (.int .i64), .imm (.int .i64), .imm (.int .i64), .imm (.int .i64), .imm .bool, .own 3 [.int .i64], .own 4 [.bool], .imm .bool, .imm (.int .i64)], true⟩, ⟨[.imm (.int .i64)], false⟩], fn := fun ds => (PauseRun_ok (SPauseLink.decAt ds 0) (rR ds 10) (rR ds 11), SPauseLink.enc (PauseRun (SPauseLink.decAt ds 0) (rR ds 10) (rR ds 11)).1 ++ [.int (PauseRun (SPauseLink.decAt ds 0) (rR ds 10) (rR ds 11)).2]) }
def impl_PauseRun_G : Ctx := [(17, impl_PauseTick_s), (33, impl_copyPause_s)]
theorem impl_PauseRun_x : CtxHolds Try.prog impl_PauseRun_G := ctx_cons impl_PauseTick_h (ctx_cons impl_copyPause_h ctx_nil)
def impl_PauseRun_A : List (Nat × Ann) := [(4, { slots := [(1, .asis), (2, .asis), (6, .asis), (8, .asis), (9, .asis), (10, .asis)], boxes := [(192, []), (384, []), (512, [])] })]
def impl_PauseRun_K : SPauseLink → Int → Res := (fun r0 r1 => ((true, SPauseLink.enc r0 ++ [.int r1]) : Res))
def impl_PauseRun_m0 (offers : Rows) (drains : Rows) (n : Int) (i : Int) (p_1 : Int) (p_2 : Int) (p_3 : Int) (p_4 : Int) (p_5 : Int) (p_6 : Bool) (p_7 : Rows) (p_8 : Rows) (p_9 : Bool) (p_10 : Int) (b6 : Int) (b6_1 : Int) (b6_2 : Int) (b6_3 : Int) (b6_4 : Int) (b6_5 : Bool) (b6_6 : Bool) (b6_7 : Int) (out_ : Int) (out_1 : Int) (out_2 : Int) (out_3 : Int) (out_4 : Int) (out_5 : Bool) (out_6 : Bool) (out_7 : Int) (out_6_1 : Rows) (out_7_1 : Rows) : St := { n := 46, sl := [(1, .sl [.int .i64] offers), (2, .sl [.int .i64] drains), (6, .ptr 384 0), (8, .ptr 512 0), (9, .int .i64 n), (10, .int .i64 i)], hp := [(192, .box 28 [.int .i64 p_1, .int .i64 p_2, .int .i64 p_3, .int .i64 p_4, .int .i64 p_5, .bool p_6, .sl [.int .i64] p_7, .sl [.bool] p_8, .bool p_9, .int .i64 p_10]), (384, .box 28 [.int .i64 b6, .int .i64 b6_1, .int .i64 b6_2, .int .i64 b6_3, .int .i64 b6_4, .bool b6_5, .nil, .nil, .bool b6_6, .int .i64 b6_7]), (512, .box 28 [.int .i64 out_, .int .i64 out_1, .int .i64 out_2, .int .i64 out_3, .int .i64 out_4, .bool out_5, .own 1411078, .own 1411079, .bool out_6, .int .i64 out_7]), (1411078, .row 3 [.int .i64] out_6_1 false true), (1411079, .row 4 [.bool] out_7_1 false true)], ok := true, ls := [], lm := [] }
noncomputable def impl_PauseRun_B0 (N : Nat) : (St → Res) → St → Res := loopB Try.prog impl_PauseRun_G impl_PauseRun_A N Try.f20 impl_PauseRun_s [true, true, true, false, true, false] []
theorem impl_PauseRun_b0 (N : Nat) (offers : Rows) (drains : Rows) (p_1 : Int) (p_2 : Int) (p_3 : Int) (p_4 : Int) (p_5 : Int) (p_6 : Bool) (p_7 : Rows) (p_8 : Rows) (p_9 : Bool) (p_10 : Int) (b6 : Int) (b6_1 : Int) (b6_2 : Int) (b6_3 : Int) (b6_4 : Int) (b6_5 : Bool) (b6_6 : Bool) (b6_7 : Int) (ih : St → Res) (n : Int) (i : Int) (out_ : Int) (out_1 : Int) (out_2 : Int) (out_3 : Int) (out_4 : Int) (out_5 : Bool) (out_6 : Bool) (out_7 : Int) (out_6_1 : Rows) (out_7_1 : Rows) : impl_PauseRun_B0 N ih (impl_PauseRun_m0 offers drains n i p_1 p_2 p_3 p_4 p_5 p_6 p_7 p_8 p_9 p_10 b6 b6_1 b6_2 b6_3 b6_4 b6_5 b6_6 b6_7 out_ out_1 out_2 out_3 out_4 out_5 out_6 out_7 out_6_1 out_7_1) = impl_PauseRun_l0 Vm.bad impl_PauseRun_K offers drains (fun n i out_ out_1 out_2 out_3 out_4 out_5 out_6 out_7 out_6_1 out_7_1 => ih (impl_PauseRun_m0 offers drains n i p_1 p_2 p_3 p_4 p_5 p_6 p_7 p_8 p_9 p_10 b6 b6_1 b6_2 b6_3 b6_4 b6_5 b6_6 b6_7 out_ out_1 out_2 out_3 out_4 out_5 out_6 out_7 out_6_1 out_7_1)) n i out_ out_1 out_2 out_3 out_4 out_5 out_6 out_7 out_6_1 out_7_1 := by kernel_rfl
theorem impl_PauseRun_n0 (N : Nat) (offers : Rows) (drains : Rows) (p_1 : Int) (p_2 : Int) (p_3 : Int) (p_4 : Int) (p_5 : Int) (p_6 : Bool) (p_7 : Rows) (p_8 : Rows) (p_9 : Bool) (p_10 : Int) (b6 : Int) (b6_1 : Int) (b6_2 : Int) (b6_3 : Int) (b6_4 : Int) (b6_5 : Bool) (b6_6 : Bool) (b6_7 : Int) (m_ : Nat) : (fun n i out_ out_1 out_2 out_3 out_4 out_5 out_6 out_7 out_6_1 out_7_1 => loopN (impl_PauseRun_B0 N) m_ (impl_PauseRun_m0 offers drains n i p_1 p_2 p_3 p_4 p_5 p_6 p_7 p_8 p_9 p_10 b6 b6_1 b6_2 b6_3 b6_4 b6_5 b6_6 b6_7 out_ out_1 out_2 out_3 out_4 out_5 out_6 out_7 out_6_1 out_7_1)) = impl_PauseRun_L0 Vm.bad impl_PauseRun_K N offers drains m_ := by
  induction m_ with
  | zero => rfl
  | succ m_ ih =>
    funext n i out_ out_1 out_2 out_3 out_4 out_5 out_6 out_7 out_6_1 out_7_1
    show impl_PauseRun_B0 N (loopN (impl_PauseRun_B0 N) m_) (impl_PauseRun_m0 offers drains n i p_1 p_2 p_3 p_4 p_5 p_6 p_7 p_8 p_9 p_10 b6 b6_1 b6_2 b6_3 b6_4 b6_5 b6_6 b6_7 out_ out_1 out_2 out_3 out_4 out_5 out_6 out_7 out_6_1 out_7_1) = _
    rw [impl_PauseRun_b0 N offers drains p_1 p_2 p_3 p_4 p_5 p_6 p_7 p_8 p_9 p_10 b6 b6_1 b6_2 b6_3 b6_4 b6_5 b6_6 b6_7]
    rw [ih]
    rfl
theorem impl_PauseRun_r (N : Nat) (p : SPauseLink) (offers : Rows) (drains : Rows) : runF Try.prog impl_PauseRun_G impl_PauseRun_A N Try.f20 impl_PauseRun_s (p.enc ++ (.sl offers :: (.sl drains :: ([])))) = impl_PauseRun_f Vm.bad impl_PauseRun_K N p offers drains := by
  have h : runF Try.prog impl_PauseRun_G impl_PauseRun_A N Try.f20 impl_PauseRun_s (p.enc ++ (.sl offers :: (.sl drains :: ([])))) = impl_PauseRun_t Vm.bad impl_PauseRun_K (fun n i out_ out_1 out_2 out_3 out_4 out_5 out_6 out_7 out_6_1 out_7_1 => loopN (impl_PauseRun_B0 N) N (impl_PauseRun_m0 offers drains n i p.Capacity p.High p.Low p.Delay p.Fill p.Paused p.Flying p.Signals p.Stopped p.Lost 0 0 0 0 0 false false 0 out_ out_1 out_2 out_3 out_4 out_5 out_6 out_7 out_6_1 out_7_1)) p offers drains := by kernel_rfl
  refine h.trans ?_
  unfold impl_PauseRun_f
  have e0 : (fun n i out_ out_1 out_2 out_3 out_4 out_5 out_6 out_7 out_6_1 out_7_1 => loopN (impl_PauseRun_B0 N) N (impl_PauseRun_m0 offers drains n i p.Capacity p.High p.Low p.Delay p.Fill p.Paused p.Flying p.Signals p.Stopped p.Lost 0 0 0 0 0 false false 0 out_ out_1 out_2 out_3 out_4 out_5 out_6 out_7 out_6_1 out_7_1)) = (impl_PauseRun_L0 Vm.bad impl_PauseRun_K N offers drains N) := by
    exact impl_PauseRun_n0 N offers drains p.Capacity p.High p.Low p.Delay p.Fill p.Paused p.Flying p.Signals p.Stopped p.Lost 0 0 0 0 0 false false 0 N
  exact congrArg (fun l_ => impl_PauseRun_t Vm.bad impl_PauseRun_K l_ p offers drains) e0
theorem impl_PauseRun_h : Holds Try.prog 20 impl_PauseRun_s := by
  refine holds_of_run (A := impl_PauseRun_A) impl_PauseRun_x Try.func20 rfl (by kernel_rfl) (of_decide_eq_true (by kernel_rfl)) (of_decide_eq_true (by kernel_rfl)) ?_
  intro ds hw hok
  replace hw : WtL (SPauseLink.ct ++ ((.sl [.int .i64]) :: ((.sl [.int .i64]) :: ([])))) ds := hw
  obtain ⟨p, ds, rfl, h_p, hw⟩ := SPauseLink.of_wt (r := _) hw
  obtain ⟨offers, ds, rfl, h_offers, hw⟩ := of_wt_sl hw
  obtain ⟨drains, ds, rfl, h_drains, hw⟩ := of_wt_sl hw
  obtain rfl := of_wt_nil hw
  obtain ⟨N, hN⟩ := impl_PauseRun_c Vm.bad impl_PauseRun_K p offers drains h_p h_offers h_drains hok
  exact ⟨N, ((impl_PauseRun_r N p offers drains).trans hN).trans (by kernel_rfl)⟩

def spec_PauseRun_s : Sum := { ps := [⟨[.int .i64, .int .i64, .int .i64, .int .i64, .int .i64, .bool, .sl [.int .i64], .sl [.bool], .bool, .int .i64], true⟩, ⟨[.sl [.int .i64]], false⟩, ⟨[.sl [.int .i64]], false⟩], rs := [⟨[.imm (.int .i64), .imm (.int .i64), .imm (.int .i64), .imm (.int .i64), .imm (.int .i64), .imm .bool, .own 3 [.int .i64], .own 4 [.bool], .imm .bool, .imm (.int .i64)], true⟩, ⟨[.imm (.int .i64)], false⟩], fn := fun ds => (PauseRun_ok (SPauseLink.decAt ds 0) (rR ds 10) (rR ds 11), SPauseLink.enc (PauseRun (SPauseLink.decAt ds 0) (rR ds 10) (rR ds 11)).1 ++ [.int (PauseRun (SPauseLink.decAt ds 0) (rR ds 10) (rR ds 11)).2]) }
def spec_PauseRun_G : Ctx := [(16, spec_PauseTick_s), (32, spec_l31Copy_s)]
theorem spec_PauseRun_x : CtxHolds Try.prog spec_PauseRun_G := ctx_cons spec_PauseTick_h (ctx_cons spec_l31Copy_h ctx_nil)
def spec_PauseRun_A : List (Nat × Ann) := [(4, { slots := [(1, .asis), (2, .asis), (6, .asis), (8, .asis), (9, .asis), (10, .asis)], boxes := [(192, []), (384, []), (512, [])] })]
def spec_PauseRun_K : SPauseLink → Int → Res := (fun r0 r1 => ((true, SPauseLink.enc r0 ++ [.int r1]) : Res))
def spec_PauseRun_m0 (offers : Rows) (drains : Rows) (sum : Int) (k : Int) (p_1 : Int) (p_2 : Int) (p_3 : Int) (p_4 : Int) (p_5 : Int) (p_6 : Bool) (p_7 : Rows) (p_8 : Rows) (p_9 : Bool) (p_10 : Int) (b6 : Int) (b6_1 : Int) (b6_2 : Int) (b6_3 : Int) (b6_4 : Int) (b6_5 : Bool) (b6_6 : Bool) (b6_7 : Int) (out_ : Int) (out_1 : Int) (out_2 : Int) (out_3 : Int) (out_4 : Int) (out_5 : Bool) (out_6 : Bool) (out_7 : Int) (out_6_1 : Rows) (out_7_1 : Rows) : St := { n := 46, sl := [(1, .sl [.int .i64] offers), (2, .sl [.int .i64] drains), (6, .ptr 384 0), (8, .ptr 512 0), (9, .int .i64 sum), (10, .int .i64 k)], hp := [(192, .box 28 [.int .i64 p_1, .int .i64 p_2, .int .i64 p_3, .int .i64 p_4, .int .i64 p_5, .bool p_6, .sl [.int .i64] p_7, .sl [.bool] p_8, .bool p_9, .int .i64 p_10]), (384, .box 28 [.int .i64 b6, .int .i64 b6_1, .int .i64 b6_2, .int .i64 b6_3, .int .i64 b6_4, .bool b6_5, .nil, .nil, .bool b6_6, .int .i64 b6_7]), (512, .box 28 [.int .i64 out_, .int .i64 out_1, .int .i64 out_2, .int .i64 out_3, .int .i64 out_4, .bool out_5, .own 1411078, .own 1411079, .bool out_6, .int .i64 out_7]), (1411078, .row 3 [.int .i64] out_6_1 false true), (1411079, .row 4 [.bool] out_7_1 false true)], ok := true, ls := [], lm := [] }
noncomputable def spec_PauseRun_B0 (N : Nat) : (St → Res) → St → Res := loopB Try.prog spec_PauseRun_G spec_PauseRun_A N Try.f18 spec_PauseRun_s [true, true, true, false, true, false] []
theorem spec_PauseRun_b0 (N : Nat) (offers : Rows) (drains : Rows) (p_1 : Int) (p_2 : Int) (p_3 : Int) (p_4 : Int) (p_5 : Int) (p_6 : Bool) (p_7 : Rows) (p_8 : Rows) (p_9 : Bool) (p_10 : Int) (b6 : Int) (b6_1 : Int) (b6_2 : Int) (b6_3 : Int) (b6_4 : Int) (b6_5 : Bool) (b6_6 : Bool) (b6_7 : Int) (ih : St → Res) (sum : Int) (k : Int) (out_ : Int) (out_1 : Int) (out_2 : Int) (out_3 : Int) (out_4 : Int) (out_5 : Bool) (out_6 : Bool) (out_7 : Int) (out_6_1 : Rows) (out_7_1 : Rows) : spec_PauseRun_B0 N ih (spec_PauseRun_m0 offers drains sum k p_1 p_2 p_3 p_4 p_5 p_6 p_7 p_8 p_9 p_10 b6 b6_1 b6_2 b6_3 b6_4 b6_5 b6_6 b6_7 out_ out_1 out_2 out_3 out_4 out_5 out_6 out_7 out_6_1 out_7_1) = spec_PauseRun_l0 Vm.bad spec_PauseRun_K offers drains (fun sum k out_ out_1 out_2 out_3 out_4 out_5 out_6 out_7 out_6_1 out_7_1 => ih (spec_PauseRun_m0 offers drains sum k p_1 p_2 p_3 p_4 p_5 p_6 p_7 p_8 p_9 p_10 b6 b6_1 b6_2 b6_3 b6_4 b6_5 b6_6 b6_7 out_ out_1 out_2 out_3 out_4 out_5 out_6 out_7 out_6_1 out_7_1)) sum k out_ out_1 out_2 out_3 out_4 out_5 out_6 out_7 out_6_1 out_7_1 := by kernel_rfl
theorem spec_PauseRun_n0 (N : Nat) (offers : Rows) (drains : Rows) (p_1 : Int) (p_2 : Int) (p_3 : Int) (p_4 : Int) (p_5 : Int) (p_6 : Bool) (p_7 : Rows) (p_8 : Rows) (p_9 : Bool) (p_10 : Int) (b6 : Int) (b6_1 : Int) (b6_2 : Int) (b6_3 : Int) (b6_4 : Int) (b6_5 : Bool) (b6_6 : Bool) (b6_7 : Int) (m_ : Nat) : (fun sum k out_ out_1 out_2 out_3 out_4 out_5 out_6 out_7 out_6_1 out_7_1 => loopN (spec_PauseRun_B0 N) m_ (spec_PauseRun_m0 offers drains sum k p_1 p_2 p_3 p_4 p_5 p_6 p_7 p_8 p_9 p_10 b6 b6_1 b6_2 b6_3 b6_4 b6_5 b6_6 b6_7 out_ out_1 out_2 out_3 out_4 out_5 out_6 out_7 out_6_1 out_7_1)) = spec_PauseRun_L0 Vm.bad spec_PauseRun_K N offers drains m_ := by
  induction m_ with
  | zero => rfl
  | succ m_ ih =>
    funext sum k out_ out_1 out_2 out_3 out_4 out_5 out_6 out_7 out_6_1 out_7_1
    show spec_PauseRun_B0 N (loopN (spec_PauseRun_B0 N) m_) (spec_PauseRun_m0 offers drains sum k p_1 p_2 p_3 p_4 p_5 p_6 p_7 p_8 p_9 p_10 b6 b6_1 b6_2 b6_3 b6_4 b6_5 b6_6 b6_7 out_ out_1 out_2 out_3 out_4 out_5 out_6 out_7 out_6_1 out_7_1) = _
    rw [spec_PauseRun_b0 N offers drains p_1 p_2 p_3 p_4 p_5 p_6 p_7 p_8 p_9 p_10 b6 b6_1 b6_2 b6_3 b6_4 b6_5 b6_6 b6_7]
    rw [ih]
    rfl
theorem spec_PauseRun_r (N : Nat) (p : SPauseLink) (offers : Rows) (drains : Rows) : runF Try.prog spec_PauseRun_G spec_PauseRun_A N Try.f18 spec_PauseRun_s (p.enc ++ (.sl offers :: (.sl drains :: ([])))) = spec_PauseRun_f Vm.bad spec_PauseRun_K N p offers drains := by
  have h : runF Try.prog spec_PauseRun_G spec_PauseRun_A N Try.f18 spec_PauseRun_s (p.enc ++ (.sl offers :: (.sl drains :: ([])))) = spec_PauseRun_t Vm.bad spec_PauseRun_K (fun sum k out_ out_1 out_2 out_3 out_4 out_5 out_6 out_7 out_6_1 out_7_1 => loopN (spec_PauseRun_B0 N) N (spec_PauseRun_m0 offers drains sum k p.Capacity p.High p.Low p.Delay p.Fill p.Paused p.Flying p.Signals p.Stopped p.Lost 0 0 0 0 0 false false 0 out_ out_1 out_2 out_3 out_4 out_5 out_6 out_7 out_6_1 out_7_1)) p offers drains := by kernel_rfl
  refine h.trans ?_
  unfold spec_PauseRun_f
  have e0 : (fun sum k out_ out_1 out_2 out_3 out_4 out_5 out_6 out_7 out_6_1 out_7_1 => loopN (spec_PauseRun_B0 N) N (spec_PauseRun_m0 offers drains sum k p.Capacity p.High p.Low p.Delay p.Fill p.Paused p.Flying p.Signals p.Stopped p.Lost 0 0 0 0 0 false false 0 out_ out_1 out_2 out_3 out_4 out_5 out_6 out_7 out_6_1 out_7_1)) = (spec_PauseRun_L0 Vm.bad spec_PauseRun_K N offers drains N) := by
    exact spec_PauseRun_n0 N offers drains p.Capacity p.High p.Low p.Delay p.Fill p.Paused p.Flying p.Signals p.Stopped p.Lost 0 0 0 0 0 false false 0 N
  exact congrArg (fun l_ => spec_PauseRun_t Vm.bad spec_PauseRun_K l_ p offers drains) e0
theorem spec_PauseRun_h : Holds Try.prog 18 spec_PauseRun_s := by
  refine holds_of_run (A := spec_PauseRun_A) spec_PauseRun_x Try.func18 rfl (by kernel_rfl) (of_decide_eq_true (by kernel_rfl)) (of_decide_eq_true (by kernel_rfl)) ?_
  intro ds hw hok
  replace hw : WtL (SPauseLink.ct ++ ((.sl [.int .i64]) :: ((.sl [.int .i64]) :: ([])))) ds := hw
  obtain ⟨p, ds, rfl, h_p, hw⟩ := SPauseLink.of_wt (r := _) hw
  obtain ⟨offers, ds, rfl, h_offers, hw⟩ := of_wt_sl hw
  obtain ⟨drains, ds, rfl, h_drains, hw⟩ := of_wt_sl hw
  obtain rfl := of_wt_nil hw
  obtain ⟨N, hN⟩ := spec_PauseRun_c Vm.bad spec_PauseRun_K p offers drains h_p h_offers h_drains hok
  exact ⟨N, ((spec_PauseRun_r N p offers drains).trans hN).trans (by kernel_rfl)⟩

def laws_FnExactPauseRun_s : Sum := { ps := [⟨[.int .i64, .int .i64, .int .i64, .int .i64, .int .i64, .bool, .sl [.int .i64], .sl [.bool], .bool, .int .i64], true⟩, ⟨[.sl [.int .i64]], false⟩, ⟨[.sl [.int .i64]], false⟩], rs := [⟨[.imm .bool], false⟩], fn := fun ds => (fitL (SPauseLink.ct ++ ((.sl [.int .i64]) :: ((.sl [.int .i64]) :: ([])))) ds, [.bool true]) }
def laws_FnExactPauseRun_G : Ctx := [(7, laws_szPauseLink_s), (9, laws_toPauseLink_s), (11, laws_eqPauseLink_s), (14, laws_markPauseLink_s), (15, laws_heldPauseLink_s), (18, spec_PauseRun_s), (19, laws_toIntS_s), (20, impl_PauseRun_s), (21, laws_eqIntS_s), (22, laws_markIntS_s)]
theorem laws_FnExactPauseRun_x : CtxHolds Try.prog laws_FnExactPauseRun_G := ctx_cons laws_szPauseLink_h (ctx_cons laws_toPauseLink_h (ctx_cons laws_eqPauseLink_h (ctx_cons laws_markPauseLink_h (ctx_cons laws_heldPauseLink_h (ctx_cons spec_PauseRun_h (ctx_cons laws_toIntS_h (ctx_cons impl_PauseRun_h (ctx_cons laws_eqIntS_h (ctx_cons laws_markIntS_h ctx_nil)))))))))
def laws_FnExactPauseRun_A : List (Nat × Ann) := []
theorem laws_FnExactPauseRun_r (N : Nat) (aP : SPauseLink) (aOffers : Rows) (aDrains : Rows) : runF Try.prog laws_FnExactPauseRun_G laws_FnExactPauseRun_A N Try.f6 laws_FnExactPauseRun_s (aP.enc ++ (.sl aOffers :: (.sl aDrains :: ([])))) = laws_FnExactPauseRun_t Vm.bad (fun r0 => ((true, [.bool r0]) : Res)) aP aOffers aDrains := by kernel_rfl
theorem laws_FnExactPauseRun_h : Holds Try.prog 6 laws_FnExactPauseRun_s := by
  refine holds_of_run (A := laws_FnExactPauseRun_A) laws_FnExactPauseRun_x Try.func6 rfl (by kernel_rfl) (of_decide_eq_true (by kernel_rfl)) (of_decide_eq_true (by kernel_rfl)) ?_
  intro ds hw hok
  replace hw : WtL (SPauseLink.ct ++ ((.sl [.int .i64]) :: ((.sl [.int .i64]) :: ([])))) ds := hw
  obtain ⟨aP, ds, rfl, h_aP, hw⟩ := SPauseLink.of_wt (r := _) hw
  obtain ⟨aOffers, ds, rfl, h_aOffers, hw⟩ := of_wt_sl hw
  obtain ⟨aDrains, ds, rfl, h_aDrains, hw⟩ := of_wt_sl hw
  obtain rfl := of_wt_nil hw
  exact ⟨0, ((laws_FnExactPauseRun_r 0 aP aOffers aDrains).trans (laws_FnExactPauseRun_c Vm.bad _ aP aOffers aDrains h_aP h_aOffers h_aDrains hok)).trans (by kernel_rfl)⟩

end
end Go.Proofs.Ytbcjbeckcgoanaa.Pl
