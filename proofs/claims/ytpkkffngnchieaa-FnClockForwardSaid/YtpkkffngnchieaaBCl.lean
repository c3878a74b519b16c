/- The contracts of functions of the program: each computes what its plain form says. Conditions: none. -/
import Derived.Test.YtpkkffngnchieaaPCl
import Derived.Test.YtpkkffngnchieaaRows
import Derived.Test.YtpkkffngnchieaaBBa
set_option linter.unusedVariables false
set_option linter.unusedSimpArgs false
set_option maxRecDepth 100000
namespace Go.Proofs.Ytpkkffngnchieaa.Pl
open Vm
noncomputable section

def laws_big_s : Sum := { ps := [⟨[.sl [.int .u8]], false⟩], rs := [⟨[.imm .bool], false⟩], fn := fun ds => (true, [.bool (big (rR ds 0))]) }
def laws_big_G : Ctx := []
theorem laws_big_x : CtxHolds Try.prog laws_big_G := ctx_nil
def laws_big_A : List (Nat × Ann) := []
theorem laws_big_r (N : Nat) (code : Rows) : runF Try.prog laws_big_G laws_big_A N Try.f15 laws_big_s (.sl code :: ([])) = laws_big_t (fun r0 => ((true, [.bool r0]) : Res)) code := by kernel_rfl
theorem laws_big_h : Holds Try.prog 15 laws_big_s := by
  refine holds_of_run (A := laws_big_A) laws_big_x Try.func15 rfl (by kernel_rfl) (of_decide_eq_true (by kernel_rfl)) (of_decide_eq_true (by kernel_rfl)) ?_
  intro ds hw hok
  replace hw : WtL ((.sl [.int .u8]) :: ([])) ds := hw
  obtain ⟨code, ds, rfl, h_code, hw⟩ := of_wt_sl hw
  obtain rfl := of_wt_nil hw
  exact ⟨0, ((laws_big_r 0 code).trans (laws_big_c _ code)).trans (by kernel_rfl)⟩

def laws_at_s : Sum := { ps := [⟨[.sl [.int .u8]], false⟩, ⟨[.int .i64], false⟩], rs := [⟨[.imm (.int .i64)], false⟩], fn := fun ds => (cAt_ok (rR ds 0) (rI ds 1), [.int (cAt (rR ds 0) (rI ds 1))]) }
def laws_at_G : Ctx := []
theorem laws_at_x : CtxHolds Try.prog laws_at_G := ctx_nil
def laws_at_A : List (Nat × Ann) := []
theorem laws_at_r (N : Nat) (code : Rows) (i : Int) : runF Try.prog laws_at_G laws_at_A N Try.f16 laws_at_s (.sl code :: (.int i :: ([]))) = laws_at_t Vm.bad (fun r0 => ((true, [.int r0]) : Res)) code i := by kernel_rfl
theorem laws_at_h : Holds Try.prog 16 laws_at_s := by
  refine holds_of_run (A := laws_at_A) laws_at_x Try.func16 rfl (by kernel_rfl) (of_decide_eq_true (by kernel_rfl)) (of_decide_eq_true (by kernel_rfl)) ?_
  intro ds hw hok
  replace hw : WtL ((.sl [.int .u8]) :: ((.int .i64) :: ([]))) ds := hw
  obtain ⟨code, ds, rfl, h_code, hw⟩ := of_wt_sl hw
  obtain ⟨i, ds, rfl, h_i, hw⟩ := of_wt_int hw
  obtain rfl := of_wt_nil hw
  exact ⟨0, ((laws_at_r 0 code i).trans (laws_at_c Vm.bad _ code i h_code h_i hok)).trans (by kernel_rfl)⟩

def impl_ClockOk_s : Sum := { ps := [⟨[.int .i64, .int .i64, .int .i64, .int .i64], true⟩], rs := [⟨[.imm .bool], false⟩], fn := fun ds => (true, [.bool (ClockOk (SClock.decAt ds 0))]) }
def impl_ClockOk_G : Ctx := [(30, impl_between_s)]
theorem impl_ClockOk_x : CtxHolds Try.prog impl_ClockOk_G := ctx_cons impl_between_h ctx_nil
def impl_ClockOk_A : List (Nat × Ann) := []
theorem impl_ClockOk_r (N : Nat) (k : SClock) : runF Try.prog impl_ClockOk_G impl_ClockOk_A N Try.f14 impl_ClockOk_s (k.enc ++ ([])) = impl_ClockOk_t (fun r0 => ((true, [.bool r0]) : Res)) k := by kernel_rfl
theorem impl_ClockOk_h : Holds Try.prog 14 impl_ClockOk_s := by
  refine holds_of_run (A := impl_ClockOk_A) impl_ClockOk_x Try.func14 rfl (by kernel_rfl) (of_decide_eq_true (by kernel_rfl)) (of_decide_eq_true (by kernel_rfl)) ?_
  intro ds hw hok
  replace hw : WtL (SClock.ct ++ ([])) ds := hw
  obtain ⟨k, ds, rfl, h_k, hw⟩ := SClock.of_wt (r := _) hw
  obtain rfl := of_wt_nil hw
  exact ⟨0, ((impl_ClockOk_r 0 k).trans (impl_ClockOk_c _ k)).trans (by kernel_rfl)⟩

def spec_ClockOk_s : Sum := { ps := [⟨[.int .i64, .int .i64, .int .i64, .int .i64], true⟩], rs := [⟨[.imm .bool], false⟩], fn := fun ds => (true, [.bool (ClockOk (SClock.decAt ds 0))]) }
def spec_ClockOk_G : Ctx := [(29, spec_l01In_s)]
theorem spec_ClockOk_x : CtxHolds Try.prog spec_ClockOk_G := ctx_cons spec_l01In_h ctx_nil
def spec_ClockOk_A : List (Nat × Ann) := []
theorem spec_ClockOk_r (N : Nat) (k : SClock) : runF Try.prog spec_ClockOk_G spec_ClockOk_A N Try.f12 spec_ClockOk_s (k.enc ++ ([])) = spec_ClockOk_t (fun r0 => ((true, [.bool r0]) : Res)) k := by kernel_rfl
theorem spec_ClockOk_h : Holds Try.prog 12 spec_ClockOk_s := by
  refine holds_of_run (A := spec_ClockOk_A) spec_ClockOk_x Try.func12 rfl (by kernel_rfl) (of_decide_eq_true (by kernel_rfl)) (of_decide_eq_true (by kernel_rfl)) ?_
  intro ds hw hok
  replace hw : WtL (SClock.ct ++ ([])) ds := hw
  obtain ⟨k, ds, rfl, h_k, hw⟩ := SClock.of_wt (r := _) hw
  obtain rfl := of_wt_nil hw
  exact ⟨0, ((spec_ClockOk_r 0 k).trans (spec_ClockOk_c _ k h_k)).trans (by kernel_rfl)⟩

def impl_gain_s : Sum := { ps := [⟨[.int .i64, .int .i64, .int .i64, .int .i64], true⟩, ⟨[.int .i64], false⟩], rs := [⟨[.imm (.int .i64), .imm (.int .i64), .imm (.int .i64), .imm (.int .i64)], true⟩], fn := fun ds => (true, SClock.enc (gain (SClock.decAt ds 0) (rI ds 4))) }
def impl_gain_G : Ctx := []
theorem impl_gain_x : CtxHolds Try.prog impl_gain_G := ctx_nil
def impl_gain_A : List (Nat × Ann) := []
theorem impl_gain_r (N : Nat) (k : SClock) (n : Int) : runF Try.prog impl_gain_G impl_gain_A N Try.f35 impl_gain_s (k.enc ++ (.int n :: ([]))) = impl_gain_t (fun r0 => ((true, SClock.enc r0) : Res)) k n := by kernel_rfl
theorem impl_gain_h : Holds Try.prog 35 impl_gain_s := by
  refine holds_of_run (A := impl_gain_A) impl_gain_x Try.func35 rfl (by kernel_rfl) (of_decide_eq_true (by kernel_rfl)) (of_decide_eq_true (by kernel_rfl)) ?_
  intro ds hw hok
  replace hw : WtL (SClock.ct ++ ((.int .i64) :: ([]))) ds := hw
  obtain ⟨k, ds, rfl, h_k, hw⟩ := SClock.of_wt (r := _) hw
  obtain ⟨n, ds, rfl, h_n, hw⟩ := of_wt_int hw
  obtain rfl := of_wt_nil hw
  exact ⟨0, ((impl_gain_r 0 k n).trans (impl_gain_c _ k n)).trans (by kernel_rfl)⟩

def spec_l34Gain_s : Sum := { ps := [⟨[.int .i64, .int .i64, .int .i64, .int .i64], true⟩, ⟨[.int .i64], false⟩], rs := [⟨[.imm (.int .i64), .imm (.int .i64), .imm (.int .i64), .imm (.int .i64)], true⟩], fn := fun ds => (true, SClock.enc (gain (SClock.decAt ds 0) (rI ds 4))) }
def spec_l34Gain_G : Ctx := []
theorem spec_l34Gain_x : CtxHolds Try.prog spec_l34Gain_G := ctx_nil
def spec_l34Gain_A : List (Nat × Ann) := []
theorem spec_l34Gain_r (N : Nat) (k : SClock) (n : Int) : runF Try.prog spec_l34Gain_G spec_l34Gain_A N Try.f36 spec_l34Gain_s (k.enc ++ (.int n :: ([]))) = spec_l34Gain_t (fun r0 => ((true, SClock.enc r0) : Res)) k n := by kernel_rfl
theorem spec_l34Gain_h : Holds Try.prog 36 spec_l34Gain_s := by
  refine holds_of_run (A := spec_l34Gain_A) spec_l34Gain_x Try.func36 rfl (by kernel_rfl) (of_decide_eq_true (by kernel_rfl)) (of_decide_eq_true (by kernel_rfl)) ?_
  intro ds hw hok
  replace hw : WtL (SClock.ct ++ ((.int .i64) :: ([]))) ds := hw
  obtain ⟨k, ds, rfl, h_k, hw⟩ := SClock.of_wt (r := _) hw
  obtain ⟨n, ds, rfl, h_n, hw⟩ := of_wt_int hw
  obtain rfl := of_wt_nil hw
  exact ⟨0, ((spec_l34Gain_r 0 k n).trans (spec_l34Gain_c _ k n h_k h_n)).trans (by kernel_rfl)⟩

def impl_TrimClock_s : Sum := { ps := [⟨[.int .i64, .int .i64, .int .i64, .int .i64], true⟩, ⟨[.int .i64], false⟩], rs := [⟨[.imm (.int .i64), .imm (.int .i64), .imm (.int .i64), .imm (.int .i64)], true⟩], fn := fun ds => (true, SClock.enc (TrimClock (SClock.decAt ds 0) (rI ds 4))) }
def impl_TrimClock_G : Ctx := [(14, impl_ClockOk_s), (30, impl_between_s)]
theorem impl_TrimClock_x : CtxHolds Try.prog impl_TrimClock_G := ctx_cons impl_ClockOk_h (ctx_cons impl_between_h ctx_nil)
def impl_TrimClock_A : List (Nat × Ann) := []
theorem impl_TrimClock_r (N : Nat) (k : SClock) (parts : Int) : runF Try.prog impl_TrimClock_G impl_TrimClock_A N Try.f22 impl_TrimClock_s (k.enc ++ (.int parts :: ([]))) = impl_TrimClock_t (fun r0 => ((true, SClock.enc r0) : Res)) k parts := by kernel_rfl
theorem impl_TrimClock_h : Holds Try.prog 22 impl_TrimClock_s := by
  refine holds_of_run (A := impl_TrimClock_A) impl_TrimClock_x Try.func22 rfl (by kernel_rfl) (of_decide_eq_true (by kernel_rfl)) (of_decide_eq_true (by kernel_rfl)) ?_
  intro ds hw hok
  replace hw : WtL (SClock.ct ++ ((.int .i64) :: ([]))) ds := hw
  obtain ⟨k, ds, rfl, h_k, hw⟩ := SClock.of_wt (r := _) hw
  obtain ⟨parts, ds, rfl, h_parts, hw⟩ := of_wt_int hw
  obtain rfl := of_wt_nil hw
  exact ⟨0, ((impl_TrimClock_r 0 k parts).trans (impl_TrimClock_c _ k parts)).trans (by kernel_rfl)⟩

def spec_TrimClock_s : Sum := { ps := [⟨[.int .i64, .int .i64, .int .i64, .int .i64], true⟩, ⟨[.int .i64], false⟩], rs := [⟨[.imm (.int .i64), .imm (.int .i64), .imm (.int .i64), .imm (.int .i64)], true⟩], fn := fun ds => (true, SClock.enc (TrimClock (SClock.decAt ds 0) (rI ds 4))) }
def spec_TrimClock_G : Ctx := [(12, spec_ClockOk_s), (29, spec_l01In_s)]
theorem spec_TrimClock_x : CtxHolds Try.prog spec_TrimClock_G := ctx_cons spec_ClockOk_h (ctx_cons spec_l01In_h ctx_nil)
def spec_TrimClock_A : List (Nat × Ann) := []
theorem spec_TrimClock_r (N : Nat) (k : SClock) (parts : Int) : runF Try.prog spec_TrimClock_G spec_TrimClock_A N Try.f21 spec_TrimClock_s (k.enc ++ (.int parts :: ([]))) = spec_TrimClock_t (fun r0 => ((true, SClock.enc r0) : Res)) k parts := by kernel_rfl
theorem spec_TrimClock_h : Holds Try.prog 21 spec_TrimClock_s := by
  refine holds_of_run (A := spec_TrimClock_A) spec_TrimClock_x Try.func21 rfl (by kernel_rfl) (of_decide_eq_true (by kernel_rfl)) (of_decide_eq_true (by kernel_rfl)) ?_
  intro ds hw hok
  replace hw : WtL (SClock.ct ++ ((.int .i64) :: ([]))) ds := hw
  obtain ⟨k, ds, rfl, h_k, hw⟩ := SClock.of_wt (r := _) hw
  obtain ⟨parts, ds, rfl, h_parts, hw⟩ := of_wt_int hw
  obtain rfl := of_wt_nil hw
  exact ⟨0, ((spec_TrimClock_r 0 k parts).trans (spec_TrimClock_c _ k parts h_k h_parts)).trans (by kernel_rfl)⟩

def impl_AdvanceClock_s : Sum := { ps := [⟨[.int .i64, .int .i64, .int .i64, .int .i64], true⟩, ⟨[.int .i64], false⟩], rs := [⟨[.imm (.int .i64), .imm (.int .i64), .imm (.int .i64), .imm (.int .i64)], true⟩], fn := fun ds => (true, SClock.enc (AdvanceClock (SClock.decAt ds 0) (rI ds 4))) }
def impl_AdvanceClock_G : Ctx := [(14, impl_ClockOk_s), (30, impl_between_s), (35, impl_gain_s)]
theorem impl_AdvanceClock_x : CtxHolds Try.prog impl_AdvanceClock_G := ctx_cons impl_ClockOk_h (ctx_cons impl_between_h (ctx_cons impl_gain_h ctx_nil))
def impl_AdvanceClock_A : List (Nat × Ann) := []
theorem impl_AdvanceClock_r (N : Nat) (k : SClock) (ticks : Int) : runF Try.prog impl_AdvanceClock_G impl_AdvanceClock_A N Try.f25 impl_AdvanceClock_s (k.enc ++ (.int ticks :: ([]))) = impl_AdvanceClock_t (fun r0 => ((true, SClock.enc r0) : Res)) k ticks := by kernel_rfl
theorem impl_AdvanceClock_h : Holds Try.prog 25 impl_AdvanceClock_s := by
  refine holds_of_run (A := impl_AdvanceClock_A) impl_AdvanceClock_x Try.func25 rfl (by kernel_rfl) (of_decide_eq_true (by kernel_rfl)) (of_decide_eq_true (by kernel_rfl)) ?_
  intro ds hw hok
  replace hw : WtL (SClock.ct ++ ((.int .i64) :: ([]))) ds := hw
  obtain ⟨k, ds, rfl, h_k, hw⟩ := SClock.of_wt (r := _) hw
  obtain ⟨ticks, ds, rfl, h_ticks, hw⟩ := of_wt_int hw
  obtain rfl := of_wt_nil hw
  exact ⟨0, ((impl_AdvanceClock_r 0 k ticks).trans (impl_AdvanceClock_c _ k ticks)).trans (by kernel_rfl)⟩

def spec_AdvanceClock_s : Sum := { ps := [⟨[.int .i64, .int .i64, .int .i64, .int .i64], true⟩, ⟨[.int .i64], false⟩], rs := [⟨[.imm (.int .i64), .imm (.int .i64), .imm (.int .i64), .imm (.int .i64)], true⟩], fn := fun ds => (true, SClock.enc (AdvanceClock (SClock.decAt ds 0) (rI ds 4))) }
def spec_AdvanceClock_G : Ctx := [(12, spec_ClockOk_s), (29, spec_l01In_s), (36, spec_l34Gain_s)]
theorem spec_AdvanceClock_x : CtxHolds Try.prog spec_AdvanceClock_G := ctx_cons spec_ClockOk_h (ctx_cons spec_l01In_h (ctx_cons spec_l34Gain_h ctx_nil))
def spec_AdvanceClock_A : List (Nat × Ann) := []
theorem spec_AdvanceClock_r (N : Nat) (k : SClock) (ticks : Int) : runF Try.prog spec_AdvanceClock_G spec_AdvanceClock_A N Try.f26 spec_AdvanceClock_s (k.enc ++ (.int ticks :: ([]))) = spec_AdvanceClock_t (fun r0 => ((true, SClock.enc r0) : Res)) k ticks := by kernel_rfl
theorem spec_AdvanceClock_h : Holds Try.prog 26 spec_AdvanceClock_s := by
  refine holds_of_run (A := spec_AdvanceClock_A) spec_AdvanceClock_x Try.func26 rfl (by kernel_rfl) (of_decide_eq_true (by kernel_rfl)) (of_decide_eq_true (by kernel_rfl)) ?_
  intro ds hw hok
  replace hw : WtL (SClock.ct ++ ((.int .i64) :: ([]))) ds := hw
  obtain ⟨k, ds, rfl, h_k, hw⟩ := SClock.of_wt (r := _) hw
  obtain ⟨ticks, ds, rfl, h_ticks, hw⟩ := of_wt_int hw
  obtain rfl := of_wt_nil hw
  exact ⟨0, ((spec_AdvanceClock_r 0 k ticks).trans (spec_AdvanceClock_c _ k ticks h_k h_ticks)).trans (by kernel_rfl)⟩

def impl_StepClock_s : Sum := { ps := [⟨[.int .i64, .int .i64, .int .i64, .int .i64], true⟩, ⟨[.int .i64], false⟩], rs := [⟨[.imm (.int .i64), .imm (.int .i64), .imm (.int .i64), .imm (.int .i64)], true⟩], fn := fun ds => (true, SClock.enc (StepClock (SClock.decAt ds 0) (rI ds 4))) }
def impl_StepClock_G : Ctx := [(14, impl_ClockOk_s), (30, impl_between_s), (35, impl_gain_s)]
theorem impl_StepClock_x : CtxHolds Try.prog impl_StepClock_G := ctx_cons impl_ClockOk_h (ctx_cons impl_between_h (ctx_cons impl_gain_h ctx_nil))
def impl_StepClock_A : List (Nat × Ann) := []
theorem impl_StepClock_r (N : Nat) (k : SClock) (offset : Int) : runF Try.prog impl_StepClock_G impl_StepClock_A N Try.f28 impl_StepClock_s (k.enc ++ (.int offset :: ([]))) = impl_StepClock_t (fun r0 => ((true, SClock.enc r0) : Res)) k offset := by kernel_rfl
theorem impl_StepClock_h : Holds Try.prog 28 impl_StepClock_s := by
  refine holds_of_run (A := impl_StepClock_A) impl_StepClock_x Try.func28 rfl (by kernel_rfl) (of_decide_eq_true (by kernel_rfl)) (of_decide_eq_true (by kernel_rfl)) ?_
  intro ds hw hok
  replace hw : WtL (SClock.ct ++ ((.int .i64) :: ([]))) ds := hw
  obtain ⟨k, ds, rfl, h_k, hw⟩ := SClock.of_wt (r := _) hw
  obtain ⟨offset, ds, rfl, h_offset, hw⟩ := of_wt_int hw
  obtain rfl := of_wt_nil hw
  exact ⟨0, ((impl_StepClock_r 0 k offset).trans (impl_StepClock_c _ k offset)).trans (by kernel_rfl)⟩

def spec_StepClock_s : Sum := { ps := [⟨[.int .i64, .int .i64, .int .i64, .int .i64], true⟩, ⟨[.int .i64], false⟩], rs := [⟨[.imm (.int .i64), .imm (.int .i64), .imm (.int .i64), .imm (.int .i64)], true⟩], fn := fun ds => (true, SClock.enc (StepClock (SClock.decAt ds 0) (rI ds 4))) }
def spec_StepClock_G : Ctx := [(12, spec_ClockOk_s), (29, spec_l01In_s), (36, spec_l34Gain_s)]
theorem spec_StepClock_x : CtxHolds Try.prog spec_StepClock_G := ctx_cons spec_ClockOk_h (ctx_cons spec_l01In_h (ctx_cons spec_l34Gain_h ctx_nil))
def spec_StepClock_A : List (Nat × Ann) := []
theorem spec_StepClock_r (N : Nat) (k : SClock) (offset : Int) : runF Try.prog spec_StepClock_G spec_StepClock_A N Try.f27 spec_StepClock_s (k.enc ++ (.int offset :: ([]))) = spec_StepClock_t (fun r0 => ((true, SClock.enc r0) : Res)) k offset := by kernel_rfl
theorem spec_StepClock_h : Holds Try.prog 27 spec_StepClock_s := by
  refine holds_of_run (A := spec_StepClock_A) spec_StepClock_x Try.func27 rfl (by kernel_rfl) (of_decide_eq_true (by kernel_rfl)) (of_decide_eq_true (by kernel_rfl)) ?_
  intro ds hw hok
  replace hw : WtL (SClock.ct ++ ((.int .i64) :: ([]))) ds := hw
  obtain ⟨k, ds, rfl, h_k, hw⟩ := SClock.of_wt (r := _) hw
  obtain ⟨offset, ds, rfl, h_offset, hw⟩ := of_wt_int hw
  obtain rfl := of_wt_nil hw
  exact ⟨0, ((spec_StepClock_r 0 k offset).trans (spec_StepClock_c _ k offset h_k h_offset)).trans (by kernel_rfl)⟩

def impl_areTimes_s : Sum := { ps := [⟨[.int .i64], false⟩, ⟨[.int .i64], false⟩, ⟨[.int .i64], false⟩, ⟨[.int .i64], false⟩], rs := [⟨[.imm .bool], false⟩], fn := fun ds => (true, [.bool (areTimes (rI ds 0) (rI ds 1) (rI ds 2) (rI ds 3))]) }
def impl_areTimes_G : Ctx := [(30, impl_between_s)]
theorem impl_areTimes_x : CtxHolds Try.prog impl_areTimes_G := ctx_cons impl_between_h ctx_nil
def impl_areTimes_A : List (Nat × Ann) := []
theorem impl_areTimes_r (N : Nat) (t1 : Int) (t2 : Int) (t3 : Int) (t4 : Int) : runF Try.prog impl_areTimes_G impl_areTimes_A N Try.f31 impl_areTimes_s (.int t1 :: (.int t2 :: (.int t3 :: (.int t4 :: ([]))))) = impl_areTimes_t (fun r0 => ((true, [.bool r0]) : Res)) t1 t2 t3 t4 := by kernel_rfl
theorem impl_areTimes_h : Holds Try.prog 31 impl_areTimes_s := by
  refine holds_of_run (A := impl_areTimes_A) impl_areTimes_x Try.func31 rfl (by kernel_rfl) (of_decide_eq_true (by kernel_rfl)) (of_decide_eq_true (by kernel_rfl)) ?_
  intro ds hw hok
  replace hw : WtL ((.int .i64) :: ((.int .i64) :: ((.int .i64) :: ((.int .i64) :: ([]))))) ds := hw
  obtain ⟨t1, ds, rfl, h_t1, hw⟩ := of_wt_int hw
  obtain ⟨t2, ds, rfl, h_t2, hw⟩ := of_wt_int hw
  obtain ⟨t3, ds, rfl, h_t3, hw⟩ := of_wt_int hw
  obtain ⟨t4, ds, rfl, h_t4, hw⟩ := of_wt_int hw
  obtain rfl := of_wt_nil hw
  exact ⟨0, ((impl_areTimes_r 0 t1 t2 t3 t4).trans (impl_areTimes_c _ t1 t2 t3 t4)).trans (by kernel_rfl)⟩

def impl_OffsetOf_s : Sum := { ps := [⟨[.int .i64], false⟩, ⟨[.int .i64], false⟩, ⟨[.int .i64], false⟩, ⟨[.int .i64], false⟩], rs := [⟨[.imm (.int .i64)], false⟩], fn := fun ds => (true, [.int (OffsetOf (rI ds 0) (rI ds 1) (rI ds 2) (rI ds 3))]) }
def impl_OffsetOf_G : Ctx := [(31, impl_areTimes_s)]
theorem impl_OffsetOf_x : CtxHolds Try.prog impl_OffsetOf_G := ctx_cons impl_areTimes_h ctx_nil
def impl_OffsetOf_A : List (Nat × Ann) := []
theorem impl_OffsetOf_r (N : Nat) (t1 : Int) (t2 : Int) (t3 : Int) (t4 : Int) : runF Try.prog impl_OffsetOf_G impl_OffsetOf_A N Try.f17 impl_OffsetOf_s (.int t1 :: (.int t2 :: (.int t3 :: (.int t4 :: ([]))))) = impl_OffsetOf_t (fun r0 => ((true, [.int r0]) : Res)) t1 t2 t3 t4 := by kernel_rfl
theorem impl_OffsetOf_h : Holds Try.prog 17 impl_OffsetOf_s := by
  refine holds_of_run (A := impl_OffsetOf_A) impl_OffsetOf_x Try.func17 rfl (by kernel_rfl) (of_decide_eq_true (by kernel_rfl)) (of_decide_eq_true (by kernel_rfl)) ?_
  intro ds hw hok
  replace hw : WtL ((.int .i64) :: ((.int .i64) :: ((.int .i64) :: ((.int .i64) :: ([]))))) ds := hw
  obtain ⟨t1, ds, rfl, h_t1, hw⟩ := of_wt_int hw
  obtain ⟨t2, ds, rfl, h_t2, hw⟩ := of_wt_int hw
  obtain ⟨t3, ds, rfl, h_t3, hw⟩ := of_wt_int hw
  obtain ⟨t4, ds, rfl, h_t4, hw⟩ := of_wt_int hw
  obtain rfl := of_wt_nil hw
  exact ⟨0, ((impl_OffsetOf_r 0 t1 t2 t3 t4).trans (impl_OffsetOf_c _ t1 t2 t3 t4)).trans (by kernel_rfl)⟩

def impl_DelayOf_s : Sum := { ps := [⟨[.int .i64], false⟩, ⟨[.int .i64], false⟩, ⟨[.int .i64], false⟩, ⟨[.int .i64], false⟩], rs := [⟨[.imm (.int .i64)], false⟩], fn := fun ds => (true, [.int (DelayOf (rI ds 0) (rI ds 1) (rI ds 2) (rI ds 3))]) }
def impl_DelayOf_G : Ctx := [(31, impl_areTimes_s)]
theorem impl_DelayOf_x : CtxHolds Try.prog impl_DelayOf_G := ctx_cons impl_areTimes_h ctx_nil
def impl_DelayOf_A : List (Nat × Ann) := []
theorem impl_DelayOf_r (N : Nat) (t1 : Int) (t2 : Int) (t3 : Int) (t4 : Int) : runF Try.prog impl_DelayOf_G impl_DelayOf_A N Try.f18 impl_DelayOf_s (.int t1 :: (.int t2 :: (.int t3 :: (.int t4 :: ([]))))) = impl_DelayOf_t (fun r0 => ((true, [.int r0]) : Res)) t1 t2 t3 t4 := by kernel_rfl
theorem impl_DelayOf_h : Holds Try.prog 18 impl_DelayOf_s := by
  refine holds_of_run (A := impl_DelayOf_A) impl_DelayOf_x Try.func18 rfl (by kernel_rfl) (of_decide_eq_true (by kernel_rfl)) (of_decide_eq_true (by kernel_rfl)) ?_
  intro ds hw hok
  replace hw : WtL ((.int .i64) :: ((.int .i64) :: ((.int .i64) :: ((.int .i64) :: ([]))))) ds := hw
  obtain ⟨t1, ds, rfl, h_t1, hw⟩ := of_wt_int hw
  obtain ⟨t2, ds, rfl, h_t2, hw⟩ := of_wt_int hw
  obtain ⟨t3, ds, rfl, h_t3, hw⟩ := of_wt_int hw
  obtain ⟨t4, ds, rfl, h_t4, hw⟩ := of_wt_int hw
  obtain rfl := of_wt_nil hw
  exact ⟨0, ((impl_DelayOf_r 0 t1 t2 t3 t4).trans (impl_DelayOf_c _ t1 t2 t3 t4)).trans (by kernel_rfl)⟩

def laws_FnOffsetExact_s : Sum := { ps := [⟨[.sl [.int .u8]], false⟩], rs := [⟨[.imm .bool], false⟩], fn := fun ds => (fitL ((.sl [.int .u8]) :: ([])) ds, [.bool true]) }
def laws_FnOffsetExact_G : Ctx := [(15, laws_big_s), (16, laws_at_s), (17, impl_OffsetOf_s), (18, impl_DelayOf_s)]
theorem laws_FnOffsetExact_x : CtxHolds Try.prog laws_FnOffsetExact_G := ctx_cons laws_big_h (ctx_cons laws_at_h (ctx_cons impl_OffsetOf_h (ctx_cons impl_DelayOf_h ctx_nil)))
def laws_FnOffsetExact_A : List (Nat × Ann) := []
theorem laws_FnOffsetExact_r (N : Nat) (code : Rows) : runF Try.prog laws_FnOffsetExact_G laws_FnOffsetExact_A N Try.f4 laws_FnOffsetExact_s (.sl code :: ([])) = laws_FnOffsetExact_t Vm.bad (fun r0 => ((true, [.bool r0]) : Res)) code := by kernel_rfl
theorem laws_FnOffsetExact_h : Holds Try.prog 4 laws_FnOffsetExact_s := by
  refine holds_of_run (A := laws_FnOffsetExact_A) laws_FnOffsetExact_x Try.func4 rfl (by kernel_rfl) (of_decide_eq_true (by kernel_rfl)) (of_decide_eq_true (by kernel_rfl)) ?_
  intro ds hw hok
  replace hw : WtL ((.sl [.int .u8]) :: ([])) ds := hw
  obtain ⟨code, ds, rfl, h_code, hw⟩ := of_wt_sl hw
  obtain rfl := of_wt_nil hw
  exact ⟨0, ((laws_FnOffsetExact_r 0 code).trans (laws_FnOffsetExact_c Vm.bad _ code h_code hok)).trans (by kernel_rfl)⟩

end
end Go.Proofs.Ytpkkffngnchieaa.Pl
