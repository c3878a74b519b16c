/- The contracts of functions of the program: each computes what its plain form says. Conditions: none. -/
import Derived.Test.YtpkkffngnchieaaPCk
import Derived.Test.YtpkkffngnchieaaRows
set_option linter.unusedVariables false
set_option linter.unusedSimpArgs false
set_option maxRecDepth 100000
namespace Go.Proofs.Ytpkkffngnchieaa.Pl
open Vm

def impl_between_s : Sum := { ps := [⟨[.int .i64], false⟩, ⟨[.int .i64], false⟩, ⟨[.int .i64], false⟩], rs := [⟨[.imm .bool], false⟩], fn := fun ds => (true, [.bool (between (rI ds 0) (rI ds 1) (rI ds 2))]) }
def impl_between_G : Ctx := []
theorem impl_between_x : CtxHolds Try.prog impl_between_G := ctx_nil
def impl_between_A : List (Nat × Ann) := []
theorem impl_between_r (N : Nat) (n : Int) (low : Int) (high : Int) : runF Try.prog impl_between_G impl_between_A N Try.f30 impl_between_s (.int n :: (.int low :: (.int high :: ([])))) = impl_between_t (fun r0 => ((true, [.bool r0]) : Res)) n low high := by kernel_rfl
theorem impl_between_h : Holds Try.prog 30 impl_between_s := by
  refine holds_of_run (A := impl_between_A) impl_between_x Try.func30 rfl (by kernel_rfl) (of_decide_eq_true (by kernel_rfl)) ?_
  intro ds hw hok
  replace hw : WtL ((.int .i64) :: ((.int .i64) :: ((.int .i64) :: ([])))) ds := hw
  obtain ⟨n, ds, rfl, h_n, hw⟩ := of_wt_int hw
  obtain ⟨low, ds, rfl, h_low, hw⟩ := of_wt_int hw
  obtain ⟨high, ds, rfl, h_high, hw⟩ := of_wt_int hw
  obtain rfl := of_wt_nil hw
  exact ⟨0, ((impl_between_r 0 n low high).trans (impl_between_c _ n low high)).trans (by kernel_rfl)⟩

def spec_l01In_s : Sum := { ps := [⟨[.int .i64], false⟩, ⟨[.int .i64], false⟩, ⟨[.int .i64], false⟩], rs := [⟨[.imm .bool], false⟩], fn := fun ds => (true, [.bool (between (rI ds 0) (rI ds 1) (rI ds 2))]) }
def spec_l01In_G : Ctx := []
theorem spec_l01In_x : CtxHolds Try.prog spec_l01In_G := ctx_nil
def spec_l01In_A : List (Nat × Ann) := []
theorem spec_l01In_r (N : Nat) (x : Int) (least : Int) (most : Int) : runF Try.prog spec_l01In_G spec_l01In_A N Try.f29 spec_l01In_s (.int x :: (.int least :: (.int most :: ([])))) = spec_l01In_t (fun r0 => ((true, [.bool r0]) : Res)) x least most := by kernel_rfl
theorem spec_l01In_h : Holds Try.prog 29 spec_l01In_s := by
  refine holds_of_run (A := spec_l01In_A) spec_l01In_x Try.func29 rfl (by kernel_rfl) (of_decide_eq_true (by kernel_rfl)) ?_
  intro ds hw hok
  replace hw : WtL ((.int .i64) :: ((.int .i64) :: ((.int .i64) :: ([])))) ds := hw
  obtain ⟨x, ds, rfl, h_x, hw⟩ := of_wt_int hw
  obtain ⟨least, ds, rfl, h_least, hw⟩ := of_wt_int hw
  obtain ⟨most, ds, rfl, h_most, hw⟩ := of_wt_int hw
  obtain rfl := of_wt_nil hw
  exact ⟨0, ((spec_l01In_r 0 x least most).trans (spec_l01In_c _ x least most h_x h_least h_most)).trans (by kernel_rfl)⟩

def laws_toClock_s : Sum := { ps := [⟨[.int .i64, .int .i64, .int .i64, .int .i64], true⟩], rs := [⟨[.imm (.int .i64), .imm (.int .i64), .imm (.int .i64), .imm (.int .i64)], true⟩], fn := fun ds => (true, SClock.enc (toClock (SClock.decAt ds 0))) }
def laws_toClock_G : Ctx := []
theorem laws_toClock_x : CtxHolds Try.prog laws_toClock_G := ctx_nil
def laws_toClock_A : List (Nat × Ann) := []
theorem laws_toClock_r (N : Nat) (a : SClock) : runF Try.prog laws_toClock_G laws_toClock_A N Try.f13 laws_toClock_s (a.enc ++ ([])) = laws_toClock_t (fun r0 => ((true, SClock.enc r0) : Res)) a := by kernel_rfl
theorem laws_toClock_h : Holds Try.prog 13 laws_toClock_s := by
  refine holds_of_run (A := laws_toClock_A) laws_toClock_x Try.func13 rfl (by kernel_rfl) (of_decide_eq_true (by kernel_rfl)) ?_
  intro ds hw hok
  replace hw : WtL (SClock.ct ++ ([])) ds := hw
  obtain ⟨a, ds, rfl, h_a, hw⟩ := SClock.of_wt (r := _) hw
  obtain rfl := of_wt_nil hw
  exact ⟨0, ((laws_toClock_r 0 a).trans (laws_toClock_c _ a)).trans (by kernel_rfl)⟩

def laws_eqClock_s : Sum := { ps := [⟨[.int .i64, .int .i64, .int .i64, .int .i64], true⟩, ⟨[.int .i64, .int .i64, .int .i64, .int .i64], true⟩], rs := [⟨[.imm .bool], false⟩], fn := fun ds => (true, [.bool (eqClock (SClock.decAt ds 0) (SClock.decAt ds 4))]) }
def laws_eqClock_G : Ctx := []
theorem laws_eqClock_x : CtxHolds Try.prog laws_eqClock_G := ctx_nil
def laws_eqClock_A : List (Nat × Ann) := []
theorem laws_eqClock_r (N : Nat) (a : SClock) (b : SClock) : runF Try.prog laws_eqClock_G laws_eqClock_A N Try.f23 laws_eqClock_s (a.enc ++ (b.enc ++ ([]))) = laws_eqClock_t (fun r0 => ((true, [.bool r0]) : Res)) a b := by kernel_rfl
theorem laws_eqClock_h : Holds Try.prog 23 laws_eqClock_s := by
  refine holds_of_run (A := laws_eqClock_A) laws_eqClock_x Try.func23 rfl (by kernel_rfl) (of_decide_eq_true (by kernel_rfl)) ?_
  intro ds hw hok
  replace hw : WtL (SClock.ct ++ (SClock.ct ++ ([]))) ds := hw
  obtain ⟨a, ds, rfl, h_a, hw⟩ := SClock.of_wt (r := _) hw
  obtain ⟨b, ds, rfl, h_b, hw⟩ := SClock.of_wt (r := _) hw
  obtain rfl := of_wt_nil hw
  exact ⟨0, ((laws_eqClock_r 0 a b).trans (laws_eqClock_c _ a b)).trans (by kernel_rfl)⟩

def impl_ClockOk_s : Sum := { ps := [⟨[.int .i64, .int .i64, .int .i64, .int .i64], true⟩], rs := [⟨[.imm .bool], false⟩], fn := fun ds => (true, [.bool (ClockOk (SClock.decAt ds 0))]) }
def impl_ClockOk_G : Ctx := [(30, impl_between_s)]
theorem impl_ClockOk_x : CtxHolds Try.prog impl_ClockOk_G := ctx_cons impl_between_h ctx_nil
def impl_ClockOk_A : List (Nat × Ann) := []
theorem impl_ClockOk_r (N : Nat) (k : SClock) : runF Try.prog impl_ClockOk_G impl_ClockOk_A N Try.f14 impl_ClockOk_s (k.enc ++ ([])) = impl_ClockOk_t (fun r0 => ((true, [.bool r0]) : Res)) k := by kernel_rfl
theorem impl_ClockOk_h : Holds Try.prog 14 impl_ClockOk_s := by
  refine holds_of_run (A := impl_ClockOk_A) impl_ClockOk_x Try.func14 rfl (by kernel_rfl) (of_decide_eq_true (by kernel_rfl)) ?_
  intro ds hw hok
  replace hw : WtL (SClock.ct ++ ([])) ds := hw
  obtain ⟨k, ds, rfl, h_k, hw⟩ := SClock.of_wt (r := _) hw
  obtain rfl := of_wt_nil hw
  exact ⟨0, ((impl_ClockOk_r 0 k).trans (impl_ClockOk_c _ k)).trans (by kernel_rfl)⟩

def spec_ClockOk_s : Sum := { ps := [⟨[.int .i64, .int .i64, .int .i64, .int .i64], true⟩], rs := [⟨[.imm .bool], false⟩], fn := fun ds => (true, [.bool (ClockOk (SClock.decAt ds 0))]) }
def spec_ClockOk_G : Ctx := [(29, spec_l01In_s)]
theorem spec_ClockOk_x : CtxHolds Try.prog spec_ClockOk_G := ctx_cons spec_l01In_h ctx_nil
def spec_ClockOk_A : List (Nat × Ann) := []
theorem spec_ClockOk_r (N : Nat) (k : SClock) : runF Try.prog spec_ClockOk_G spec_ClockOk_A N Try.f12 spec_ClockOk_s (k.enc ++ ([])) = spec_ClockOk_t (fun r0 => ((true, [.bool r0]) : Res)) k := by kernel_rfl
theorem spec_ClockOk_h : Holds Try.prog 12 spec_ClockOk_s := by
  refine holds_of_run (A := spec_ClockOk_A) spec_ClockOk_x Try.func12 rfl (by kernel_rfl) (of_decide_eq_true (by kernel_rfl)) ?_
  intro ds hw hok
  replace hw : WtL (SClock.ct ++ ([])) ds := hw
  obtain ⟨k, ds, rfl, h_k, hw⟩ := SClock.of_wt (r := _) hw
  obtain rfl := of_wt_nil hw
  exact ⟨0, ((spec_ClockOk_r 0 k).trans (spec_ClockOk_c _ k h_k)).trans (by kernel_rfl)⟩

def impl_gain_s : Sum := { ps := [⟨[.int .i64, .int .i64, .int .i64, .int .i64], true⟩, ⟨[.int .i64], false⟩], rs := [⟨[.imm (.int .i64), .imm (.int .i64), .imm (.int .i64), .imm (.int .i64)], true⟩], fn := fun ds => (true, SClock.enc (gain (SClock.decAt ds 0) (rI ds 4))) }
def impl_gain_G : Ctx := []
theorem impl_gain_x : CtxHolds Try.prog impl_gain_G := ctx_nil
def impl_gain_A : List (Nat × Ann) := []
theorem impl_gain_r (N : Nat) (k : SClock) (n : Int) : runF Try.prog impl_gain_G impl_gain_A N Try.f35 impl_gain_s (k.enc ++ (.int n :: ([]))) = impl_gain_t (fun r0 => ((true, SClock.enc r0) : Res)) k n := by kernel_rfl
theorem impl_gain_h : Holds Try.prog 35 impl_gain_s := by
  refine holds_of_run (A := impl_gain_A) impl_gain_x Try.func35 rfl (by kernel_rfl) (of_decide_eq_true (by kernel_rfl)) ?_
  intro ds hw hok
  replace hw : WtL (SClock.ct ++ ((.int .i64) :: ([]))) ds := hw
  obtain ⟨k, ds, rfl, h_k, hw⟩ := SClock.of_wt (r := _) hw
  obtain ⟨n, ds, rfl, h_n, hw⟩ := of_wt_int hw
  obtain rfl := of_wt_nil hw
  exact ⟨0, ((impl_gain_r 0 k n).trans (impl_gain_c _ k n)).trans (by kernel_rfl)⟩

def spec_l34Gain_s : Sum := { ps := [⟨[.int .i64, .int .i64, .int .i64, .int .i64], true⟩, ⟨[.int .i64], false⟩], rs := [⟨[.imm (.int .i64), .imm (.int .i64), .imm (.int .i64), .imm (.int .i64)], true⟩], fn := fun ds => (true, SClock.enc (gain (SClock.decAt ds 0) (rI ds 4))) }
def spec_l34Gain_G : Ctx := []
theorem spec_l34Gain_x : CtxHolds Try.prog spec_l34Gain_G := ctx_nil
def spec_l34Gain_A : List (Nat × Ann) := []
theorem spec_l34Gain_r (N : Nat) (k : SClock) (n : Int) : runF Try.prog spec_l34Gain_G spec_l34Gain_A N Try.f36 spec_l34Gain_s (k.enc ++ (.int n :: ([]))) = spec_l34Gain_t (fun r0 => ((true, SClock.enc r0) : Res)) k n := by kernel_rfl
theorem spec_l34Gain_h : Holds Try.prog 36 spec_l34Gain_s := by
  refine holds_of_run (A := spec_l34Gain_A) spec_l34Gain_x Try.func36 rfl (by kernel_rfl) (of_decide_eq_true (by kernel_rfl)) ?_
  intro ds hw hok
  replace hw : WtL (SClock.ct ++ ((.int .i64) :: ([]))) ds := hw
  obtain ⟨k, ds, rfl, h_k, hw⟩ := SClock.of_wt (r := _) hw
  obtain ⟨n, ds, rfl, h_n, hw⟩ := of_wt_int hw
  obtain rfl := of_wt_nil hw
  exact ⟨0, ((spec_l34Gain_r 0 k n).trans (spec_l34Gain_c _ k n h_k h_n)).trans (by kernel_rfl)⟩

def impl_TrimClock_s : Sum := { ps := [⟨[.int .i64, .int .i64, .int .i64, .int .i64], true⟩, ⟨[.int .i64], false⟩], rs := [⟨[.imm (.int .i64), .imm (.int .i64), .imm (.int .i64), .imm (.int .i64)], true⟩], fn := fun ds => (true, SClock.enc (TrimClock (SClock.decAt ds 0) (rI ds 4))) }
def impl_TrimClock_G : Ctx := [(14, impl_ClockOk_s), (30, impl_between_s)]
theorem impl_TrimClock_x : CtxHolds Try.prog impl_TrimClock_G := ctx_cons impl_ClockOk_h (ctx_cons impl_between_h ctx_nil)
def impl_TrimClock_A : List (Nat × Ann) := []
theorem impl_TrimClock_r (N : Nat) (k : SClock) (parts : Int) : runF Try.prog impl_TrimClock_G impl_TrimClock_A N Try.f22 impl_TrimClock_s (k.enc ++ (.int parts :: ([]))) = impl_TrimClock_t (fun r0 => ((true, SClock.enc r0) : Res)) k parts := by kernel_rfl
theorem impl_TrimClock_h : Holds Try.prog 22 impl_TrimClock_s := by
  refine holds_of_run (A := impl_TrimClock_A) impl_TrimClock_x Try.func22 rfl (by kernel_rfl) (of_decide_eq_true (by kernel_rfl)) ?_
  intro ds hw hok
  replace hw : WtL (SClock.ct ++ ((.int .i64) :: ([]))) ds := hw
  obtain ⟨k, ds, rfl, h_k, hw⟩ := SClock.of_wt (r := _) hw
  obtain ⟨parts, ds, rfl, h_parts, hw⟩ := of_wt_int hw
  obtain rfl := of_wt_nil hw
  exact ⟨0, ((impl_TrimClock_r 0 k parts).trans (impl_TrimClock_c _ k parts)).trans (by kernel_rfl)⟩

def spec_TrimClock_s : Sum := { ps := [⟨[.int .i64, .int .i64, .int .i64, .int .i64], true⟩, ⟨[.int .i64], false⟩], rs := [⟨[.imm (.int .i64), .imm (.int .i64), .imm (.int .i64), .imm (.int .i64)], true⟩], fn := fun ds => (true, SClock.enc (TrimClock (SClock.decAt ds 0) (rI ds 4))) }
def spec_TrimClock_G : Ctx := [(12, spec_ClockOk_s), (29, spec_l01In_s)]
theorem spec_TrimClock_x : CtxHolds Try.prog spec_TrimClock_G := ctx_cons spec_ClockOk_h (ctx_cons spec_l01In_h ctx_nil)
def spec_TrimClock_A : List (Nat × Ann) := []
theorem spec_TrimClock_r (N : Nat) (k : SClock) (parts : Int) : runF Try.prog spec_TrimClock_G spec_TrimClock_A N Try.f21 spec_TrimClock_s (k.enc ++ (.int parts :: ([]))) = spec_TrimClock_t (fun r0 => ((true, SClock.enc r0) : Res)) k parts := by kernel_rfl
theorem spec_TrimClock_h : Holds Try.prog 21 spec_TrimClock_s := by
  refine holds_of_run (A := spec_TrimClock_A) spec_TrimClock_x Try.func21 rfl (by kernel_rfl) (of_decide_eq_true (by kernel_rfl)) ?_
  intro ds hw hok
  replace hw : WtL (SClock.ct ++ ((.int .i64) :: ([]))) ds := hw
  obtain ⟨k, ds, rfl, h_k, hw⟩ := SClock.of_wt (r := _) hw
  obtain ⟨parts, ds, rfl, h_parts, hw⟩ := of_wt_int hw
  obtain rfl := of_wt_nil hw
  exact ⟨0, ((spec_TrimClock_r 0 k parts).trans (spec_TrimClock_c _ k parts h_k h_parts)).trans (by kernel_rfl)⟩

def impl_AdvanceClock_s : Sum := { ps := [⟨[.int .i64, .int .i64, .int .i64, .int .i64], true⟩, ⟨[.int .i64], false⟩], rs := [⟨[.imm (.int .i64), .imm (.int .i64), .imm (.int .i64), .imm (.int .i64)], true⟩], fn := fun ds => (true, SClock.enc (AdvanceClock (SClock.decAt ds 0) (rI ds 4))) }
def impl_AdvanceClock_G : Ctx := [(14, impl_ClockOk_s), (30, impl_between_s), (35, impl_gain_s)]
theorem impl_AdvanceClock_x : CtxHolds Try.prog impl_AdvanceClock_G := ctx_cons impl_ClockOk_h (ctx_cons impl_between_h (ctx_cons impl_gain_h ctx_nil))
def impl_AdvanceClock_A : List (Nat × Ann) := []
theorem impl_AdvanceClock_r (N : Nat) (k : SClock) (ticks : Int) : runF Try.prog impl_AdvanceClock_G impl_AdvanceClock_A N Try.f25 impl_AdvanceClock_s (k.enc ++ (.int ticks :: ([]))) = impl_AdvanceClock_t (fun r0 => ((true, SClock.enc r0) : Res)) k ticks := by kernel_rfl
theorem impl_AdvanceClock_h : Holds Try.prog 25 impl_AdvanceClock_s := by
  refine holds_of_run (A := impl_AdvanceClock_A) impl_AdvanceClock_x Try.func25 rfl (by kernel_rfl) (of_decide_eq_true (by kernel_rfl)) ?_
  intro ds hw hok
  replace hw : WtL (SClock.ct ++ ((.int .i64) :: ([]))) ds := hw
  obtain ⟨k, ds, rfl, h_k, hw⟩ := SClock.of_wt (r := _) hw
  obtain ⟨ticks, ds, rfl, h_ticks, hw⟩ := of_wt_int hw
  obtain rfl := of_wt_nil hw
  exact ⟨0, ((impl_AdvanceClock_r 0 k ticks).trans (impl_AdvanceClock_c _ k ticks)).trans (by kernel_rfl)⟩

def spec_AdvanceClock_s : Sum := { ps := [⟨[.int .i64, .int .i64, .int .i64, .int .i64], true⟩, ⟨[.int .i64], false⟩], rs := [⟨[.imm (.int .i64), .imm (.int .i64), .imm (.int .i64), .imm (.int .i64)], true⟩], fn := fun ds => (true, SClock.enc (AdvanceClock (SClock.decAt ds 0) (rI ds 4))) }
def spec_AdvanceClock_G : Ctx := [(12, spec_ClockOk_s), (29, spec_l01In_s), (36, spec_l34Gain_s)]
theorem spec_AdvanceClock_x : CtxHolds Try.prog spec_AdvanceClock_G := ctx_cons spec_ClockOk_h (ctx_cons spec_l01In_h (ctx_cons spec_l34Gain_h ctx_nil))
def spec_AdvanceClock_A : List (Nat × Ann) := []
theorem spec_AdvanceClock_r (N : Nat) (k : SClock) (ticks : Int) : runF Try.prog spec_AdvanceClock_G spec_AdvanceClock_A N Try.f26 spec_AdvanceClock_s (k.enc ++ (.int ticks :: ([]))) = spec_AdvanceClock_t (fun r0 => ((true, SClock.enc r0) : Res)) k ticks := by kernel_rfl
theorem spec_AdvanceClock_h : Holds Try.prog 26 spec_AdvanceClock_s := by
  refine holds_of_run (A := spec_AdvanceClock_A) spec_AdvanceClock_x Try.func26 rfl (by kernel_rfl) (of_decide_eq_true (by kernel_rfl)) ?_
  intro ds hw hok
  replace hw : WtL (SClock.ct ++ ((.int .i64) :: ([]))) ds := hw
  obtain ⟨k, ds, rfl, h_k, hw⟩ := SClock.of_wt (r := _) hw
  obtain ⟨ticks, ds, rfl, h_ticks, hw⟩ := of_wt_int hw
  obtain rfl := of_wt_nil hw
  exact ⟨0, ((spec_AdvanceClock_r 0 k ticks).trans (spec_AdvanceClock_c _ k ticks h_k h_ticks)).trans (by kernel_rfl)⟩

def impl_StepClock_s : Sum := { ps := [⟨[.int .i64, .int .i64, .int .i64, .int .i64], true⟩, ⟨[.int .i64], false⟩], rs := [⟨[.imm (.int .i64), .imm (.int .i64), .imm (.int .i64), .imm (.int .i64)], true⟩], fn := fun ds => (true, SClock.enc (StepClock (SClock.decAt ds 0) (rI ds 4))) }
def impl_StepClock_G : Ctx := [(14, impl_ClockOk_s), (30, impl_between_s), (35, impl_gain_s)]
theorem impl_StepClock_x : CtxHolds Try.prog impl_StepClock_G := ctx_cons impl_ClockOk_h (ctx_cons impl_between_h (ctx_cons impl_gain_h ctx_nil))
def impl_StepClock_A : List (Nat × Ann) := []
theorem impl_StepClock_r (N : Nat) (k : SClock) (offset : Int) : runF Try.prog impl_StepClock_G impl_StepClock_A N Try.f28 impl_StepClock_s (k.enc ++ (.int offset :: ([]))) = impl_StepClock_t (fun r0 => ((true, SClock.enc r0) : Res)) k offset := by kernel_rfl
theorem impl_StepClock_h : Holds Try.prog 28 impl_StepClock_s := by
  refine holds_of_run (A := impl_StepClock_A) impl_StepClock_x Try.func28 rfl (by kernel_rfl) (of_decide_eq_true (by kernel_rfl)) ?_
  intro ds hw hok
  replace hw : WtL (SClock.ct ++ ((.int .i64) :: ([]))) ds := hw
  obtain ⟨k, ds, rfl, h_k, hw⟩ := SClock.of_wt (r := _) hw
  obtain ⟨offset, ds, rfl, h_offset, hw⟩ := of_wt_int hw
  obtain rfl := of_wt_nil hw
  exact ⟨0, ((impl_StepClock_r 0 k offset).trans (impl_StepClock_c _ k offset)).trans (by kernel_rfl)⟩

def spec_StepClock_s : Sum := { ps := [⟨[.int .i64, .int .i64, .int .i64, .int .i64], true⟩, ⟨[.int .i64], false⟩], rs := [⟨[.imm (.int .i64), .imm (.int .i64), .imm (.int .i64), .imm (.int .i64)], true⟩], fn := fun ds => (true, SClock.enc (StepClock (SClock.decAt ds 0) (rI ds 4))) }
def spec_StepClock_G : Ctx := [(12, spec_ClockOk_s), (29, spec_l01In_s), (36, spec_l34Gain_s)]
theorem spec_StepClock_x : CtxHolds Try.prog spec_StepClock_G := ctx_cons spec_ClockOk_h (ctx_cons spec_l01In_h (ctx_cons spec_l34Gain_h ctx_nil))
def spec_StepClock_A : List (Nat × Ann) := []
theorem spec_StepClock_r (N : Nat) (k : SClock) (offset : Int) : runF Try.prog spec_StepClock_G spec_StepClock_A N Try.f27 spec_StepClock_s (k.enc ++ (.int offset :: ([]))) = spec_StepClock_t (fun r0 => ((true, SClock.enc r0) : Res)) k offset := by kernel_rfl
theorem spec_StepClock_h : Holds Try.prog 27 spec_StepClock_s := by
  refine holds_of_run (A := spec_StepClock_A) spec_StepClock_x Try.func27 rfl (by kernel_rfl) (of_decide_eq_true (by kernel_rfl)) ?_
  intro ds hw hok
  replace hw : WtL (SClock.ct ++ ((.int .i64) :: ([]))) ds := hw
  obtain ⟨k, ds, rfl, h_k, hw⟩ := SClock.of_wt (r := _) hw
  obtain ⟨offset, ds, rfl, h_offset, hw⟩ := of_wt_int hw
  obtain rfl := of_wt_nil hw
  exact ⟨0, ((spec_StepClock_r 0 k offset).trans (spec_StepClock_c _ k offset h_k h_offset)).trans (by kernel_rfl)⟩

def laws_FnExactTrimClock_s : Sum := { ps := [⟨[.int .i64, .int .i64, .int .i64, .int .i64], true⟩, ⟨[.int .i64], false⟩], rs := [⟨[.imm .bool], false⟩], fn := fun ds => (fitL (SClock.ct ++ ((.int .i64) :: ([]))) ds, [.bool true]) }
def laws_FnExactTrimClock_G : Ctx := [(13, laws_toClock_s), (21, spec_TrimClock_s), (22, impl_TrimClock_s), (23, laws_eqClock_s)]
theorem laws_FnExactTrimClock_x : CtxHolds Try.prog laws_FnExactTrimClock_G := ctx_cons laws_toClock_h (ctx_cons spec_TrimClock_h (ctx_cons impl_TrimClock_h (ctx_cons laws_eqClock_h ctx_nil)))
def laws_FnExactTrimClock_A : List (Nat × Ann) := []
theorem laws_FnExactTrimClock_r (N : Nat) (aK : SClock) (aParts : Int) : runF Try.prog laws_FnExactTrimClock_G laws_FnExactTrimClock_A N Try.f7 laws_FnExactTrimClock_s (aK.enc ++ (.int aParts :: ([]))) = laws_FnExactTrimClock_t (fun r0 => ((true, [.bool r0]) : Res)) aK aParts := by kernel_rfl
theorem laws_FnExactTrimClock_h : Holds Try.prog 7 laws_FnExactTrimClock_s := by
  refine holds_of_run (A := laws_FnExactTrimClock_A) laws_FnExactTrimClock_x Try.func7 rfl (by kernel_rfl) (of_decide_eq_true (by kernel_rfl)) ?_
  intro ds hw hok
  replace hw : WtL (SClock.ct ++ ((.int .i64) :: ([]))) ds := hw
  obtain ⟨aK, ds, rfl, h_aK, hw⟩ := SClock.of_wt (r := _) hw
  obtain ⟨aParts, ds, rfl, h_aParts, hw⟩ := of_wt_int hw
  obtain rfl := of_wt_nil hw
  exact ⟨0, ((laws_FnExactTrimClock_r 0 aK aParts).trans (laws_FnExactTrimClock_c _ aK aParts h_aK h_aParts hok)).trans (by kernel_rfl)⟩

def laws_FnExactAdvanceClock_s : Sum := { ps := [⟨[.int .i64, .int .i64, .int .i64, .int .i64], true⟩, ⟨[.int .i64], false⟩], rs := [⟨[.imm .bool], false⟩], fn := fun ds => (fitL (SClock.ct ++ ((.int .i64) :: ([]))) ds, [.bool true]) }
def laws_FnExactAdvanceClock_G : Ctx := [(13, laws_toClock_s), (23, laws_eqClock_s), (25, impl_AdvanceClock_s), (26, spec_AdvanceClock_s)]
theorem laws_FnExactAdvanceClock_x : CtxHolds Try.prog laws_FnExactAdvanceClock_G := ctx_cons laws_toClock_h (ctx_cons laws_eqClock_h (ctx_cons impl_AdvanceClock_h (ctx_cons spec_AdvanceClock_h ctx_nil)))
def laws_FnExactAdvanceClock_A : List (Nat × Ann) := []
theorem laws_FnExactAdvanceClock_r (N : Nat) (aK : SClock) (aTicks : Int) : runF Try.prog laws_FnExactAdvanceClock_G laws_FnExactAdvanceClock_A N Try.f9 laws_FnExactAdvanceClock_s (aK.enc ++ (.int aTicks :: ([]))) = laws_FnExactAdvanceClock_t (fun r0 => ((true, [.bool r0]) : Res)) aK aTicks := by kernel_rfl
theorem laws_FnExactAdvanceClock_h : Holds Try.prog 9 laws_FnExactAdvanceClock_s := by
  refine holds_of_run (A := laws_FnExactAdvanceClock_A) laws_FnExactAdvanceClock_x Try.func9 rfl (by kernel_rfl) (of_decide_eq_true (by kernel_rfl)) ?_
  intro ds hw hok
  replace hw : WtL (SClock.ct ++ ((.int .i64) :: ([]))) ds := hw
  obtain ⟨aK, ds, rfl, h_aK, hw⟩ := SClock.of_wt (r := _) hw
  obtain ⟨aTicks, ds, rfl, h_aTicks, hw⟩ := of_wt_int hw
  obtain rfl := of_wt_nil hw
  exact ⟨0, ((laws_FnExactAdvanceClock_r 0 aK aTicks).trans (laws_FnExactAdvanceClock_c _ aK aTicks h_aK h_aTicks hok)).trans (by kernel_rfl)⟩

def laws_FnExactStepClock_s : Sum := { ps := [⟨[.int .i64, .int .i64, .int .i64, .int .i64], true⟩, ⟨[.int .i64], false⟩], rs := [⟨[.imm .bool], false⟩], fn := fun ds => (fitL (SClock.ct ++ ((.int .i64) :: ([]))) ds, [.bool true]) }
def laws_FnExactStepClock_G : Ctx := [(13, laws_toClock_s), (23, laws_eqClock_s), (27, spec_StepClock_s), (28, impl_StepClock_s)]
theorem laws_FnExactStepClock_x : CtxHolds Try.prog laws_FnExactStepClock_G := ctx_cons laws_toClock_h (ctx_cons laws_eqClock_h (ctx_cons spec_StepClock_h (ctx_cons impl_StepClock_h ctx_nil)))
def laws_FnExactStepClock_A : List (Nat × Ann) := []
theorem laws_FnExactStepClock_r (N : Nat) (aK : SClock) (aOffset : Int) : runF Try.prog laws_FnExactStepClock_G laws_FnExactStepClock_A N Try.f10 laws_FnExactStepClock_s (aK.enc ++ (.int aOffset :: ([]))) = laws_FnExactStepClock_t (fun r0 => ((true, [.bool r0]) : Res)) aK aOffset := by kernel_rfl
theorem laws_FnExactStepClock_h : Holds Try.prog 10 laws_FnExactStepClock_s := by
  refine holds_of_run (A := laws_FnExactStepClock_A) laws_FnExactStepClock_x Try.func10 rfl (by kernel_rfl) (of_decide_eq_true (by kernel_rfl)) ?_
  intro ds hw hok
  replace hw : WtL (SClock.ct ++ ((.int .i64) :: ([]))) ds := hw
  obtain ⟨aK, ds, rfl, h_aK, hw⟩ := SClock.of_wt (r := _) hw
  obtain ⟨aOffset, ds, rfl, h_aOffset, hw⟩ := of_wt_int hw
  obtain rfl := of_wt_nil hw
  exact ⟨0, ((laws_FnExactStepClock_r 0 aK aOffset).trans (laws_FnExactStepClock_c _ aK aOffset h_aK h_aOffset hok)).trans (by kernel_rfl)⟩

def spec_l34Times_s : Sum := { ps := [⟨[.sl [.int .i64]], false⟩], rs := [⟨[.imm .bool], false⟩], fn := fun ds => (true, [.bool (l34Times (rR ds 0))]) }
def spec_l34Times_G : Ctx := [(29, spec_l01In_s)]
theorem spec_l34Times_x : CtxHolds Try.prog spec_l34Times_G := ctx_cons spec_l01In_h ctx_nil
def spec_l34Times_A : List (Nat × Ann) := [(2, { slots := [(0, .asis), (3, .asis)], boxes := [] })]
def spec_l34Times_K : Bool → Res := (fun r0 => ((true, [.bool r0]) : Res))
def spec_l34Times_m0 (list_1 : Rows) (k : Int) : St := { n := 16, sl := [(0, .sl [.int .i64] list_1), (3, .int .i64 k)], hp := [], ok := true, ls := [], lm := [] }
noncomputable def spec_l34Times_B0 (N : Nat) : (St → Res) → St → Res := loopB Try.prog spec_l34Times_G spec_l34Times_A N Try.f32 spec_l34Times_s [true, false, true, false] []
theorem spec_l34Times_b0 (N : Nat) (list_1 : Rows) (ih : St → Res) (k : Int) : spec_l34Times_B0 N ih (spec_l34Times_m0 list_1 k) = spec_l34Times_l0 Vm.bad spec_l34Times_K list_1 (fun k => ih (spec_l34Times_m0 list_1 k)) k := by kernel_rfl
theorem spec_l34Times_n0 (N : Nat) (list_1 : Rows) (n : Nat) : (fun k => loopN (spec_l34Times_B0 N) n (spec_l34Times_m0 list_1 k)) = spec_l34Times_L0 Vm.bad spec_l34Times_K N list_1 n := by
  induction n with
  | zero => rfl
  | succ n ih =>
    funext k
    show spec_l34Times_B0 N (loopN (spec_l34Times_B0 N) n) (spec_l34Times_m0 list_1 k) = _
    rw [spec_l34Times_b0 N list_1]
    rw [ih]
    rfl
theorem spec_l34Times_r (N : Nat) (list_ : Rows) : runF Try.prog spec_l34Times_G spec_l34Times_A N Try.f32 spec_l34Times_s (.sl list_ :: ([])) = spec_l34Times_f Vm.bad spec_l34Times_K N list_ := by
  have h : runF Try.prog spec_l34Times_G spec_l34Times_A N Try.f32 spec_l34Times_s (.sl list_ :: ([])) = spec_l34Times_t Vm.bad spec_l34Times_K (fun list_1 k => loopN (spec_l34Times_B0 N) N (spec_l34Times_m0 list_1 k)) list_ := by kernel_rfl
  rw [h]
  unfold spec_l34Times_f
  congr 1
  funext list_1
  exact spec_l34Times_n0 N list_1 N
theorem spec_l34Times_h : Holds Try.prog 32 spec_l34Times_s := by
  refine holds_of_run (A := spec_l34Times_A) spec_l34Times_x Try.func32 rfl (by kernel_rfl) (of_decide_eq_true (by kernel_rfl)) ?_
  intro ds hw hok
  replace hw : WtL ((.sl [.int .i64]) :: ([])) ds := hw
  obtain ⟨list_, ds, rfl, h_list_, hw⟩ := of_wt_sl hw
  obtain rfl := of_wt_nil hw
  obtain ⟨N, hN⟩ := spec_l34Times_c Vm.bad spec_l34Times_K list_ h_list_
  exact ⟨N, ((spec_l34Times_r N list_).trans hN).trans (by kernel_rfl)⟩

def impl_areTimes_s : Sum := { ps := [⟨[.int .i64], false⟩, ⟨[.int .i64], false⟩, ⟨[.int .i64], false⟩, ⟨[.int .i64], false⟩], rs := [⟨[.imm .bool], false⟩], fn := fun ds => (true, [.bool (areTimes (rI ds 0) (rI ds 1) (rI ds 2) (rI ds 3))]) }
def impl_areTimes_G : Ctx := [(30, impl_between_s)]
theorem impl_areTimes_x : CtxHolds Try.prog impl_areTimes_G := ctx_cons impl_between_h ctx_nil
def impl_areTimes_A : List (Nat × Ann) := []
theorem impl_areTimes_r (N : Nat) (t1 : Int) (t2 : Int) (t3 : Int) (t4 : Int) : runF Try.prog impl_areTimes_G impl_areTimes_A N Try.f31 impl_areTimes_s (.int t1 :: (.int t2 :: (.int t3 :: (.int t4 :: ([]))))) = impl_areTimes_t (fun r0 => ((true, [.bool r0]) : Res)) t1 t2 t3 t4 := by kernel_rfl
theorem impl_areTimes_h : Holds Try.prog 31 impl_areTimes_s := by
  refine holds_of_run (A := impl_areTimes_A) impl_areTimes_x Try.func31 rfl (by kernel_rfl) (of_decide_eq_true (by kernel_rfl)) ?_
  intro ds hw hok
  replace hw : WtL ((.int .i64) :: ((.int .i64) :: ((.int .i64) :: ((.int .i64) :: ([]))))) ds := hw
  obtain ⟨t1, ds, rfl, h_t1, hw⟩ := of_wt_int hw
  obtain ⟨t2, ds, rfl, h_t2, hw⟩ := of_wt_int hw
  obtain ⟨t3, ds, rfl, h_t3, hw⟩ := of_wt_int hw
  obtain ⟨t4, ds, rfl, h_t4, hw⟩ := of_wt_int hw
  obtain rfl := of_wt_nil hw
  exact ⟨0, ((impl_areTimes_r 0 t1 t2 t3 t4).trans (impl_areTimes_c _ t1 t2 t3 t4)).trans (by kernel_rfl)⟩

def impl_OffsetOf_s : Sum := { ps := [⟨[.int .i64], false⟩, ⟨[.int .i64], false⟩, ⟨[.int .i64], false⟩, ⟨[.int .i64], false⟩], rs := [⟨[.imm (.int .i64)], false⟩], fn := fun ds => (true, [.int (OffsetOf (rI ds 0) (rI ds 1) (rI ds 2) (rI ds 3))]) }
def impl_OffsetOf_G : Ctx := [(31, impl_areTimes_s)]
theorem impl_OffsetOf_x : CtxHolds Try.prog impl_OffsetOf_G := ctx_cons impl_areTimes_h ctx_nil
def impl_OffsetOf_A : List (Nat × Ann) := []
theorem impl_OffsetOf_r (N : Nat) (t1 : Int) (t2 : Int) (t3 : Int) (t4 : Int) : runF Try.prog impl_OffsetOf_G impl_OffsetOf_A N Try.f17 impl_OffsetOf_s (.int t1 :: (.int t2 :: (.int t3 :: (.int t4 :: ([]))))) = impl_OffsetOf_t (fun r0 => ((true, [.int r0]) : Res)) t1 t2 t3 t4 := by kernel_rfl
theorem impl_OffsetOf_h : Holds Try.prog 17 impl_OffsetOf_s := by
  refine holds_of_run (A := impl_OffsetOf_A) impl_OffsetOf_x Try.func17 rfl (by kernel_rfl) (of_decide_eq_true (by kernel_rfl)) ?_
  intro ds hw hok
  replace hw : WtL ((.int .i64) :: ((.int .i64) :: ((.int .i64) :: ((.int .i64) :: ([]))))) ds := hw
  obtain ⟨t1, ds, rfl, h_t1, hw⟩ := of_wt_int hw
  obtain ⟨t2, ds, rfl, h_t2, hw⟩ := of_wt_int hw
  obtain ⟨t3, ds, rfl, h_t3, hw⟩ := of_wt_int hw
  obtain ⟨t4, ds, rfl, h_t4, hw⟩ := of_wt_int hw
  obtain rfl := of_wt_nil hw
  exact ⟨0, ((impl_OffsetOf_r 0 t1 t2 t3 t4).trans (impl_OffsetOf_c _ t1 t2 t3 t4)).trans (by kernel_rfl)⟩

def spec_OffsetOf_s : Sum := { ps := [⟨[.int .i64], false⟩, ⟨[.int .i64], false⟩, ⟨[.int .i64], false⟩, ⟨[.int .i64], false⟩], rs := [⟨[.imm (.int .i64)], false⟩], fn := fun ds => (true, [.int (OffsetOf (rI ds 0) (rI ds 1) (rI ds 2) (rI ds 3))]) }
def spec_OffsetOf_G : Ctx := [(32, spec_l34Times_s)]
theorem spec_OffsetOf_x : CtxHolds Try.prog spec_OffsetOf_G := ctx_cons spec_l34Times_h ctx_nil
def spec_OffsetOf_A : List (Nat × Ann) := []
theorem spec_OffsetOf_r (N : Nat) (t1 : Int) (t2 : Int) (t3 : Int) (t4 : Int) : runF Try.prog spec_OffsetOf_G spec_OffsetOf_A N Try.f20 spec_OffsetOf_s (.int t1 :: (.int t2 :: (.int t3 :: (.int t4 :: ([]))))) = spec_OffsetOf_t (fun r0 => ((true, [.int r0]) : Res)) t1 t2 t3 t4 := by kernel_rfl
theorem spec_OffsetOf_h : Holds Try.prog 20 spec_OffsetOf_s := by
  refine holds_of_run (A := spec_OffsetOf_A) spec_OffsetOf_x Try.func20 rfl (by kernel_rfl) (of_decide_eq_true (by kernel_rfl)) ?_
  intro ds hw hok
  replace hw : WtL ((.int .i64) :: ((.int .i64) :: ((.int .i64) :: ((.int .i64) :: ([]))))) ds := hw
  obtain ⟨t1, ds, rfl, h_t1, hw⟩ := of_wt_int hw
  obtain ⟨t2, ds, rfl, h_t2, hw⟩ := of_wt_int hw
  obtain ⟨t3, ds, rfl, h_t3, hw⟩ := of_wt_int hw
  obtain ⟨t4, ds, rfl, h_t4, hw⟩ := of_wt_int hw
  obtain rfl := of_wt_nil hw
  exact ⟨0, ((spec_OffsetOf_r 0 t1 t2 t3 t4).trans (spec_OffsetOf_c _ t1 t2 t3 t4 h_t1 h_t2 h_t3 h_t4)).trans (by kernel_rfl)⟩

def laws_FnExactOffsetOf_s : Sum := { ps := [⟨[.int .i64], false⟩, ⟨[.int .i64], false⟩, ⟨[.int .i64], false⟩, ⟨[.int .i64], false⟩], rs := [⟨[.imm .bool], false⟩], fn := fun ds => (fitL ((.int .i64) :: ((.int .i64) :: ((.int .i64) :: ((.int .i64) :: ([]))))) ds, [.bool true]) }
def laws_FnExactOffsetOf_G : Ctx := [(17, impl_OffsetOf_s), (20, spec_OffsetOf_s)]
theorem laws_FnExactOffsetOf_x : CtxHolds Try.prog laws_FnExactOffsetOf_G := ctx_cons impl_OffsetOf_h (ctx_cons spec_OffsetOf_h ctx_nil)
def laws_FnExactOffsetOf_A : List (Nat × Ann) := []
theorem laws_FnExactOffsetOf_r (N : Nat) (aT1 : Int) (aT2 : Int) (aT3 : Int) (aT4 : Int) : runF Try.prog laws_FnExactOffsetOf_G laws_FnExactOffsetOf_A N Try.f6 laws_FnExactOffsetOf_s (.int aT1 :: (.int aT2 :: (.int aT3 :: (.int aT4 :: ([]))))) = laws_FnExactOffsetOf_t (fun r0 => ((true, [.bool r0]) : Res)) aT1 aT2 aT3 aT4 := by kernel_rfl
theorem laws_FnExactOffsetOf_h : Holds Try.prog 6 laws_FnExactOffsetOf_s := by
  refine holds_of_run (A := laws_FnExactOffsetOf_A) laws_FnExactOffsetOf_x Try.func6 rfl (by kernel_rfl) (of_decide_eq_true (by kernel_rfl)) ?_
  intro ds hw hok
  replace hw : WtL ((.int .i64) :: ((.int .i64) :: ((.int .i64) :: ((.int .i64) :: ([]))))) ds := hw
  obtain ⟨aT1, ds, rfl, h_aT1, hw⟩ := of_wt_int hw
  obtain ⟨aT2, ds, rfl, h_aT2, hw⟩ := of_wt_int hw
  obtain ⟨aT3, ds, rfl, h_aT3, hw⟩ := of_wt_int hw
  obtain ⟨aT4, ds, rfl, h_aT4, hw⟩ := of_wt_int hw
  obtain rfl := of_wt_nil hw
  exact ⟨0, ((laws_FnExactOffsetOf_r 0 aT1 aT2 aT3 aT4).trans (laws_FnExactOffsetOf_c _ aT1 aT2 aT3 aT4 h_aT1 h_aT2 h_aT3 h_aT4 hok)).trans (by kernel_rfl)⟩

def impl_DelayOf_s : Sum := { ps := [⟨[.int .i64], false⟩, ⟨[.int .i64], false⟩, ⟨[.int .i64], false⟩, ⟨[.int .i64], false⟩], rs := [⟨[.imm (.int .i64)], false⟩], fn := fun ds => (true, [.int (DelayOf (rI ds 0) (rI ds 1) (rI ds 2) (rI ds 3))]) }
def impl_DelayOf_G : Ctx := [(31, impl_areTimes_s)]
theorem impl_DelayOf_x : CtxHolds Try.prog impl_DelayOf_G := ctx_cons impl_areTimes_h ctx_nil
def impl_DelayOf_A : List (Nat × Ann) := []
theorem impl_DelayOf_r (N : Nat) (t1 : Int) (t2 : Int) (t3 : Int) (t4 : Int) : runF Try.prog impl_DelayOf_G impl_DelayOf_A N Try.f18 impl_DelayOf_s (.int t1 :: (.int t2 :: (.int t3 :: (.int t4 :: ([]))))) = impl_DelayOf_t (fun r0 => ((true, [.int r0]) : Res)) t1 t2 t3 t4 := by kernel_rfl
theorem impl_DelayOf_h : Holds Try.prog 18 impl_DelayOf_s := by
  refine holds_of_run (A := impl_DelayOf_A) impl_DelayOf_x Try.func18 rfl (by kernel_rfl) (of_decide_eq_true (by kernel_rfl)) ?_
  intro ds hw hok
  replace hw : WtL ((.int .i64) :: ((.int .i64) :: ((.int .i64) :: ((.int .i64) :: ([]))))) ds := hw
  obtain ⟨t1, ds, rfl, h_t1, hw⟩ := of_wt_int hw
  obtain ⟨t2, ds, rfl, h_t2, hw⟩ := of_wt_int hw
  obtain ⟨t3, ds, rfl, h_t3, hw⟩ := of_wt_int hw
  obtain ⟨t4, ds, rfl, h_t4, hw⟩ := of_wt_int hw
  obtain rfl := of_wt_nil hw
  exact ⟨0, ((impl_DelayOf_r 0 t1 t2 t3 t4).trans (impl_DelayOf_c _ t1 t2 t3 t4)).trans (by kernel_rfl)⟩

def spec_DelayOf_s : Sum := { ps := [⟨[.int .i64], false⟩, ⟨[.int .i64], false⟩, ⟨[.int .i64], false⟩, ⟨[.int .i64], false⟩], rs := [⟨[.imm (.int .i64)], false⟩], fn := fun ds => (true, [.int (DelayOf (rI ds 0) (rI ds 1) (rI ds 2) (rI ds 3))]) }
def spec_DelayOf_G : Ctx := [(32, spec_l34Times_s)]
theorem spec_DelayOf_x : CtxHolds Try.prog spec_DelayOf_G := ctx_cons spec_l34Times_h ctx_nil
def spec_DelayOf_A : List (Nat × Ann) := []
theorem spec_DelayOf_r (N : Nat) (t1 : Int) (t2 : Int) (t3 : Int) (t4 : Int) : runF Try.prog spec_DelayOf_G spec_DelayOf_A N Try.f19 spec_DelayOf_s (.int t1 :: (.int t2 :: (.int t3 :: (.int t4 :: ([]))))) = spec_DelayOf_t (fun r0 => ((true, [.int r0]) : Res)) t1 t2 t3 t4 := by kernel_rfl
theorem spec_DelayOf_h : Holds Try.prog 19 spec_DelayOf_s := by
  refine holds_of_run (A := spec_DelayOf_A) spec_DelayOf_x Try.func19 rfl (by kernel_rfl) (of_decide_eq_true (by kernel_rfl)) ?_
  intro ds hw hok
  replace hw : WtL ((.int .i64) :: ((.int .i64) :: ((.int .i64) :: ((.int .i64) :: ([]))))) ds := hw
  obtain ⟨t1, ds, rfl, h_t1, hw⟩ := of_wt_int hw
  obtain ⟨t2, ds, rfl, h_t2, hw⟩ := of_wt_int hw
  obtain ⟨t3, ds, rfl, h_t3, hw⟩ := of_wt_int hw
  obtain ⟨t4, ds, rfl, h_t4, hw⟩ := of_wt_int hw
  obtain rfl := of_wt_nil hw
  exact ⟨0, ((spec_DelayOf_r 0 t1 t2 t3 t4).trans (spec_DelayOf_c _ t1 t2 t3 t4 h_t1 h_t2 h_t3 h_t4)).trans (by kernel_rfl)⟩

def laws_FnExactDelayOf_s : Sum := { ps := [⟨[.int .i64], false⟩, ⟨[.int .i64], false⟩, ⟨[.int .i64], false⟩, ⟨[.int .i64], false⟩], rs := [⟨[.imm .bool], false⟩], fn := fun ds => (fitL ((.int .i64) :: ((.int .i64) :: ((.int .i64) :: ((.int .i64) :: ([]))))) ds, [.bool true]) }
def laws_FnExactDelayOf_G : Ctx := [(18, impl_DelayOf_s), (19, spec_DelayOf_s)]
theorem laws_FnExactDelayOf_x : CtxHolds Try.prog laws_FnExactDelayOf_G := ctx_cons impl_DelayOf_h (ctx_cons spec_DelayOf_h ctx_nil)
def laws_FnExactDelayOf_A : List (Nat × Ann) := []
theorem laws_FnExactDelayOf_r (N : Nat) (aT1 : Int) (aT2 : Int) (aT3 : Int) (aT4 : Int) : runF Try.prog laws_FnExactDelayOf_G laws_FnExactDelayOf_A N Try.f5 laws_FnExactDelayOf_s (.int aT1 :: (.int aT2 :: (.int aT3 :: (.int aT4 :: ([]))))) = laws_FnExactDelayOf_t (fun r0 => ((true, [.bool r0]) : Res)) aT1 aT2 aT3 aT4 := by kernel_rfl
theorem laws_FnExactDelayOf_h : Holds Try.prog 5 laws_FnExactDelayOf_s := by
  refine holds_of_run (A := laws_FnExactDelayOf_A) laws_FnExactDelayOf_x Try.func5 rfl (by kernel_rfl) (of_decide_eq_true (by kernel_rfl)) ?_
  intro ds hw hok
  replace hw : WtL ((.int .i64) :: ((.int .i64) :: ((.int .i64) :: ((.int .i64) :: ([]))))) ds := hw
  obtain ⟨aT1, ds, rfl, h_aT1, hw⟩ := of_wt_int hw
  obtain ⟨aT2, ds, rfl, h_aT2, hw⟩ := of_wt_int hw
  obtain ⟨aT3, ds, rfl, h_aT3, hw⟩ := of_wt_int hw
  obtain ⟨aT4, ds, rfl, h_aT4, hw⟩ := of_wt_int hw
  obtain rfl := of_wt_nil hw
  exact ⟨0, ((laws_FnExactDelayOf_r 0 aT1 aT2 aT3 aT4).trans (laws_FnExactDelayOf_c _ aT1 aT2 aT3 aT4 h_aT1 h_aT2 h_aT3 h_aT4 hok)).trans (by kernel_rfl)⟩

end Go.Proofs.Ytpkkffngnchieaa.Pl
