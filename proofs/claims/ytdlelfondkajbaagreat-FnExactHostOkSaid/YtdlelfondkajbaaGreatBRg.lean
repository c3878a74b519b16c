/- The contracts of functions of the program: each computes what its plain form says. Conditions: none. -/
import Derived.Test.YtdlelfondkajbaaGreatPRg
import Derived.Test.YtdlelfondkajbaaGreatRows
import Derived.Test.YtdlelfondkajbaaGreatBMo
set_option linter.unusedVariables false
set_option linter.unusedSimpArgs false
set_option maxRecDepth 100000
namespace Go.Proofs.YtdlelfondkajbaaGreat.Pl
open Vm
noncomputable section

def impl_ringSize_s : Sum := { ps := [⟨[.int .i64], false⟩], rs := [⟨[.imm .bool], false⟩], fn := fun ds => (true, [.bool (ringSize (rI ds 0))]) }
def impl_ringSize_G : Ctx := []
theorem impl_ringSize_x : CtxHolds Tryz.prog impl_ringSize_G := ctx_nil
def impl_ringSize_A : List (Nat × Ann) := []
theorem impl_ringSize_r (N : Nat) (n : Int) : runF Tryz.prog impl_ringSize_G impl_ringSize_A N Tryz.f204 impl_ringSize_s (.int n :: ([])) = impl_ringSize_t (fun r0 => ((true, [.bool r0]) : Res)) n := by kernel_rfl
theorem impl_ringSize_h : Holds Tryz.prog 204 impl_ringSize_s := by
  refine holds_of_run (A := impl_ringSize_A) impl_ringSize_x Tryz.func204 rfl (by kernel_rfl) (of_decide_eq_true (by kernel_rfl)) (of_decide_eq_true (by kernel_rfl)) ?_
  intro ds hw hok
  replace hw : WtL ((.int .i64) :: ([])) ds := hw
  obtain ⟨n, ds, rfl, h_n, hw⟩ := of_wt_int hw
  obtain rfl := of_wt_nil hw
  exact ⟨0, ((impl_ringSize_r 0 n).trans (impl_ringSize_c _ n)).trans (by kernel_rfl)⟩

def spec_l20Size_s : Sum := { ps := [⟨[.int .i64], false⟩], rs := [⟨[.imm .bool], false⟩], fn := fun ds => (true, [.bool (ringSize (rI ds 0))]) }
def spec_l20Size_G : Ctx := []
theorem spec_l20Size_x : CtxHolds Tryz.prog spec_l20Size_G := ctx_nil
def spec_l20Size_A : List (Nat × Ann) := []
theorem spec_l20Size_r (N : Nat) (n : Int) : runF Tryz.prog spec_l20Size_G spec_l20Size_A N Tryz.f197 spec_l20Size_s (.int n :: ([])) = spec_l20Size_t (fun r0 => ((true, [.bool r0]) : Res)) n := by kernel_rfl
theorem spec_l20Size_h : Holds Tryz.prog 197 spec_l20Size_s := by
  refine holds_of_run (A := spec_l20Size_A) spec_l20Size_x Tryz.func197 rfl (by kernel_rfl) (of_decide_eq_true (by kernel_rfl)) (of_decide_eq_true (by kernel_rfl)) ?_
  intro ds hw hok
  replace hw : WtL ((.int .i64) :: ([])) ds := hw
  obtain ⟨n, ds, rfl, h_n, hw⟩ := of_wt_int hw
  obtain rfl := of_wt_nil hw
  exact ⟨0, ((spec_l20Size_r 0 n).trans (spec_l20Size_c _ n h_n)).trans (by kernel_rfl)⟩

def impl_tableSize_s : Sum := { ps := [⟨[.int .i64], false⟩], rs := [⟨[.imm .bool], false⟩], fn := fun ds => (true, [.bool (tableSize (rI ds 0))]) }
def impl_tableSize_G : Ctx := []
theorem impl_tableSize_x : CtxHolds Tryz.prog impl_tableSize_G := ctx_nil
def impl_tableSize_A : List (Nat × Ann) := []
theorem impl_tableSize_r (N : Nat) (n : Int) : runF Tryz.prog impl_tableSize_G impl_tableSize_A N Tryz.f211 impl_tableSize_s (.int n :: ([])) = impl_tableSize_t (fun r0 => ((true, [.bool r0]) : Res)) n := by kernel_rfl
theorem impl_tableSize_h : Holds Tryz.prog 211 impl_tableSize_s := by
  refine holds_of_run (A := impl_tableSize_A) impl_tableSize_x Tryz.func211 rfl (by kernel_rfl) (of_decide_eq_true (by kernel_rfl)) (of_decide_eq_true (by kernel_rfl)) ?_
  intro ds hw hok
  replace hw : WtL ((.int .i64) :: ([])) ds := hw
  obtain ⟨n, ds, rfl, h_n, hw⟩ := of_wt_int hw
  obtain rfl := of_wt_nil hw
  exact ⟨0, ((impl_tableSize_r 0 n).trans (impl_tableSize_c _ n)).trans (by kernel_rfl)⟩

def spec_l12Size_s : Sum := { ps := [⟨[.int .i64], false⟩], rs := [⟨[.imm .bool], false⟩], fn := fun ds => (true, [.bool (tableSize (rI ds 0))]) }
def spec_l12Size_G : Ctx := []
theorem spec_l12Size_x : CtxHolds Tryz.prog spec_l12Size_G := ctx_nil
def spec_l12Size_A : List (Nat × Ann) := []
theorem spec_l12Size_r (N : Nat) (n : Int) : runF Tryz.prog spec_l12Size_G spec_l12Size_A N Tryz.f202 spec_l12Size_s (.int n :: ([])) = spec_l12Size_t (fun r0 => ((true, [.bool r0]) : Res)) n := by kernel_rfl
theorem spec_l12Size_h : Holds Tryz.prog 202 spec_l12Size_s := by
  refine holds_of_run (A := spec_l12Size_A) spec_l12Size_x Tryz.func202 rfl (by kernel_rfl) (of_decide_eq_true (by kernel_rfl)) (of_decide_eq_true (by kernel_rfl)) ?_
  intro ds hw hok
  replace hw : WtL ((.int .i64) :: ([])) ds := hw
  obtain ⟨n, ds, rfl, h_n, hw⟩ := of_wt_int hw
  obtain rfl := of_wt_nil hw
  exact ⟨0, ((spec_l12Size_r 0 n).trans (spec_l12Size_c _ n h_n)).trans (by kernel_rfl)⟩

def impl_modulo_s : Sum := { ps := [⟨[.int .i64], false⟩, ⟨[.int .i64], false⟩], rs := [⟨[.imm (.int .i64)], false⟩], fn := fun ds => (modulo_ok (rI ds 0) (rI ds 1), [.int (modulo (rI ds 0) (rI ds 1))]) }
def impl_modulo_G : Ctx := []
theorem impl_modulo_x : CtxHolds Tryz.prog impl_modulo_G := ctx_nil
def impl_modulo_A : List (Nat × Ann) := []
theorem impl_modulo_r (N : Nat) (x : Int) (n : Int) : runF Tryz.prog impl_modulo_G impl_modulo_A N Tryz.f232 impl_modulo_s (.int x :: (.int n :: ([]))) = impl_modulo_t Vm.bad (fun r0 => ((true, [.int r0]) : Res)) x n := by kernel_rfl
theorem impl_modulo_h : Holds Tryz.prog 232 impl_modulo_s := by
  refine holds_of_run (A := impl_modulo_A) impl_modulo_x Tryz.func232 rfl (by kernel_rfl) (of_decide_eq_true (by kernel_rfl)) (of_decide_eq_true (by kernel_rfl)) ?_
  intro ds hw hok
  replace hw : WtL ((.int .i64) :: ((.int .i64) :: ([]))) ds := hw
  obtain ⟨x, ds, rfl, h_x, hw⟩ := of_wt_int hw
  obtain ⟨n, ds, rfl, h_n, hw⟩ := of_wt_int hw
  obtain rfl := of_wt_nil hw
  exact ⟨0, ((impl_modulo_r 0 x n).trans (impl_modulo_c Vm.bad _ x n hok)).trans (by kernel_rfl)⟩

def impl_RingUsed_s : Sum := { ps := [⟨[.int .i64, .int .i64, .int .i64, .int .i64], true⟩], rs := [⟨[.imm (.int .i64)], false⟩], fn := fun ds => (true, [.int (RingUsed (SRing.decAt ds 0))]) }
def impl_RingUsed_G : Ctx := [(204, impl_ringSize_s), (232, impl_modulo_s)]
theorem impl_RingUsed_x : CtxHolds Tryz.prog impl_RingUsed_G := ctx_cons impl_ringSize_h (ctx_cons impl_modulo_h ctx_nil)
def impl_RingUsed_A : List (Nat × Ann) := []
theorem impl_RingUsed_r (N : Nat) (r : SRing) : runF Tryz.prog impl_RingUsed_G impl_RingUsed_A N Tryz.f205 impl_RingUsed_s (r.enc ++ ([])) = impl_RingUsed_t Vm.bad (fun r0 => ((true, [.int r0]) : Res)) r := by kernel_rfl
theorem impl_RingUsed_h : Holds Tryz.prog 205 impl_RingUsed_s := by
  refine holds_of_run (A := impl_RingUsed_A) impl_RingUsed_x Tryz.func205 rfl (by kernel_rfl) (of_decide_eq_true (by kernel_rfl)) (of_decide_eq_true (by kernel_rfl)) ?_
  intro ds hw hok
  replace hw : WtL (SRing.ct ++ ([])) ds := hw
  obtain ⟨r, ds, rfl, h_r, hw⟩ := SRing.of_wt (r := _) hw
  obtain rfl := of_wt_nil hw
  exact ⟨0, ((impl_RingUsed_r 0 r).trans (impl_RingUsed_c Vm.bad _ r h_r)).trans (by kernel_rfl)⟩

def spec_RingUsed_s : Sum := { ps := [⟨[.int .i64, .int .i64, .int .i64, .int .i64], true⟩], rs := [⟨[.imm (.int .i64)], false⟩], fn := fun ds => (true, [.int (RingUsed (SRing.decAt ds 0))]) }
def spec_RingUsed_G : Ctx := [(197, spec_l20Size_s)]
theorem spec_RingUsed_x : CtxHolds Tryz.prog spec_RingUsed_G := ctx_cons spec_l20Size_h ctx_nil
def spec_RingUsed_A : List (Nat × Ann) := []
theorem spec_RingUsed_r (N : Nat) (r : SRing) : runF Tryz.prog spec_RingUsed_G spec_RingUsed_A N Tryz.f198 spec_RingUsed_s (r.enc ++ ([])) = spec_RingUsed_t (fun r0 => ((true, [.int r0]) : Res)) r := by kernel_rfl
theorem spec_RingUsed_h : Holds Tryz.prog 198 spec_RingUsed_s := by
  refine holds_of_run (A := spec_RingUsed_A) spec_RingUsed_x Tryz.func198 rfl (by kernel_rfl) (of_decide_eq_true (by kernel_rfl)) (of_decide_eq_true (by kernel_rfl)) ?_
  intro ds hw hok
  replace hw : WtL (SRing.ct ++ ([])) ds := hw
  obtain ⟨r, ds, rfl, h_r, hw⟩ := SRing.of_wt (r := _) hw
  obtain rfl := of_wt_nil hw
  exact ⟨0, ((spec_RingUsed_r 0 r).trans (spec_RingUsed_c _ r h_r)).trans (by kernel_rfl)⟩

def impl_RingOk_s : Sum := { ps := [⟨[.int .i64, .int .i64, .int .i64, .int .i64], true⟩], rs := [⟨[.imm .bool], false⟩], fn := fun ds => (true, [.bool (RingOk (SRing.decAt ds 0))]) }
def impl_RingOk_G : Ctx := [(82, impl_between_s), (204, impl_ringSize_s), (205, impl_RingUsed_s)]
theorem impl_RingOk_x : CtxHolds Tryz.prog impl_RingOk_G := ctx_cons impl_between_h (ctx_cons impl_ringSize_h (ctx_cons impl_RingUsed_h ctx_nil))
def impl_RingOk_A : List (Nat × Ann) := []
theorem impl_RingOk_r (N : Nat) (r : SRing) : runF Tryz.prog impl_RingOk_G impl_RingOk_A N Tryz.f153 impl_RingOk_s (r.enc ++ ([])) = impl_RingOk_t (fun r0 => ((true, [.bool r0]) : Res)) r := by kernel_rfl
theorem impl_RingOk_h : Holds Tryz.prog 153 impl_RingOk_s := by
  refine holds_of_run (A := impl_RingOk_A) impl_RingOk_x Tryz.func153 rfl (by kernel_rfl) (of_decide_eq_true (by kernel_rfl)) (of_decide_eq_true (by kernel_rfl)) ?_
  intro ds hw hok
  replace hw : WtL (SRing.ct ++ ([])) ds := hw
  obtain ⟨r, ds, rfl, h_r, hw⟩ := SRing.of_wt (r := _) hw
  obtain rfl := of_wt_nil hw
  exact ⟨0, ((impl_RingOk_r 0 r).trans (impl_RingOk_c _ r)).trans (by kernel_rfl)⟩

def spec_RingOk_s : Sum := { ps := [⟨[.int .i64, .int .i64, .int .i64, .int .i64], true⟩], rs := [⟨[.imm .bool], false⟩], fn := fun ds => (true, [.bool (RingOk (SRing.decAt ds 0))]) }
def spec_RingOk_G : Ctx := [(73, spec_l01In_s), (197, spec_l20Size_s), (198, spec_RingUsed_s)]
theorem spec_RingOk_x : CtxHolds Tryz.prog spec_RingOk_G := ctx_cons spec_l01In_h (ctx_cons spec_l20Size_h (ctx_cons spec_RingUsed_h ctx_nil))
def spec_RingOk_A : List (Nat × Ann) := []
theorem spec_RingOk_r (N : Nat) (r : SRing) : runF Tryz.prog spec_RingOk_G spec_RingOk_A N Tryz.f144 spec_RingOk_s (r.enc ++ ([])) = spec_RingOk_t (fun r0 => ((true, [.bool r0]) : Res)) r := by kernel_rfl
theorem spec_RingOk_h : Holds Tryz.prog 144 spec_RingOk_s := by
  refine holds_of_run (A := spec_RingOk_A) spec_RingOk_x Tryz.func144 rfl (by kernel_rfl) (of_decide_eq_true (by kernel_rfl)) (of_decide_eq_true (by kernel_rfl)) ?_
  intro ds hw hok
  replace hw : WtL (SRing.ct ++ ([])) ds := hw
  obtain ⟨r, ds, rfl, h_r, hw⟩ := SRing.of_wt (r := _) hw
  obtain rfl := of_wt_nil hw
  exact ⟨0, ((spec_RingOk_r 0 r).trans (spec_RingOk_c _ r h_r)).trans (by kernel_rfl)⟩

def impl_QueueOk_s : Sum := { ps := [⟨[.int .i64, .int .i64, .int .i64], true⟩], rs := [⟨[.imm .bool], false⟩], fn := fun ds => (true, [.bool (QueueOk (SCompletionQueue.decAt ds 0))]) }
def impl_QueueOk_G : Ctx := [(82, impl_between_s), (204, impl_ringSize_s)]
theorem impl_QueueOk_x : CtxHolds Tryz.prog impl_QueueOk_G := ctx_cons impl_between_h (ctx_cons impl_ringSize_h ctx_nil)
def impl_QueueOk_A : List (Nat × Ann) := []
theorem impl_QueueOk_r (N : Nat) (q : SCompletionQueue) : runF Tryz.prog impl_QueueOk_G impl_QueueOk_A N Tryz.f155 impl_QueueOk_s (q.enc ++ ([])) = impl_QueueOk_t (fun r0 => ((true, [.bool r0]) : Res)) q := by kernel_rfl
theorem impl_QueueOk_h : Holds Tryz.prog 155 impl_QueueOk_s := by
  refine holds_of_run (A := impl_QueueOk_A) impl_QueueOk_x Tryz.func155 rfl (by kernel_rfl) (of_decide_eq_true (by kernel_rfl)) (of_decide_eq_true (by kernel_rfl)) ?_
  intro ds hw hok
  replace hw : WtL (SCompletionQueue.ct ++ ([])) ds := hw
  obtain ⟨q, ds, rfl, h_q, hw⟩ := SCompletionQueue.of_wt (r := _) hw
  obtain rfl := of_wt_nil hw
  exact ⟨0, ((impl_QueueOk_r 0 q).trans (impl_QueueOk_c _ q)).trans (by kernel_rfl)⟩

def spec_QueueOk_s : Sum := { ps := [⟨[.int .i64, .int .i64, .int .i64], true⟩], rs := [⟨[.imm .bool], false⟩], fn := fun ds => (true, [.bool (QueueOk (SCompletionQueue.decAt ds 0))]) }
def spec_QueueOk_G : Ctx := [(73, spec_l01In_s), (197, spec_l20Size_s)]
theorem spec_QueueOk_x : CtxHolds Tryz.prog spec_QueueOk_G := ctx_cons spec_l01In_h (ctx_cons spec_l20Size_h ctx_nil)
def spec_QueueOk_A : List (Nat × Ann) := []
theorem spec_QueueOk_r (N : Nat) (q : SCompletionQueue) : runF Tryz.prog spec_QueueOk_G spec_QueueOk_A N Tryz.f149 spec_QueueOk_s (q.enc ++ ([])) = spec_QueueOk_t (fun r0 => ((true, [.bool r0]) : Res)) q := by kernel_rfl
theorem spec_QueueOk_h : Holds Tryz.prog 149 spec_QueueOk_s := by
  refine holds_of_run (A := spec_QueueOk_A) spec_QueueOk_x Tryz.func149 rfl (by kernel_rfl) (of_decide_eq_true (by kernel_rfl)) (of_decide_eq_true (by kernel_rfl)) ?_
  intro ds hw hok
  replace hw : WtL (SCompletionQueue.ct ++ ([])) ds := hw
  obtain ⟨q, ds, rfl, h_q, hw⟩ := SCompletionQueue.of_wt (r := _) hw
  obtain rfl := of_wt_nil hw
  exact ⟨0, ((spec_QueueOk_r 0 q).trans (spec_QueueOk_c _ q h_q)).trans (by kernel_rfl)⟩

def impl_due_s : Sum := { ps := [⟨[.int .i64, .int .i64, .int .i64, .int .i64, .bool, .bool], true⟩], rs := [⟨[.imm .bool], false⟩], fn := fun ds => (true, [.bool (due (SVector.decAt ds 0))]) }
def impl_due_G : Ctx := []
theorem impl_due_x : CtxHolds Tryz.prog impl_due_G := ctx_nil
def impl_due_A : List (Nat × Ann) := []
theorem impl_due_r (N : Nat) (v : SVector) : runF Tryz.prog impl_due_G impl_due_A N Tryz.f157 impl_due_s (v.enc ++ ([])) = impl_due_t (fun r0 => ((true, [.bool r0]) : Res)) v := by kernel_rfl
theorem impl_due_h : Holds Tryz.prog 157 impl_due_s := by
  refine holds_of_run (A := impl_due_A) impl_due_x Tryz.func157 rfl (by kernel_rfl) (of_decide_eq_true (by kernel_rfl)) (of_decide_eq_true (by kernel_rfl)) ?_
  intro ds hw hok
  replace hw : WtL (SVector.ct ++ ([])) ds := hw
  obtain ⟨v, ds, rfl, h_v, hw⟩ := SVector.of_wt (r := _) hw
  obtain rfl := of_wt_nil hw
  exact ⟨0, ((impl_due_r 0 v).trans (impl_due_c _ v)).trans (by kernel_rfl)⟩

def spec_l28Due_s : Sum := { ps := [⟨[.int .i64, .int .i64, .int .i64, .int .i64, .bool, .bool], true⟩], rs := [⟨[.imm .bool], false⟩], fn := fun ds => (true, [.bool (due (SVector.decAt ds 0))]) }
def spec_l28Due_G : Ctx := []
theorem spec_l28Due_x : CtxHolds Tryz.prog spec_l28Due_G := ctx_nil
def spec_l28Due_A : List (Nat × Ann) := []
theorem spec_l28Due_r (N : Nat) (v : SVector) : runF Tryz.prog spec_l28Due_G spec_l28Due_A N Tryz.f151 spec_l28Due_s (v.enc ++ ([])) = spec_l28Due_t (fun r0 => ((true, [.bool r0]) : Res)) v := by kernel_rfl
theorem spec_l28Due_h : Holds Tryz.prog 151 spec_l28Due_s := by
  refine holds_of_run (A := spec_l28Due_A) spec_l28Due_x Tryz.func151 rfl (by kernel_rfl) (of_decide_eq_true (by kernel_rfl)) (of_decide_eq_true (by kernel_rfl)) ?_
  intro ds hw hok
  replace hw : WtL (SVector.ct ++ ([])) ds := hw
  obtain ⟨v, ds, rfl, h_v, hw⟩ := SVector.of_wt (r := _) hw
  obtain rfl := of_wt_nil hw
  exact ⟨0, ((spec_l28Due_r 0 v).trans (spec_l28Due_c _ v h_v)).trans (by kernel_rfl)⟩

def impl_VectorOk_s : Sum := { ps := [⟨[.int .i64, .int .i64, .int .i64, .int .i64, .bool, .bool], true⟩], rs := [⟨[.imm .bool], false⟩], fn := fun ds => (true, [.bool (VectorOk (SVector.decAt ds 0))]) }
def impl_VectorOk_G : Ctx := [(82, impl_between_s), (157, impl_due_s)]
theorem impl_VectorOk_x : CtxHolds Tryz.prog impl_VectorOk_G := ctx_cons impl_between_h (ctx_cons impl_due_h ctx_nil)
def impl_VectorOk_A : List (Nat × Ann) := []
theorem impl_VectorOk_r (N : Nat) (v : SVector) : runF Tryz.prog impl_VectorOk_G impl_VectorOk_A N Tryz.f85 impl_VectorOk_s (v.enc ++ ([])) = impl_VectorOk_t (fun r0 => ((true, [.bool r0]) : Res)) v := by kernel_rfl
theorem impl_VectorOk_h : Holds Tryz.prog 85 impl_VectorOk_s := by
  refine holds_of_run (A := impl_VectorOk_A) impl_VectorOk_x Tryz.func85 rfl (by kernel_rfl) (of_decide_eq_true (by kernel_rfl)) (of_decide_eq_true (by kernel_rfl)) ?_
  intro ds hw hok
  replace hw : WtL (SVector.ct ++ ([])) ds := hw
  obtain ⟨v, ds, rfl, h_v, hw⟩ := SVector.of_wt (r := _) hw
  obtain rfl := of_wt_nil hw
  exact ⟨0, ((impl_VectorOk_r 0 v).trans (impl_VectorOk_c _ v)).trans (by kernel_rfl)⟩

def spec_VectorOk_s : Sum := { ps := [⟨[.int .i64, .int .i64, .int .i64, .int .i64, .bool, .bool], true⟩], rs := [⟨[.imm .bool], false⟩], fn := fun ds => (true, [.bool (VectorOk (SVector.decAt ds 0))]) }
def spec_VectorOk_G : Ctx := [(73, spec_l01In_s), (151, spec_l28Due_s)]
theorem spec_VectorOk_x : CtxHolds Tryz.prog spec_VectorOk_G := ctx_cons spec_l01In_h (ctx_cons spec_l28Due_h ctx_nil)
def spec_VectorOk_A : List (Nat × Ann) := []
theorem spec_VectorOk_r (N : Nat) (v : SVector) : runF Tryz.prog spec_VectorOk_G spec_VectorOk_A N Tryz.f77 spec_VectorOk_s (v.enc ++ ([])) = spec_VectorOk_t (fun r0 => ((true, [.bool r0]) : Res)) v := by kernel_rfl
theorem spec_VectorOk_h : Holds Tryz.prog 77 spec_VectorOk_s := by
  refine holds_of_run (A := spec_VectorOk_A) spec_VectorOk_x Tryz.func77 rfl (by kernel_rfl) (of_decide_eq_true (by kernel_rfl)) (of_decide_eq_true (by kernel_rfl)) ?_
  intro ds hw hok
  replace hw : WtL (SVector.ct ++ ([])) ds := hw
  obtain ⟨v, ds, rfl, h_v, hw⟩ := SVector.of_wt (r := _) hw
  obtain rfl := of_wt_nil hw
  exact ⟨0, ((spec_VectorOk_r 0 v).trans (spec_VectorOk_c _ v h_v)).trans (by kernel_rfl)⟩

def impl_RxOk_s : Sum := { ps := [⟨[.int .i64, .int .i64, .int .i64, .int .i64, .int .i64, .int .i64, .int .i64, .int .i64, .int .i64, .int .i64, .int .i64, .int .i64, .int .i64, .int .i64, .int .i64, .int .i64, .int .i64, .int .i64, .int .i64, .int .i64, .int .i64, .int .i64, .int .i64, .int .i64, .int .i64, .str, .int .i64, .int .i64, .bool, .int .i64], true⟩], rs := [⟨[.imm .bool], false⟩], fn := fun ds => (true, [.bool (RxOk (SRxQueue.decAt ds 0))]) }
def impl_RxOk_G : Ctx := [(82, impl_between_s), (153, impl_RingOk_s), (155, impl_QueueOk_s), (156, impl_SuperOk_s)]
theorem impl_RxOk_x : CtxHolds Tryz.prog impl_RxOk_G := ctx_cons impl_between_h (ctx_cons impl_RingOk_h (ctx_cons impl_QueueOk_h (ctx_cons impl_SuperOk_h ctx_nil)))
def impl_RxOk_A : List (Nat × Ann) := []
theorem impl_RxOk_r (N : Nat) (q : SRxQueue) : runF Tryz.prog impl_RxOk_G impl_RxOk_A N Tryz.f83 impl_RxOk_s (q.enc ++ ([])) = impl_RxOk_t (fun r0 => ((true, [.bool r0]) : Res)) q := by kernel_rfl
theorem impl_RxOk_h : Holds Tryz.prog 83 impl_RxOk_s := by
  refine holds_of_run (A := impl_RxOk_A) impl_RxOk_x Tryz.func83 rfl (by kernel_rfl) (of_decide_eq_true (by kernel_rfl)) (of_decide_eq_true (by kernel_rfl)) ?_
  intro ds hw hok
  replace hw : WtL (SRxQueue.ct ++ ([])) ds := hw
  obtain ⟨q, ds, rfl, h_q, hw⟩ := SRxQueue.of_wt (r := _) hw
  obtain rfl := of_wt_nil hw
  exact ⟨0, ((impl_RxOk_r 0 q).trans (impl_RxOk_c _ q)).trans (by kernel_rfl)⟩

def spec_RxOk_s : Sum := { ps := [⟨[.int .i64, .int .i64, .int .i64, .int .i64, .int .i64, .int .i64, .int .i64, .int .i64, .int .i64, .int .i64, .int .i64, .int .i64, .int .i64, .int .i64, .int .i64, .int .i64, .int .i64, .int .i64, .int .i64, .int .i64, .int .i64, .int .i64, .int .i64, .int .i64, .int .i64, .str, .int .i64, .int .i64, .bool, .int .i64], true⟩], rs := [⟨[.imm .bool], false⟩], fn := fun ds => (true, [.bool (RxOk (SRxQueue.decAt ds 0))]) }
def spec_RxOk_G : Ctx := [(73, spec_l01In_s), (144, spec_RingOk_s), (149, spec_QueueOk_s), (150, spec_SuperOk_s)]
theorem spec_RxOk_x : CtxHolds Tryz.prog spec_RxOk_G := ctx_cons spec_l01In_h (ctx_cons spec_RingOk_h (ctx_cons spec_QueueOk_h (ctx_cons spec_SuperOk_h ctx_nil)))
def spec_RxOk_A : List (Nat × Ann) := []
theorem spec_RxOk_r (N : Nat) (q : SRxQueue) : runF Tryz.prog spec_RxOk_G spec_RxOk_A N Tryz.f75 spec_RxOk_s (q.enc ++ ([])) = spec_RxOk_t (fun r0 => ((true, [.bool r0]) : Res)) q := by kernel_rfl
theorem spec_RxOk_h : Holds Tryz.prog 75 spec_RxOk_s := by
  refine holds_of_run (A := spec_RxOk_A) spec_RxOk_x Tryz.func75 rfl (by kernel_rfl) (of_decide_eq_true (by kernel_rfl)) (of_decide_eq_true (by kernel_rfl)) ?_
  intro ds hw hok
  replace hw : WtL (SRxQueue.ct ++ ([])) ds := hw
  obtain ⟨q, ds, rfl, h_q, hw⟩ := SRxQueue.of_wt (r := _) hw
  obtain rfl := of_wt_nil hw
  exact ⟨0, ((spec_RxOk_r 0 q).trans (spec_RxOk_c _ q h_q)).trans (by kernel_rfl)⟩

def impl_RuleOk_s : Sum := { ps := [⟨[.int .i64, .int .i64, .int .i64, .int .i64, .int .i64, .int .i64, .int .i64, .int .i64, .int .i64], true⟩], rs := [⟨[.imm .bool], false⟩], fn := fun ds => (true, [.bool (RuleOk (SRule.decAt ds 0))]) }
def impl_RuleOk_G : Ctx := [(82, impl_between_s)]
theorem impl_RuleOk_x : CtxHolds Tryz.prog impl_RuleOk_G := ctx_cons impl_between_h ctx_nil
def impl_RuleOk_A : List (Nat × Ann) := []
theorem impl_RuleOk_r (N : Nat) (r : SRule) : runF Tryz.prog impl_RuleOk_G impl_RuleOk_A N Tryz.f208 impl_RuleOk_s (r.enc ++ ([])) = impl_RuleOk_t (fun r0 => ((true, [.bool r0]) : Res)) r := by kernel_rfl
theorem impl_RuleOk_h : Holds Tryz.prog 208 impl_RuleOk_s := by
  refine holds_of_run (A := impl_RuleOk_A) impl_RuleOk_x Tryz.func208 rfl (by kernel_rfl) (of_decide_eq_true (by kernel_rfl)) (of_decide_eq_true (by kernel_rfl)) ?_
  intro ds hw hok
  replace hw : WtL (SRule.ct ++ ([])) ds := hw
  obtain ⟨r, ds, rfl, h_r, hw⟩ := SRule.of_wt (r := _) hw
  obtain rfl := of_wt_nil hw
  exact ⟨0, ((impl_RuleOk_r 0 r).trans (impl_RuleOk_c _ r)).trans (by kernel_rfl)⟩

def spec_RuleOk_s : Sum := { ps := [⟨[.int .i64, .int .i64, .int .i64, .int .i64, .int .i64, .int .i64, .int .i64, .int .i64, .int .i64], true⟩], rs := [⟨[.imm .bool], false⟩], fn := fun ds => (true, [.bool (RuleOk (SRule.decAt ds 0))]) }
def spec_RuleOk_G : Ctx := [(73, spec_l01In_s)]
theorem spec_RuleOk_x : CtxHolds Tryz.prog spec_RuleOk_G := ctx_cons spec_l01In_h ctx_nil
def spec_RuleOk_A : List (Nat × Ann) := []
theorem spec_RuleOk_r (N : Nat) (r : SRule) : runF Tryz.prog spec_RuleOk_G spec_RuleOk_A N Tryz.f200 spec_RuleOk_s (r.enc ++ ([])) = spec_RuleOk_t (fun r0 => ((true, [.bool r0]) : Res)) r := by kernel_rfl
theorem spec_RuleOk_h : Holds Tryz.prog 200 spec_RuleOk_s := by
  refine holds_of_run (A := spec_RuleOk_A) spec_RuleOk_x Tryz.func200 rfl (by kernel_rfl) (of_decide_eq_true (by kernel_rfl)) (of_decide_eq_true (by kernel_rfl)) ?_
  intro ds hw hok
  replace hw : WtL (SRule.ct ++ ([])) ds := hw
  obtain ⟨r, ds, rfl, h_r, hw⟩ := SRule.of_wt (r := _) hw
  obtain rfl := of_wt_nil hw
  exact ⟨0, ((spec_RuleOk_r 0 r).trans (spec_RuleOk_c _ r h_r)).trans (by kernel_rfl)⟩

def impl_RulesOk_s : Sum := { ps := [⟨[.sl [.int .i64, .int .i64, .int .i64, .int .i64, .int .i64, .int .i64, .int .i64, .int .i64, .int .i64]], false⟩], rs := [⟨[.imm .bool], false⟩], fn := fun ds => (true, [.bool (RulesOk (rR ds 0))]) }
def impl_RulesOk_G : Ctx := [(208, impl_RuleOk_s)]
theorem impl_RulesOk_x : CtxHolds Tryz.prog impl_RulesOk_G := ctx_cons impl_RuleOk_h ctx_nil
def impl_RulesOk_A : List (Nat × Ann) := [(2, { slots := [(0, .asis), (5, .asis), (6, .asis), (7, .asis)], boxes := [] })]
def impl_RulesOk_K : Bool → Res := (fun r0 => ((true, [.bool r0]) : Res))
def impl_RulesOk_m0 (list_ : Rows) (x : Rows) (x_1 : Int) (x_2 : Int) : St := { n := 18, sl := [(0, .sl [.int .i64, .int .i64, .int .i64, .int .i64, .int .i64, .int .i64, .int .i64, .int .i64, .int .i64] list_), (5, .sl [.int .i64, .int .i64, .int .i64, .int .i64, .int .i64, .int .i64, .int .i64, .int .i64, .int .i64] x), (6, .int .i64 x_1), (7, .int .i64 x_2)], hp := [], ok := true, ls := [], lm := [] }
noncomputable def impl_RulesOk_B0 (N : Nat) : (St → Res) → St → Res := loopB Tryz.prog impl_RulesOk_G impl_RulesOk_A N Tryz.f158 impl_RulesOk_s [true, false, true, false] []
theorem impl_RulesOk_b0 (N : Nat) (list_ : Rows) (x : Rows) (x_1 : Int) (ih : St → Res) (x_2 : Int) : impl_RulesOk_B0 N ih (impl_RulesOk_m0 list_ x x_1 x_2) = impl_RulesOk_l0 Vm.bad impl_RulesOk_K list_ x x_1 (fun x_2 => ih (impl_RulesOk_m0 list_ x x_1 x_2)) x_2 := by kernel_rfl
theorem impl_RulesOk_n0 (N : Nat) (list_ : Rows) (x : Rows) (x_1 : Int) (m_ : Nat) : (fun x_2 => loopN (impl_RulesOk_B0 N) m_ (impl_RulesOk_m0 list_ x x_1 x_2)) = impl_RulesOk_L0 Vm.bad impl_RulesOk_K N list_ x x_1 m_ := by
  induction m_ with
  | zero => rfl
  | succ m_ ih =>
    funext x_2
    show impl_RulesOk_B0 N (loopN (impl_RulesOk_B0 N) m_) (impl_RulesOk_m0 list_ x x_1 x_2) = _
    rw [impl_RulesOk_b0 N list_ x x_1]
    rw [ih]
    rfl
theorem impl_RulesOk_r (N : Nat) (list_ : Rows) : runF Tryz.prog impl_RulesOk_G impl_RulesOk_A N Tryz.f158 impl_RulesOk_s (.sl list_ :: ([])) = impl_RulesOk_f Vm.bad impl_RulesOk_K N list_ := by
  have run_ : runF Tryz.prog impl_RulesOk_G impl_RulesOk_A N Tryz.f158 impl_RulesOk_s (.sl list_ :: ([])) = impl_RulesOk_t Vm.bad impl_RulesOk_K (fun x x_1 x_2 => loopN (impl_RulesOk_B0 N) N (impl_RulesOk_m0 list_ x x_1 x_2)) list_ := by kernel_rfl
  refine run_.trans ?_
  unfold impl_RulesOk_f
  have e0 : (fun x x_1 x_2 => loopN (impl_RulesOk_B0 N) N (impl_RulesOk_m0 list_ x x_1 x_2)) = (fun x x_1 => impl_RulesOk_L0 Vm.bad impl_RulesOk_K N list_ x x_1 N) := by
    funext x x_1
    exact impl_RulesOk_n0 N list_ x x_1 N
  exact congrArg (fun l_ => impl_RulesOk_t Vm.bad impl_RulesOk_K l_ list_) e0
theorem impl_RulesOk_h : Holds Tryz.prog 158 impl_RulesOk_s := by
  refine holds_of_run (A := impl_RulesOk_A) impl_RulesOk_x Tryz.func158 rfl (by kernel_rfl) (of_decide_eq_true (by kernel_rfl)) (of_decide_eq_true (by kernel_rfl)) ?_
  intro ds hw hok
  replace hw : WtL ((.sl [.int .i64, .int .i64, .int .i64, .int .i64, .int .i64, .int .i64, .int .i64, .int .i64, .int .i64]) :: ([])) ds := hw
  obtain ⟨list_, ds, rfl, h_list_, hw⟩ := of_wt_sl hw
  obtain rfl := of_wt_nil hw
  obtain ⟨N, hN⟩ := impl_RulesOk_c Vm.bad impl_RulesOk_K list_ h_list_
  exact ⟨N, ((impl_RulesOk_r N list_).trans hN).trans (by kernel_rfl)⟩

def spec_RulesOk_s : Sum := { ps := [⟨[.sl [.int .i64, .int .i64, .int .i64, .int .i64, .int .i64, .int .i64, .int .i64, .int .i64, .int .i64]], false⟩], rs := [⟨[.imm .bool], false⟩], fn := fun ds => (true, [.bool (RulesOk (rR ds 0))]) }
def spec_RulesOk_G : Ctx := [(200, spec_RuleOk_s)]
theorem spec_RulesOk_x : CtxHolds Tryz.prog spec_RulesOk_G := ctx_cons spec_RuleOk_h ctx_nil
def spec_RulesOk_A : List (Nat × Ann) := [(2, { slots := [(0, .asis), (3, .asis)], boxes := [] })]
def spec_RulesOk_K : Bool → Res := (fun r0 => ((true, [.bool r0]) : Res))
def spec_RulesOk_m0 (list_ : Rows) (k : Int) : St := { n := 19, sl := [(0, .sl [.int .i64, .int .i64, .int .i64, .int .i64, .int .i64, .int .i64, .int .i64, .int .i64, .int .i64] list_), (3, .int .i64 k)], hp := [], ok := true, ls := [], lm := [] }
noncomputable def spec_RulesOk_B0 (N : Nat) : (St → Res) → St → Res := loopB Tryz.prog spec_RulesOk_G spec_RulesOk_A N Tryz.f146 spec_RulesOk_s [true, false, true, false] []
theorem spec_RulesOk_b0 (N : Nat) (list_ : Rows) (ih : St → Res) (k : Int) : spec_RulesOk_B0 N ih (spec_RulesOk_m0 list_ k) = spec_RulesOk_l0 Vm.bad spec_RulesOk_K list_ (fun k => ih (spec_RulesOk_m0 list_ k)) k := by kernel_rfl
theorem spec_RulesOk_n0 (N : Nat) (list_ : Rows) (m_ : Nat) : (fun k => loopN (spec_RulesOk_B0 N) m_ (spec_RulesOk_m0 list_ k)) = spec_RulesOk_L0 Vm.bad spec_RulesOk_K N list_ m_ := by
  induction m_ with
  | zero => rfl
  | succ m_ ih =>
    funext k
    show spec_RulesOk_B0 N (loopN (spec_RulesOk_B0 N) m_) (spec_RulesOk_m0 list_ k) = _
    rw [spec_RulesOk_b0 N list_]
    rw [ih]
    rfl
theorem spec_RulesOk_r (N : Nat) (list_ : Rows) : runF Tryz.prog spec_RulesOk_G spec_RulesOk_A N Tryz.f146 spec_RulesOk_s (.sl list_ :: ([])) = spec_RulesOk_f Vm.bad spec_RulesOk_K N list_ := by
  have run_ : runF Tryz.prog spec_RulesOk_G spec_RulesOk_A N Tryz.f146 spec_RulesOk_s (.sl list_ :: ([])) = spec_RulesOk_t Vm.bad spec_RulesOk_K (fun k => loopN (spec_RulesOk_B0 N) N (spec_RulesOk_m0 list_ k)) list_ := by kernel_rfl
  refine run_.trans ?_
  unfold spec_RulesOk_f
  have e0 : (fun k => loopN (spec_RulesOk_B0 N) N (spec_RulesOk_m0 list_ k)) = (spec_RulesOk_L0 Vm.bad spec_RulesOk_K N list_ N) := by
    exact spec_RulesOk_n0 N list_ N
  exact congrArg (fun l_ => spec_RulesOk_t Vm.bad spec_RulesOk_K l_ list_) e0
theorem spec_RulesOk_h : Holds Tryz.prog 146 spec_RulesOk_s := by
  refine holds_of_run (A := spec_RulesOk_A) spec_RulesOk_x Tryz.func146 rfl (by kernel_rfl) (of_decide_eq_true (by kernel_rfl)) (of_decide_eq_true (by kernel_rfl)) ?_
  intro ds hw hok
  replace hw : WtL ((.sl [.int .i64, .int .i64, .int .i64, .int .i64, .int .i64, .int .i64, .int .i64, .int .i64, .int .i64]) :: ([])) ds := hw
  obtain ⟨list_, ds, rfl, h_list_, hw⟩ := of_wt_sl hw
  obtain rfl := of_wt_nil hw
  obtain ⟨N, hN⟩ := spec_RulesOk_c Vm.bad spec_RulesOk_K list_ h_list_
  exact ⟨N, ((spec_RulesOk_r N list_).trans hN).trans (by kernel_rfl)⟩

def impl_copyInts_s : Sum := { ps := [⟨[.sl [.int .i64]], false⟩], rs := [⟨[.own 3 [.int .i64]], false⟩], fn := fun ds => (sm (rR ds 0), [.sl (idf (rR ds 0))]) }
def impl_copyInts_G : Ctx := []
theorem impl_copyInts_x : CtxHolds Tryz.prog impl_copyInts_G := ctx_nil
def impl_copyInts_A : List (Nat × Ann) := []
theorem impl_copyInts_r (N : Nat) (l : Rows) : runF Tryz.prog impl_copyInts_G impl_copyInts_A N Tryz.f49 impl_copyInts_s (.sl l :: ([])) = impl_copyInts_t Vm.bad (fun r0 => ((true, [.sl r0]) : Res)) l := by kernel_rfl
theorem impl_copyInts_h : Holds Tryz.prog 49 impl_copyInts_s := by
  refine holds_of_run (A := impl_copyInts_A) impl_copyInts_x Tryz.func49 rfl (by kernel_rfl) (of_decide_eq_true (by kernel_rfl)) (of_decide_eq_true (by kernel_rfl)) ?_
  intro ds hw hok
  replace hw : WtL ((.sl [.int .i64]) :: ([])) ds := hw
  obtain ⟨l, ds, rfl, h_l, hw⟩ := of_wt_sl hw
  obtain rfl := of_wt_nil hw
  exact ⟨0, ((impl_copyInts_r 0 l).trans (impl_copyInts_c Vm.bad _ l h_l hok)).trans (by kernel_rfl)⟩

def impl_copyPool_s : Sum := { ps := [⟨[.int .i64, .int .i64, .int .i64, .sl [.int .i64]], true⟩], rs := [⟨[.imm (.int .i64), .imm (.int .i64), .imm (.int .i64), .own 3 [.int .i64]], true⟩], fn := fun ds => (poolSm (SPool.decAt ds 0), SPool.enc (idf (SPool.decAt ds 0))) }
def impl_copyPool_G : Ctx := [(49, impl_copyInts_s)]
theorem impl_copyPool_x : CtxHolds Tryz.prog impl_copyPool_G := ctx_cons impl_copyInts_h ctx_nil
def impl_copyPool_A : List (Nat × Ann) := []
theorem impl_copyPool_r (N : Nat) (p : SPool) : runF Tryz.prog impl_copyPool_G impl_copyPool_A N Tryz.f175 impl_copyPool_s (p.enc ++ ([])) = impl_copyPool_t Vm.bad (fun r0 => ((true, SPool.enc r0) : Res)) p := by kernel_rfl
theorem impl_copyPool_h : Holds Tryz.prog 175 impl_copyPool_s := by
  refine holds_of_run (A := impl_copyPool_A) impl_copyPool_x Tryz.func175 rfl (by kernel_rfl) (of_decide_eq_true (by kernel_rfl)) (of_decide_eq_true (by kernel_rfl)) ?_
  intro ds hw hok
  replace hw : WtL (SPool.ct ++ ([])) ds := hw
  obtain ⟨p, ds, rfl, h_p, hw⟩ := SPool.of_wt (r := _) hw
  obtain rfl := of_wt_nil hw
  exact ⟨0, ((impl_copyPool_r 0 p).trans (impl_copyPool_c Vm.bad _ p h_p hok)).trans (by kernel_rfl)⟩

def spec_l21Copy_s : Sum := { ps := [⟨[.int .i64, .int .i64, .int .i64, .sl [.int .i64]], true⟩], rs := [⟨[.imm (.int .i64), .imm (.int .i64), .imm (.int .i64), .own 3 [.int .i64]], true⟩], fn := fun ds => (poolSm (SPool.decAt ds 0), SPool.enc (idf (SPool.decAt ds 0))) }
def spec_l21Copy_G : Ctx := []
theorem spec_l21Copy_x : CtxHolds Tryz.prog spec_l21Copy_G := ctx_nil
def spec_l21Copy_A : List (Nat × Ann) := []
theorem spec_l21Copy_r (N : Nat) (p : SPool) : runF Tryz.prog spec_l21Copy_G spec_l21Copy_A N Tryz.f199 spec_l21Copy_s (p.enc ++ ([])) = spec_l21Copy_t Vm.bad (fun r0 => ((true, SPool.enc r0) : Res)) p := by kernel_rfl
theorem spec_l21Copy_h : Holds Tryz.prog 199 spec_l21Copy_s := by
  refine holds_of_run (A := spec_l21Copy_A) spec_l21Copy_x Tryz.func199 rfl (by kernel_rfl) (of_decide_eq_true (by kernel_rfl)) (of_decide_eq_true (by kernel_rfl)) ?_
  intro ds hw hok
  replace hw : WtL (SPool.ct ++ ([])) ds := hw
  obtain ⟨p, ds, rfl, h_p, hw⟩ := SPool.of_wt (r := _) hw
  obtain rfl := of_wt_nil hw
  exact ⟨0, ((spec_l21Copy_r 0 p).trans (spec_l21Copy_c Vm.bad _ p h_p hok)).trans (by kernel_rfl)⟩

def impl_PoolOk_s : Sum := { ps := [⟨[.int .i64, .int .i64, .int .i64, .sl [.int .i64]], true⟩], rs := [⟨[.imm .bool], false⟩], fn := fun ds => (true, [.bool (PoolOk (SPool.decAt ds 0))]) }
def impl_PoolOk_G : Ctx := [(82, impl_between_s)]
theorem impl_PoolOk_x : CtxHolds Tryz.prog impl_PoolOk_G := ctx_cons impl_between_h ctx_nil
def impl_PoolOk_A : List (Nat × Ann) := [(5, { slots := [(1, .asis), (3, .asis), (26, .asis), (27, .asis), (28, .asis)], boxes := [(64, [])] })]
def impl_PoolOk_K : Bool → Res := (fun r0 => ((true, [.bool r0]) : Res))
def impl_PoolOk_m0 (x : Rows) (x_1 : Int) (x_2 : Int) (p_1 : Int) (p_2 : Int) (p_3 : Int) (p_4 : Rows) (seen : Rows) : St := { n := 48, sl := [(1, .ptr 64 0), (3, .own 640192), (26, .sl [.int .i64] x), (27, .int .i64 x_1), (28, .int .i64 x_2)], hp := [(64, .box 58 [.int .i64 p_1, .int .i64 p_2, .int .i64 p_3, .sl [.int .i64] p_4]), (640192, .row 4 [.bool] seen false true)], ok := true, ls := [], lm := [] }
noncomputable def impl_PoolOk_B0 (N : Nat) : (St → Res) → St → Res := loopB Tryz.prog impl_PoolOk_G impl_PoolOk_A N Tryz.f84 impl_PoolOk_s [true, true, true, false, true, false] []
theorem impl_PoolOk_b0 (N : Nat) (x : Rows) (x_1 : Int) (p_1 : Int) (p_2 : Int) (p_3 : Int) (p_4 : Rows) (ih : St → Res) (x_2 : Int) (seen : Rows) : impl_PoolOk_B0 N ih (impl_PoolOk_m0 x x_1 x_2 p_1 p_2 p_3 p_4 seen) = impl_PoolOk_l0 Vm.bad impl_PoolOk_K x x_1 p_3 (fun x_2 seen => ih (impl_PoolOk_m0 x x_1 x_2 p_1 p_2 p_3 p_4 seen)) x_2 seen := by kernel_rfl
theorem impl_PoolOk_n0 (N : Nat) (x : Rows) (x_1 : Int) (p_1 : Int) (p_2 : Int) (p_3 : Int) (p_4 : Rows) (m_ : Nat) : (fun x_2 seen => loopN (impl_PoolOk_B0 N) m_ (impl_PoolOk_m0 x x_1 x_2 p_1 p_2 p_3 p_4 seen)) = impl_PoolOk_L0 Vm.bad impl_PoolOk_K N x x_1 p_3 m_ := by
  induction m_ with
  | zero => rfl
  | succ m_ ih =>
    funext x_2 seen
    show impl_PoolOk_B0 N (loopN (impl_PoolOk_B0 N) m_) (impl_PoolOk_m0 x x_1 x_2 p_1 p_2 p_3 p_4 seen) = _
    rw [impl_PoolOk_b0 N x x_1 p_1 p_2 p_3 p_4]
    rw [ih]
    rfl
theorem impl_PoolOk_r (N : Nat) (p : SPool) : runF Tryz.prog impl_PoolOk_G impl_PoolOk_A N Tryz.f84 impl_PoolOk_s (p.enc ++ ([])) = impl_PoolOk_f Vm.bad impl_PoolOk_K N p := by
  have run_ : runF Tryz.prog impl_PoolOk_G impl_PoolOk_A N Tryz.f84 impl_PoolOk_s (p.enc ++ ([])) = impl_PoolOk_t Vm.bad impl_PoolOk_K (fun x x_1 p_3 x_2 seen => loopN (impl_PoolOk_B0 N) N (impl_PoolOk_m0 x x_1 x_2 p.Base p.Size p_3 p.Free seen)) p := by kernel_rfl
  refine run_.trans ?_
  unfold impl_PoolOk_f
  have e0 : (fun x x_1 p_3 x_2 seen => loopN (impl_PoolOk_B0 N) N (impl_PoolOk_m0 x x_1 x_2 p.Base p.Size p_3 p.Free seen)) = (fun x x_1 p_3 => impl_PoolOk_L0 Vm.bad impl_PoolOk_K N x x_1 p_3 N) := by
    funext x x_1 p_3
    exact impl_PoolOk_n0 N x x_1 p.Base p.Size p_3 p.Free N
  exact congrArg (fun l_ => impl_PoolOk_t Vm.bad impl_PoolOk_K l_ p) e0
theorem impl_PoolOk_h : Holds Tryz.prog 84 impl_PoolOk_s := by
  refine holds_of_run (A := impl_PoolOk_A) impl_PoolOk_x Tryz.func84 rfl (by kernel_rfl) (of_decide_eq_true (by kernel_rfl)) (of_decide_eq_true (by kernel_rfl)) ?_
  intro ds hw hok
  replace hw : WtL (SPool.ct ++ ([])) ds := hw
  obtain ⟨p, ds, rfl, h_p, hw⟩ := SPool.of_wt (r := _) hw
  obtain rfl := of_wt_nil hw
  obtain ⟨N, hN⟩ := impl_PoolOk_c Vm.bad impl_PoolOk_K p h_p
  exact ⟨N, ((impl_PoolOk_r N p).trans hN).trans (by kernel_rfl)⟩

def spec_PoolOk_s : Sum := { ps := [⟨[.int .i64, .int .i64, .int .i64, .sl [.int .i64]], true⟩], rs := [⟨[.imm .bool], false⟩], fn := fun ds => (true, [.bool (PoolOk (SPool.decAt ds 0))]) }
def spec_PoolOk_G : Ctx := [(73, spec_l01In_s)]
theorem spec_PoolOk_x : CtxHolds Tryz.prog spec_PoolOk_G := ctx_cons spec_l01In_h ctx_nil
def spec_PoolOk_A : List (Nat × Ann) := [(5, { slots := [(1, .asis), (3, .asis), (4, .asis)], boxes := [(64, [])] })]
def spec_PoolOk_K : Bool → Res := (fun r0 => ((true, [.bool r0]) : Res))
def spec_PoolOk_m0 (k : Int) (p_1 : Int) (p_2 : Int) (p_3 : Int) (p_4 : Rows) (seen : Rows) : St := { n := 58, sl := [(1, .ptr 64 0), (3, .own 640192), (4, .int .i64 k)], hp := [(64, .box 58 [.int .i64 p_1, .int .i64 p_2, .int .i64 p_3, .sl [.int .i64] p_4]), (640192, .row 4 [.bool] seen false true)], ok := true, ls := [], lm := [] }
noncomputable def spec_PoolOk_B0 (N : Nat) : (St → Res) → St → Res := loopB Tryz.prog spec_PoolOk_G spec_PoolOk_A N Tryz.f76 spec_PoolOk_s [true, true, true, false, true, false] []
theorem spec_PoolOk_b0 (N : Nat) (p_1 : Int) (p_2 : Int) (p_3 : Int) (p_4 : Rows) (ih : St → Res) (k : Int) (seen : Rows) : spec_PoolOk_B0 N ih (spec_PoolOk_m0 k p_1 p_2 p_3 p_4 seen) = spec_PoolOk_l0 Vm.bad spec_PoolOk_K p_3 p_4 (fun k seen => ih (spec_PoolOk_m0 k p_1 p_2 p_3 p_4 seen)) k seen := by kernel_rfl
theorem spec_PoolOk_n0 (N : Nat) (p_1 : Int) (p_2 : Int) (p_3 : Int) (p_4 : Rows) (m_ : Nat) : (fun k seen => loopN (spec_PoolOk_B0 N) m_ (spec_PoolOk_m0 k p_1 p_2 p_3 p_4 seen)) = spec_PoolOk_L0 Vm.bad spec_PoolOk_K N p_3 p_4 m_ := by
  induction m_ with
  | zero => rfl
  | succ m_ ih =>
    funext k seen
    show spec_PoolOk_B0 N (loopN (spec_PoolOk_B0 N) m_) (spec_PoolOk_m0 k p_1 p_2 p_3 p_4 seen) = _
    rw [spec_PoolOk_b0 N p_1 p_2 p_3 p_4]
    rw [ih]
    rfl
theorem spec_PoolOk_r (N : Nat) (p : SPool) : runF Tryz.prog spec_PoolOk_G spec_PoolOk_A N Tryz.f76 spec_PoolOk_s (p.enc ++ ([])) = spec_PoolOk_f Vm.bad spec_PoolOk_K N p := by
  have run_ : runF Tryz.prog spec_PoolOk_G spec_PoolOk_A N Tryz.f76 spec_PoolOk_s (p.enc ++ ([])) = spec_PoolOk_t Vm.bad spec_PoolOk_K (fun p_3 p_4 k seen => loopN (spec_PoolOk_B0 N) N (spec_PoolOk_m0 k p.Base p.Size p_3 p_4 seen)) p := by kernel_rfl
  refine run_.trans ?_
  unfold spec_PoolOk_f
  have e0 : (fun p_3 p_4 k seen => loopN (spec_PoolOk_B0 N) N (spec_PoolOk_m0 k p.Base p.Size p_3 p_4 seen)) = (fun p_3 p_4 => spec_PoolOk_L0 Vm.bad spec_PoolOk_K N p_3 p_4 N) := by
    funext p_3 p_4
    exact spec_PoolOk_n0 N p.Base p.Size p_3 p_4 N
  exact congrArg (fun l_ => spec_PoolOk_t Vm.bad spec_PoolOk_K l_ p) e0
theorem spec_PoolOk_h : Holds Tryz.prog 76 spec_PoolOk_s := by
  refine holds_of_run (A := spec_PoolOk_A) spec_PoolOk_x Tryz.func76 rfl (by kernel_rfl) (of_decide_eq_true (by kernel_rfl)) (of_decide_eq_true (by kernel_rfl)) ?_
  intro ds hw hok
  replace hw : WtL (SPool.ct ++ ([])) ds := hw
  obtain ⟨p, ds, rfl, h_p, hw⟩ := SPool.of_wt (r := _) hw
  obtain rfl := of_wt_nil hw
  obtain ⟨N, hN⟩ := spec_PoolOk_c Vm.bad spec_PoolOk_K p h_p
  exact ⟨N, ((spec_PoolOk_r N p).trans hN).trans (by kernel_rfl)⟩

def impl_GiveBuffers_s : Sum := { ps := [⟨[.int .i64, .int .i64, .int .i64, .sl [.int .i64]], true⟩, ⟨[.sl [.int .i64]], false⟩], rs := [⟨[.imm (.int .i64), .imm (.int .i64), .imm (.int .i64), .own 3 [.int .i64]], true⟩, ⟨[.imm .bool], false⟩], fn := fun ds => (givSm (SPool.decAt ds 0) (rR ds 4), SPool.enc (GiveBuffers (SPool.decAt ds 0) (rR ds 4)).1 ++ [.bool (GiveBuffers (SPool.decAt ds 0) (rR ds 4)).2]) }
def impl_GiveBuffers_G : Ctx := [(84, impl_PoolOk_s), (175, impl_copyPool_s)]
theorem impl_GiveBuffers_x : CtxHolds Tryz.prog impl_GiveBuffers_G := ctx_cons impl_PoolOk_h (ctx_cons impl_copyPool_h ctx_nil)
def impl_GiveBuffers_A : List (Nat × Ann) := []
theorem impl_GiveBuffers_r (N : Nat) (p : SPool) (list_ : Rows) : runF Tryz.prog impl_GiveBuffers_G impl_GiveBuffers_A N Tryz.f154 impl_GiveBuffers_s (p.enc ++ (.sl list_ :: ([]))) = impl_GiveBuffers_t Vm.bad (fun r0 r1 => ((true, SPool.enc r0 ++ [.bool r1]) : Res)) p list_ := by kernel_rfl
theorem impl_GiveBuffers_h : Holds Tryz.prog 154 impl_GiveBuffers_s := by
  refine holds_of_run (A := impl_GiveBuffers_A) impl_GiveBuffers_x Tryz.func154 rfl (by kernel_rfl) (of_decide_eq_true (by kernel_rfl)) (of_decide_eq_true (by kernel_rfl)) ?_
  intro ds hw hok
  replace hw : WtL (SPool.ct ++ ((.sl [.int .i64]) :: ([]))) ds := hw
  obtain ⟨p, ds, rfl, h_p, hw⟩ := SPool.of_wt (r := _) hw
  obtain ⟨list_, ds, rfl, h_list_, hw⟩ := of_wt_sl hw
  obtain rfl := of_wt_nil hw
  exact ⟨0, ((impl_GiveBuffers_r 0 p list_).trans (impl_GiveBuffers_c Vm.bad _ p list_ h_p h_list_ hok)).trans (by kernel_rfl)⟩

def spec_GiveBuffers_s : Sum := { ps := [⟨[.int .i64, .int .i64, .int .i64, .sl [.int .i64]], true⟩, ⟨[.sl [.int .i64]], false⟩], rs := [⟨[.imm (.int .i64), .imm (.int .i64), .imm (.int .i64), .own 3 [.int .i64]], true⟩, ⟨[.imm .bool], false⟩], fn := fun ds => (givSm (SPool.decAt ds 0) (rR ds 4), SPool.enc (GiveBuffers (SPool.decAt ds 0) (rR ds 4)).1 ++ [.bool (GiveBuffers (SPool.decAt ds 0) (rR ds 4)).2]) }
def spec_GiveBuffers_G : Ctx := [(76, spec_PoolOk_s), (199, spec_l21Copy_s)]
theorem spec_GiveBuffers_x : CtxHolds Tryz.prog spec_GiveBuffers_G := ctx_cons spec_PoolOk_h (ctx_cons spec_l21Copy_h ctx_nil)
def spec_GiveBuffers_A : List (Nat × Ann) := []
theorem spec_GiveBuffers_r (N : Nat) (p : SPool) (list_ : Rows) : runF Tryz.prog spec_GiveBuffers_G spec_GiveBuffers_A N Tryz.f145 spec_GiveBuffers_s (p.enc ++ (.sl list_ :: ([]))) = spec_GiveBuffers_t Vm.bad (fun r0 r1 => ((true, SPool.enc r0 ++ [.bool r1]) : Res)) p list_ := by kernel_rfl
theorem spec_GiveBuffers_h : Holds Tryz.prog 145 spec_GiveBuffers_s := by
  refine holds_of_run (A := spec_GiveBuffers_A) spec_GiveBuffers_x Tryz.func145 rfl (by kernel_rfl) (of_decide_eq_true (by kernel_rfl)) (of_decide_eq_true (by kernel_rfl)) ?_
  intro ds hw hok
  replace hw : WtL (SPool.ct ++ ((.sl [.int .i64]) :: ([]))) ds := hw
  obtain ⟨p, ds, rfl, h_p, hw⟩ := SPool.of_wt (r := _) hw
  obtain ⟨list_, ds, rfl, h_list_, hw⟩ := of_wt_sl hw
  obtain rfl := of_wt_nil hw
  exact ⟨0, ((spec_GiveBuffers_r 0 p list_).trans (spec_GiveBuffers_c Vm.bad _ p list_ h_p h_list_ hok)).trans (by kernel_rfl)⟩

end
end Go.Proofs.YtdlelfondkajbaaGreat.Pl
