/- The contracts of functions of the program: each computes what its plain form says. Conditions: none. -/
import Derived.Test.YthpmalpdnnbkgaaGreatPHm
import Derived.Test.YthpmalpdnnbkgaaGreatRows
import Derived.Test.YthpmalpdnnbkgaaGreatBDm
set_option linter.unusedVariables false
set_option linter.unusedSimpArgs false
set_option maxRecDepth 100000
namespace Go.Proofs.YthpmalpdnnbkgaaGreat.Pl
open Vm
noncomputable section

def laws_markMemory_s : Sum := { ps := [⟨[.sl [.str]], true⟩, ⟨[.int .i64], false⟩], rs := [⟨[.imm (.int .i64)], false⟩], fn := fun ds => (markMemory_ok (SMemory.decAt ds 0) (rI ds 1), [.int (markMemory (SMemory.decAt ds 0) (rI ds 1)).1] ++ [.sl (markMemory (SMemory.decAt ds 0) (rI ds 1)).2]), ms := [some (.rows [.flat 9]), none] }
def laws_markMemory_G : Ctx := [(65, laws_markStringS_s)]
theorem laws_markMemory_x : CtxHolds Tryz.prog laws_markMemory_G := ctx_cons laws_markStringS_h ctx_nil
def laws_markMemory_A : List (Nat × Ann) := []
theorem laws_markMemory_r (N : Nat) (a : SMemory) (k : Int) : runFM Tryz.prog laws_markMemory_G laws_markMemory_A N Tryz.f55 laws_markMemory_s (a.enc ++ (.int k :: ([]))) = laws_markMemory_t Vm.bad (fun r0 r1 => ((true, [.int r0] ++ [.sl r1]) : Res)) a k := by kernel_rfl
theorem laws_markMemory_h : HoldsM Tryz.prog 55 laws_markMemory_s := by
  refine holdsM_of_run (A := laws_markMemory_A) laws_markMemory_x Tryz.func55 rfl (by kernel_rfl) (of_decide_eq_true (by kernel_rfl)) (of_decide_eq_true (by kernel_rfl)) (by kernel_rfl) (fun ds => by kernel_rfl) ?_
  intro ds hw hok
  replace hw : WtL (SMemory.ct ++ ((.int .i64) :: ([]))) ds := hw
  obtain ⟨a, ds, rfl, h_a, hw⟩ := SMemory.of_wt (r := _) hw
  obtain ⟨k, ds, rfl, h_k, hw⟩ := of_wt_int hw
  obtain rfl := of_wt_nil hw
  exact ⟨0, ((laws_markMemory_r 0 a k).trans (laws_markMemory_c Vm.bad _ a k hok)).trans (by kernel_rfl)⟩

def laws_markPool_s : Sum := { ps := [⟨[.int .i64, .int .i64, .int .i64, .sl [.int .i64]], true⟩, ⟨[.int .i64], false⟩], rs := [⟨[.imm (.int .i64)], false⟩], fn := fun ds => (markPool_ok (SPool.decAt ds 0) (rI ds 4), [.int (markPool (SPool.decAt ds 0) (rI ds 4)).1] ++ [.sl (markPool (SPool.decAt ds 0) (rI ds 4)).2]), ms := [some (.rows [.flat 3]), none] }
def laws_markPool_G : Ctx := [(12, laws_markIntS_s)]
theorem laws_markPool_x : CtxHolds Tryz.prog laws_markPool_G := ctx_cons laws_markIntS_h ctx_nil
def laws_markPool_A : List (Nat × Ann) := []
theorem laws_markPool_r (N : Nat) (a : SPool) (k : Int) : runFM Tryz.prog laws_markPool_G laws_markPool_A N Tryz.f110 laws_markPool_s (a.enc ++ (.int k :: ([]))) = laws_markPool_t Vm.bad (fun r0 r1 => ((true, [.int r0] ++ [.sl r1]) : Res)) a k := by kernel_rfl
theorem laws_markPool_h : HoldsM Tryz.prog 110 laws_markPool_s := by
  refine holdsM_of_run (A := laws_markPool_A) laws_markPool_x Tryz.func110 rfl (by kernel_rfl) (of_decide_eq_true (by kernel_rfl)) (of_decide_eq_true (by kernel_rfl)) (by kernel_rfl) (fun ds => by kernel_rfl) ?_
  intro ds hw hok
  replace hw : WtL (SPool.ct ++ ((.int .i64) :: ([]))) ds := hw
  obtain ⟨a, ds, rfl, h_a, hw⟩ := SPool.of_wt (r := _) hw
  obtain ⟨k, ds, rfl, h_k, hw⟩ := of_wt_int hw
  obtain rfl := of_wt_nil hw
  exact ⟨0, ((laws_markPool_r 0 a k).trans (laws_markPool_c Vm.bad _ a k hok)).trans (by kernel_rfl)⟩

def laws_markFilter_s : Sum := { ps := [⟨[.int .i64, .bool, .sl [.int .i64]], true⟩, ⟨[.int .i64], false⟩], rs := [⟨[.imm (.int .i64)], false⟩], fn := fun ds => (markFilter_ok (SFilter.decAt ds 0) (rI ds 3), [.int (markFilter (SFilter.decAt ds 0) (rI ds 3)).1] ++ [.sl (markFilter (SFilter.decAt ds 0) (rI ds 3)).2]), ms := [some (.rows [.flat 3]), none] }
def laws_markFilter_G : Ctx := [(12, laws_markIntS_s)]
theorem laws_markFilter_x : CtxHolds Tryz.prog laws_markFilter_G := ctx_cons laws_markIntS_h ctx_nil
def laws_markFilter_A : List (Nat × Ann) := []
theorem laws_markFilter_r (N : Nat) (a : SFilter) (k : Int) : runFM Tryz.prog laws_markFilter_G laws_markFilter_A N Tryz.f62 laws_markFilter_s (a.enc ++ (.int k :: ([]))) = laws_markFilter_t Vm.bad (fun r0 r1 => ((true, [.int r0] ++ [.sl r1]) : Res)) a k := by kernel_rfl
theorem laws_markFilter_h : HoldsM Tryz.prog 62 laws_markFilter_s := by
  refine holdsM_of_run (A := laws_markFilter_A) laws_markFilter_x Tryz.func62 rfl (by kernel_rfl) (of_decide_eq_true (by kernel_rfl)) (of_decide_eq_true (by kernel_rfl)) (by kernel_rfl) (fun ds => by kernel_rfl) ?_
  intro ds hw hok
  replace hw : WtL (SFilter.ct ++ ((.int .i64) :: ([]))) ds := hw
  obtain ⟨a, ds, rfl, h_a, hw⟩ := SFilter.of_wt (r := _) hw
  obtain ⟨k, ds, rfl, h_k, hw⟩ := of_wt_int hw
  obtain rfl := of_wt_nil hw
  exact ⟨0, ((laws_markFilter_r 0 a k).trans (laws_markFilter_c Vm.bad _ a k hok)).trans (by kernel_rfl)⟩

def laws_markFlowTable_s : Sum := { ps := [⟨[.sl [.int .i64, .int .i64, .int .i64, .int .i64, .int .i64, .int .i64, .int .i64]], true⟩, ⟨[.int .i64], false⟩], rs := [⟨[.imm (.int .i64)], false⟩], fn := fun ds => (markFlowTable_ok (SFlowTable.decAt ds 0) (rI ds 1), [.int (markFlowTable (SFlowTable.decAt ds 0) (rI ds 1)).1] ++ [.sl (markFlowTable (SFlowTable.decAt ds 0) (rI ds 1)).2]), ms := [some (.rows [.flat 242]), none] }
def laws_markFlowTable_G : Ctx := [(169, laws_markSlotS_s)]
theorem laws_markFlowTable_x : CtxHolds Tryz.prog laws_markFlowTable_G := ctx_cons laws_markSlotS_h ctx_nil
def laws_markFlowTable_A : List (Nat × Ann) := []
theorem laws_markFlowTable_r (N : Nat) (a : SFlowTable) (k : Int) : runFM Tryz.prog laws_markFlowTable_G laws_markFlowTable_A N Tryz.f114 laws_markFlowTable_s (a.enc ++ (.int k :: ([]))) = laws_markFlowTable_t Vm.bad (fun r0 r1 => ((true, [.int r0] ++ [.sl r1]) : Res)) a k := by kernel_rfl
theorem laws_markFlowTable_h : HoldsM Tryz.prog 114 laws_markFlowTable_s := by
  refine holdsM_of_run (A := laws_markFlowTable_A) laws_markFlowTable_x Tryz.func114 rfl (by kernel_rfl) (of_decide_eq_true (by kernel_rfl)) (of_decide_eq_true (by kernel_rfl)) (by kernel_rfl) (fun ds => by kernel_rfl) ?_
  intro ds hw hok
  replace hw : WtL (SFlowTable.ct ++ ((.int .i64) :: ([]))) ds := hw
  obtain ⟨a, ds, rfl, h_a, hw⟩ := SFlowTable.of_wt (r := _) hw
  obtain ⟨k, ds, rfl, h_k, hw⟩ := of_wt_int hw
  obtain rfl := of_wt_nil hw
  exact ⟨0, ((laws_markFlowTable_r 0 a k).trans (laws_markFlowTable_c Vm.bad _ a k hok)).trans (by kernel_rfl)⟩

def laws_markSpread_s : Sum := { ps := [⟨[.str, .sl [.int .i64]], true⟩, ⟨[.int .i64], false⟩], rs := [⟨[.imm (.int .i64)], false⟩], fn := fun ds => (markSpread_ok (SSpread.decAt ds 0) (rI ds 2), [.int (markSpread (SSpread.decAt ds 0) (rI ds 2)).1] ++ [.sl (markSpread (SSpread.decAt ds 0) (rI ds 2)).2]), ms := [some (.rows [.flat 3]), none] }
def laws_markSpread_G : Ctx := [(12, laws_markIntS_s)]
theorem laws_markSpread_x : CtxHolds Tryz.prog laws_markSpread_G := ctx_cons laws_markIntS_h ctx_nil
def laws_markSpread_A : List (Nat × Ann) := []
theorem laws_markSpread_r (N : Nat) (a : SSpread) (k : Int) : runFM Tryz.prog laws_markSpread_G laws_markSpread_A N Tryz.f115 laws_markSpread_s (a.enc ++ (.int k :: ([]))) = laws_markSpread_t Vm.bad (fun r0 r1 => ((true, [.int r0] ++ [.sl r1]) : Res)) a k := by kernel_rfl
theorem laws_markSpread_h : HoldsM Tryz.prog 115 laws_markSpread_s := by
  refine holdsM_of_run (A := laws_markSpread_A) laws_markSpread_x Tryz.func115 rfl (by kernel_rfl) (of_decide_eq_true (by kernel_rfl)) (of_decide_eq_true (by kernel_rfl)) (by kernel_rfl) (fun ds => by kernel_rfl) ?_
  intro ds hw hok
  replace hw : WtL (SSpread.ct ++ ((.int .i64) :: ([]))) ds := hw
  obtain ⟨a, ds, rfl, h_a, hw⟩ := SSpread.of_wt (r := _) hw
  obtain ⟨k, ds, rfl, h_k, hw⟩ := of_wt_int hw
  obtain rfl := of_wt_nil hw
  exact ⟨0, ((laws_markSpread_r 0 a k).trans (laws_markSpread_c Vm.bad _ a k hok)).trans (by kernel_rfl)⟩

def laws_markTxQueue_s : Sum := { ps := [⟨[.int .i64, .int .i64, .int .i64, .int .i64, .int .i64, .int .i64, .int .i64, .sl [.int .i64], .sl [.int .i64, .int .i64, .sl [.int .i64]], .int .i64], true⟩, ⟨[.int .i64], false⟩], rs := [⟨[.imm (.int .i64)], false⟩], fn := fun ds => (markTxQueue_ok (STxQueue.decAt ds 0) (rI ds 10), [.int (markTxQueue (STxQueue.decAt ds 0) (rI ds 10)).1] ++ [.sl (markTxQueue (STxQueue.decAt ds 0) (rI ds 10)).2.1] ++ [.sl (markTxQueue (STxQueue.decAt ds 0) (rI ds 10)).2.2]), ms := [some (.rows [.flat 3, .deep 96 [3]]), none] }
def laws_markTxQueue_G : Ctx := [(110, laws_markPool_s), (111, laws_markSentS_s)]
theorem laws_markTxQueue_x : CtxHolds Tryz.prog laws_markTxQueue_G := ctx_cons laws_markPool_h (ctx_cons laws_markSentS_h ctx_nil)
def laws_markTxQueue_A : List (Nat × Ann) := []
theorem laws_markTxQueue_r (N : Nat) (a : STxQueue) (k : Int) : runFM Tryz.prog laws_markTxQueue_G laws_markTxQueue_A N Tryz.f57 laws_markTxQueue_s (a.enc ++ (.int k :: ([]))) = laws_markTxQueue_t Vm.bad (fun r0 r1 r2 => ((true, [.int r0] ++ [.sl r1] ++ [.sl r2]) : Res)) a k := by kernel_rfl
theorem laws_markTxQueue_h : HoldsM Tryz.prog 57 laws_markTxQueue_s := by
  refine holdsM_of_run (A := laws_markTxQueue_A) laws_markTxQueue_x Tryz.func57 rfl (by kernel_rfl) (of_decide_eq_true (by kernel_rfl)) (of_decide_eq_true (by kernel_rfl)) (by kernel_rfl) (fun ds => by kernel_rfl) ?_
  intro ds hw hok
  replace hw : WtL (STxQueue.ct ++ ((.int .i64) :: ([]))) ds := hw
  obtain ⟨a, ds, rfl, h_a, hw⟩ := STxQueue.of_wt (r := _) hw
  obtain ⟨k, ds, rfl, h_k, hw⟩ := of_wt_int hw
  obtain rfl := of_wt_nil hw
  exact ⟨0, ((laws_markTxQueue_r 0 a k).trans (laws_markTxQueue_c Vm.bad _ a k hok)).trans (by kernel_rfl)⟩

def laws_markSteering_s : Sum := { ps := [⟨[.sl [.int .i64, .int .i64, .int .i64, .int .i64, .int .i64, .int .i64, .int .i64, .int .i64, .int .i64], .sl [.int .i64, .int .i64, .int .i64, .int .i64, .int .i64, .int .i64, .int .i64], .str, .sl [.int .i64]], true⟩, ⟨[.int .i64], false⟩], rs := [⟨[.imm (.int .i64)], false⟩], fn := fun ds => (markSteering_ok (SSteering.decAt ds 0) (rI ds 4), [.int (markSteering (SSteering.decAt ds 0) (rI ds 4)).1] ++ [.sl (markSteering (SSteering.decAt ds 0) (rI ds 4)).2.1] ++ [.sl (markSteering (SSteering.decAt ds 0) (rI ds 4)).2.2.1] ++ [.sl (markSteering (SSteering.decAt ds 0) (rI ds 4)).2.2.2]), ms := [some (.rows [.flat 221, .flat 242, .flat 3]), none] }
def laws_markSteering_G : Ctx := [(113, laws_markRuleS_s), (114, laws_markFlowTable_s), (115, laws_markSpread_s)]
theorem laws_markSteering_x : CtxHolds Tryz.prog laws_markSteering_G := ctx_cons laws_markRuleS_h (ctx_cons laws_markFlowTable_h (ctx_cons laws_markSpread_h ctx_nil))
def laws_markSteering_A : List (Nat × Ann) := []
theorem laws_markSteering_r (N : Nat) (a : SSteering) (k : Int) : runFM Tryz.prog laws_markSteering_G laws_markSteering_A N Tryz.f63 laws_markSteering_s (a.enc ++ (.int k :: ([]))) = laws_markSteering_t Vm.bad (fun r0 r1 r2 r3 => ((true, [.int r0] ++ [.sl r1] ++ [.sl r2] ++ [.sl r3]) : Res)) a k := by kernel_rfl
theorem laws_markSteering_h : HoldsM Tryz.prog 63 laws_markSteering_s := by
  refine holdsM_of_run (A := laws_markSteering_A) laws_markSteering_x Tryz.func63 rfl (by kernel_rfl) (of_decide_eq_true (by kernel_rfl)) (of_decide_eq_true (by kernel_rfl)) (by kernel_rfl) (fun ds => by kernel_rfl) ?_
  intro ds hw hok
  replace hw : WtL (SSteering.ct ++ ((.int .i64) :: ([]))) ds := hw
  obtain ⟨a, ds, rfl, h_a, hw⟩ := SSteering.of_wt (r := _) hw
  obtain ⟨k, ds, rfl, h_k, hw⟩ := of_wt_int hw
  obtain rfl := of_wt_nil hw
  exact ⟨0, ((laws_markSteering_r 0 a k).trans (laws_markSteering_c Vm.bad _ a k hok)).trans (by kernel_rfl)⟩

def laws_markHost_s : Sum := { ps := [⟨[.sl [.str], .sl [.int .i64, .int .i64, .int .i64, .bool], .int .i64, .int .i64, .int .i64, .int .i64, .int .i64, .int .i64, .int .i64, .sl [.int .i64], .sl [.int .i64, .int .i64, .sl [.int .i64]], .int .i64, .sl [.int .i64, .int .i64, .int .i64, .int .i64, .int .i64, .int .i64, .int .i64, .int .i64, .int .i64, .int .i64, .int .i64, .int .i64, .int .i64, .int .i64, .int .i64, .int .i64, .int .i64, .int .i64, .int .i64, .int .i64, .int .i64, .int .i64, .int .i64, .int .i64, .int .i64, .str, .int .i64, .int .i64, .bool, .int .i64], .sl [.int .i64, .int .i64, .int .i64, .sl [.int .i64]], .sl [.int .i64, .int .i64, .int .i64, .int .i64, .bool, .bool], .sl [.bool], .int .i64, .bool, .sl [.int .i64], .sl [.int .i64, .int .i64, .int .i64, .int .i64, .int .i64, .int .i64, .int .i64, .int .i64, .int .i64], .sl [.int .i64, .int .i64, .int .i64, .int .i64, .int .i64, .int .i64, .int .i64], .str, .sl [.int .i64], .sl [.int .i64, .int .i64, .int .i64, .int .i64, .int .i64, .int .i64, .str, .bool], .bool, .sl [.str], .sl [.int .i64], .sl [.int .i64], .int .i64, .int .i64, .int .i64, .int .i64, .int .i64], true⟩, ⟨[.int .i64], false⟩], rs := [⟨[.imm (.int .i64)], false⟩], fn := fun ds => (markHost_ok (SHost.decAt ds 0) (rI ds 33), [.int (markHost (SHost.decAt ds 0) (rI ds 33)).1] ++ [.sl (markHost (SHost.decAt ds 0) (rI ds 33)).2.1] ++ [.sl (markHost (SHost.decAt ds 0) (rI ds 33)).2.2.1] ++ [.sl (markHost (SHost.decAt ds 0) (rI ds 33)).2.2.2.1] ++ [.sl (markHost (SHost.decAt ds 0) (rI ds 33)).2.2.2.2.1] ++ [.sl (markHost (SHost.decAt ds 0) (rI ds 33)).2.2.2.2.2.1] ++ [.sl (markHost (SHost.decAt ds 0) (rI ds 33)).2.2.2.2.2.2.1] ++ [.sl (markHost (SHost.decAt ds 0) (rI ds 33)).2.2.2.2.2.2.2.1] ++ [.sl (markHost (SHost.decAt ds 0) (rI ds 33)).2.2.2.2.2.2.2.2.1] ++ [.sl (markHost (SHost.decAt ds 0) (rI ds 33)).2.2.2.2.2.2.2.2.2.1] ++ [.sl (markHost (SHost.decAt ds 0) (rI ds 33)).2.2.2.2.2.2.2.2.2.2.1] ++ [.sl (markHost (SHost.decAt ds 0) (rI ds 33)).2.2.2.2.2.2.2.2.2.2.2.1] ++ [.sl (markHost (SHost.decAt ds 0) (rI ds 33)).2.2.2.2.2.2.2.2.2.2.2.2.1] ++ [.sl (markHost (SHost.decAt ds 0) (rI ds 33)).2.2.2.2.2.2.2.2.2.2.2.2.2.1] ++ [.sl (markHost (SHost.decAt ds 0) (rI ds 33)).2.2.2.2.2.2.2.2.2.2.2.2.2.2.1] ++ [.sl (markHost (SHost.decAt ds 0) (rI ds 33)).2.2.2.2.2.2.2.2.2.2.2.2.2.2.2.1] ++ [.sl (markHost (SHost.decAt ds 0) (rI ds 33)).2.2.2.2.2.2.2.2.2.2.2.2.2.2.2.2]), ms := [some (.rows [.flat 9, .flat 157, .flat 3, .deep 96 [3], .flat 170, .deep 58 [3], .flat 133, .flat 4, .flat 3, .flat 221, .flat 242, .flat 3, .flat 179, .flat 9, .flat 3, .flat 3]), none] }
def laws_markHost_G : Ctx := [(12, laws_markIntS_s), (55, laws_markMemory_s), (56, laws_markMappingS_s), (57, laws_markTxQueue_s), (58, laws_markRxQueueS_s), (59, laws_markPoolS_s), (60, laws_markVectorS_s), (61, laws_markBoolS_s), (62, laws_markFilter_s), (63, laws_markSteering_s), (64, laws_markStreamS_s), (65, laws_markStringS_s)]
theorem laws_markHost_x : CtxHolds Tryz.prog laws_markHost_G := ctx_cons laws_markIntS_h (ctx_cons laws_markMemory_h (ctx_cons laws_markMappingS_h (ctx_cons laws_markTxQueue_h (ctx_cons laws_markRxQueueS_h (ctx_cons laws_markPoolS_h (ctx_cons laws_markVectorS_h (ctx_cons laws_markBoolS_h (ctx_cons laws_markFilter_h (ctx_cons laws_markSteering_h (ctx_cons laws_markStreamS_h (ctx_cons laws_markStringS_h ctx_nil)))))))))))
def laws_markHost_A : List (Nat × Ann) := []
theorem laws_markHost_r (N : Nat) (a : SHost) (k : Int) : runFM Tryz.prog laws_markHost_G laws_markHost_A N Tryz.f11 laws_markHost_s (a.enc ++ (.int k :: ([]))) = laws_markHost_t Vm.bad (fun r0 r1 r2 r3 r4 r5 r6 r7 r8 r9 r10 r11 r12 r13 r14 r15 r16 => ((true, [.int r0] ++ [.sl r1] ++ [.sl r2] ++ [.sl r3] ++ [.sl r4] ++ [.sl r5] ++ [.sl r6] ++ [.sl r7] ++ [.sl r8] ++ [.sl r9] ++ [.sl r10] ++ [.sl r11] ++ [.sl r12] ++ [.sl r13] ++ [.sl r14] ++ [.sl r15] ++ [.sl r16]) : Res)) a k := by kernel_rfl
theorem laws_markHost_h : HoldsM Tryz.prog 11 laws_markHost_s := by
  refine holdsM_of_run (A := laws_markHost_A) laws_markHost_x Tryz.func11 rfl (by kernel_rfl) (of_decide_eq_true (by kernel_rfl)) (of_decide_eq_true (by kernel_rfl)) (by kernel_rfl) (fun ds => by kernel_rfl) ?_
  intro ds hw hok
  replace hw : WtL (SHost.ct ++ ((.int .i64) :: ([]))) ds := hw
  obtain ⟨a, ds, rfl, h_a, hw⟩ := SHost.of_wt (r := _) hw
  obtain ⟨k, ds, rfl, h_k, hw⟩ := of_wt_int hw
  obtain rfl := of_wt_nil hw
  exact ⟨0, ((laws_markHost_r 0 a k).trans (laws_markHost_c Vm.bad _ a k hok)).trans (by kernel_rfl)⟩

def impl_copyInts_s : Sum := { ps := [⟨[.sl [.int .i64]], false⟩], rs := [⟨[.own 3 [.int .i64]], false⟩], fn := fun ds => (sm (rR ds 0), [.sl (idf (rR ds 0))]) }
def impl_copyInts_G : Ctx := []
theorem impl_copyInts_x : CtxHolds Tryz.prog impl_copyInts_G := ctx_nil
def impl_copyInts_A : List (Nat × Ann) := []
theorem impl_copyInts_r (N : Nat) (l : Rows) : runF Tryz.prog impl_copyInts_G impl_copyInts_A N Tryz.f42 impl_copyInts_s (.sl l :: ([])) = impl_copyInts_t Vm.bad (fun r0 => ((true, [.sl r0]) : Res)) l := by kernel_rfl
theorem impl_copyInts_h : Holds Tryz.prog 42 impl_copyInts_s := by
  refine holds_of_run (A := impl_copyInts_A) impl_copyInts_x Tryz.func42 rfl (by kernel_rfl) (of_decide_eq_true (by kernel_rfl)) (of_decide_eq_true (by kernel_rfl)) ?_
  intro ds hw hok
  replace hw : WtL ((.sl [.int .i64]) :: ([])) ds := hw
  obtain ⟨l, ds, rfl, h_l, hw⟩ := of_wt_sl hw
  obtain rfl := of_wt_nil hw
  exact ⟨0, ((impl_copyInts_r 0 l).trans (impl_copyInts_c Vm.bad _ l h_l hok)).trans (by kernel_rfl)⟩

def impl_HostAccount_s : Sum := { ps := [⟨[.sl [.str], .sl [.int .i64, .int .i64, .int .i64, .bool], .int .i64, .int .i64, .int .i64, .int .i64, .int .i64, .int .i64, .int .i64, .sl [.int .i64], .sl [.int .i64, .int .i64, .sl [.int .i64]], .int .i64, .sl [.int .i64, .int .i64, .int .i64, .int .i64, .int .i64, .int .i64, .int .i64, .int .i64, .int .i64, .int .i64, .int .i64, .int .i64, .int .i64, .int .i64, .int .i64, .int .i64, .int .i64, .int .i64, .int .i64, .int .i64, .int .i64, .int .i64, .int .i64, .int .i64, .int .i64, .str, .int .i64, .int .i64, .bool, .int .i64], .sl [.int .i64, .int .i64, .int .i64, .sl [.int .i64]], .sl [.int .i64, .int .i64, .int .i64, .int .i64, .bool, .bool], .sl [.bool], .int .i64, .bool, .sl [.int .i64], .sl [.int .i64, .int .i64, .int .i64, .int .i64, .int .i64, .int .i64, .int .i64, .int .i64, .int .i64], .sl [.int .i64, .int .i64, .int .i64, .int .i64, .int .i64, .int .i64, .int .i64], .str, .sl [.int .i64], .sl [.int .i64, .int .i64, .int .i64, .int .i64, .int .i64, .int .i64, .str, .bool], .bool, .sl [.str], .sl [.int .i64], .sl [.int .i64], .int .i64, .int .i64, .int .i64, .int .i64, .int .i64], true⟩], rs := [⟨[.own 3 [.int .i64]], false⟩], fn := fun ds => (HostAccount_ok (SHost.decAt ds 0), [.sl (HostAccount (SHost.decAt ds 0))]) }
def impl_HostAccount_G : Ctx := [(42, impl_copyInts_s)]
theorem impl_HostAccount_x : CtxHolds Tryz.prog impl_HostAccount_G := ctx_cons impl_copyInts_h ctx_nil
def impl_HostAccount_A : List (Nat × Ann) := [(3, { slots := [(3, .asis), (14, .asis), (15, .asis), (16, .asis)], boxes := [(64, [])] })]
def impl_HostAccount_K : Rows → Res := (fun r0 => ((true, [.sl r0]) : Res))
def impl_HostAccount_m0 (x : Rows) (x_1 : Int) (x_2 : Int) (h_1 : Rows) (h_2 : Rows) (h_3 : Int) (h_4 : Int) (h_5 : Int) (h_6 : Int) (h_7 : Int) (h_8 : Int) (h_9 : Int) (h_10 : Rows) (h_11 : Rows) (h_12 : Int) (h_13 : Rows) (h_14 : Rows) (h_15 : Rows) (h_16 : Rows) (h_17 : Int) (h_18 : Bool) (h_19 : Rows) (h_20 : Rows) (h_21 : Rows) (h_22 : Bytes) (h_23 : Rows) (h_24 : Rows) (h_25 : Bool) (h_26 : Rows) (h_27 : Rows) (h_28 : Rows) (h_29 : Int) (h_30 : Int) (h_31 : Int) (h_32 : Int) (h_33 : Int) (out_ : Rows) : St := { n := 27, sl := [(3, .own 640192), (14, .sl [.int .i64, .int .i64, .sl [.int .i64]] x), (15, .int .i64 x_1), (16, .int .i64 x_2)], hp := [(64, .box 76 [.sl [.str] h_1, .sl [.int .i64, .int .i64, .int .i64, .bool] h_2, .int .i64 h_3, .int .i64 h_4, .int .i64 h_5, .int .i64 h_6, .int .i64 h_7, .int .i64 h_8, .int .i64 h_9, .sl [.int .i64] h_10, .sl [.int .i64, .int .i64, .sl [.int .i64]] h_11, .int .i64 h_12, .sl [.int .i64, .int .i64, .int .i64, .int .i64, .int .i64, .int .i64, .int .i64, .int .i64, .int .i64, .int .i64, .int .i64, .int .i64, .int .i64, .int .i64, .int .i64, .int .i64, .int .i64, .int .i64, .int .i64, .int .i64, .int .i64, .int .i64, .int .i64, .int .i64, .int .i64, .str, .int .i64, .int .i64, .bool, .int .i64] h_13, .sl [.int .i64, .int .i64, .int .i64, .sl [.int .i64]] h_14, .sl [.int .i64, .int .i64, .int .i64, .int .i64, .bool, .bool] h_15, .sl [.bool] h_16, .int .i64 h_17, .bool h_18, .sl [.int .i64] h_19, .sl [.int .i64, .int .i64, .int .i64, .int .i64, .int .i64, .int .i64, .int .i64, .int .i64, .int .i64] h_20, .sl [.int .i64, .int .i64, .int .i64, .int .i64, .int .i64, .int .i64, .int .i64] h_21, .str h_22, .sl [.int .i64] h_23, .sl [.int .i64, .int .i64, .int .i64, .int .i64, .int .i64, .int .i64, .str, .bool] h_24, .bool h_25, .sl [.str] h_26, .sl [.int .i64] h_27, .sl [.int .i64] h_28, .int .i64 h_29, .int .i64 h_30, .int .i64 h_31, .int .i64 h_32, .int .i64 h_33]), (640192, .row 3 [.int .i64] out_ false true)], ok := true, ls := [], lm := [] }
noncomputable def impl_HostAccount_B0 (N : Nat) : (St → Res) → St → Res := loopB Tryz.prog impl_HostAccount_G impl_HostAccount_A N Tryz.f8 impl_HostAccount_s [true, true, false, true, false] []
theorem impl_HostAccount_b0 (N : Nat) (x : Rows) (x_1 : Int) (h_1 : Rows) (h_2 : Rows) (h_3 : Int) (h_4 : Int) (h_5 : Int) (h_6 : Int) (h_7 : Int) (h_8 : Int) (h_9 : Int) (h_10 : Rows) (h_11 : Rows) (h_12 : Int) (h_13 : Rows) (h_14 : Rows) (h_15 : Rows) (h_16 : Rows) (h_17 : Int) (h_18 : Bool) (h_19 : Rows) (h_20 : Rows) (h_21 : Rows) (h_22 : Bytes) (h_23 : Rows) (h_24 : Rows) (h_25 : Bool) (h_26 : Rows) (h_27 : Rows) (h_28 : Rows) (h_29 : Int) (h_30 : Int) (h_31 : Int) (h_32 : Int) (h_33 : Int) (ih : St → Res) (x_2 : Int) (out_ : Rows) : impl_HostAccount_B0 N ih (impl_HostAccount_m0 x x_1 x_2 h_1 h_2 h_3 h_4 h_5 h_6 h_7 h_8 h_9 h_10 h_11 h_12 h_13 h_14 h_15 h_16 h_17 h_18 h_19 h_20 h_21 h_22 h_23 h_24 h_25 h_26 h_27 h_28 h_29 h_30 h_31 h_32 h_33 out_) = impl_HostAccount_l0 Vm.bad impl_HostAccount_K x x_1 (fun x_2 out_ => ih (impl_HostAccount_m0 x x_1 x_2 h_1 h_2 h_3 h_4 h_5 h_6 h_7 h_8 h_9 h_10 h_11 h_12 h_13 h_14 h_15 h_16 h_17 h_18 h_19 h_20 h_21 h_22 h_23 h_24 h_25 h_26 h_27 h_28 h_29 h_30 h_31 h_32 h_33 out_)) x_2 out_ := by kernel_rfl
theorem impl_HostAccount_n0 (N : Nat) (x : Rows) (x_1 : Int) (h_1 : Rows) (h_2 : Rows) (h_3 : Int) (h_4 : Int) (h_5 : Int) (h_6 : Int) (h_7 : Int) (h_8 : Int) (h_9 : Int) (h_10 : Rows) (h_11 : Rows) (h_12 : Int) (h_13 : Rows) (h_14 : Rows) (h_15 : Rows) (h_16 : Rows) (h_17 : Int) (h_18 : Bool) (h_19 : Rows) (h_20 : Rows) (h_21 : Rows) (h_22 : Bytes) (h_23 : Rows) (h_24 : Rows) (h_25 : Bool) (h_26 : Rows) (h_27 : Rows) (h_28 : Rows) (h_29 : Int) (h_30 : Int) (h_31 : Int) (h_32 : Int) (h_33 : Int) (m_ : Nat) : (fun x_2 out_ => loopN (impl_HostAccount_B0 N) m_ (impl_HostAccount_m0 x x_1 x_2 h_1 h_2 h_3 h_4 h_5 h_6 h_7 h_8 h_9 h_10 h_11 h_12 h_13 h_14 h_15 h_16 h_17 h_18 h_19 h_20 h_21 h_22 h_23 h_24 h_25 h_26 h_27 h_28 h_29 h_30 h_31 h_32 h_33 out_)) = impl_HostAccount_L0 Vm.bad impl_HostAccount_K N x x_1 m_ := by
  induction m_ with
  | zero => rfl
  | succ m_ ih =>
    funext x_2 out_
    show impl_HostAccount_B0 N (loopN (impl_HostAccount_B0 N) m_) (impl_HostAccount_m0 x x_1 x_2 h_1 h_2 h_3 h_4 h_5 h_6 h_7 h_8 h_9 h_10 h_11 h_12 h_13 h_14 h_15 h_16 h_17 h_18 h_19 h_20 h_21 h_22 h_23 h_24 h_25 h_26 h_27 h_28 h_29 h_30 h_31 h_32 h_33 out_) = _
    rw [impl_HostAccount_b0 N x x_1 h_1 h_2 h_3 h_4 h_5 h_6 h_7 h_8 h_9 h_10 h_11 h_12 h_13 h_14 h_15 h_16 h_17 h_18 h_19 h_20 h_21 h_22 h_23 h_24 h_25 h_26 h_27 h_28 h_29 h_30 h_31 h_32 h_33]
    rw [ih]
    rfl
theorem impl_HostAccount_r (N : Nat) (h : SHost) : runF Tryz.prog impl_HostAccount_G impl_HostAccount_A N Tryz.f8 impl_HostAccount_s (h.enc ++ ([])) = impl_HostAccount_f Vm.bad impl_HostAccount_K N h := by
  have run_ : runF Tryz.prog impl_HostAccount_G impl_HostAccount_A N Tryz.f8 impl_HostAccount_s (h.enc ++ ([])) = impl_HostAccount_t Vm.bad impl_HostAccount_K (fun x x_1 x_2 out_ => loopN (impl_HostAccount_B0 N) N (impl_HostAccount_m0 x x_1 x_2 h.Memory.Pages h.Maps h.Tx.Ring.Base h.Tx.Ring.Size h.Tx.Ring.Head h.Tx.Ring.Tail h.Tx.Pool.Base h.Tx.Pool.Size h.Tx.Pool.Count h.Tx.Pool.Free h.Tx.Waiting h.Tx.Next h.Rx h.Pools h.Vectors h.Polling h.Filter.Mac h.Filter.Promiscuous h.Filter.Vlans h.Steering.Rules h.Steering.Table.Slots h.Steering.Spread.Key h.Steering.Spread.Table h.Streams h.Coalesce h.Wire h.Completed h.Returned h.Counters.Frames h.Counters.Bad h.Counters.Filtered h.Counters.Refused h.Counters.Taken out_)) h := by kernel_rfl
  refine run_.trans ?_
  unfold impl_HostAccount_f
  have e0 : (fun x x_1 x_2 out_ => loopN (impl_HostAccount_B0 N) N (impl_HostAccount_m0 x x_1 x_2 h.Memory.Pages h.Maps h.Tx.Ring.Base h.Tx.Ring.Size h.Tx.Ring.Head h.Tx.Ring.Tail h.Tx.Pool.Base h.Tx.Pool.Size h.Tx.Pool.Count h.Tx.Pool.Free h.Tx.Waiting h.Tx.Next h.Rx h.Pools h.Vectors h.Polling h.Filter.Mac h.Filter.Promiscuous h.Filter.Vlans h.Steering.Rules h.Steering.Table.Slots h.Steering.Spread.Key h.Steering.Spread.Table h.Streams h.Coalesce h.Wire h.Completed h.Returned h.Counters.Frames h.Counters.Bad h.Counters.Filtered h.Counters.Refused h.Counters.Taken out_)) = (fun x x_1 => impl_HostAccount_L0 Vm.bad impl_HostAccount_K N x x_1 N) := by
    funext x x_1
    exact impl_HostAccount_n0 N x x_1 h.Memory.Pages h.Maps h.Tx.Ring.Base h.Tx.Ring.Size h.Tx.Ring.Head h.Tx.Ring.Tail h.Tx.Pool.Base h.Tx.Pool.Size h.Tx.Pool.Count h.Tx.Pool.Free h.Tx.Waiting h.Tx.Next h.Rx h.Pools h.Vectors h.Polling h.Filter.Mac h.Filter.Promiscuous h.Filter.Vlans h.Steering.Rules h.Steering.Table.Slots h.Steering.Spread.Key h.Steering.Spread.Table h.Streams h.Coalesce h.Wire h.Completed h.Returned h.Counters.Frames h.Counters.Bad h.Counters.Filtered h.Counters.Refused h.Counters.Taken N
  exact congrArg (fun l_ => impl_HostAccount_t Vm.bad impl_HostAccount_K l_ h) e0
theorem impl_HostAccount_h : Holds Tryz.prog 8 impl_HostAccount_s := by
  refine holds_of_run (A := impl_HostAccount_A) impl_HostAccount_x Tryz.func8 rfl (by kernel_rfl) (of_decide_eq_true (by kernel_rfl)) (of_decide_eq_true (by kernel_rfl)) ?_
  intro ds hw hok
  replace hw : WtL (SHost.ct ++ ([])) ds := hw
  obtain ⟨h, ds, rfl, h_h, hw⟩ := SHost.of_wt (r := _) hw
  obtain rfl := of_wt_nil hw
  obtain ⟨N, hN⟩ := impl_HostAccount_c Vm.bad impl_HostAccount_K h h_h hok
  exact ⟨N, ((impl_HostAccount_r N h).trans hN).trans (by kernel_rfl)⟩

def spec_HostAccount_s : Sum := { ps := [⟨[.sl [.str], .sl [.int .i64, .int .i64, .int .i64, .bool], .int .i64, .int .i64, .int .i64, .int .i64, .int .i64, .int .i64, .int .i64, .sl [.int .i64], .sl [.int .i64, .int .i64, .sl [.int .i64]], .int .i64, .sl [.int .i64, .int .i64, .int .i64, .int .i64, .int .i64, .int .i64, .int .i64, .int .i64, .int .i64, .int .i64, .int .i64, .int .i64, .int .i64, .int .i64, .int .i64, .int .i64, .int .i64, .int .i64, .int .i64, .int .i64, .int .i64, .int .i64, .int .i64, .int .i64, .int .i64, .str, .int .i64, .int .i64, .bool, .int .i64], .sl [.int .i64, .int .i64, .int .i64, .sl [.int .i64]], .sl [.int .i64, .int .i64, .int .i64, .int .i64, .bool, .bool], .sl [.bool], .int .i64, .bool, .sl [.int .i64], .sl [.int .i64, .int .i64, .int .i64, .int .i64, .int .i64, .int .i64, .int .i64, .int .i64, .int .i64], .sl [.int .i64, .int .i64, .int .i64, .int .i64, .int .i64, .int .i64, .int .i64], .str, .sl [.int .i64], .sl [.int .i64, .int .i64, .int .i64, .int .i64, .int .i64, .int .i64, .str, .bool], .bool, .sl [.str], .sl [.int .i64], .sl [.int .i64], .int .i64, .int .i64, .int .i64, .int .i64, .int .i64], true⟩], rs := [⟨[.own 3 [.int .i64]], false⟩], fn := fun ds => (HostAccount_ok (SHost.decAt ds 0), [.sl (HostAccount (SHost.decAt ds 0))]) }
def spec_HostAccount_G : Ctx := []
theorem spec_HostAccount_x : CtxHolds Tryz.prog spec_HostAccount_G := ctx_nil
def spec_HostAccount_A : List (Nat × Ann) := [(4, { slots := [(1, .asis), (3, .asis), (4, .asis)], boxes := [(64, [])] })]
def spec_HostAccount_K : Rows → Res := (fun r0 => ((true, [.sl r0]) : Res))
def spec_HostAccount_m0 (k : Int) (h_1 : Rows) (h_2 : Rows) (h_3 : Int) (h_4 : Int) (h_5 : Int) (h_6 : Int) (h_7 : Int) (h_8 : Int) (h_9 : Int) (h_10 : Rows) (h_11 : Rows) (h_12 : Int) (h_13 : Rows) (h_14 : Rows) (h_15 : Rows) (h_16 : Rows) (h_17 : Int) (h_18 : Bool) (h_19 : Rows) (h_20 : Rows) (h_21 : Rows) (h_22 : Bytes) (h_23 : Rows) (h_24 : Rows) (h_25 : Bool) (h_26 : Rows) (h_27 : Rows) (h_28 : Rows) (h_29 : Int) (h_30 : Int) (h_31 : Int) (h_32 : Int) (h_33 : Int) (out_ : Rows) : St := { n := 32, sl := [(1, .ptr 64 0), (3, .own 640192), (4, .int .i64 k)], hp := [(64, .box 76 [.sl [.str] h_1, .sl [.int .i64, .int .i64, .int .i64, .bool] h_2, .int .i64 h_3, .int .i64 h_4, .int .i64 h_5, .int .i64 h_6, .int .i64 h_7, .int .i64 h_8, .int .i64 h_9, .sl [.int .i64] h_10, .sl [.int .i64, .int .i64, .sl [.int .i64]] h_11, .int .i64 h_12, .sl [.int .i64, .int .i64, .int .i64, .int .i64, .int .i64, .int .i64, .int .i64, .int .i64, .int .i64, .int .i64, .int .i64, .int .i64, .int .i64, .int .i64, .int .i64, .int .i64, .int .i64, .int .i64, .int .i64, .int .i64, .int .i64, .int .i64, .int .i64, .int .i64, .int .i64, .str, .int .i64, .int .i64, .bool, .int .i64] h_13, .sl [.int .i64, .int .i64, .int .i64, .sl [.int .i64]] h_14, .sl [.int .i64, .int .i64, .int .i64, .int .i64, .bool, .bool] h_15, .sl [.bool] h_16, .int .i64 h_17, .bool h_18, .sl [.int .i64] h_19, .sl [.int .i64, .int .i64, .int .i64, .int .i64, .int .i64, .int .i64, .int .i64, .int .i64, .int .i64] h_20, .sl [.int .i64, .int .i64, .int .i64, .int .i64, .int .i64, .int .i64, .int .i64] h_21, .str h_22, .sl [.int .i64] h_23, .sl [.int .i64, .int .i64, .int .i64, .int .i64, .int .i64, .int .i64, .str, .bool] h_24, .bool h_25, .sl [.str] h_26, .sl [.int .i64] h_27, .sl [.int .i64] h_28, .int .i64 h_29, .int .i64 h_30, .int .i64 h_31, .int .i64 h_32, .int .i64 h_33]), (640192, .row 3 [.int .i64] out_ false true)], ok := true, ls := [], lm := [] }
noncomputable def spec_HostAccount_B0 (N : Nat) : (St → Res) → St → Res := loopB Tryz.prog spec_HostAccount_G spec_HostAccount_A N Tryz.f6 spec_HostAccount_s [true, true, true, false, true, false] []
theorem spec_HostAccount_b0 (N : Nat) (h_1 : Rows) (h_2 : Rows) (h_3 : Int) (h_4 : Int) (h_5 : Int) (h_6 : Int) (h_7 : Int) (h_8 : Int) (h_9 : Int) (h_10 : Rows) (h_11 : Rows) (h_12 : Int) (h_13 : Rows) (h_14 : Rows) (h_15 : Rows) (h_16 : Rows) (h_17 : Int) (h_18 : Bool) (h_19 : Rows) (h_20 : Rows) (h_21 : Rows) (h_22 : Bytes) (h_23 : Rows) (h_24 : Rows) (h_25 : Bool) (h_26 : Rows) (h_27 : Rows) (h_28 : Rows) (h_29 : Int) (h_30 : Int) (h_31 : Int) (h_32 : Int) (h_33 : Int) (ih : St → Res) (k : Int) (out_ : Rows) : spec_HostAccount_B0 N ih (spec_HostAccount_m0 k h_1 h_2 h_3 h_4 h_5 h_6 h_7 h_8 h_9 h_10 h_11 h_12 h_13 h_14 h_15 h_16 h_17 h_18 h_19 h_20 h_21 h_22 h_23 h_24 h_25 h_26 h_27 h_28 h_29 h_30 h_31 h_32 h_33 out_) = spec_HostAccount_l0 Vm.bad spec_HostAccount_K h_11 (fun k out_ => ih (spec_HostAccount_m0 k h_1 h_2 h_3 h_4 h_5 h_6 h_7 h_8 h_9 h_10 h_11 h_12 h_13 h_14 h_15 h_16 h_17 h_18 h_19 h_20 h_21 h_22 h_23 h_24 h_25 h_26 h_27 h_28 h_29 h_30 h_31 h_32 h_33 out_)) k out_ := by kernel_rfl
theorem spec_HostAccount_n0 (N : Nat) (h_1 : Rows) (h_2 : Rows) (h_3 : Int) (h_4 : Int) (h_5 : Int) (h_6 : Int) (h_7 : Int) (h_8 : Int) (h_9 : Int) (h_10 : Rows) (h_11 : Rows) (h_12 : Int) (h_13 : Rows) (h_14 : Rows) (h_15 : Rows) (h_16 : Rows) (h_17 : Int) (h_18 : Bool) (h_19 : Rows) (h_20 : Rows) (h_21 : Rows) (h_22 : Bytes) (h_23 : Rows) (h_24 : Rows) (h_25 : Bool) (h_26 : Rows) (h_27 : Rows) (h_28 : Rows) (h_29 : Int) (h_30 : Int) (h_31 : Int) (h_32 : Int) (h_33 : Int) (m_ : Nat) : (fun k out_ => loopN (spec_HostAccount_B0 N) m_ (spec_HostAccount_m0 k h_1 h_2 h_3 h_4 h_5 h_6 h_7 h_8 h_9 h_10 h_11 h_12 h_13 h_14 h_15 h_16 h_17 h_18 h_19 h_20 h_21 h_22 h_23 h_24 h_25 h_26 h_27 h_28 h_29 h_30 h_31 h_32 h_33 out_)) = spec_HostAccount_L0 Vm.bad spec_HostAccount_K N h_11 m_ := by
  induction m_ with
  | zero => rfl
  | succ m_ ih =>
    funext k out_
    show spec_HostAccount_B0 N (loopN (spec_HostAccount_B0 N) m_) (spec_HostAccount_m0 k h_1 h_2 h_3 h_4 h_5 h_6 h_7 h_8 h_9 h_10 h_11 h_12 h_13 h_14 h_15 h_16 h_17 h_18 h_19 h_20 h_21 h_22 h_23 h_24 h_25 h_26 h_27 h_28 h_29 h_30 h_31 h_32 h_33 out_) = _
    rw [spec_HostAccount_b0 N h_1 h_2 h_3 h_4 h_5 h_6 h_7 h_8 h_9 h_10 h_11 h_12 h_13 h_14 h_15 h_16 h_17 h_18 h_19 h_20 h_21 h_22 h_23 h_24 h_25 h_26 h_27 h_28 h_29 h_30 h_31 h_32 h_33]
    rw [ih]
    rfl
theorem spec_HostAccount_r (N : Nat) (h : SHost) : runF Tryz.prog spec_HostAccount_G spec_HostAccount_A N Tryz.f6 spec_HostAccount_s (h.enc ++ ([])) = spec_HostAccount_f Vm.bad spec_HostAccount_K N h := by
  have run_ : runF Tryz.prog spec_HostAccount_G spec_HostAccount_A N Tryz.f6 spec_HostAccount_s (h.enc ++ ([])) = spec_HostAccount_t Vm.bad spec_HostAccount_K (fun h_11 k out_ => loopN (spec_HostAccount_B0 N) N (spec_HostAccount_m0 k h.Memory.Pages h.Maps h.Tx.Ring.Base h.Tx.Ring.Size h.Tx.Ring.Head h.Tx.Ring.Tail h.Tx.Pool.Base h.Tx.Pool.Size h.Tx.Pool.Count h.Tx.Pool.Free h_11 h.Tx.Next h.Rx h.Pools h.Vectors h.Polling h.Filter.Mac h.Filter.Promiscuous h.Filter.Vlans h.Steering.Rules h.Steering.Table.Slots h.Steering.Spread.Key h.Steering.Spread.Table h.Streams h.Coalesce h.Wire h.Completed h.Returned h.Counters.Frames h.Counters.Bad h.Counters.Filtered h.Counters.Refused h.Counters.Taken out_)) h := by kernel_rfl
  refine run_.trans ?_
  unfold spec_HostAccount_f
  have e0 : (fun h_11 k out_ => loopN (spec_HostAccount_B0 N) N (spec_HostAccount_m0 k h.Memory.Pages h.Maps h.Tx.Ring.Base h.Tx.Ring.Size h.Tx.Ring.Head h.Tx.Ring.Tail h.Tx.Pool.Base h.Tx.Pool.Size h.Tx.Pool.Count h.Tx.Pool.Free h_11 h.Tx.Next h.Rx h.Pools h.Vectors h.Polling h.Filter.Mac h.Filter.Promiscuous h.Filter.Vlans h.Steering.Rules h.Steering.Table.Slots h.Steering.Spread.Key h.Steering.Spread.Table h.Streams h.Coalesce h.Wire h.Completed h.Returned h.Counters.Frames h.Counters.Bad h.Counters.Filtered h.Counters.Refused h.Counters.Taken out_)) = (fun h_11 => spec_HostAccount_L0 Vm.bad spec_HostAccount_K N h_11 N) := by
    funext h_11
    exact spec_HostAccount_n0 N h.Memory.Pages h.Maps h.Tx.Ring.Base h.Tx.Ring.Size h.Tx.Ring.Head h.Tx.Ring.Tail h.Tx.Pool.Base h.Tx.Pool.Size h.Tx.Pool.Count h.Tx.Pool.Free h_11 h.Tx.Next h.Rx h.Pools h.Vectors h.Polling h.Filter.Mac h.Filter.Promiscuous h.Filter.Vlans h.Steering.Rules h.Steering.Table.Slots h.Steering.Spread.Key h.Steering.Spread.Table h.Streams h.Coalesce h.Wire h.Completed h.Returned h.Counters.Frames h.Counters.Bad h.Counters.Filtered h.Counters.Refused h.Counters.Taken N
  exact congrArg (fun l_ => spec_HostAccount_t Vm.bad spec_HostAccount_K l_ h) e0
theorem spec_HostAccount_h : Holds Tryz.prog 6 spec_HostAccount_s := by
  refine holds_of_run (A := spec_HostAccount_A) spec_HostAccount_x Tryz.func6 rfl (by kernel_rfl) (of_decide_eq_true (by kernel_rfl)) (of_decide_eq_true (by kernel_rfl)) ?_
  intro ds hw hok
  replace hw : WtL (SHost.ct ++ ([])) ds := hw
  obtain ⟨h, ds, rfl, h_h, hw⟩ := SHost.of_wt (r := _) hw
  obtain rfl := of_wt_nil hw
  obtain ⟨N, hN⟩ := spec_HostAccount_c Vm.bad spec_HostAccount_K h h_h hok
  exact ⟨N, ((spec_HostAccount_r N h).trans hN).trans (by kernel_rfl)⟩

def laws_FnExactHostAccount_s : Sum := { ps := [⟨[.sl [.str], .sl [.int .i64, .int .i64, .int .i64, .bool], .int .i64, .int .i64, .int .i64, .int .i64, .int .i64, .int .i64, .int .i64, .sl [.int .i64], .sl [.int .i64, .int .i64, .sl [.int .i64]], .int .i64, .sl [.int .i64, .int .i64, .int .i64, .int .i64, .int .i64, .int .i64, .int .i64, .int .i64, .int .i64, .int .i64, .int .i64, .int .i64, .int .i64, .int .i64, .int .i64, .int .i64, .int .i64, .int .i64, .int .i64, .int .i64, .int .i64, .int .i64, .int .i64, .int .i64, .int .i64, .str, .int .i64, .int .i64, .bool, .int .i64], .sl [.int .i64, .int .i64, .int .i64, .sl [.int .i64]], .sl [.int .i64, .int .i64, .int .i64, .int .i64, .bool, .bool], .sl [.bool], .int .i64, .bool, .sl [.int .i64], .sl [.int .i64, .int .i64, .int .i64, .int .i64, .int .i64, .int .i64, .int .i64, .int .i64, .int .i64], .sl [.int .i64, .int .i64, .int .i64, .int .i64, .int .i64, .int .i64, .int .i64], .str, .sl [.int .i64], .sl [.int .i64, .int .i64, .int .i64, .int .i64, .int .i64, .int .i64, .str, .bool], .bool, .sl [.str], .sl [.int .i64], .sl [.int .i64], .int .i64, .int .i64, .int .i64, .int .i64, .int .i64], true⟩], rs := [⟨[.imm .bool], false⟩], fn := fun ds => (fitL (SHost.ct ++ ([])) ds, [.bool true]) }
def laws_FnExactHostAccount_G : Ctx := [(5, laws_szHost_s), (6, spec_HostAccount_s), (7, laws_toHost_s), (8, impl_HostAccount_s), (9, laws_eqIntS_s), (10, laws_eqHost_s), (11, laws_markHost_s), (12, laws_markIntS_s), (13, laws_heldIntS_s)]
theorem laws_FnExactHostAccount_x : CtxHolds Tryz.prog laws_FnExactHostAccount_G := ctx_cons laws_szHost_h (ctx_cons spec_HostAccount_h (ctx_cons laws_toHost_h (ctx_cons impl_HostAccount_h (ctx_cons laws_eqIntS_h (ctx_cons laws_eqHost_h (ctx_cons laws_markHost_h (ctx_cons laws_markIntS_h (ctx_cons laws_heldIntS_h ctx_nil))))))))
def laws_FnExactHostAccount_A : List (Nat × Ann) := []
theorem laws_FnExactHostAccount_r (N : Nat) (aH : SHost) : runF Tryz.prog laws_FnExactHostAccount_G laws_FnExactHostAccount_A N Tryz.f3 laws_FnExactHostAccount_s (aH.enc ++ ([])) = laws_FnExactHostAccount_t Vm.bad (fun r0 => ((true, [.bool r0]) : Res)) aH := by kernel_rfl
theorem laws_FnExactHostAccount_h : Holds Tryz.prog 3 laws_FnExactHostAccount_s := by
  refine holds_of_run (A := laws_FnExactHostAccount_A) laws_FnExactHostAccount_x Tryz.func3 rfl (by kernel_rfl) (of_decide_eq_true (by kernel_rfl)) (of_decide_eq_true (by kernel_rfl)) ?_
  intro ds hw hok
  replace hw : WtL (SHost.ct ++ ([])) ds := hw
  obtain ⟨aH, ds, rfl, h_aH, hw⟩ := SHost.of_wt (r := _) hw
  obtain rfl := of_wt_nil hw
  exact ⟨0, ((laws_FnExactHostAccount_r 0 aH).trans (laws_FnExactHostAccount_c Vm.bad _ aH h_aH hok)).trans (by kernel_rfl)⟩

end
end Go.Proofs.YthpmalpdnnbkgaaGreat.Pl
