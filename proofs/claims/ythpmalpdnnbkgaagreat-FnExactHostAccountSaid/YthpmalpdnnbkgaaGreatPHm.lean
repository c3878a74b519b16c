/- What functions of the program compute, in plain Lean, as the value machine runs them. Conditions: none. -/
import Derived.Test.YthpmalpdnnbkgaaGreatPDm
import Derived.Test.YthpmalpdnnbkgaaGreatBit
set_option linter.unusedVariables false
set_option linter.unusedSimpArgs false
set_option maxRecDepth 100000
namespace Go.Proofs.YthpmalpdnnbkgaaGreat.Pl
open Vm
noncomputable section


def laws_markMemory_t {α : Type} (bad : α) (k_ : Int → Rows → α) (a : SMemory) (k : Int) : α :=
  bif andt true (mko 1 a.Pages k) then
    k_ ((markStringS a.Pages k).1) ((markStringS a.Pages k).2)
  else bad
def markMemory_ok (a : SMemory) (k : Int) : Bool := laws_markMemory_t false (fun _ _ => true) a k
def markMemory (a : SMemory) (k : Int) : Int × Rows := (laws_markMemory_t none (fun r0 r1 => some (r0, r1)) a k).getD (0, [])
theorem laws_markMemory_c {α : Type} (bad : α) (k_ : Int → Rows → α) (a : SMemory) (k : Int) (hok : markMemory_ok a k = true) : laws_markMemory_t bad k_ a k = k_ (markMemory a k).1 (markMemory a k).2 := by
  exact part_all (K := fun r : Int × Rows => k_ r.1 r.2) (part_guard (fun _ => ⟨_, rfl, rfl⟩)) hok

def laws_markPool_t {α : Type} (bad : α) (k_ : Int → Rows → α) (a : SPool) (k : Int) : α :=
  bif andt true (mko 1 a.Free k) then
    k_ ((markIntS a.Free k).1) ((markIntS a.Free k).2)
  else bad
def markPool_ok (a : SPool) (k : Int) : Bool := laws_markPool_t false (fun _ _ => true) a k
def markPool (a : SPool) (k : Int) : Int × Rows := (laws_markPool_t none (fun r0 r1 => some (r0, r1)) a k).getD (0, [])
theorem laws_markPool_c {α : Type} (bad : α) (k_ : Int → Rows → α) (a : SPool) (k : Int) (hok : markPool_ok a k = true) : laws_markPool_t bad k_ a k = k_ (markPool a k).1 (markPool a k).2 := by
  exact part_all (K := fun r : Int × Rows => k_ r.1 r.2) (part_guard (fun _ => ⟨_, rfl, rfl⟩)) hok

def laws_markFilter_t {α : Type} (bad : α) (k_ : Int → Rows → α) (a : SFilter) (k : Int) : α :=
  bif andt true (mko 1 a.Vlans k) then
    k_ ((markIntS a.Vlans k).1) ((markIntS a.Vlans k).2)
  else bad
def markFilter_ok (a : SFilter) (k : Int) : Bool := laws_markFilter_t false (fun _ _ => true) a k
def markFilter (a : SFilter) (k : Int) : Int × Rows := (laws_markFilter_t none (fun r0 r1 => some (r0, r1)) a k).getD (0, [])
theorem laws_markFilter_c {α : Type} (bad : α) (k_ : Int → Rows → α) (a : SFilter) (k : Int) (hok : markFilter_ok a k = true) : laws_markFilter_t bad k_ a k = k_ (markFilter a k).1 (markFilter a k).2 := by
  exact part_all (K := fun r : Int × Rows => k_ r.1 r.2) (part_guard (fun _ => ⟨_, rfl, rfl⟩)) hok

def laws_markFlowTable_t {α : Type} (bad : α) (k_ : Int → Rows → α) (a : SFlowTable) (k : Int) : α :=
  bif andt true (mko 7 a.Slots k) then
    k_ ((markSlotS a.Slots k).1) ((markSlotS a.Slots k).2)
  else bad
def markFlowTable_ok (a : SFlowTable) (k : Int) : Bool := laws_markFlowTable_t false (fun _ _ => true) a k
def markFlowTable (a : SFlowTable) (k : Int) : Int × Rows := (laws_markFlowTable_t none (fun r0 r1 => some (r0, r1)) a k).getD (0, [])
theorem laws_markFlowTable_c {α : Type} (bad : α) (k_ : Int → Rows → α) (a : SFlowTable) (k : Int) (hok : markFlowTable_ok a k = true) : laws_markFlowTable_t bad k_ a k = k_ (markFlowTable a k).1 (markFlowTable a k).2 := by
  exact part_all (K := fun r : Int × Rows => k_ r.1 r.2) (part_guard (fun _ => ⟨_, rfl, rfl⟩)) hok

def laws_markSpread_t {α : Type} (bad : α) (k_ : Int → Rows → α) (a : SSpread) (k : Int) : α :=
  bif andt true (mko 1 a.Table k) then
    k_ ((markIntS a.Table k).1) ((markIntS a.Table k).2)
  else bad
def markSpread_ok (a : SSpread) (k : Int) : Bool := laws_markSpread_t false (fun _ _ => true) a k
def markSpread (a : SSpread) (k : Int) : Int × Rows := (laws_markSpread_t none (fun r0 r1 => some (r0, r1)) a k).getD (0, [])
theorem laws_markSpread_c {α : Type} (bad : α) (k_ : Int → Rows → α) (a : SSpread) (k : Int) (hok : markSpread_ok a k = true) : laws_markSpread_t bad k_ a k = k_ (markSpread a k).1 (markSpread a k).2 := by
  exact part_all (K := fun r : Int × Rows => k_ r.1 r.2) (part_guard (fun _ => ⟨_, rfl, rfl⟩)) hok

def laws_markTxQueue_t {α : Type} (bad : α) (k_ : Int → Rows → Rows → α) (a : STxQueue) (k : Int) : α :=
  let z0 : Int × Rows := markSentS a.Waiting ((markPool a.Pool k).1)
  bif andt true (markPool_ok a.Pool k) then
    bif andt true (mkdOk fSentS gSentS a.Waiting ((markPool a.Pool k).1)) then
      k_ z0.1 ((markPool a.Pool k).2) z0.2
    else bad
  else bad
def markTxQueue_ok (a : STxQueue) (k : Int) : Bool := laws_markTxQueue_t false (fun _ _ _ => true) a k
def markTxQueue (a : STxQueue) (k : Int) : Int × Rows × Rows := (laws_markTxQueue_t none (fun r0 r1 r2 => some (r0, r1, r2)) a k).getD (0, [], [])
theorem laws_markTxQueue_c {α : Type} (bad : α) (k_ : Int → Rows → Rows → α) (a : STxQueue) (k : Int) (hok : markTxQueue_ok a k = true) : laws_markTxQueue_t bad k_ a k = k_ (markTxQueue a k).1 (markTxQueue a k).2.1 (markTxQueue a k).2.2 := by
  exact part_all (K := fun r : Int × Rows × Rows => k_ r.1 r.2.1 r.2.2) (part_guard (part_guard (fun _ => ⟨_, rfl, rfl⟩))) hok

def laws_markSteering_t {α : Type} (bad : α) (k_ : Int → Rows → Rows → Rows → α) (a : SSteering) (k : Int) : α :=
  let z0 : Int × Rows := markFlowTable a.Table ((markRuleS a.Rules k).1)
  let z1 : Int × Rows := markSpread a.Spread z0.1
  bif andt true (mko 9 a.Rules k) then
    bif andt true (markFlowTable_ok a.Table ((markRuleS a.Rules k).1)) then
      bif andt true (markSpread_ok a.Spread z0.1) then
        k_ z1.1 ((markRuleS a.Rules k).2) z0.2 z1.2
      else bad
    else bad
  else bad
def markSteering_ok (a : SSteering) (k : Int) : Bool := laws_markSteering_t false (fun _ _ _ _ => true) a k
def markSteering (a : SSteering) (k : Int) : Int × Rows × Rows × Rows := (laws_markSteering_t none (fun r0 r1 r2 r3 => some (r0, r1, r2, r3)) a k).getD (0, [], [], [])
theorem laws_markSteering_c {α : Type} (bad : α) (k_ : Int → Rows → Rows → Rows → α) (a : SSteering) (k : Int) (hok : markSteering_ok a k = true) : laws_markSteering_t bad k_ a k = k_ (markSteering a k).1 (markSteering a k).2.1 (markSteering a k).2.2.1 (markSteering a k).2.2.2 := by
  exact part_all (K := fun r : Int × Rows × Rows × Rows => k_ r.1 r.2.1 r.2.2.1 r.2.2.2) (part_guard (part_guard (part_guard (fun _ => ⟨_, rfl, rfl⟩)))) hok

def laws_markHost_t {α : Type} (bad : α) (k_ : Int → Rows → Rows → Rows → Rows → Rows → Rows → Rows → Rows → Rows → Rows → Rows → Rows → Rows → Rows → Rows → Rows → α) (a : SHost) (k : Int) : α :=
  let z0 : Int × Rows := markMappingS a.Maps ((markMemory a.Memory k).1)
  let z1 : Int × Rows × Rows := markTxQueue a.Tx z0.1
  let z2 : Int := z1.1
  let z3 : Int × Rows := markRxQueueS a.Rx z2
  let z4 : Int := z3.1
  let z5 : Int × Rows := markPoolS a.Pools z4
  let z6 : Int := z5.1
  let z7 : Int × Rows := markVectorS a.Vectors z6
  let z8 : Int := z7.1
  let z9 : Int × Rows := markBoolS a.Polling z8
  let z10 : Int := z9.1
  let z11 : Int × Rows := markFilter a.Filter z10
  let z12 : Int := z11.1
  let z13 : Int × Rows × Rows × Rows := markSteering a.Steering z12
  let z14 : Int := z13.1
  let z15 : Int × Rows := markStreamS a.Streams z14
  let z16 : Int := z15.1
  let z17 : Int × Rows := markStringS a.Wire z16
  let z18 : Int := z17.1
  let z19 : Int × Rows := markIntS a.Completed z18
  let z20 : Int := z19.1
  let z21 : Int × Rows := markIntS a.Returned z20
  bif andt true (markMemory_ok a.Memory k) then
    bif andt true (mko 4 a.Maps ((markMemory a.Memory k).1)) then
      bif andt true (markTxQueue_ok a.Tx z0.1) then
        bif andt true (mko 30 a.Rx z2) then
          bif andt true (mkdOk fPoolS gPoolS a.Pools z4) then
            bif andt true (mko 6 a.Vectors z6) then
              bif andt true (mko 1 a.Polling z8) then
                bif andt true (markFilter_ok a.Filter z10) then
                  bif andt true (markSteering_ok a.Steering z12) then
                    bif andt true (mko 8 a.Streams z14) then
                      bif andt true (mko 1 a.Wire z16) then
                        bif andt true (mko 1 a.Completed z18) then
                          bif andt true (mko 1 a.Returned z20) then
                            k_ z21.1 ((markMemory a.Memory k).2) z0.2 z1.2.1 z1.2.2 z3.2 z5.2 z7.2 z9.2 z11.2 z13.2.1 z13.2.2.1 z13.2.2.2 z15.2 z17.2 z19.2 z21.2
                          else bad
                        else bad
                      else bad
                    else bad
                  else bad
                else bad
              else bad
            else bad
          else bad
        else bad
      else bad
    else bad
  else bad
def markHost_ok (a : SHost) (k : Int) : Bool := laws_markHost_t false (fun _ _ _ _ _ _ _ _ _ _ _ _ _ _ _ _ _ => true) a k
def markHost (a : SHost) (k : Int) : Int × Rows × Rows × Rows × Rows × Rows × Rows × Rows × Rows × Rows × Rows × Rows × Rows × Rows × Rows × Rows × Rows := (laws_markHost_t none (fun r0 r1 r2 r3 r4 r5 r6 r7 r8 r9 r10 r11 r12 r13 r14 r15 r16 => some (r0, r1, r2, r3, r4, r5, r6, r7, r8, r9, r10, r11, r12, r13, r14, r15, r16)) a k).getD (0, [], [], [], [], [], [], [], [], [], [], [], [], [], [], [], [])
theorem laws_markHost_c {α : Type} (bad : α) (k_ : Int → Rows → Rows → Rows → Rows → Rows → Rows → Rows → Rows → Rows → Rows → Rows → Rows → Rows → Rows → Rows → Rows → α) (a : SHost) (k : Int) (hok : markHost_ok a k = true) : laws_markHost_t bad k_ a k = k_ (markHost a k).1 (markHost a k).2.1 (markHost a k).2.2.1 (markHost a k).2.2.2.1 (markHost a k).2.2.2.2.1 (markHost a k).2.2.2.2.2.1 (markHost a k).2.2.2.2.2.2.1 (markHost a k).2.2.2.2.2.2.2.1 (markHost a k).2.2.2.2.2.2.2.2.1 (markHost a k).2.2.2.2.2.2.2.2.2.1 (markHost a k).2.2.2.2.2.2.2.2.2.2.1 (markHost a k).2.2.2.2.2.2.2.2.2.2.2.1 (markHost a k).2.2.2.2.2.2.2.2.2.2.2.2.1 (markHost a k).2.2.2.2.2.2.2.2.2.2.2.2.2.1 (markHost a k).2.2.2.2.2.2.2.2.2.2.2.2.2.2.1 (markHost a k).2.2.2.2.2.2.2.2.2.2.2.2.2.2.2.1 (markHost a k).2.2.2.2.2.2.2.2.2.2.2.2.2.2.2.2 := by
  exact part_all (K := fun r : Int × Rows × Rows × Rows × Rows × Rows × Rows × Rows × Rows × Rows × Rows × Rows × Rows × Rows × Rows × Rows × Rows => k_ r.1 r.2.1 r.2.2.1 r.2.2.2.1 r.2.2.2.2.1 r.2.2.2.2.2.1 r.2.2.2.2.2.2.1 r.2.2.2.2.2.2.2.1 r.2.2.2.2.2.2.2.2.1 r.2.2.2.2.2.2.2.2.2.1 r.2.2.2.2.2.2.2.2.2.2.1 r.2.2.2.2.2.2.2.2.2.2.2.1 r.2.2.2.2.2.2.2.2.2.2.2.2.1 r.2.2.2.2.2.2.2.2.2.2.2.2.2.1 r.2.2.2.2.2.2.2.2.2.2.2.2.2.2.1 r.2.2.2.2.2.2.2.2.2.2.2.2.2.2.2.1 r.2.2.2.2.2.2.2.2.2.2.2.2.2.2.2.2) (part_guard (part_guard (part_guard (part_guard (part_guard (part_guard (part_guard (part_guard (part_guard (part_guard (part_guard (part_guard (part_guard (fun _ => ⟨_, rfl, rfl⟩)))))))))))))) hok


theorem guardT (x k : Bool) : ((bif x then k else false) = true) = (x = true ∧ k = true) := by cases x <;> simp
def hostSm (a : SHost) : Bool := sm a.Memory.Pages && (sm a.Maps && (sm a.Tx.Pool.Free && (smSentS a.Tx.Waiting && (sm a.Rx && (smPoolS a.Pools && (sm a.Vectors && (sm a.Polling && (sm a.Filter.Vlans && (sm a.Steering.Rules && (sm a.Steering.Table.Slots && (sm a.Steering.Spread.Table && (sm a.Streams && (sm a.Wire && (sm a.Completed && (sm a.Returned)))))))))))))))
theorem toHost_sm {a : SHost} (h : laws_toHost_ok a = true) : hostSm a = true := by
  simp only [laws_toHost_ok, laws_toHost_t, laws_toMemory_ok, laws_toMemory_t, laws_toTxQueue_ok, laws_toTxQueue_t, laws_toPool_ok, laws_toPool_t, laws_toFilter_ok, laws_toFilter_t, laws_toSteering_ok, laws_toSteering_t, laws_toFlowTable_ok, laws_toFlowTable_t, laws_toSpread_ok, laws_toSpread_t, andt_true_l, andt_eq, guardT, Bool.and_eq_true, and_true, true_and, laws_toSentS_ok, laws_toPoolS_ok, laws_toSent_ok, laws_toSent_t, List.all_eq_true] at h
  simp only [hostSm, smSentS, smPoolS, Bool.and_eq_true, List.all_eq_true]
  obtain ⟨h0, h1, ⟨h2, h3, h4⟩, h5, ⟨h6, h7⟩, h8, h9, h10, ⟨h11, h12, h13⟩, h14, h15, h16, h17⟩ := h
  exact ⟨h0, h1, h2, ⟨h3, h4⟩, h5, ⟨h6, h7⟩, h8, h9, h10, h11, h12, h13, h14, h15, h16, h17⟩


theorem mh_Host {a : SHost} (h : hostSm a = true) : ∃ (K : Int) (P0 P1 P2 P3 P4 P5 P6 P7 P8 P9 P10 P11 P12 P13 P14 P15 : Rows), markHost_ok a 1 = true ∧ markHost a 1 = (K, P0, P1, P2, P3, P4, P5, P6, P7, P8, P9, P10, P11, P12, P13, P14, P15) ∧ 0 ≤ K := by
  simp only [hostSm, Bool.and_eq_true] at h
  obtain ⟨s0, s1, s2, s3, s4, s5, s6, s7, s8, s9, s10, s11, s12, s13, s14, s15⟩ := h
  have l0 := sm_le s0
  obtain ⟨K0, hK0⟩ : ∃ K : Int, K = 1 + 1 * (a.Memory.Pages.length : Int) := ⟨_, rfl⟩
  have o0 : mko 1 a.Memory.Pages 1 = true := mko_mk s0 (by omega) (by omega)
  have e0 : markStringS a.Memory.Pages 1 = (K0, (mkl fStringS 1 a.Memory.Pages.length 1)) := by rw [hK0]; rfl
  have b0 : 0 ≤ K0 ∧ K0 ≤ 16777217 := by omega
  clear hK0
  have l1 := sm_le s1
  obtain ⟨K1, hK1⟩ : ∃ K : Int, K = K0 + 4 * (a.Maps.length : Int) := ⟨_, rfl⟩
  have o1 : mko 4 a.Maps K0 = true := mko_mk s1 (by omega) (by omega)
  have e1 : markMappingS a.Maps K0 = (K1, (mkl fMappingS 4 a.Maps.length K0)) := by rw [hK1]; rfl
  have b1 : 0 ≤ K1 ∧ K1 ≤ 83886081 := by omega
  clear hK1
  have l2 := sm_le s2
  obtain ⟨K2, hK2⟩ : ∃ K : Int, K = K1 + 1 * (a.Tx.Pool.Free.length : Int) := ⟨_, rfl⟩
  have o2 : mko 1 a.Tx.Pool.Free K1 = true := mko_mk s2 (by omega) (by omega)
  have e2 : markIntS a.Tx.Pool.Free K1 = (K2, (mkl fIntS 1 a.Tx.Pool.Free.length K1)) := by rw [hK2]; rfl
  have b2 : 0 ≤ K2 ∧ K2 ≤ 100663297 := by omega
  clear hK2
  obtain ⟨o3, u3, v3⟩ := markSentS_facts s3 (k := K2) (by omega) (by omega)
  simp only [markSentS] at u3 v3
  obtain ⟨K3, hK3⟩ : ∃ K : Int, K = (mkd fSentS a.Tx.Waiting K2).2 := ⟨_, rfl⟩
  have e3 : markSentS a.Tx.Waiting K2 = (K3, (mkd fSentS a.Tx.Waiting K2).1) := by rw [hK3]; rfl
  rw [← hK3] at u3 v3
  have b3 : 0 ≤ K3 ∧ K3 ≤ 281475211591681 := by omega
  clear hK3
  have l4 := sm_le s4
  obtain ⟨K4, hK4⟩ : ∃ K : Int, K = K3 + 30 * (a.Rx.length : Int) := ⟨_, rfl⟩
  have o4 : mko 30 a.Rx K3 = true := mko_mk s4 (by omega) (by omega)
  have e4 : markRxQueueS a.Rx K3 = (K4, (mkl fRxQueueS 30 a.Rx.length K3)) := by rw [hK4]; rfl
  have b4 : 0 ≤ K4 ∧ K4 ≤ 281475714908161 := by omega
  clear hK4
  obtain ⟨o5, u5, v5⟩ := markPoolS_facts s5 (k := K4) (by omega) (by omega)
  simp only [markPoolS] at u5 v5
  obtain ⟨K5, hK5⟩ : ∃ K : Int, K = (mkd fPoolS a.Pools K4).2 := ⟨_, rfl⟩
  have e5 : markPoolS a.Pools K4 = (K5, (mkd fPoolS a.Pools K4).1) := by rw [hK5]; rfl
  rw [← hK5] at u5 v5
  have b5 : 0 ≤ K5 ∧ K5 ≤ 562950825836545 := by omega
  clear hK5
  have l6 := sm_le s6
  obtain ⟨K6, hK6⟩ : ∃ K : Int, K = K5 + 6 * (a.Vectors.length : Int) := ⟨_, rfl⟩
  have o6 : mko 6 a.Vectors K5 = true := mko_mk s6 (by omega) (by omega)
  have e6 : markVectorS a.Vectors K5 = (K6, (mkl fVectorS 6 a.Vectors.length K5)) := by rw [hK6]; rfl
  have b6 : 0 ≤ K6 ∧ K6 ≤ 562950926499841 := by omega
  clear hK6
  have l7 := sm_le s7
  obtain ⟨K7, hK7⟩ : ∃ K : Int, K = K6 + 1 * (a.Polling.length : Int) := ⟨_, rfl⟩
  have o7 : mko 1 a.Polling K6 = true := mko_mk s7 (by omega) (by omega)
  have e7 : markBoolS a.Polling K6 = (K7, (mkl fBoolS 1 a.Polling.length K6)) := by rw [hK7]; rfl
  have b7 : 0 ≤ K7 ∧ K7 ≤ 562950943277057 := by omega
  clear hK7
  have l8 := sm_le s8
  obtain ⟨K8, hK8⟩ : ∃ K : Int, K = K7 + 1 * (a.Filter.Vlans.length : Int) := ⟨_, rfl⟩
  have o8 : mko 1 a.Filter.Vlans K7 = true := mko_mk s8 (by omega) (by omega)
  have e8 : markIntS a.Filter.Vlans K7 = (K8, (mkl fIntS 1 a.Filter.Vlans.length K7)) := by rw [hK8]; rfl
  have b8 : 0 ≤ K8 ∧ K8 ≤ 562950960054273 := by omega
  clear hK8
  have l9 := sm_le s9
  obtain ⟨K9, hK9⟩ : ∃ K : Int, K = K8 + 9 * (a.Steering.Rules.length : Int) := ⟨_, rfl⟩
  have o9 : mko 9 a.Steering.Rules K8 = true := mko_mk s9 (by omega) (by omega)
  have e9 : markRuleS a.Steering.Rules K8 = (K9, (mkl fRuleS 9 a.Steering.Rules.length K8)) := by rw [hK9]; rfl
  have b9 : 0 ≤ K9 ∧ K9 ≤ 562951111049217 := by omega
  clear hK9
  have l10 := sm_le s10
  obtain ⟨K10, hK10⟩ : ∃ K : Int, K = K9 + 7 * (a.Steering.Table.Slots.length : Int) := ⟨_, rfl⟩
  have o10 : mko 7 a.Steering.Table.Slots K9 = true := mko_mk s10 (by omega) (by omega)
  have e10 : markSlotS a.Steering.Table.Slots K9 = (K10, (mkl fSlotS 7 a.Steering.Table.Slots.length K9)) := by rw [hK10]; rfl
  have b10 : 0 ≤ K10 ∧ K10 ≤ 562951228489729 := by omega
  clear hK10
  have l11 := sm_le s11
  obtain ⟨K11, hK11⟩ : ∃ K : Int, K = K10 + 1 * (a.Steering.Spread.Table.length : Int) := ⟨_, rfl⟩
  have o11 : mko 1 a.Steering.Spread.Table K10 = true := mko_mk s11 (by omega) (by omega)
  have e11 : markIntS a.Steering.Spread.Table K10 = (K11, (mkl fIntS 1 a.Steering.Spread.Table.length K10)) := by rw [hK11]; rfl
  have b11 : 0 ≤ K11 ∧ K11 ≤ 562951245266945 := by omega
  clear hK11
  have l12 := sm_le s12
  obtain ⟨K12, hK12⟩ : ∃ K : Int, K = K11 + 8 * (a.Streams.length : Int) := ⟨_, rfl⟩
  have o12 : mko 8 a.Streams K11 = true := mko_mk s12 (by omega) (by omega)
  have e12 : markStreamS a.Streams K11 = (K12, (mkl fStreamS 8 a.Streams.length K11)) := by rw [hK12]; rfl
  have b12 : 0 ≤ K12 ∧ K12 ≤ 562951379484673 := by omega
  clear hK12
  have l13 := sm_le s13
  obtain ⟨K13, hK13⟩ : ∃ K : Int, K = K12 + 1 * (a.Wire.length : Int) := ⟨_, rfl⟩
  have o13 : mko 1 a.Wire K12 = true := mko_mk s13 (by omega) (by omega)
  have e13 : markStringS a.Wire K12 = (K13, (mkl fStringS 1 a.Wire.length K12)) := by rw [hK13]; rfl
  have b13 : 0 ≤ K13 ∧ K13 ≤ 562951396261889 := by omega
  clear hK13
  have l14 := sm_le s14
  obtain ⟨K14, hK14⟩ : ∃ K : Int, K = K13 + 1 * (a.Completed.length : Int) := ⟨_, rfl⟩
  have o14 : mko 1 a.Completed K13 = true := mko_mk s14 (by omega) (by omega)
  have e14 : markIntS a.Completed K13 = (K14, (mkl fIntS 1 a.Completed.length K13)) := by rw [hK14]; rfl
  have b14 : 0 ≤ K14 ∧ K14 ≤ 562951413039105 := by omega
  clear hK14
  have l15 := sm_le s15
  obtain ⟨K15, hK15⟩ : ∃ K : Int, K = K14 + 1 * (a.Returned.length : Int) := ⟨_, rfl⟩
  have o15 : mko 1 a.Returned K14 = true := mko_mk s15 (by omega) (by omega)
  have e15 : markIntS a.Returned K14 = (K15, (mkl fIntS 1 a.Returned.length K14)) := by rw [hK15]; rfl
  have b15 : 0 ≤ K15 ∧ K15 ≤ 562951429816321 := by omega
  clear hK15
  refine ⟨K15, (mkl fStringS 1 a.Memory.Pages.length 1), (mkl fMappingS 4 a.Maps.length K0), (mkl fIntS 1 a.Tx.Pool.Free.length K1), (mkd fSentS a.Tx.Waiting K2).1, (mkl fRxQueueS 30 a.Rx.length K3), (mkd fPoolS a.Pools K4).1, (mkl fVectorS 6 a.Vectors.length K5), (mkl fBoolS 1 a.Polling.length K6), (mkl fIntS 1 a.Filter.Vlans.length K7), (mkl fRuleS 9 a.Steering.Rules.length K8), (mkl fSlotS 7 a.Steering.Table.Slots.length K9), (mkl fIntS 1 a.Steering.Spread.Table.length K10), (mkl fStreamS 8 a.Streams.length K11), (mkl fStringS 1 a.Wire.length K12), (mkl fIntS 1 a.Completed.length K13), (mkl fIntS 1 a.Returned.length K14), ?_, ?_, by omega⟩
  · simp only [markMemory_ok, markMemory, laws_markMemory_t, markPool_ok, markPool, laws_markPool_t, markFilter_ok, markFilter, laws_markFilter_t, markFlowTable_ok, markFlowTable, laws_markFlowTable_t, markSpread_ok, markSpread, laws_markSpread_t, markTxQueue_ok, markTxQueue, laws_markTxQueue_t, markSteering_ok, markSteering, laws_markSteering_t, markHost_ok, markHost, laws_markHost_t, Option.getD_some, e0, e1, e2, e3, e4, e5, e6, e7, e8, e9, e10, e11, e12, e13, e14, e15, o0, o1, o2, o3, o4, o5, o6, o7, o8, o9, o10, o11, o12, o13, o14, o15, andt_true_l, andt_true_r, cond_true]
  · simp only [markMemory_ok, markMemory, laws_markMemory_t, markPool_ok, markPool, laws_markPool_t, markFilter_ok, markFilter, laws_markFilter_t, markFlowTable_ok, markFlowTable, laws_markFlowTable_t, markSpread_ok, markSpread, laws_markSpread_t, markTxQueue_ok, markTxQueue, laws_markTxQueue_t, markSteering_ok, markSteering, laws_markSteering_t, markHost_ok, markHost, laws_markHost_t, e0, e1, e2, e3, e4, e5, e6, e7, e8, e9, e10, e11, e12, e13, e14, e15, o0, o1, o2, o3, o4, o5, o6, o7, o8, o9, o10, o11, o12, o13, o14, o15, andt_true_l, andt_true_r, cond_true, Option.getD_some]



theorem szFlat_len {a : Rows} {left : Int} (h1 : 0 ≤ left) (h2 : left ≤ 1048576) (ha : a.length ≤ 9223372036854775807) (h0 : 0 ≤ szFlat a left) : a.length ≤ 1048576 := by
  obtain ⟨e, hl⟩ := sz_len h1 h2 ha
  simp only [szFlat, e] at h0
  by_cases hn : left - len a < 0
  · simp [hn] at h0
  · simp only [len] at hn; omega

theorem laws_szTxQueue_len {a : STxQueue} {left : Int} (hwt : WtL STxQueue.ct a.enc) (h1 : 0 ≤ left) (h2 : left ≤ 1048576) (h0 : 0 ≤ laws_szTxQueue a left) : a.Waiting.length ≤ 1048576 := by
  simp only [laws_szTxQueue, laws_szTxQueue_t, id] at h0
  by_cases c0 : laws_szPool a.Pool left < 0
  · simp only [c0, decide_true, cond_true] at h0; omega
  simp only [c0, decide_false, cond_false] at h0
  have k0 := laws_szPool_ok (STxQueue.wt_Pool hwt) h1 h2 (Int.not_lt.1 c0)
  by_cases c1 : laws_szSentS a.Waiting (laws_szPool a.Pool left) < 0
  · simp only [c1, decide_true, cond_true] at h0; omega
  simp only [c1, decide_false, cond_false] at h0
  have k1 := laws_szSentS_ok (STxQueue.wt_Waiting hwt) (Int.not_lt.1 c0) k0.1 (Int.not_lt.1 c1)
  have n1 := szAll_len (Int.not_lt.1 c0) k0.1 (wt_sl (STxQueue.wt_Waiting hwt)).1 (Int.not_lt.1 c1)
  exact n1

theorem laws_szHost_len {a : SHost} {left : Int} (hwt : WtL SHost.ct a.enc) (h1 : 0 ≤ left) (h2 : left ≤ 1048576) (h0 : 0 ≤ laws_szHost a left) : a.Maps.length ≤ 1048576 ∧ a.Tx.Waiting.length ≤ 1048576 ∧ a.Rx.length ≤ 1048576 ∧ a.Pools.length ≤ 1048576 ∧ a.Vectors.length ≤ 1048576 ∧ a.Polling.length ≤ 1048576 ∧ a.Streams.length ≤ 1048576 ∧ a.Wire.length ≤ 1048576 ∧ a.Completed.length ≤ 1048576 ∧ a.Returned.length ≤ 1048576 := by
  simp only [laws_szHost, laws_szHost_t, id] at h0
  by_cases c0 : laws_szMemory a.Memory left < 0
  · simp only [c0, decide_true, cond_true] at h0; omega
  simp only [c0, decide_false, cond_false] at h0
  have k0 := laws_szMemory_ok (SHost.wt_Memory hwt) h1 h2 (Int.not_lt.1 c0)
  by_cases c1 : szFlat a.Maps (laws_szMemory a.Memory left) < 0
  · simp only [c1, decide_true, cond_true] at h0; omega
  simp only [c1, decide_false, cond_false] at h0
  have k1 := szFlat_ok (Int.not_lt.1 c0) k0.1 (wt_sl (SHost.wt_Maps hwt)).1 (Int.not_lt.1 c1)
  have n1 := szFlat_len (Int.not_lt.1 c0) k0.1 (wt_sl (SHost.wt_Maps hwt)).1 (Int.not_lt.1 c1)
  by_cases c2 : laws_szTxQueue a.Tx (szFlat a.Maps (laws_szMemory a.Memory left)) < 0
  · simp only [c2, decide_true, cond_true] at h0; omega
  simp only [c2, decide_false, cond_false] at h0
  have k2 := laws_szTxQueue_ok (SHost.wt_Tx hwt) (Int.not_lt.1 c1) k1.1 (Int.not_lt.1 c2)
  have m2_0 := laws_szTxQueue_len (SHost.wt_Tx hwt) (Int.not_lt.1 c1) k1.1 (Int.not_lt.1 c2)
  by_cases c3 : laws_szRxQueueS a.Rx (laws_szTxQueue a.Tx (szFlat a.Maps (laws_szMemory a.Memory left))) < 0
  · simp only [c3, decide_true, cond_true] at h0; omega
  simp only [c3, decide_false, cond_false] at h0
  have k3 := laws_szRxQueueS_ok (SHost.wt_Rx hwt) (Int.not_lt.1 c2) k2.1 (Int.not_lt.1 c3)
  have n3 := szAll_len (Int.not_lt.1 c2) k2.1 (wt_sl (SHost.wt_Rx hwt)).1 (Int.not_lt.1 c3)
  by_cases c4 : laws_szPoolS a.Pools (laws_szRxQueueS a.Rx (laws_szTxQueue a.Tx (szFlat a.Maps (laws_szMemory a.Memory left)))) < 0
  · simp only [c4, decide_true, cond_true] at h0; omega
  simp only [c4, decide_false, cond_false] at h0
  have k4 := laws_szPoolS_ok (SHost.wt_Pools hwt) (Int.not_lt.1 c3) k3.1 (Int.not_lt.1 c4)
  have n4 := szAll_len (Int.not_lt.1 c3) k3.1 (wt_sl (SHost.wt_Pools hwt)).1 (Int.not_lt.1 c4)
  by_cases c5 : szFlat a.Vectors (laws_szPoolS a.Pools (laws_szRxQueueS a.Rx (laws_szTxQueue a.Tx (szFlat a.Maps (laws_szMemory a.Memory left))))) < 0
  · simp only [c5, decide_true, cond_true] at h0; omega
  simp only [c5, decide_false, cond_false] at h0
  have k5 := szFlat_ok (Int.not_lt.1 c4) k4.1 (wt_sl (SHost.wt_Vectors hwt)).1 (Int.not_lt.1 c5)
  have n5 := szFlat_len (Int.not_lt.1 c4) k4.1 (wt_sl (SHost.wt_Vectors hwt)).1 (Int.not_lt.1 c5)
  by_cases c6 : szFlat a.Polling (szFlat a.Vectors (laws_szPoolS a.Pools (laws_szRxQueueS a.Rx (laws_szTxQueue a.Tx (szFlat a.Maps (laws_szMemory a.Memory left)))))) < 0
  · simp only [c6, decide_true, cond_true] at h0; omega
  simp only [c6, decide_false, cond_false] at h0
  have k6 := szFlat_ok (Int.not_lt.1 c5) k5.1 (wt_sl (SHost.wt_Polling hwt)).1 (Int.not_lt.1 c6)
  have n6 := szFlat_len (Int.not_lt.1 c5) k5.1 (wt_sl (SHost.wt_Polling hwt)).1 (Int.not_lt.1 c6)
  by_cases c7 : laws_szFilter a.Filter (szFlat a.Polling (szFlat a.Vectors (laws_szPoolS a.Pools (laws_szRxQueueS a.Rx (laws_szTxQueue a.Tx (szFlat a.Maps (laws_szMemory a.Memory left))))))) < 0
  · simp only [c7, decide_true, cond_true] at h0; omega
  simp only [c7, decide_false, cond_false] at h0
  have k7 := laws_szFilter_ok (SHost.wt_Filter hwt) (Int.not_lt.1 c6) k6.1 (Int.not_lt.1 c7)
  by_cases c8 : laws_szSteering a.Steering (laws_szFilter a.Filter (szFlat a.Polling (szFlat a.Vectors (laws_szPoolS a.Pools (laws_szRxQueueS a.Rx (laws_szTxQueue a.Tx (szFlat a.Maps (laws_szMemory a.Memory left)))))))) < 0
  · simp only [c8, decide_true, cond_true] at h0; omega
  simp only [c8, decide_false, cond_false] at h0
  have k8 := laws_szSteering_ok (SHost.wt_Steering hwt) (Int.not_lt.1 c7) k7.1 (Int.not_lt.1 c8)
  by_cases c9 : laws_szStreamS a.Streams (laws_szSteering a.Steering (laws_szFilter a.Filter (szFlat a.Polling (szFlat a.Vectors (laws_szPoolS a.Pools (laws_szRxQueueS a.Rx (laws_szTxQueue a.Tx (szFlat a.Maps (laws_szMemory a.Memory left))))))))) < 0
  · simp only [c9, decide_true, cond_true] at h0; omega
  simp only [c9, decide_false, cond_false] at h0
  have k9 := laws_szStreamS_ok (SHost.wt_Streams hwt) (Int.not_lt.1 c8) k8.1 (Int.not_lt.1 c9)
  have n9 := szAll_len (Int.not_lt.1 c8) k8.1 (wt_sl (SHost.wt_Streams hwt)).1 (Int.not_lt.1 c9)
  by_cases c10 : laws_szStringS a.Wire (laws_szStreamS a.Streams (laws_szSteering a.Steering (laws_szFilter a.Filter (szFlat a.Polling (szFlat a.Vectors (laws_szPoolS a.Pools (laws_szRxQueueS a.Rx (laws_szTxQueue a.Tx (szFlat a.Maps (laws_szMemory a.Memory left)))))))))) < 0
  · simp only [c10, decide_true, cond_true] at h0; omega
  simp only [c10, decide_false, cond_false] at h0
  have k10 := laws_szStringS_ok (SHost.wt_Wire hwt) (Int.not_lt.1 c9) k9.1 (Int.not_lt.1 c10)
  have n10 := szAll_len (Int.not_lt.1 c9) k9.1 (wt_sl (SHost.wt_Wire hwt)).1 (Int.not_lt.1 c10)
  by_cases c11 : szFlat a.Completed (laws_szStringS a.Wire (laws_szStreamS a.Streams (laws_szSteering a.Steering (laws_szFilter a.Filter (szFlat a.Polling (szFlat a.Vectors (laws_szPoolS a.Pools (laws_szRxQueueS a.Rx (laws_szTxQueue a.Tx (szFlat a.Maps (laws_szMemory a.Memory left))))))))))) < 0
  · simp only [c11, decide_true, cond_true] at h0; omega
  simp only [c11, decide_false, cond_false] at h0
  have k11 := szFlat_ok (Int.not_lt.1 c10) k10.1 (wt_sl (SHost.wt_Completed hwt)).1 (Int.not_lt.1 c11)
  have n11 := szFlat_len (Int.not_lt.1 c10) k10.1 (wt_sl (SHost.wt_Completed hwt)).1 (Int.not_lt.1 c11)
  by_cases c12 : szFlat a.Returned (szFlat a.Completed (laws_szStringS a.Wire (laws_szStreamS a.Streams (laws_szSteering a.Steering (laws_szFilter a.Filter (szFlat a.Polling (szFlat a.Vectors (laws_szPoolS a.Pools (laws_szRxQueueS a.Rx (laws_szTxQueue a.Tx (szFlat a.Maps (laws_szMemory a.Memory left)))))))))))) < 0
  · simp only [c12, decide_true, cond_true] at h0; omega
  simp only [c12, decide_false, cond_false] at h0
  have k12 := szFlat_ok (Int.not_lt.1 c11) k11.1 (wt_sl (SHost.wt_Returned hwt)).1 (Int.not_lt.1 c12)
  have n12 := szFlat_len (Int.not_lt.1 c11) k11.1 (wt_sl (SHost.wt_Returned hwt)).1 (Int.not_lt.1 c12)
  exact ⟨n1, m2_0, n3, n4, n5, n6, n9, n10, n11, n12⟩

def impl_copyInts_t {α : Type} (bad : α) (k_ : Rows → α) (l : Rows) : α :=
  bif andt true (room2 8 [] l) then
    k_ l
  else bad
theorem impl_copyInts_c {α : Type} (bad : α) (k_ : Rows → α) (l : Rows) (h_l : WtC (.sl [.int .i64]) (.sl l)) (hok : sm l = true) : impl_copyInts_t bad k_ l = k_ (idf l) := by
  unfold impl_copyInts_t
  rw [room2_sm hok (show 8 ≤ 8388608 by omega)]
  rfl

def impl_HostAccount_l0 {α : Type} (bad : α) (k_ : Rows → α) (x : Rows) (x_1 : Int) (ih0 : Int → Rows → α) (x_2 : Int) (out_ : Rows) : α :=
  bif decide (x_2 < x_1) then
    bif andt true (idx x_2 x) then
      bif andt true (room2 8 out_ ([[.int (rI (nth x (Int.toNat x_2)) 0)]])) then
        ih0 (w64 (x_2 + 1)) (out_ ++ ([[.int (rI (nth x (Int.toNat x_2)) 0)]]))
      else bad
    else bad
  else k_ out_
def impl_HostAccount_L0 {α : Type} (bad : α) (k_ : Rows → α) (N : Nat) (x : Rows) (x_1 : Int) (m_ : Nat) : Int → Rows → α :=
  Nat.rec (motive := fun _ => Int → Rows → α) (fun _ _ => bad) (fun _ ih0 => impl_HostAccount_l0 bad k_ x x_1 ih0) m_
theorem impl_HostAccount_L0_z {α : Type} (bad : α) (k_ : Rows → α) (N : Nat) (x : Rows) (x_1 : Int) (x_2 : Int) (out_ : Rows) : impl_HostAccount_L0 bad k_ N x x_1 0 x_2 out_ = bad := rfl
theorem impl_HostAccount_L0_s {α : Type} (bad : α) (k_ : Rows → α) (N : Nat) (x : Rows) (x_1 : Int) (m_ : Nat) (x_2 : Int) (out_ : Rows) : impl_HostAccount_L0 bad k_ N x x_1 (m_ + 1) x_2 out_ = impl_HostAccount_l0 bad k_ x x_1 (impl_HostAccount_L0 bad k_ N x x_1 m_) x_2 out_ := rfl
def impl_HostAccount_t {α : Type} (bad : α) (k_ : Rows → α) (l0 : Rows → Int → Int → Rows → α) (h : SHost) : α :=
  bif andt (andt true (sm h.Completed)) (room2 8 (idf h.Completed) h.Returned) then
    l0 h.Tx.Waiting (len h.Tx.Waiting) 0 ((idf h.Completed) ++ h.Returned)
  else bad
def impl_HostAccount_f {α : Type} (bad : α) (k_ : Rows → α) (N : Nat) (h : SHost) : α := impl_HostAccount_t bad k_ (fun x x_1 => impl_HostAccount_L0 bad k_ N x x_1 N) h
def HostAccount_ok (h : SHost) : Bool := sm h.Completed && (sm h.Returned && sm h.Tx.Waiting)
def HostAccount (h : SHost) : Rows := (h.Completed ++ h.Returned) ++ h.Tx.Waiting.map (fun r => [.int (rI r 0)])
theorem foldl_push (q : List DC → List DC) : ∀ (l o : Rows), l.foldl (fun o r => o ++ [q r]) o = o ++ l.map q
  | [], o => by simp
  | r :: l, o => by rw [List.foldl_cons, foldl_push q l, List.map_cons, List.append_assoc]; rfl
theorem impl_HostAccount_c {α : Type} (bad : α) (k_ : Rows → α) (h : SHost) (h_h : WtL SHost.ct h.enc) (hok : HostAccount_ok h = true) : ∃ N, impl_HostAccount_f bad k_ N h = k_ (HostAccount h) := by
  obtain ⟨hl, _⟩ := wt_sl (STxQueue.wt_Waiting (SHost.wt_Tx h_h))
  have hok' : (sm h.Completed && (sm h.Returned && sm h.Tx.Waiting)) = true := hok
  simp only [Bool.and_eq_true] at hok'
  obtain ⟨s1, s2, s3⟩ := hok'
  have l1 := sm_le s1
  have l2 := sm_le s2
  have l3 := sm_le s3
  have r1 : room2 8 [] h.Completed = true := room2_sm s1 (by omega)
  have r2 : room2 8 h.Completed h.Returned = true := room2_le (by omega) (by omega)
  refine ⟨h.Tx.Waiting.length + 1, ?_⟩
  unfold impl_HostAccount_f impl_HostAccount_t HostAccount
  simp only [r1, r2, s1, idf, andt_true_l, andt_true_r, cond_true]
  refine (loop_inv h.Tx.Waiting.length (fun n i s => impl_HostAccount_L0 bad k_ (h.Tx.Waiting.length + 1) h.Tx.Waiting (len h.Tx.Waiting) n i s) (fun i o => o ++ [[.int (rI (nth h.Tx.Waiting i) 0)]]) k_ (fun i o => o.length ≤ 33554432 + i) ?_ ?_ ?_ (h.Tx.Waiting.length + 1) _ (by rw [List.length_append]; omega) (by omega)).trans ?_
  · intro i o hi ho
    simp only [List.length_append, List.length_cons, List.length_nil]; omega
  · intro n i o hi ho
    show impl_HostAccount_L0 bad k_ (h.Tx.Waiting.length + 1) h.Tx.Waiting (len h.Tx.Waiting) (n + 1) (i : Int) o = _
    rw [impl_HostAccount_L0_s]
    have hroom : ∀ q : List DC, room2 8 o [q] = true := fun q => room2_le (by simp only [List.length_cons, List.length_nil]; omega) (by omega)
    simp only [impl_HostAccount_l0, lt_len hi, idx_nat hi, hroom, w64_succ hi hl, Int.toNat_natCast, andt_true_l, andt_true_r, cond_true]
  · intro n o ho
    show impl_HostAccount_L0 bad k_ (h.Tx.Waiting.length + 1) h.Tx.Waiting (len h.Tx.Waiting) (n + 1) (h.Tx.Waiting.length : Int) o = _
    rw [impl_HostAccount_L0_s]
    simp only [impl_HostAccount_l0, not_lt_len, cond_false]
  · refine congrArg k_ ((itN_foldl (fun (o : Rows) (r : List DC) => o ++ [[DC.int (rI r 0)]]) h.Tx.Waiting [] _).trans ?_)
    exact foldl_push _ _ _

def spec_HostAccount_l0 {α : Type} (bad : α) (k_ : Rows → α) (h_11 : Rows) (ih0 : Int → Rows → α) (k : Int) (out_ : Rows) : α :=
  bif decide (k < len h_11) then
    bif andt (andt true (idx k h_11)) (room2 8 out_ ([[.int (rI (nth h_11 (Int.toNat k)) 0)]])) then
      ih0 (w64 (k + 1)) (out_ ++ ([[.int (rI (nth h_11 (Int.toNat k)) 0)]]))
    else bad
  else k_ out_
def spec_HostAccount_L0 {α : Type} (bad : α) (k_ : Rows → α) (N : Nat) (h_11 : Rows) (m_ : Nat) : Int → Rows → α :=
  Nat.rec (motive := fun _ => Int → Rows → α) (fun _ _ => bad) (fun _ ih0 => spec_HostAccount_l0 bad k_ h_11 ih0) m_
theorem spec_HostAccount_L0_z {α : Type} (bad : α) (k_ : Rows → α) (N : Nat) (h_11 : Rows) (k : Int) (out_ : Rows) : spec_HostAccount_L0 bad k_ N h_11 0 k out_ = bad := rfl
theorem spec_HostAccount_L0_s {α : Type} (bad : α) (k_ : Rows → α) (N : Nat) (h_11 : Rows) (m_ : Nat) (k : Int) (out_ : Rows) : spec_HostAccount_L0 bad k_ N h_11 (m_ + 1) k out_ = spec_HostAccount_l0 bad k_ h_11 (spec_HostAccount_L0 bad k_ N h_11 m_) k out_ := rfl
def spec_HostAccount_t {α : Type} (bad : α) (k_ : Rows → α) (l0 : Rows → Int → Rows → α) (h : SHost) : α :=
  bif andt true (room2 8 [] h.Completed) then
    bif andt true (room2 8 h.Completed h.Returned) then
      l0 h.Tx.Waiting 0 (h.Completed ++ h.Returned)
    else bad
  else bad
def spec_HostAccount_f {α : Type} (bad : α) (k_ : Rows → α) (N : Nat) (h : SHost) : α := spec_HostAccount_t bad k_ (fun h_11 => spec_HostAccount_L0 bad k_ N h_11 N) h
theorem spec_HostAccount_c {α : Type} (bad : α) (k_ : Rows → α) (h : SHost) (h_h : WtL SHost.ct h.enc) (hok : HostAccount_ok h = true) : ∃ N, spec_HostAccount_f bad k_ N h = k_ (HostAccount h) := by
  obtain ⟨hl, _⟩ := wt_sl (STxQueue.wt_Waiting (SHost.wt_Tx h_h))
  have hok' : (sm h.Completed && (sm h.Returned && sm h.Tx.Waiting)) = true := hok
  simp only [Bool.and_eq_true] at hok'
  obtain ⟨s1, s2, s3⟩ := hok'
  have l1 := sm_le s1
  have l2 := sm_le s2
  have l3 := sm_le s3
  have r1 : room2 8 [] h.Completed = true := room2_sm s1 (by omega)
  have r2 : room2 8 h.Completed h.Returned = true := room2_le (by omega) (by omega)
  refine ⟨h.Tx.Waiting.length + 1, ?_⟩
  unfold spec_HostAccount_f spec_HostAccount_t HostAccount
  simp only [r1, r2, s1, idf, andt_true_l, andt_true_r, cond_true]
  refine (loop_inv h.Tx.Waiting.length (fun n i s => spec_HostAccount_L0 bad k_ (h.Tx.Waiting.length + 1) h.Tx.Waiting n i s) (fun i o => o ++ [[.int (rI (nth h.Tx.Waiting i) 0)]]) k_ (fun i o => o.length ≤ 33554432 + i) ?_ ?_ ?_ (h.Tx.Waiting.length + 1) _ (by rw [List.length_append]; omega) (by omega)).trans ?_
  · intro i o hi ho
    simp only [List.length_append, List.length_cons, List.length_nil]; omega
  · intro n i o hi ho
    show spec_HostAccount_L0 bad k_ (h.Tx.Waiting.length + 1) h.Tx.Waiting (n + 1) (i : Int) o = _
    rw [spec_HostAccount_L0_s]
    have hroom : ∀ q : List DC, room2 8 o [q] = true := fun q => room2_le (by simp only [List.length_cons, List.length_nil]; omega) (by omega)
    simp only [spec_HostAccount_l0, lt_len hi, idx_nat hi, hroom, w64_succ hi hl, Int.toNat_natCast, andt_true_l, andt_true_r, cond_true]
  · intro n o ho
    show spec_HostAccount_L0 bad k_ (h.Tx.Waiting.length + 1) h.Tx.Waiting (n + 1) (h.Tx.Waiting.length : Int) o = _
    rw [spec_HostAccount_L0_s]
    simp only [spec_HostAccount_l0, not_lt_len, cond_false]
  · refine congrArg k_ ((itN_foldl (fun (o : Rows) (r : List DC) => o ++ [[DC.int (rI r 0)]]) h.Tx.Waiting [] _).trans ?_)
    exact foldl_push _ _ _

def laws_FnExactHostAccount_t {α : Type} (bad : α) (k_ : Bool → α) (aH : SHost) : α :=
  let z0 : Bool := andt (andt true (laws_toHost_ok aH)) (HostAccount_ok (idf aH))
  let z1 : Bool := andt true (same (HostAccount (idf aH)) (HostAccount (idf aH)))
  let z2 : Bool := !(yes2 (HostAccount (idf aH)) (HostAccount (idf aH)))
  let z3 : Bool := decide ((markHost (idf aH) 1).1 < 0)
  let z4 : Bool := andt true (hdo fIntS 1 ((markIntS (HostAccount (idf aH)) 1).2) 1)
  let z5 : Int := heldIntS ((markIntS (HostAccount (idf aH)) 1).2) 1
  let z6 : Bool := decide (z5 < 0)
  let z7 : Bool := z5 != ((markIntS (HostAccount (idf aH)) 1).1)
  bif decide (laws_szHost aH 1048576 < 0) then k_ true
  else bif z0 then
      bif andt true (laws_toHost_ok aH) then
        bif andt true (HostAccount_ok (idf aH)) then
          bif z1 then
            bif z2 then k_ false
            else bif andt (andt true (laws_toHost_ok aH)) (same (idf aH) (idf aH)) then
                bif !(yes2 (idf aH) (idf aH)) then k_ false
                else bif andt true (markHost_ok (idf aH) 1) then
                    bif okm z3 true z1 then
                      bif bif z3 then true else z2 then k_ false
                      else bif andt true (mko 1 (HostAccount (idf aH)) 1) then
                          bif z4 then
                            bif z6 then k_ false
                            else bif z7 then k_ false
                            else bif z0 then
                                bif z1 then
                                  bif z2 then k_ false
                                  else bif z4 then
                                      bif z6 then k_ false
                                      else bif z7 then k_ false
                                      else k_ true
                                    else bad
                                else bad
                              else bad
                          else bad
                        else bad
                    else bad
                  else bad
              else bad
          else bad
        else bad
      else bad
    else bad
theorem laws_FnExactHostAccount_c {α : Type} (bad : α) (k_ : Bool → α) (aH : SHost) (h_aH : WtL SHost.ct aH.enc) (hok : fitL (SHost.ct ++ ([])) (aH.enc ++ ([])) = true) : laws_FnExactHostAccount_t bad k_ aH = k_ true := by
  unfold laws_FnExactHostAccount_t
  by_cases c0 : laws_szHost aH 1048576 < 0
  · simp only [c0, decide_true, decide_false, cond_true, cond_false]
  have k0 := laws_szHost_ok h_aH (by omega) (by omega) (Int.not_lt.1 c0)
  have hs := toHost_sm k0.2
  obtain ⟨K, P0, P1, P2, P3, P4, P5, P6, P7, P8, P9, P10, P11, P12, P13, P14, P15, mh0, mh1, mh2⟩ := mh_Host hs
  have mh3 : ¬ K < 0 := by omega
  have ko : HostAccount_ok aH = true := by
    simp only [hostSm, Bool.and_eq_true] at hs
    obtain ⟨s0, s1, s2, s3, s4, s5, s6, s7, s8, s9, s10, s11, s12, s13, s14, s15⟩ := hs
    simp only [smSentS, Bool.and_eq_true] at s3
    simp only [HostAccount_ok, s14, s15, s3.1, Bool.and_self]
  obtain ⟨n0, n1, n2, n3, n4, n5, n6, n7, n8, n9⟩ := laws_szHost_len h_aH (by omega) (by omega) (Int.not_lt.1 c0)
  have gl : (HostAccount aH).length ≤ 3145728 := by
    simp only [HostAccount, List.length_append, List.length_map]
    omega
  have gs : sm (HostAccount aH) = true := decide_eq_true (by omega)
  have m1 : mko 1 (HostAccount aH) 1 = true := mko_mk gs (by omega) (by omega)
  have m2 : hdo fIntS 1 (mkl fIntS 1 (HostAccount aH).length 1) 1 = true := hdo_mk gs (by omega) (by omega)
  have m3 : ¬ 1 + 1 * ((HostAccount aH).length : Int) < 0 := by omega
  simp only [c0, decide_false, cond_false, cond_true, idf, k0.2, ko, mh0, mh1, mh3, m1, m2, m3, markIntS, heldIntS, mkl_length, andt_true_l, andt_true_r, same_refl, yes2, beq_self_eq_true, bne_self_eq_false, Bool.not_true, okm_tt]

end
end Go.Proofs.YthpmalpdnnbkgaaGreat.Pl
