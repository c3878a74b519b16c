/- What functions of the program compute, in plain Lean, as the value machine runs them. Conditions: none. -/
import Derived.Test.YtdlelfondkajbaaGreatPFc
import Derived.Test.YtdlelfondkajbaaGreatPMo
set_option linter.unusedVariables false
set_option linter.unusedSimpArgs false
set_option maxRecDepth 100000
namespace Go.Proofs.YtdlelfondkajbaaGreat.Pl
open Vm
noncomputable section


def impl_HostOk_l0 {α : Type} (bad : α) (k_ : Bool → α) (l1 : Int → Rows → Int → α) (n : Int) (x : Int) (h_13 : Rows) (h_14 : Rows) (h_15 : Rows) (h_20 : Rows) (h_21 : Rows) (h_22 : Bytes) (h_23 : Rows) (h_29 : Int) (h_30 : Int) (h_31 : Int) (h_32 : Int) (h_33 : Int) (ih0 : Int → α) (x_1 : Int) : α :=
  let z0 : Bool := !(RxOk (SRxQueue.decAt (nth h_13 (Int.toNat x_1)) 0))
  let z1 : Bool := !(PoolOk (SPool.decAt (nth h_14 (Int.toNat x_1)) 0))
  let z2 : Bool := andt (andt true (idx x_1 h_13)) (idx x_1 h_14)
  bif decide (x_1 < x) then
    bif okm z0 (andt true (idx x_1 h_13)) (okm z1 z2 (andt z2 (idx x_1 h_15))) then
      bif bif z0 then true else bif z1 then true else !(VectorOk (SVector.decAt (nth h_15 (Int.toNat x_1)) 0)) then k_ false
      else ih0 (w64 (x_1 + 1))
    else bad
  else l1 5 ([[.int h_29], [.int h_30], [.int h_31], [.int h_32], [.int h_33]]) 0
def impl_HostOk_l1 {α : Type} (bad : α) (k_ : Bool → α) (n : Int) (x_2 : Int) (h_20 : Rows) (h_21 : Rows) (h_22 : Bytes) (h_23 : Rows) (x_4 : Rows) (ih1 : Int → α) (x_3 : Int) : α :=
  bif decide (x_3 < x_2) then
    bif andt (andt true (idx x_3 x_4)) (inl (Int.toNat x_3) x_4) then
      bif !(between (rI (nth x_4 (Int.toNat x_3)) 0) 0 1000000000000) then k_ false
      else ih1 (w64 (x_3 + 1))
    else bad
  else k_ (SteeringOk (⟨h_20, (⟨h_21⟩ : SFlowTable), (⟨h_22, h_23⟩ : SSpread)⟩ : SSteering) n)
def impl_HostOk_L1 {α : Type} (bad : α) (k_ : Bool → α) (N : Nat) (n : Int) (x_2 : Int) (h_20 : Rows) (h_21 : Rows) (h_22 : Bytes) (h_23 : Rows) (x_4 : Rows) (m_ : Nat) : Int → α :=
  Nat.rec (motive := fun _ => Int → α) (fun _ => bad) (fun _ ih1 => impl_HostOk_l1 bad k_ n x_2 h_20 h_21 h_22 h_23 x_4 ih1) m_
theorem impl_HostOk_L1_z {α : Type} (bad : α) (k_ : Bool → α) (N : Nat) (n : Int) (x_2 : Int) (h_20 : Rows) (h_21 : Rows) (h_22 : Bytes) (h_23 : Rows) (x_4 : Rows) (x_3 : Int) : impl_HostOk_L1 bad k_ N n x_2 h_20 h_21 h_22 h_23 x_4 0 x_3 = bad := rfl
theorem impl_HostOk_L1_s {α : Type} (bad : α) (k_ : Bool → α) (N : Nat) (n : Int) (x_2 : Int) (h_20 : Rows) (h_21 : Rows) (h_22 : Bytes) (h_23 : Rows) (x_4 : Rows) (m_ : Nat) (x_3 : Int) : impl_HostOk_L1 bad k_ N n x_2 h_20 h_21 h_22 h_23 x_4 (m_ + 1) x_3 = impl_HostOk_l1 bad k_ n x_2 h_20 h_21 h_22 h_23 x_4 (impl_HostOk_L1 bad k_ N n x_2 h_20 h_21 h_22 h_23 x_4 m_) x_3 := rfl
def impl_HostOk_L0 {α : Type} (bad : α) (k_ : Bool → α) (N : Nat) (n : Int) (x : Int) (h_13 : Rows) (h_14 : Rows) (h_15 : Rows) (h_20 : Rows) (h_21 : Rows) (h_22 : Bytes) (h_23 : Rows) (h_29 : Int) (h_30 : Int) (h_31 : Int) (h_32 : Int) (h_33 : Int) (m_ : Nat) : Int → α :=
  Nat.rec (motive := fun _ => Int → α) (fun _ => bad) (fun _ ih0 => impl_HostOk_l0 bad k_ (fun x_2 x_4 => impl_HostOk_L1 bad k_ N n x_2 h_20 h_21 h_22 h_23 x_4 N) n x h_13 h_14 h_15 h_20 h_21 h_22 h_23 h_29 h_30 h_31 h_32 h_33 ih0) m_
theorem impl_HostOk_L0_z {α : Type} (bad : α) (k_ : Bool → α) (N : Nat) (n : Int) (x : Int) (h_13 : Rows) (h_14 : Rows) (h_15 : Rows) (h_20 : Rows) (h_21 : Rows) (h_22 : Bytes) (h_23 : Rows) (h_29 : Int) (h_30 : Int) (h_31 : Int) (h_32 : Int) (h_33 : Int) (x_1 : Int) : impl_HostOk_L0 bad k_ N n x h_13 h_14 h_15 h_20 h_21 h_22 h_23 h_29 h_30 h_31 h_32 h_33 0 x_1 = bad := rfl
theorem impl_HostOk_L0_s {α : Type} (bad : α) (k_ : Bool → α) (N : Nat) (n : Int) (x : Int) (h_13 : Rows) (h_14 : Rows) (h_15 : Rows) (h_20 : Rows) (h_21 : Rows) (h_22 : Bytes) (h_23 : Rows) (h_29 : Int) (h_30 : Int) (h_31 : Int) (h_32 : Int) (h_33 : Int) (m_ : Nat) (x_1 : Int) : impl_HostOk_L0 bad k_ N n x h_13 h_14 h_15 h_20 h_21 h_22 h_23 h_29 h_30 h_31 h_32 h_33 (m_ + 1) x_1 = impl_HostOk_l0 bad k_ (fun x_2 x_4 => impl_HostOk_L1 bad k_ N n x_2 h_20 h_21 h_22 h_23 x_4 N) n x h_13 h_14 h_15 h_20 h_21 h_22 h_23 h_29 h_30 h_31 h_32 h_33 (impl_HostOk_L0 bad k_ N n x h_13 h_14 h_15 h_20 h_21 h_22 h_23 h_29 h_30 h_31 h_32 h_33 m_) x_1 := rfl
def impl_HostOk_t {α : Type} (bad : α) (k_ : Bool → α) (l0 : Int → Int → Rows → Rows → Rows → Rows → Rows → Bytes → Rows → Int → Int → Int → Int → Int → Int → α) (h : SHost) : α :=
  let z0 : Bool := !(between (len h.Rx) 1 2)
  let z1 : Bool := (len h.Pools) != (len h.Rx)
  let z2 : Bool := (len h.Vectors) != (len h.Rx)
  bif okm (!(MemoryOk h.Memory)) true (okm (!(MappingsOk h.Maps)) true (okm (!(TxOk h.Tx)) (andt true (txSm h.Tx)) (okm (!(FilterOk h.Filter)) (andt true (txSm h.Tx)) (okm z0 (andt true (txSm h.Tx)) (okm z1 (andt true (txSm h.Tx)) (okm z2 (andt true (txSm h.Tx)) (andt true (txSm h.Tx)))))))) then
    bif bif !(MemoryOk h.Memory) then true else bif !(MappingsOk h.Maps) then true else bif !(TxOk h.Tx) then true else bif !(FilterOk h.Filter) then true else bif z0 then true else bif z1 then true else bif z2 then true else (len h.Polling) != (len h.Rx) then k_ false
    else l0 (len h.Rx) (len h.Rx) h.Rx h.Pools h.Vectors h.Steering.Rules h.Steering.Table.Slots h.Steering.Spread.Key h.Steering.Spread.Table h.Counters.Frames h.Counters.Bad h.Counters.Filtered h.Counters.Refused h.Counters.Taken 0
  else bad
def impl_HostOk_f {α : Type} (bad : α) (k_ : Bool → α) (N : Nat) (h : SHost) : α := impl_HostOk_t bad k_ (fun n x h_13 h_14 h_15 h_20 h_21 h_22 h_23 h_29 h_30 h_31 h_32 h_33 => impl_HostOk_L0 bad k_ N n x h_13 h_14 h_15 h_20 h_21 h_22 h_23 h_29 h_30 h_31 h_32 h_33 N) h
def hostSm (h : SHost) : Bool := txSm h.Tx
def hostCs (h : SHost) : Rows := [[.int h.Counters.Frames], [.int h.Counters.Bad], [.int h.Counters.Filtered], [.int h.Counters.Refused], [.int h.Counters.Taken]]
def host8 (h : SHost) : Bool := (bif !(MemoryOk h.Memory) then true else bif !(MappingsOk h.Maps) then true else bif !(TxOk h.Tx) then true else bif !(FilterOk h.Filter) then true else bif !(between (len h.Rx) 1 2) then true else bif (len h.Pools) != (len h.Rx) then true else bif (len h.Vectors) != (len h.Rx) then true else (len h.Polling) != (len h.Rx))
def HostOk (h : SHost) : Bool := bif host8 h then false else bif SteeringOk h.Steering (len h.Rx) then bif anyN (fun i => bif !(RxOk (SRxQueue.decAt (nth h.Rx i) 0)) then true else bif !(PoolOk (SPool.decAt (nth h.Pools i) 0)) then true else !(VectorOk (SVector.decAt (nth h.Vectors i) 0))) h.Rx.length 0 then false else (hostCs h).all (fun r => between (rI r 0) 0 1000000000000) else false
theorem nine : ∀ a b c d e f g i j : Bool, (bif a then true else bif b then true else bif c then true else bif d then true else bif e then true else bif f then true else bif g then true else bif i then true else j) = (bif (bif a then true else bif b then true else bif c then true else bif d then true else bif e then true else bif f then true else bif g then true else i) then true else j) := by decide
theorem impl_HostOk_c {α : Type} (bad : α) (k_ : Bool → α) (h : SHost) (h_h : WtL SHost.ct h.enc) (hok : hostSm h = true) : ∃ N, impl_HostOk_f bad k_ N h = k_ (HostOk h) := by
  have hq : txSm h.Tx = true := hok
  refine ⟨h.Rx.length + 6, ?_⟩
  unfold impl_HostOk_f impl_HostOk_t HostOk

  simp only [hq, andt_true_l, andt_true_r, okm_tt, cond_true]
  refine cond_c (fun _ => rfl) (fun hg => ?_)

  have hn : h.Rx.length ≤ 2 ∧ len h.Pools = len h.Rx ∧ len h.Vectors = len h.Rx := by
    unfold host8 at hg
    cases h5 : between (len h.Rx) 1 2
    · rw [h5] at hg
      revert hg
      cases MemoryOk h.Memory <;> cases MappingsOk h.Maps <;> cases TxOk h.Tx <;> cases FilterOk h.Filter <;> simp
    · have b := (between_iff.1 h5).2
      by_cases e1 : len h.Pools = len h.Rx
      · by_cases e2 : len h.Vectors = len h.Rx
        · exact ⟨by simp only [len] at b; omega, e1, e2⟩
        · have e2 : ((len h.Vectors) != (len h.Rx)) = true := by simpa using e2
          rw [e2] at hg
          revert hg
          cases MemoryOk h.Memory <;> cases MappingsOk h.Maps <;> cases TxOk h.Tx <;> cases FilterOk h.Filter <;> cases between (len h.Rx) 1 2 <;> cases ((len h.Pools) != (len h.Rx)) <;> simp
      · have e1 : ((len h.Pools) != (len h.Rx)) = true := by simpa using e1
        rw [e1] at hg
        revert hg
        cases MemoryOk h.Memory <;> cases MappingsOk h.Maps <;> cases TxOk h.Tx <;> cases FilterOk h.Filter <;> cases between (len h.Rx) 1 2 <;> simp
  obtain ⟨hn, hp, hv⟩ := hn
  have hc5 : (hostCs h).length = 5 := rfl
  have key1 : impl_HostOk_L1 bad k_ (h.Rx.length + 6) (len h.Rx) 5 h.Steering.Rules h.Steering.Table.Slots h.Steering.Spread.Key h.Steering.Spread.Table (hostCs h) (h.Rx.length + 6) 0 = bif (hostCs h).all (fun r => between (rI r 0) 0 1000000000000) then (k_ (SteeringOk h.Steering (len h.Rx))) else k_ false := by
    refine (loop_rowsN (hostCs h) (impl_HostOk_L1 bad k_ (h.Rx.length + 6) (len h.Rx) 5 h.Steering.Rules h.Steering.Table.Slots h.Steering.Spread.Key h.Steering.Spread.Table (hostCs h)) (fun i r c => bif !(between (rI r 0) 0 1000000000000) then k_ false else c) ((k_ (SteeringOk h.Steering (len h.Rx)))) ?_ ?_ (h.Rx.length + 6) (by omega)).trans (go_all' (fun r => between (rI r 0) 0 1000000000000) (k_ false) ((k_ (SteeringOk h.Steering (len h.Rx)))) (hostCs h) 0)
    · intro n i hi
      rw [impl_HostOk_L1_s]
      have w1 : w64 ((i : Int) + 1) = (i : Int) + 1 := w64_in (by omega) (by omega)
      have hd : decide ((i : Int) < 5) = true := decide_eq_true (by omega)
      simp only [impl_HostOk_l1, hd, idx_nat hi, inl_nat hi, w1, Int.toNat_natCast, andt_true_l, andt_true_r, cond_true]
    · intro n
      rw [impl_HostOk_L1_s]
      rfl
  have key : impl_HostOk_L0 bad k_ (h.Rx.length + 6) (len h.Rx) (len h.Rx) h.Rx h.Pools h.Vectors h.Steering.Rules h.Steering.Table.Slots h.Steering.Spread.Key h.Steering.Spread.Table h.Counters.Frames h.Counters.Bad h.Counters.Filtered h.Counters.Refused h.Counters.Taken (h.Rx.length + 6) 0 = bif anyN (fun i => bif !(RxOk (SRxQueue.decAt (nth h.Rx i) 0)) then true else bif !(PoolOk (SPool.decAt (nth h.Pools i) 0)) then true else !(VectorOk (SVector.decAt (nth h.Vectors i) 0))) h.Rx.length 0 then k_ false else (bif (hostCs h).all (fun r => between (rI r 0) 0 1000000000000) then (k_ (SteeringOk h.Steering (len h.Rx))) else k_ false) := by
    refine (loop_nat (σ := Unit) h.Rx.length (fun n i _ => impl_HostOk_L0 bad k_ (h.Rx.length + 6) (len h.Rx) (len h.Rx) h.Rx h.Pools h.Vectors h.Steering.Rules h.Steering.Table.Slots h.Steering.Spread.Key h.Steering.Spread.Table h.Counters.Frames h.Counters.Bad h.Counters.Filtered h.Counters.Refused h.Counters.Taken n i) (fun i c s => bif bif !(RxOk (SRxQueue.decAt (nth h.Rx i) 0)) then true else bif !(PoolOk (SPool.decAt (nth h.Pools i) 0)) then true else !(VectorOk (SVector.decAt (nth h.Vectors i) 0)) then k_ false else c s) (fun _ => bif (hostCs h).all (fun r => between (rI r 0) 0 1000000000000) then (k_ (SteeringOk h.Steering (len h.Rx))) else k_ false) ?_ ?_ (h.Rx.length + 6) () (by omega)).trans (go_anyN (fun i => bif !(RxOk (SRxQueue.decAt (nth h.Rx i) 0)) then true else bif !(PoolOk (SPool.decAt (nth h.Pools i) 0)) then true else !(VectorOk (SVector.decAt (nth h.Vectors i) 0))) (k_ false) _ h.Rx.length 0)
    · intro n i s hi
      show impl_HostOk_L0 bad k_ (h.Rx.length + 6) (len h.Rx) (len h.Rx) h.Rx h.Pools h.Vectors h.Steering.Rules h.Steering.Table.Slots h.Steering.Spread.Key h.Steering.Spread.Table h.Counters.Frames h.Counters.Bad h.Counters.Filtered h.Counters.Refused h.Counters.Taken (n + 1) (i : Int) = _
      rw [impl_HostOk_L0_s]
      have w1 : w64 ((i : Int) + 1) = (i : Int) + 1 := w64_in (by omega) (by omega)
      have p1 : idx (i : Int) h.Rx = true := idx_nat hi
      have p2 : idx (i : Int) h.Pools = true := idx_nat (by simp only [len] at hp; omega)
      have p3 : idx (i : Int) h.Vectors = true := idx_nat (by simp only [len] at hv; omega)
      have p0 : decide ((i : Int) < len h.Rx) = true := lt_len hi
      simp only [impl_HostOk_l0, p0, p1, p2, p3, w1, Int.toNat_natCast, andt_true_l, andt_true_r, okm_tt, cond_true]
    · intro n s
      show impl_HostOk_L0 bad k_ (h.Rx.length + 6) (len h.Rx) (len h.Rx) h.Rx h.Pools h.Vectors h.Steering.Rules h.Steering.Table.Slots h.Steering.Spread.Key h.Steering.Spread.Table h.Counters.Frames h.Counters.Bad h.Counters.Filtered h.Counters.Refused h.Counters.Taken (n + 1) (h.Rx.length : Int) = _
      rw [impl_HostOk_L0_s]
      have p0 : decide ((h.Rx.length : Int) < len h.Rx) = false := not_lt_len h.Rx
      simp only [impl_HostOk_l0, p0, cond_false]
      exact key1
  refine key.trans ?_

  cases SteeringOk h.Steering (len h.Rx)
  · cases anyN (fun i => bif !(RxOk (SRxQueue.decAt (nth h.Rx i) 0)) then true else bif !(PoolOk (SPool.decAt (nth h.Pools i) 0)) then true else !(VectorOk (SVector.decAt (nth h.Vectors i) 0))) h.Rx.length 0
    · cases (hostCs h).all (fun r => between (rI r 0) 0 1000000000000) <;> rfl
    · rfl
  · cases anyN (fun i => bif !(RxOk (SRxQueue.decAt (nth h.Rx i) 0)) then true else bif !(PoolOk (SPool.decAt (nth h.Pools i) 0)) then true else !(VectorOk (SVector.decAt (nth h.Vectors i) 0))) h.Rx.length 0
    · cases (hostCs h).all (fun r => between (rI r 0) 0 1000000000000) <;> rfl
    · rfl

def spec_HostOk_l0 {α : Type} (bad : α) (k_ : Bool → α) (l1 : Rows → Int → α) (n : Int) (h_13 : Rows) (h_14 : Rows) (h_15 : Rows) (h_29 : Int) (h_30 : Int) (h_31 : Int) (h_32 : Int) (h_33 : Int) (ih0 : Int → α) (k : Int) : α :=
  let z0 : Bool := !(RxOk (SRxQueue.decAt (nth h_13 (Int.toNat k)) 0))
  let z1 : Bool := !(PoolOk (SPool.decAt (nth h_14 (Int.toNat k)) 0))
  let z2 : Bool := andt (andt true (idx k h_13)) (idx k h_14)
  bif decide (k < n) then
    bif okm z0 (andt true (idx k h_13)) (okm z1 z2 (andt z2 (idx k h_15))) then
      bif bif z0 then true else bif z1 then true else !(VectorOk (SVector.decAt (nth h_15 (Int.toNat k)) 0)) then k_ false
      else ih0 (w64 (k + 1))
    else bad
  else l1 ([[.int h_29], [.int h_30], [.int h_31], [.int h_32], [.int h_33]]) 0
def spec_HostOk_l1 {α : Type} (bad : α) (k_ : Bool → α) (list_ : Rows) (ih1 : Int → α) (k_1 : Int) : α :=
  bif decide (k_1 < len list_) then
    bif andt (andt true (idx k_1 list_)) (inl (Int.toNat k_1) list_) then
      bif !(between (rI (nth list_ (Int.toNat k_1)) 0) 0 1000000000000) then k_ false
      else ih1 (w64 (k_1 + 1))
    else bad
  else k_ true
def spec_HostOk_L1 {α : Type} (bad : α) (k_ : Bool → α) (N : Nat) (list_ : Rows) (m_ : Nat) : Int → α :=
  Nat.rec (motive := fun _ => Int → α) (fun _ => bad) (fun _ ih1 => spec_HostOk_l1 bad k_ list_ ih1) m_
theorem spec_HostOk_L1_z {α : Type} (bad : α) (k_ : Bool → α) (N : Nat) (list_ : Rows) (k_1 : Int) : spec_HostOk_L1 bad k_ N list_ 0 k_1 = bad := rfl
theorem spec_HostOk_L1_s {α : Type} (bad : α) (k_ : Bool → α) (N : Nat) (list_ : Rows) (m_ : Nat) (k_1 : Int) : spec_HostOk_L1 bad k_ N list_ (m_ + 1) k_1 = spec_HostOk_l1 bad k_ list_ (spec_HostOk_L1 bad k_ N list_ m_) k_1 := rfl
def spec_HostOk_L0 {α : Type} (bad : α) (k_ : Bool → α) (N : Nat) (n : Int) (h_13 : Rows) (h_14 : Rows) (h_15 : Rows) (h_29 : Int) (h_30 : Int) (h_31 : Int) (h_32 : Int) (h_33 : Int) (m_ : Nat) : Int → α :=
  Nat.rec (motive := fun _ => Int → α) (fun _ => bad) (fun _ ih0 => spec_HostOk_l0 bad k_ (fun list_ => spec_HostOk_L1 bad k_ N list_ N) n h_13 h_14 h_15 h_29 h_30 h_31 h_32 h_33 ih0) m_
theorem spec_HostOk_L0_z {α : Type} (bad : α) (k_ : Bool → α) (N : Nat) (n : Int) (h_13 : Rows) (h_14 : Rows) (h_15 : Rows) (h_29 : Int) (h_30 : Int) (h_31 : Int) (h_32 : Int) (h_33 : Int) (k : Int) : spec_HostOk_L0 bad k_ N n h_13 h_14 h_15 h_29 h_30 h_31 h_32 h_33 0 k = bad := rfl
theorem spec_HostOk_L0_s {α : Type} (bad : α) (k_ : Bool → α) (N : Nat) (n : Int) (h_13 : Rows) (h_14 : Rows) (h_15 : Rows) (h_29 : Int) (h_30 : Int) (h_31 : Int) (h_32 : Int) (h_33 : Int) (m_ : Nat) (k : Int) : spec_HostOk_L0 bad k_ N n h_13 h_14 h_15 h_29 h_30 h_31 h_32 h_33 (m_ + 1) k = spec_HostOk_l0 bad k_ (fun list_ => spec_HostOk_L1 bad k_ N list_ N) n h_13 h_14 h_15 h_29 h_30 h_31 h_32 h_33 (spec_HostOk_L0 bad k_ N n h_13 h_14 h_15 h_29 h_30 h_31 h_32 h_33 m_) k := rfl
def spec_HostOk_t {α : Type} (bad : α) (k_ : Bool → α) (l0 : Int → Rows → Rows → Rows → Int → Int → Int → Int → Int → Int → α) (h : SHost) : α :=
  let z0 : Bool := !(between (len h.Rx) 1 2)
  let z1 : Bool := (len h.Pools) != (len h.Rx)
  let z2 : Bool := (len h.Vectors) != (len h.Rx)
  let z3 : Bool := (len h.Polling) != (len h.Rx)
  bif okm (!(MemoryOk h.Memory)) true (okm (!(MappingsOk h.Maps)) true (okm (!(TxOk h.Tx)) (andt true (txSm h.Tx)) (okm (!(FilterOk h.Filter)) (andt true (txSm h.Tx)) (okm z0 (andt true (txSm h.Tx)) (okm z1 (andt true (txSm h.Tx)) (okm z2 (andt true (txSm h.Tx)) (okm z3 (andt true (txSm h.Tx)) (andt true (txSm h.Tx))))))))) then
    bif bif !(MemoryOk h.Memory) then true else bif !(MappingsOk h.Maps) then true else bif !(TxOk h.Tx) then true else bif !(FilterOk h.Filter) then true else bif z0 then true else bif z1 then true else bif z2 then true else bif z3 then true else !(SteeringOk h.Steering (len h.Rx)) then k_ false
    else l0 (len h.Rx) h.Rx h.Pools h.Vectors h.Counters.Frames h.Counters.Bad h.Counters.Filtered h.Counters.Refused h.Counters.Taken 0
  else bad
def spec_HostOk_f {α : Type} (bad : α) (k_ : Bool → α) (N : Nat) (h : SHost) : α := spec_HostOk_t bad k_ (fun n h_13 h_14 h_15 h_29 h_30 h_31 h_32 h_33 => spec_HostOk_L0 bad k_ N n h_13 h_14 h_15 h_29 h_30 h_31 h_32 h_33 N) h
theorem spec_HostOk_c {α : Type} (bad : α) (k_ : Bool → α) (h : SHost) (h_h : WtL SHost.ct h.enc) (hok : hostSm h = true) : ∃ N, spec_HostOk_f bad k_ N h = k_ (HostOk h) := by
  have hq : txSm h.Tx = true := hok
  refine ⟨h.Rx.length + 6, ?_⟩
  unfold spec_HostOk_f spec_HostOk_t HostOk

  simp only [hq, andt_true_l, andt_true_r, okm_tt, cond_true]
  rw [nine]
  show (bif (bif host8 h then true else !(SteeringOk h.Steering (len h.Rx))) then k_ false else _) = _
  rcases Bool.eq_false_or_eq_true (host8 h) with hg | hg
  · rw [hg]; rfl
  rcases Bool.eq_false_or_eq_true (SteeringOk h.Steering (len h.Rx)) with hs | hs
  case inr =>
    rw [hg, hs]; rfl
  simp only [hg, hs, Bool.not_true, cond_false, cond_true]

  have hn : h.Rx.length ≤ 2 ∧ len h.Pools = len h.Rx ∧ len h.Vectors = len h.Rx := by
    unfold host8 at hg
    cases h5 : between (len h.Rx) 1 2
    · rw [h5] at hg
      revert hg
      cases MemoryOk h.Memory <;> cases MappingsOk h.Maps <;> cases TxOk h.Tx <;> cases FilterOk h.Filter <;> simp
    · have b := (between_iff.1 h5).2
      by_cases e1 : len h.Pools = len h.Rx
      · by_cases e2 : len h.Vectors = len h.Rx
        · exact ⟨by simp only [len] at b; omega, e1, e2⟩
        · have e2 : ((len h.Vectors) != (len h.Rx)) = true := by simpa using e2
          rw [e2] at hg
          revert hg
          cases MemoryOk h.Memory <;> cases MappingsOk h.Maps <;> cases TxOk h.Tx <;> cases FilterOk h.Filter <;> cases between (len h.Rx) 1 2 <;> cases ((len h.Pools) != (len h.Rx)) <;> simp
      · have e1 : ((len h.Pools) != (len h.Rx)) = true := by simpa using e1
        rw [e1] at hg
        revert hg
        cases MemoryOk h.Memory <;> cases MappingsOk h.Maps <;> cases TxOk h.Tx <;> cases FilterOk h.Filter <;> cases between (len h.Rx) 1 2 <;> simp
  obtain ⟨hn, hp, hv⟩ := hn
  have hc5 : (hostCs h).length = 5 := rfl
  have key1 : spec_HostOk_L1 bad k_ (h.Rx.length + 6) (hostCs h) (h.Rx.length + 6) 0 = bif (hostCs h).all (fun r => between (rI r 0) 0 1000000000000) then (k_ true) else k_ false := by
    refine (loop_rowsN (hostCs h) (spec_HostOk_L1 bad k_ (h.Rx.length + 6) (hostCs h)) (fun i r c => bif !(between (rI r 0) 0 1000000000000) then k_ false else c) ((k_ true)) ?_ ?_ (h.Rx.length + 6) (by omega)).trans (go_all' (fun r => between (rI r 0) 0 1000000000000) (k_ false) ((k_ true)) (hostCs h) 0)
    · intro n i hi
      rw [spec_HostOk_L1_s]
      have w1 : w64 ((i : Int) + 1) = (i : Int) + 1 := w64_in (by omega) (by omega)
      simp only [spec_HostOk_l1, lt_len hi, idx_nat hi, inl_nat hi, w1, Int.toNat_natCast, andt_true_l, andt_true_r, cond_true]
    · intro n
      rw [spec_HostOk_L1_s]
      rfl
  have key : spec_HostOk_L0 bad k_ (h.Rx.length + 6) (len h.Rx) h.Rx h.Pools h.Vectors h.Counters.Frames h.Counters.Bad h.Counters.Filtered h.Counters.Refused h.Counters.Taken (h.Rx.length + 6) 0 = bif anyN (fun i => bif !(RxOk (SRxQueue.decAt (nth h.Rx i) 0)) then true else bif !(PoolOk (SPool.decAt (nth h.Pools i) 0)) then true else !(VectorOk (SVector.decAt (nth h.Vectors i) 0))) h.Rx.length 0 then k_ false else (bif (hostCs h).all (fun r => between (rI r 0) 0 1000000000000) then (k_ true) else k_ false) := by
    refine (loop_nat (σ := Unit) h.Rx.length (fun n i _ => spec_HostOk_L0 bad k_ (h.Rx.length + 6) (len h.Rx) h.Rx h.Pools h.Vectors h.Counters.Frames h.Counters.Bad h.Counters.Filtered h.Counters.Refused h.Counters.Taken n i) (fun i c s => bif bif !(RxOk (SRxQueue.decAt (nth h.Rx i) 0)) then true else bif !(PoolOk (SPool.decAt (nth h.Pools i) 0)) then true else !(VectorOk (SVector.decAt (nth h.Vectors i) 0)) then k_ false else c s) (fun _ => bif (hostCs h).all (fun r => between (rI r 0) 0 1000000000000) then (k_ true) else k_ false) ?_ ?_ (h.Rx.length + 6) () (by omega)).trans (go_anyN (fun i => bif !(RxOk (SRxQueue.decAt (nth h.Rx i) 0)) then true else bif !(PoolOk (SPool.decAt (nth h.Pools i) 0)) then true else !(VectorOk (SVector.decAt (nth h.Vectors i) 0))) (k_ false) _ h.Rx.length 0)
    · intro n i s hi
      show spec_HostOk_L0 bad k_ (h.Rx.length + 6) (len h.Rx) h.Rx h.Pools h.Vectors h.Counters.Frames h.Counters.Bad h.Counters.Filtered h.Counters.Refused h.Counters.Taken (n + 1) (i : Int) = _
      rw [spec_HostOk_L0_s]
      have w1 : w64 ((i : Int) + 1) = (i : Int) + 1 := w64_in (by omega) (by omega)
      have p1 : idx (i : Int) h.Rx = true := idx_nat hi
      have p2 : idx (i : Int) h.Pools = true := idx_nat (by simp only [len] at hp; omega)
      have p3 : idx (i : Int) h.Vectors = true := idx_nat (by simp only [len] at hv; omega)
      have p0 : decide ((i : Int) < len h.Rx) = true := lt_len hi
      simp only [spec_HostOk_l0, p0, p1, p2, p3, w1, Int.toNat_natCast, andt_true_l, andt_true_r, okm_tt, cond_true]
    · intro n s
      show spec_HostOk_L0 bad k_ (h.Rx.length + 6) (len h.Rx) h.Rx h.Pools h.Vectors h.Counters.Frames h.Counters.Bad h.Counters.Filtered h.Counters.Refused h.Counters.Taken (n + 1) (h.Rx.length : Int) = _
      rw [spec_HostOk_L0_s]
      have p0 : decide ((h.Rx.length : Int) < len h.Rx) = false := not_lt_len h.Rx
      simp only [spec_HostOk_l0, p0, cond_false]
      exact key1
  refine key.trans ?_

  cases anyN (fun i => bif !(RxOk (SRxQueue.decAt (nth h.Rx i) 0)) then true else bif !(PoolOk (SPool.decAt (nth h.Pools i) 0)) then true else !(VectorOk (SVector.decAt (nth h.Vectors i) 0))) h.Rx.length 0
  · cases (hostCs h).all (fun r => between (rI r 0) 0 1000000000000) <;> rfl
  · rfl

end
end Go.Proofs.YtdlelfondkajbaaGreat.Pl
