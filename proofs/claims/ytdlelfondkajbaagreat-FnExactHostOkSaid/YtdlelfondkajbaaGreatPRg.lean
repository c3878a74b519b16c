/- What functions of the program compute, in plain Lean, as the value machine runs them. Conditions: none. -/
import Derived.Test.YtdlelfondkajbaaGreatPMo
set_option linter.unusedVariables false
set_option linter.unusedSimpArgs false
set_option maxRecDepth 100000
namespace Go.Proofs.YtdlelfondkajbaaGreat.Pl
open Vm
noncomputable section


def impl_ringSize_t {α : Type} (k_ : Bool → α) (n : Int) : α :=
  k_ (bif n == 2 then true else bif n == 4 then true else bif n == 8 then true else n == 16)
def ringSize (n : Int) : Bool := impl_ringSize_t id n
theorem impl_ringSize_c {α : Type} (k_ : Bool → α) (n : Int) : impl_ringSize_t k_ n = k_ (ringSize n) := by
  rfl

def spec_l20Size_t {α : Type} (k_ : Bool → α) (n : Int) : α :=
  k_ (bif n == 2 then true else bif n == 4 then true else bif n == 8 then true else n == 16)
theorem spec_l20Size_c {α : Type} (k_ : Bool → α) (n : Int) (h_n : WtC (.int .i64) (.int n)) : spec_l20Size_t k_ n = k_ (ringSize n) := by
  exact rfl

def impl_tableSize_t {α : Type} (k_ : Bool → α) (n : Int) : α :=
  k_ (bif n == 1 then true else bif n == 2 then true else bif n == 4 then true else bif n == 8 then true else n == 16)
def tableSize (n : Int) : Bool := impl_tableSize_t id n
theorem impl_tableSize_c {α : Type} (k_ : Bool → α) (n : Int) : impl_tableSize_t k_ n = k_ (tableSize n) := by
  rfl

def spec_l12Size_t {α : Type} (k_ : Bool → α) (n : Int) : α :=
  k_ (bif n == 1 then true else bif n == 2 then true else bif n == 4 then true else bif n == 8 then true else n == 16)
theorem spec_l12Size_c {α : Type} (k_ : Bool → α) (n : Int) (h_n : WtC (.int .i64) (.int n)) : spec_l12Size_t k_ n = k_ (tableSize n) := by
  exact rfl

def impl_modulo_t {α : Type} (bad : α) (k_ : Int → α) (x : Int) (n : Int) : α :=
  bif andt true (!(n == 0)) then
    k_ (bif decide (Int.tmod x n < 0) then w64 ((Int.tmod x n) + n) else Int.tmod x n)
  else bad
def modulo_ok (x : Int) (n : Int) : Bool := impl_modulo_t false (fun _ => true) x n
def modulo (x : Int) (n : Int) : Int := (impl_modulo_t none (fun r0 => some (r0)) x n).getD 0
theorem impl_modulo_c {α : Type} (bad : α) (k_ : Int → α) (x : Int) (n : Int) (hok : modulo_ok x n = true) : impl_modulo_t bad k_ x n = k_ (modulo x n) := by
  exact part_all (K := fun r : Int => k_ r) (part_guard part_leaf) hok

def impl_RingUsed_t {α : Type} (bad : α) (k_ : Int → α) (r : SRing) : α :=
  let z0 : Int := w64 ((modulo r.Tail (w64 (2 * r.Size))) - (modulo r.Head (w64 (2 * r.Size))))
  bif !(ringSize r.Size) then k_ 0
  else bif andt (andt (andt true (modulo_ok r.Tail (w64 (2 * r.Size)))) (modulo_ok r.Head (w64 (2 * r.Size)))) (modulo_ok z0 (w64 (2 * r.Size))) then
      k_ (modulo z0 (w64 (2 * r.Size)))
    else bad
theorem and_mask (k : Nat) (hk : k ≤ 62) (a : Int) : bits .and .i64 a ((2 ^ k - 1 : Nat) : Int) = a % ((2 ^ k : Nat) : Int) := by
  have hp : 2 ^ k ≤ 2 ^ 62 := Nat.pow_le_pow_right (by decide) hk
  have h62 : (2 : Nat) ^ 62 = 4611686018427387904 := by decide
  have hd : 2 ^ k ∣ (18446744073709551616 : Nat) := by
    rw [show (18446744073709551616 : Nat) = 2 ^ 64 by decide]
    exact Nat.pow_dvd_pow 2 (by omega)
  have hc : (BitVec.ofInt 64 ((2 ^ k - 1 : Nat) : Int)).toNat = 2 ^ k - 1 := by
    rw [BitVec.ofInt_natCast, BitVec.toNat_ofNat]
    exact Nat.mod_eq_of_lt (by omega)
  have hn : (BitVec.ofInt 64 a &&& BitVec.ofInt 64 ((2 ^ k - 1 : Nat) : Int)).toNat = (a % 18446744073709551616).toNat % 2 ^ k := by
    rw [BitVec.toNat_and, hc, Nat.and_two_pow_sub_one_eq_mod, BitVec.toNat_ofInt]
    rfl
  have hlt : (a % 18446744073709551616).toNat % 2 ^ k < 2 ^ k := Nat.mod_lt _ (Nat.pos_of_ne_zero (by intro h; have := Nat.two_pow_pos k; omega))
  have h63 : (((BitVec.ofInt 64 a &&& BitVec.ofInt 64 ((2 ^ k - 1 : Nat) : Int)).toNat : Nat) : Int) < 2 ^ 63 := by
    rw [hn]
    have : (2 : Int) ^ 63 = 9223372036854775808 := by decide
    rw [this]
    omega
  have e : bits .and .i64 a ((2 ^ k - 1 : Nat) : Int) = (((BitVec.ofInt 64 a &&& BitVec.ofInt 64 ((2 ^ k - 1 : Nat) : Int)).toNat : Nat) : Int) :=
    wraps_i64 (((BitVec.ofInt 64 a &&& BitVec.ofInt 64 ((2 ^ k - 1 : Nat) : Int)).toNat : Nat) : Int) (Int.natCast_nonneg _) h63
  rw [e, hn, Int.natCast_emod, Int.toNat_of_nonneg (Int.emod_nonneg _ (by decide)), Int.emod_emod_of_dvd]
  exact Int.natCast_dvd_natCast.2 hd
theorem and_3 (a : Int) : bits .and .i64 a 3 = a % 4 := and_mask 2 (by decide) a
theorem and_7 (a : Int) : bits .and .i64 a 7 = a % 8 := and_mask 3 (by decide) a
theorem and_15 (a : Int) : bits .and .i64 a 15 = a % 16 := and_mask 4 (by decide) a
theorem and_31 (a : Int) : bits .and .i64 a 31 = a % 32 := and_mask 5 (by decide) a
theorem ringSize_cases {n : Int} (h : ringSize n = true) : n = 2 ∨ n = 4 ∨ n = 8 ∨ n = 16 := by
  unfold ringSize impl_ringSize_t at h
  by_cases h2 : n = 2
  · exact .inl h2
  by_cases h4 : n = 4
  · exact .inr (.inl h4)
  by_cases h8 : n = 8
  · exact .inr (.inr (.inl h8))
  by_cases h16 : n = 16
  · exact .inr (.inr (.inr h16))
  simp [h2, h4, h8, h16] at h
theorem modulo_pos {x n : Int} (hx : -9223372036854775808 ≤ x) (hx' : x ≤ 9223372036854775807) (h : 0 < n) (h' : n ≤ 1000000) : modulo_ok x n = true ∧ modulo x n = x % n := by
  have hn : (n == 0) = false := by simp; omega
  have e : modulo x n = bif decide (Int.tmod x n < 0) then w64 ((Int.tmod x n) + n) else Int.tmod x n := by
    unfold modulo impl_modulo_t
    rw [hn]
    rfl
  refine ⟨by unfold modulo_ok impl_modulo_t; rw [hn]; rfl, ?_⟩
  rw [e]
  have h1 := Int.tmod_eq_emod (a := x) (b := n)
  have h2 := Int.emod_nonneg x (show n ≠ 0 by omega)
  have h3 := Int.emod_lt_of_pos x h
  by_cases hl : Int.tmod x n < 0
  · rw [decide_eq_true hl, cond_true]
    split at h1
    · omega
    · have hna : ((n.natAbs : Nat) : Int) = n := by omega
      rw [hna] at h1
      rw [w64_in (by omega) (by omega)]
      omega
  · rw [decide_eq_false hl, cond_false]
    split at h1
    · omega
    · have hna : ((n.natAbs : Nat) : Int) = n := by omega
      rw [hna] at h1
      omega
def RingUsed (r : SRing) : Int := bif ringSize r.Size then (r.Tail - r.Head) % (2 * r.Size) else 0
theorem impl_RingUsed_c {α : Type} (bad : α) (k_ : Int → α) (r : SRing) (h_r : WtL SRing.ct r.enc) : impl_RingUsed_t bad k_ r = k_ (RingUsed r) := by
  have ht := wt_int (SRing.wt_Tail h_r)
  have hh := wt_int (SRing.wt_Head h_r)
  unfold impl_RingUsed_t RingUsed
  cases hs : ringSize r.Size
  · rfl
  · have h2 : w64 (2 * r.Size) = 2 * r.Size ∧ 0 < 2 * r.Size ∧ 2 * r.Size ≤ 32 := by
      rcases ringSize_cases hs with h | h | h | h <;> rw [h] <;> exact ⟨rfl, by decide, by decide⟩
    obtain ⟨h2, h3, h4⟩ := h2
    obtain ⟨a1, a2⟩ := modulo_pos ht.1 ht.2 h3 (by omega)
    obtain ⟨b1, b2⟩ := modulo_pos hh.1 hh.2 h3 (by omega)
    have n1 := Int.emod_nonneg r.Tail (show 2 * r.Size ≠ 0 by omega)
    have n2 := Int.emod_lt_of_pos r.Tail h3
    have m1 := Int.emod_nonneg r.Head (show 2 * r.Size ≠ 0 by omega)
    have m2 := Int.emod_lt_of_pos r.Head h3
    have hw : w64 (r.Tail % (2 * r.Size) - r.Head % (2 * r.Size)) = r.Tail % (2 * r.Size) - r.Head % (2 * r.Size) := w64_in (by omega) (by omega)
    obtain ⟨c1, c2⟩ := modulo_pos (x := r.Tail % (2 * r.Size) - r.Head % (2 * r.Size)) (by omega) (by omega) h3 (by omega)
    simp only [h2, a1, a2, b1, b2, hw, c1, c2, andt_true_l, andt_true_r, cond_true, Bool.not_true, cond_false]
    rw [← Int.sub_emod]

def spec_RingUsed_t {α : Type} (k_ : Int → α) (r : SRing) : α :=
  bif !(ringSize r.Size) then k_ 0
  else k_ (bits .and .i64 (w64 (r.Tail - r.Head)) (w64 ((w64 (2 * r.Size)) - 1)))
theorem spec_RingUsed_c {α : Type} (k_ : Int → α) (r : SRing) (h_r : WtL SRing.ct r.enc) : spec_RingUsed_t k_ r = k_ (RingUsed r) := by
  unfold spec_RingUsed_t RingUsed
  cases hs : ringSize r.Size
  · rfl
  · have key : bits .and .i64 (w64 (r.Tail - r.Head)) (w64 ((w64 (2 * r.Size)) - 1)) = (r.Tail - r.Head) % (2 * r.Size) := by
      rcases ringSize_cases hs with h | h | h | h <;> rw [h]
      · exact (and_3 _).trans (by rw [w64_eq]; show _ = (r.Tail - r.Head) % 4; omega)
      · exact (and_7 _).trans (by rw [w64_eq]; show _ = (r.Tail - r.Head) % 8; omega)
      · exact (and_15 _).trans (by rw [w64_eq]; show _ = (r.Tail - r.Head) % 16; omega)
      · exact (and_31 _).trans (by rw [w64_eq]; show _ = (r.Tail - r.Head) % 32; omega)
    simp only [key, Bool.not_true, cond_false, cond_true]

def impl_RingOk_t {α : Type} (k_ : Bool → α) (r : SRing) : α :=
  let z0 : Int := w64 ((w64 (2 * r.Size)) - 1)
  k_ (bif between r.Base 0 130944 then bif ringSize r.Size then bif between r.Head 0 z0 then bif between r.Tail 0 z0 then decide (RingUsed r ≤ r.Size) else false else false else false else false)
def RingOk (r : SRing) : Bool := impl_RingOk_t id r
theorem impl_RingOk_c {α : Type} (k_ : Bool → α) (r : SRing) : impl_RingOk_t k_ r = k_ (RingOk r) := by
  rfl

def spec_RingOk_t {α : Type} (k_ : Bool → α) (r : SRing) : α :=
  let z0 : Int := w64 ((w64 (2 * r.Size)) - 1)
  k_ (bif between r.Base 0 130944 then bif ringSize r.Size then bif between r.Head 0 z0 then bif between r.Tail 0 z0 then decide (RingUsed r ≤ r.Size) else false else false else false else false)
theorem spec_RingOk_c {α : Type} (k_ : Bool → α) (r : SRing) (h_r : WtL SRing.ct r.enc) : spec_RingOk_t k_ r = k_ (RingOk r) := by
  exact rfl

def impl_QueueOk_t {α : Type} (k_ : Bool → α) (q : SCompletionQueue) : α :=
  k_ (bif between q.Base 0 130944 then bif ringSize q.Size then between q.Count 0 (w64 ((w64 (2 * q.Size)) - 1)) else false else false)
def QueueOk (q : SCompletionQueue) : Bool := impl_QueueOk_t id q
theorem impl_QueueOk_c {α : Type} (k_ : Bool → α) (q : SCompletionQueue) : impl_QueueOk_t k_ q = k_ (QueueOk q) := by
  rfl

def spec_QueueOk_t {α : Type} (k_ : Bool → α) (q : SCompletionQueue) : α :=
  k_ (bif between q.Base 0 130944 then bif ringSize q.Size then between q.Count 0 (w64 ((w64 (2 * q.Size)) - 1)) else false else false)
theorem spec_QueueOk_c {α : Type} (k_ : Bool → α) (q : SCompletionQueue) (h_q : WtL SCompletionQueue.ct q.enc) : spec_QueueOk_t k_ q = k_ (QueueOk q) := by
  exact rfl

def impl_due_t {α : Type} (k_ : Bool → α) (v : SVector) : α :=
  k_ (bif decide (1 ≤ v.Count) then bif decide (v.MaxCount ≤ v.Count) then true else decide (v.MaxTime ≤ v.Time) else false)
def due (v : SVector) : Bool := impl_due_t id v
theorem impl_due_c {α : Type} (k_ : Bool → α) (v : SVector) : impl_due_t k_ v = k_ (due v) := by
  rfl

def spec_l28Due_t {α : Type} (k_ : Bool → α) (v : SVector) : α :=
  k_ (bif decide (1 ≤ v.Count) then bif decide (v.MaxCount ≤ v.Count) then true else decide (v.MaxTime ≤ v.Time) else false)
theorem spec_l28Due_c {α : Type} (k_ : Bool → α) (v : SVector) (h_v : WtL SVector.ct v.enc) : spec_l28Due_t k_ v = k_ (due v) := by
  exact rfl

def impl_VectorOk_t {α : Type} (k_ : Bool → α) (v : SVector) : α :=
  let z0 : Bool := bif due v then v.Raised == !v.Masked else v.Raised == false
  bif bif !(between v.MaxCount 1 64) then true else bif !(between v.MaxTime 0 64) then true else bif !(between v.Count 0 1000000) then true else !(between v.Time 0 1000000) then k_ false
  else k_ (bif decide (0 < v.Count) then z0 else bif v.Time == 0 then z0 else false)
def VectorOk (v : SVector) : Bool := impl_VectorOk_t id v
theorem impl_VectorOk_c {α : Type} (k_ : Bool → α) (v : SVector) : impl_VectorOk_t k_ v = k_ (VectorOk v) := by
  exact cond_k rfl rfl

def spec_VectorOk_t {α : Type} (k_ : Bool → α) (v : SVector) : α :=
  let z0 : Bool := bif due v then v.Raised == !v.Masked else v.Raised == false
  bif bif !(between v.MaxCount 1 64) then true else bif !(between v.MaxTime 0 64) then true else bif !(between v.Count 0 1000000) then true else !(between v.Time 0 1000000) then k_ false
  else k_ (bif decide (0 < v.Count) then z0 else bif v.Time == 0 then z0 else false)
theorem spec_VectorOk_c {α : Type} (k_ : Bool → α) (v : SVector) (h_v : WtL SVector.ct v.enc) : spec_VectorOk_t k_ v = k_ (VectorOk v) := by
  exact cond_k rfl rfl

def impl_RxOk_t {α : Type} (k_ : Bool → α) (q : SRxQueue) : α :=
  bif bif !(RingOk q.Ring) then true else bif !(QueueOk q.Device) then true else bif !(QueueOk q.Driver) then true else bif q.Device.Base != q.Driver.Base then true else bif q.Device.Size != q.Driver.Size then true else !(between q.Dropped 0 1000000000000) then k_ false
  else bif !q.Holding then k_ (bif bif q.Held.Packet.DstMac == 0 then bif q.Held.Packet.SrcMac == 0 then bif q.Held.Packet.Vlan == 0 then bif q.Held.Packet.Tos == 0 then bif q.Held.Packet.Id == 0 then bif q.Held.Packet.Ttl == 0 then bif q.Held.Packet.SrcIp == 0 then bif q.Held.Packet.DstIp == 0 then bif bif q.Held.Packet.Seg.Kind == 0 then bif q.Held.Packet.Seg.SrcPort == 0 then bif q.Held.Packet.Seg.DstPort == 0 then bif q.Held.Packet.Seg.Seq == 0 then bif q.Held.Packet.Seg.Ack == 0 then bif q.Held.Packet.Seg.Flags == 0 then bif q.Held.Packet.Seg.Window == 0 then bif q.Held.Packet.Seg.Body == [] then true else false else false else false else false else false else false else false else false then true else false else false else false else false else false else false else false else false else false then bif q.Held.Size == 0 then bif q.Held.Count == 0 then true else false else false else false)
  else k_ (bif SuperOk q.Held.Packet then bif between q.Held.Size 0 320 then between q.Held.Count 1 320 else false else false)
def RxOk (q : SRxQueue) : Bool := impl_RxOk_t id q
theorem impl_RxOk_c {α : Type} (k_ : Bool → α) (q : SRxQueue) : impl_RxOk_t k_ q = k_ (RxOk q) := by
  exact cond_k rfl (cond_k rfl rfl)

def spec_RxOk_t {α : Type} (k_ : Bool → α) (q : SRxQueue) : α :=
  bif bif !(RingOk q.Ring) then true else bif !(QueueOk q.Device) then true else bif !(QueueOk q.Driver) then true else bif q.Device.Base != q.Driver.Base then true else bif q.Device.Size != q.Driver.Size then true else !(between q.Dropped 0 1000000000000) then k_ false
  else bif !q.Holding then k_ (bif bif q.Held.Packet.DstMac == 0 then bif q.Held.Packet.SrcMac == 0 then bif q.Held.Packet.Vlan == 0 then bif q.Held.Packet.Tos == 0 then bif q.Held.Packet.Id == 0 then bif q.Held.Packet.Ttl == 0 then bif q.Held.Packet.SrcIp == 0 then bif q.Held.Packet.DstIp == 0 then bif bif q.Held.Packet.Seg.Kind == 0 then bif q.Held.Packet.Seg.SrcPort == 0 then bif q.Held.Packet.Seg.DstPort == 0 then bif q.Held.Packet.Seg.Seq == 0 then bif q.Held.Packet.Seg.Ack == 0 then bif q.Held.Packet.Seg.Flags == 0 then bif q.Held.Packet.Seg.Window == 0 then bif q.Held.Packet.Seg.Body == [] then true else false else false else false else false else false else false else false else false then true else false else false else false else false else false else false else false else false else false then bif q.Held.Size == 0 then bif q.Held.Count == 0 then true else false else false else false)
  else k_ (bif SuperOk q.Held.Packet then bif between q.Held.Size 0 320 then between q.Held.Count 1 320 else false else false)
theorem spec_RxOk_c {α : Type} (k_ : Bool → α) (q : SRxQueue) (h_q : WtL SRxQueue.ct q.enc) : spec_RxOk_t k_ q = k_ (RxOk q) := by
  exact cond_k rfl (cond_k rfl rfl)

def impl_RuleOk_t {α : Type} (k_ : Bool → α) (r : SRule) : α :=
  let z0 : Bool := bif !(between r.SrcIp 0 4294967295) then true else !(between r.SrcBits 0 32)
  let z1 : Bool := bif r.Action == 1 then r.Queue == 0 else false
  bif bif !(between r.Priority 0 1000) then true else bif r.Kind != 0 then bif r.Kind != 6 then bif r.Kind != 17 then true else z0 else z0 else z0 then k_ false
  else bif bif decide (r.FirstPort < 0) then true else bif decide (r.LastPort < r.FirstPort) then true else bif decide (65535 < r.LastPort) then true else !(between r.Vlan (-2) 4095) then k_ false
  else k_ (bif r.Action == 0 then bif between r.Queue 0 3 then true else z1 else z1)
def RuleOk (r : SRule) : Bool := impl_RuleOk_t id r
theorem impl_RuleOk_c {α : Type} (k_ : Bool → α) (r : SRule) : impl_RuleOk_t k_ r = k_ (RuleOk r) := by
  exact cond_k rfl (cond_k rfl rfl)

def spec_RuleOk_t {α : Type} (k_ : Bool → α) (r : SRule) : α :=
  let z0 : Bool := bif !(between r.SrcIp 0 4294967295) then true else !(between r.SrcBits 0 32)
  let z1 : Bool := bif r.Action == 1 then r.Queue == 0 else false
  bif bif !(between r.Priority 0 1000) then true else bif r.Kind != 0 then bif r.Kind != 6 then bif r.Kind != 17 then true else z0 else z0 else z0 then k_ false
  else bif bif decide (r.FirstPort < 0) then true else bif decide (r.LastPort < r.FirstPort) then true else bif decide (65535 < r.LastPort) then true else !(between r.Vlan (-2) 4095) then k_ false
  else k_ (bif r.Action == 0 then bif between r.Queue 0 3 then true else z1 else z1)
theorem spec_RuleOk_c {α : Type} (k_ : Bool → α) (r : SRule) (h_r : WtL SRule.ct r.enc) : spec_RuleOk_t k_ r = k_ (RuleOk r) := by
  exact cond_k rfl (cond_k rfl rfl)

def impl_RulesOk_l0 {α : Type} (bad : α) (k_ : Bool → α) (list_ : Rows) (x : Rows) (x_1 : Int) (ih0 : Int → α) (x_2 : Int) : α :=
  bif decide (x_2 < x_1) then
    bif andt true (idx x_2 x) then
      bif !(RuleOk (SRule.decAt (nth x (Int.toNat x_2)) 0)) then k_ false
      else ih0 (w64 (x_2 + 1))
    else bad
  else k_ (decide (len list_ ≤ 12))
def impl_RulesOk_L0 {α : Type} (bad : α) (k_ : Bool → α) (N : Nat) (list_ : Rows) (x : Rows) (x_1 : Int) (m_ : Nat) : Int → α :=
  Nat.rec (motive := fun _ => Int → α) (fun _ => bad) (fun _ ih0 => impl_RulesOk_l0 bad k_ list_ x x_1 ih0) m_
theorem impl_RulesOk_L0_z {α : Type} (bad : α) (k_ : Bool → α) (N : Nat) (list_ : Rows) (x : Rows) (x_1 : Int) (x_2 : Int) : impl_RulesOk_L0 bad k_ N list_ x x_1 0 x_2 = bad := rfl
theorem impl_RulesOk_L0_s {α : Type} (bad : α) (k_ : Bool → α) (N : Nat) (list_ : Rows) (x : Rows) (x_1 : Int) (m_ : Nat) (x_2 : Int) : impl_RulesOk_L0 bad k_ N list_ x x_1 (m_ + 1) x_2 = impl_RulesOk_l0 bad k_ list_ x x_1 (impl_RulesOk_L0 bad k_ N list_ x x_1 m_) x_2 := rfl
def impl_RulesOk_t {α : Type} (bad : α) (k_ : Bool → α) (l0 : Rows → Int → Int → α) (list_ : Rows) : α :=
  l0 list_ (len list_) 0
def impl_RulesOk_f {α : Type} (bad : α) (k_ : Bool → α) (N : Nat) (list_ : Rows) : α := impl_RulesOk_t bad k_ (fun x x_1 => impl_RulesOk_L0 bad k_ N list_ x x_1 N) list_
def RulesOk (list_ : Rows) : Bool := bif list_.all (fun r => RuleOk (SRule.decAt r 0)) then decide (len list_ ≤ 12) else false
theorem impl_RulesOk_c {α : Type} (bad : α) (k_ : Bool → α) (list_ : Rows) (h_list_ : WtC (.sl [.int .i64, .int .i64, .int .i64, .int .i64, .int .i64, .int .i64, .int .i64, .int .i64, .int .i64]) (.sl list_)) : ∃ N, impl_RulesOk_f bad k_ N list_ = k_ (RulesOk list_) := by
  obtain ⟨hl, _⟩ := wt_sl h_list_
  refine ⟨list_.length + 1, ?_⟩
  unfold impl_RulesOk_f impl_RulesOk_t
  refine (loop_rows0 list_ (impl_RulesOk_L0 bad k_ (list_.length + 1) list_ list_ (len list_)) (fun i r c => bif !(RuleOk (SRule.decAt r 0)) then k_ false else c) (k_ (decide (len list_ ≤ 12))) ?_ ?_).trans ?_
  · intro n i h
    rw [impl_RulesOk_L0_s]
    simp only [impl_RulesOk_l0, lt_len h, idx_nat h, w64_succ h hl, Int.toNat_natCast, andt_true_l, andt_true_r, cond_true]
  · intro n
    rw [impl_RulesOk_L0_s]
    simp only [impl_RulesOk_l0, not_lt_len, cond_false]
  · refine (go_all' (fun r => RuleOk (SRule.decAt r 0)) _ _ list_ 0).trans ?_
    exact cond_k rfl rfl

def spec_RulesOk_l0 {α : Type} (bad : α) (k_ : Bool → α) (list_ : Rows) (ih0 : Int → α) (k : Int) : α :=
  bif decide (k < len list_) then
    bif andt true (idx k list_) then
      bif !(RuleOk (SRule.decAt (nth list_ (Int.toNat k)) 0)) then k_ false
      else ih0 (w64 (k + 1))
    else bad
  else k_ (decide (len list_ ≤ 12))
def spec_RulesOk_L0 {α : Type} (bad : α) (k_ : Bool → α) (N : Nat) (list_ : Rows) (m_ : Nat) : Int → α :=
  Nat.rec (motive := fun _ => Int → α) (fun _ => bad) (fun _ ih0 => spec_RulesOk_l0 bad k_ list_ ih0) m_
theorem spec_RulesOk_L0_z {α : Type} (bad : α) (k_ : Bool → α) (N : Nat) (list_ : Rows) (k : Int) : spec_RulesOk_L0 bad k_ N list_ 0 k = bad := rfl
theorem spec_RulesOk_L0_s {α : Type} (bad : α) (k_ : Bool → α) (N : Nat) (list_ : Rows) (m_ : Nat) (k : Int) : spec_RulesOk_L0 bad k_ N list_ (m_ + 1) k = spec_RulesOk_l0 bad k_ list_ (spec_RulesOk_L0 bad k_ N list_ m_) k := rfl
def spec_RulesOk_t {α : Type} (bad : α) (k_ : Bool → α) (l0 : Int → α) (list_ : Rows) : α :=
  l0 0
def spec_RulesOk_f {α : Type} (bad : α) (k_ : Bool → α) (N : Nat) (list_ : Rows) : α := spec_RulesOk_t bad k_ (spec_RulesOk_L0 bad k_ N list_ N) list_
theorem spec_RulesOk_c {α : Type} (bad : α) (k_ : Bool → α) (list_ : Rows) (h_list_ : WtC (.sl [.int .i64, .int .i64, .int .i64, .int .i64, .int .i64, .int .i64, .int .i64, .int .i64, .int .i64]) (.sl list_)) : ∃ N, spec_RulesOk_f bad k_ N list_ = k_ (RulesOk list_) := by
  obtain ⟨hl, _⟩ := wt_sl h_list_
  refine ⟨list_.length + 1, ?_⟩
  unfold spec_RulesOk_f spec_RulesOk_t
  refine (loop_rows0 list_ (spec_RulesOk_L0 bad k_ (list_.length + 1) list_) (fun i r c => bif !(RuleOk (SRule.decAt r 0)) then k_ false else c) (k_ (decide (len list_ ≤ 12))) ?_ ?_).trans ?_
  · intro n i h
    rw [spec_RulesOk_L0_s]
    simp only [spec_RulesOk_l0, lt_len h, idx_nat h, w64_succ h hl, Int.toNat_natCast, andt_true_l, andt_true_r, cond_true]
  · intro n
    rw [spec_RulesOk_L0_s]
    simp only [spec_RulesOk_l0, not_lt_len, cond_false]
  · refine (go_all' (fun r => RuleOk (SRule.decAt r 0)) _ _ list_ 0).trans ?_
    exact cond_k rfl rfl

def impl_copyInts_t {α : Type} (bad : α) (k_ : Rows → α) (l : Rows) : α :=
  bif andt true (room2 8 [] l) then
    k_ l
  else bad
theorem impl_copyInts_c {α : Type} (bad : α) (k_ : Rows → α) (l : Rows) (h_l : WtC (.sl [.int .i64]) (.sl l)) (hok : sm l = true) : impl_copyInts_t bad k_ l = k_ (idf l) := by
  unfold impl_copyInts_t
  rw [room2_sm hok (show 8 ≤ 8388608 by omega)]
  rfl

def impl_copyPool_t {α : Type} (bad : α) (k_ : SPool → α) (p : SPool) : α :=
  bif andt true (sm p.Free) then
    k_ (⟨p.Base, p.Size, p.Count, idf p.Free⟩ : SPool)
  else bad
def poolSm (p : SPool) : Bool := sm p.Free
theorem impl_copyPool_c {α : Type} (bad : α) (k_ : SPool → α) (p : SPool) (h_p : WtL SPool.ct p.enc) (hok : poolSm p = true) : impl_copyPool_t bad k_ p = k_ (idf p) := by
  have h : sm p.Free = true := hok
  unfold impl_copyPool_t
  simp only [h, andt_true_l, cond_true]
  rfl

def spec_l21Copy_t {α : Type} (bad : α) (k_ : SPool → α) (p : SPool) : α :=
  bif andt true (room2 8 [] p.Free) then
    k_ p
  else bad
theorem spec_l21Copy_c {α : Type} (bad : α) (k_ : SPool → α) (p : SPool) (h_p : WtL SPool.ct p.enc) (hok : poolSm p = true) : spec_l21Copy_t bad k_ p = k_ (idf p) := by
  have h : sm p.Free = true := hok
  unfold spec_l21Copy_t
  rw [room2_sm h (show 8 ≤ 8388608 by omega)]
  rfl

def impl_PoolOk_l0 {α : Type} (bad : α) (k_ : Bool → α) (x : Rows) (x_1 : Int) (p_3 : Int) (ih0 : Int → Rows → α) (x_2 : Int) (seen : Rows) : α :=
  let z0 : Bool := !(between (rI (nth x (Int.toNat x_2)) 0) 0 (w64 (p_3 - 1)))
  let z1 : Nat := Int.toNat (rI (nth x (Int.toNat x_2)) 0)
  let z2 : Bool := andt (andt true (idx (rI (nth x (Int.toNat x_2)) 0) seen)) (inl z1 seen)
  let z3 : List DC := nth seen z1
  bif decide (x_2 < x_1) then
    bif andt true (idx x_2 x) then
      bif okm z0 true z2 then
        bif bif z0 then true else rB z3 0 then k_ false
        else bif z2 then
            ih0 (w64 (x_2 + 1)) (List.set seen z1 (splice z3 0 [.bool true]))
          else bad
      else bad
    else bad
  else k_ true
def impl_PoolOk_L0 {α : Type} (bad : α) (k_ : Bool → α) (N : Nat) (x : Rows) (x_1 : Int) (p_3 : Int) (m_ : Nat) : Int → Rows → α :=
  Nat.rec (motive := fun _ => Int → Rows → α) (fun _ _ => bad) (fun _ ih0 => impl_PoolOk_l0 bad k_ x x_1 p_3 ih0) m_
theorem impl_PoolOk_L0_z {α : Type} (bad : α) (k_ : Bool → α) (N : Nat) (x : Rows) (x_1 : Int) (p_3 : Int) (x_2 : Int) (seen : Rows) : impl_PoolOk_L0 bad k_ N x x_1 p_3 0 x_2 seen = bad := rfl
theorem impl_PoolOk_L0_s {α : Type} (bad : α) (k_ : Bool → α) (N : Nat) (x : Rows) (x_1 : Int) (p_3 : Int) (m_ : Nat) (x_2 : Int) (seen : Rows) : impl_PoolOk_L0 bad k_ N x x_1 p_3 (m_ + 1) x_2 seen = impl_PoolOk_l0 bad k_ x x_1 p_3 (impl_PoolOk_L0 bad k_ N x x_1 p_3 m_) x_2 seen := rfl
def impl_PoolOk_t {α : Type} (bad : α) (k_ : Bool → α) (l0 : Rows → Int → Int → Int → Rows → α) (p : SPool) : α :=
  bif bif !(between p.Base 0 130944) then true else bif !(between p.Size 1 512) then true else !(between p.Count 0 16) then k_ false
  else bif andt true (makeOk 1 p.Count p.Count) then
      l0 p.Free (len p.Free) p.Count 0 (List.replicate (Int.toNat p.Count) ([.bool false] : List DC))
    else bad
def impl_PoolOk_f {α : Type} (bad : α) (k_ : Bool → α) (N : Nat) (p : SPool) : α := impl_PoolOk_t bad k_ (fun x x_1 p_3 => impl_PoolOk_L0 bad k_ N x x_1 p_3 N) p
/-- A loop over rows with a state, that may end early. -/
def tryGo {α σ : Type} (P : List DC → σ → Bool) (f : List DC → σ → σ) (x : α) (fin : σ → α) : Rows → σ → α
  | [], s => fin s
  | r :: rs, s => bif P r s then x else tryGo P f x fin rs (f r s)
theorem loop_try_drop {α σ : Type} (list : Rows) (L : Nat → Int → σ → α) (P : List DC → σ → Bool) (f : List DC → σ → σ) (x : α) (fin : σ → α) (I : Nat → σ → Prop) (hI : ∀ i s, i < list.length → I i s → P (nth list i) s = false → I (i + 1) (f (nth list i) s))
    (hs : ∀ n i s, i < list.length → I i s → L (n + 1) (i : Int) s = bif P (nth list i) s then x else L n ((i : Int) + 1) (f (nth list i) s))
    (hz : ∀ n s, I list.length s → L (n + 1) (list.length : Int) s = fin s) : ∀ (m i : Nat) (s : σ), i + m = list.length → I i s → L (m + 1) (i : Int) s = tryGo P f x fin (list.drop i) s
  | 0, i, s, h, hi => by
    have : i = list.length := by omega
    subst this
    rw [hz 0 s hi, List.drop_length]
    rfl
  | m + 1, i, s, h, hi => by
    have hlt : i < list.length := by omega
    rw [hs (m + 1) i s hlt hi, List.drop_eq_getElem_cons hlt]
    have hn : nth list i = list[i] := by simp [nth, List.getD_eq_getElem?_getD, hlt]
    show _ = bif P list[i] s then x else tryGo P f x fin (list.drop (i + 1)) (f list[i] s)
    rw [← hn]
    cases hp : P (nth list i) s
    · rw [cond_false, cond_false]
      have := loop_try_drop list L P f x fin I hI hs hz m (i + 1) (f (nth list i) s) (by omega) (hI i s hlt hi hp)
      rw [← this]
      rfl
    · rfl
theorem loop_try {α σ : Type} (list : Rows) (L : Nat → Int → σ → α) (P : List DC → σ → Bool) (f : List DC → σ → σ) (x : α) (fin : σ → α) (I : Nat → σ → Prop) (hI : ∀ i s, i < list.length → I i s → P (nth list i) s = false → I (i + 1) (f (nth list i) s))
    (hs : ∀ n i s, i < list.length → I i s → L (n + 1) (i : Int) s = bif P (nth list i) s then x else L n ((i : Int) + 1) (f (nth list i) s))
    (hz : ∀ n s, I list.length s → L (n + 1) (list.length : Int) s = fin s) (s : σ) (h : I 0 s) : L (list.length + 1) 0 s = tryGo P f x fin list s :=
  loop_try_drop list L P f x fin I hI hs hz list.length 0 s (by omega) h
theorem go_try {α β σ : Type} (k : β → α) (P : List DC → σ → Bool) (f : List DC → σ → σ) {x : β} (fin : σ → β) : ∀ (list : Rows) (s : σ), tryGo P f (k x) (fun s => k (fin s)) list s = k (tryGo P f x fin list s)
  | [], s => rfl
  | r :: rs, s => by
    simp only [tryGo]
    cases P r s
    · exact go_try k P f fin rs _
    · rfl
theorem cond_congr {α : Type} {c d : Bool} {x y u v : α} (h : c = d) (h1 : c = true → x = u) (h2 : c = false → y = v) : (bif c then x else y) = (bif d then u else v) := by
  subst h
  cases c
  · exact h2 rfl
  · exact h1 rfl
def plBad (n : Int) (r : List DC) (s : Rows) : Bool := bif !(between (rI r 0) 0 (n - 1)) then true else rB (nth s (Int.toNat (rI r 0))) 0
def plPut (r : List DC) (s : Rows) : Rows := List.set s (Int.toNat (rI r 0)) (splice (nth s (Int.toNat (rI r 0))) 0 [.bool true])
theorem plPut_length (r : List DC) (s : Rows) : (plPut r s).length = s.length := by simp [plPut]
def PoolOk (p : SPool) : Bool := bif bif !(between p.Base 0 130944) then true else bif !(between p.Size 1 512) then true else !(between p.Count 0 16) then false
  else tryGo (plBad p.Count) plPut false (fun _ => true) p.Free (List.replicate (Int.toNat p.Count) [.bool false])
theorem impl_PoolOk_c {α : Type} (bad : α) (k_ : Bool → α) (p : SPool) (h_p : WtL SPool.ct p.enc) : ∃ N, impl_PoolOk_f bad k_ N p = k_ (PoolOk p) := by
  obtain ⟨hl, hw⟩ := wt_sl (SPool.wt_Free h_p)
  refine ⟨p.Free.length + 1, ?_⟩
  unfold impl_PoolOk_f impl_PoolOk_t PoolOk
  refine cond_c (fun _ => rfl) (fun hg => ?_)
  have hc : 0 ≤ p.Count ∧ p.Count ≤ 16 := by
    cases h1 : between p.Base 0 130944
    · rw [h1] at hg; cases hg
    cases h2 : between p.Size 1 512
    · rw [h1, h2] at hg; cases hg
    cases h3 : between p.Count 0 16
    · rw [h1, h2, h3] at hg; cases hg
    exact between_iff.1 h3
  have hmk : makeOk 1 p.Count p.Count = true := by
    simp only [makeOk, Bool.and_eq_true, decide_eq_true_eq]
    omega
  rw [hmk, andt_true_l, cond_true]
  refine (loop_try p.Free (impl_PoolOk_L0 bad k_ (p.Free.length + 1) p.Free (len p.Free) p.Count) (plBad p.Count) plPut (k_ false) (fun _ => k_ true) (fun _ s => (s.length : Int) = p.Count) (fun i s _ h _ => ?_) ?_ ?_ (List.replicate (Int.toNat p.Count) [.bool false]) ?_).trans ?_
  · show ((plPut (nth p.Free i) s).length : Int) = p.Count
    rw [plPut_length, h]
  · intro n i s h hs
    rw [impl_PoolOk_L0_s]
    have hw1 : w64 (p.Count - 1) = p.Count - 1 := w64_in (by omega) (by omega)
    have hx : between (rI (nth p.Free i) 0) 0 (p.Count - 1) = true → idx (rI (nth p.Free i) 0) s = true ∧ inl (Int.toNat (rI (nth p.Free i) 0)) s = true := by
      intro hb
      have := between_iff.1 hb
      refine ⟨?_, ?_⟩
      · simp only [idx, Bool.and_eq_true, decide_eq_true_eq]; omega
      · simp only [inl, decide_eq_true_eq]; omega
    unfold plBad
    simp only [impl_PoolOk_l0, lt_len h, idx_nat h, w64_succ h hl, Int.toNat_natCast, andt_true_l, andt_true_r, cond_true, hw1]
    cases hb : between (rI (nth p.Free i) 0) 0 (p.Count - 1)
    · rw [okm_t (g := !false) (x := true) (fun _ => rfl) (fun h => by cases h)]
      rfl
    · obtain ⟨x1, x2⟩ := hx hb
      rw [x1, x2]
      rfl
  · intro n s _
    rw [impl_PoolOk_L0_s]
    simp only [impl_PoolOk_l0, not_lt_len, cond_false]
  · simp only [List.length_replicate]; omega
  · exact go_try k_ _ _ (fun _ => true) p.Free _

def spec_PoolOk_l0 {α : Type} (bad : α) (k_ : Bool → α) (p_3 : Int) (p_4 : Rows) (ih0 : Int → Rows → α) (k : Int) (seen : Rows) : α :=
  let z0 : Bool := !(between (rI (nth p_4 (Int.toNat k)) 0) 0 (w64 (p_3 - 1)))
  let z1 : Bool := idx (rI (nth p_4 (Int.toNat k)) 0) seen
  let z2 : Nat := Int.toNat (rI (nth p_4 (Int.toNat k)) 0)
  let z3 : Bool := inl z2 seen
  let z4 : List DC := nth seen z2
  bif decide (k < len p_4) then
    bif okm z0 (andt true (idx k p_4)) (andt (andt (andt (andt true (idx k p_4)) (idx k p_4)) z1) z3) then
      bif bif z0 then true else rB z4 0 then k_ false
      else bif andt (andt (andt true (idx k p_4)) z1) z3 then
          ih0 (w64 (k + 1)) (List.set seen z2 (splice z4 0 [.bool true]))
        else bad
    else bad
  else k_ true
def spec_PoolOk_L0 {α : Type} (bad : α) (k_ : Bool → α) (N : Nat) (p_3 : Int) (p_4 : Rows) (m_ : Nat) : Int → Rows → α :=
  Nat.rec (motive := fun _ => Int → Rows → α) (fun _ _ => bad) (fun _ ih0 => spec_PoolOk_l0 bad k_ p_3 p_4 ih0) m_
theorem spec_PoolOk_L0_z {α : Type} (bad : α) (k_ : Bool → α) (N : Nat) (p_3 : Int) (p_4 : Rows) (k : Int) (seen : Rows) : spec_PoolOk_L0 bad k_ N p_3 p_4 0 k seen = bad := rfl
theorem spec_PoolOk_L0_s {α : Type} (bad : α) (k_ : Bool → α) (N : Nat) (p_3 : Int) (p_4 : Rows) (m_ : Nat) (k : Int) (seen : Rows) : spec_PoolOk_L0 bad k_ N p_3 p_4 (m_ + 1) k seen = spec_PoolOk_l0 bad k_ p_3 p_4 (spec_PoolOk_L0 bad k_ N p_3 p_4 m_) k seen := rfl
def spec_PoolOk_t {α : Type} (bad : α) (k_ : Bool → α) (l0 : Int → Rows → Int → Rows → α) (p : SPool) : α :=
  bif bif !(between p.Base 0 130944) then true else bif !(between p.Size 1 512) then true else !(between p.Count 0 16) then k_ false
  else bif andt true (makeOk 1 p.Count p.Count) then
      l0 p.Count p.Free 0 (List.replicate (Int.toNat p.Count) ([.bool false] : List DC))
    else bad
def spec_PoolOk_f {α : Type} (bad : α) (k_ : Bool → α) (N : Nat) (p : SPool) : α := spec_PoolOk_t bad k_ (fun p_3 p_4 => spec_PoolOk_L0 bad k_ N p_3 p_4 N) p
theorem spec_PoolOk_c {α : Type} (bad : α) (k_ : Bool → α) (p : SPool) (h_p : WtL SPool.ct p.enc) : ∃ N, spec_PoolOk_f bad k_ N p = k_ (PoolOk p) := by
  obtain ⟨hl, hw⟩ := wt_sl (SPool.wt_Free h_p)
  refine ⟨p.Free.length + 1, ?_⟩
  unfold spec_PoolOk_f spec_PoolOk_t PoolOk
  refine cond_c (fun _ => rfl) (fun hg => ?_)
  have hc : 0 ≤ p.Count ∧ p.Count ≤ 16 := by
    cases h1 : between p.Base 0 130944
    · rw [h1] at hg; cases hg
    cases h2 : between p.Size 1 512
    · rw [h1, h2] at hg; cases hg
    cases h3 : between p.Count 0 16
    · rw [h1, h2, h3] at hg; cases hg
    exact between_iff.1 h3
  have hmk : makeOk 1 p.Count p.Count = true := by
    simp only [makeOk, Bool.and_eq_true, decide_eq_true_eq]
    omega
  rw [hmk, andt_true_l, cond_true]
  refine (loop_try p.Free (spec_PoolOk_L0 bad k_ (p.Free.length + 1) p.Count p.Free) (plBad p.Count) plPut (k_ false) (fun _ => k_ true) (fun _ s => (s.length : Int) = p.Count) (fun i s _ h _ => ?_) ?_ ?_ (List.replicate (Int.toNat p.Count) [.bool false]) ?_).trans ?_
  · show ((plPut (nth p.Free i) s).length : Int) = p.Count
    rw [plPut_length, h]
  · intro n i s h hs
    rw [spec_PoolOk_L0_s]
    have hw1 : w64 (p.Count - 1) = p.Count - 1 := w64_in (by omega) (by omega)
    have hx : between (rI (nth p.Free i) 0) 0 (p.Count - 1) = true → idx (rI (nth p.Free i) 0) s = true ∧ inl (Int.toNat (rI (nth p.Free i) 0)) s = true := by
      intro hb
      have := between_iff.1 hb
      refine ⟨?_, ?_⟩
      · simp only [idx, Bool.and_eq_true, decide_eq_true_eq]; omega
      · simp only [inl, decide_eq_true_eq]; omega
    unfold plBad
    simp only [spec_PoolOk_l0, lt_len h, idx_nat h, w64_succ h hl, Int.toNat_natCast, andt_true_l, andt_true_r, cond_true, hw1]
    cases hb : between (rI (nth p.Free i) 0) 0 (p.Count - 1)
    · rw [okm_t (g := !false) (x := true) (fun _ => rfl) (fun h => by cases h)]
      rfl
    · obtain ⟨x1, x2⟩ := hx hb
      rw [x1, x2]
      rfl
  · intro n s _
    rw [spec_PoolOk_L0_s]
    simp only [spec_PoolOk_l0, not_lt_len, cond_false]
  · simp only [List.length_replicate]; omega
  · exact go_try k_ _ _ (fun _ => true) p.Free _

def impl_GiveBuffers_t {α : Type} (bad : α) (k_ : SPool → Bool → α) (p : SPool) (list_ : Rows) : α :=
  let z0 : SPool := (⟨(idf p).Base, (idf p).Size, (idf p).Count, ((idf p).Free) ++ list_⟩ : SPool)
  bif andt true (poolSm p) then
    bif andt true (room2 8 ((idf p).Free) list_) then
      bif bif !(PoolOk p) then true else !(PoolOk z0) then
        bif andt true (poolSm p) then
          k_ (idf p) false
        else bad
      else k_ z0 true
    else bad
  else bad
def givSm (p : SPool) (list_ : Rows) : Bool := sm p.Free && decide (p.Free.length + list_.length ≤ 134217728)
theorem givSm_of {p : SPool} {list_ : Rows} (h : givSm p list_ = true) : sm p.Free = true ∧ p.Free.length + list_.length ≤ 134217728 := by
  simpa [givSm] using h
def GiveBuffers (p : SPool) (list_ : Rows) : SPool × Bool := bif bif !(PoolOk p) then true else !(PoolOk (⟨p.Base, p.Size, p.Count, p.Free ++ list_⟩ : SPool)) then (p, false) else ((⟨p.Base, p.Size, p.Count, p.Free ++ list_⟩ : SPool), true)
theorem impl_GiveBuffers_c {α : Type} (bad : α) (k_ : SPool → Bool → α) (p : SPool) (list_ : Rows) (h_p : WtL SPool.ct p.enc) (h_list_ : WtC (.sl [.int .i64]) (.sl list_)) (hok : givSm p list_ = true) : impl_GiveBuffers_t bad k_ p list_ = k_ (GiveBuffers p list_).1 (GiveBuffers p list_).2 := by
  have h : givSm p list_ = true := hok
  obtain ⟨h1, h2⟩ := givSm_of h
  have hp : poolSm p = true := h1
  unfold impl_GiveBuffers_t GiveBuffers
  simp only [idf, hp, room2_le h2 (show 8 ≤ 1048576 by omega), andt_true_l, cond_true]
  generalize (bif !(PoolOk p) then true else !(PoolOk (⟨p.Base, p.Size, p.Count, p.Free ++ list_⟩ : SPool))) = b
  cases b <;> rfl

def spec_GiveBuffers_t {α : Type} (bad : α) (k_ : SPool → Bool → α) (p : SPool) (list_ : Rows) : α :=
  let z0 : SPool := (⟨(idf p).Base, (idf p).Size, (idf p).Count, ((idf p).Free) ++ list_⟩ : SPool)
  bif andt true (poolSm p) then
    bif andt true (room2 8 ((idf p).Free) list_) then
      bif bif !(PoolOk p) then true else !(PoolOk z0) then
        bif andt true (poolSm p) then
          k_ (idf p) false
        else bad
      else k_ z0 true
    else bad
  else bad
theorem spec_GiveBuffers_c {α : Type} (bad : α) (k_ : SPool → Bool → α) (p : SPool) (list_ : Rows) (h_p : WtL SPool.ct p.enc) (h_list_ : WtC (.sl [.int .i64]) (.sl list_)) (hok : givSm p list_ = true) : spec_GiveBuffers_t bad k_ p list_ = k_ (GiveBuffers p list_).1 (GiveBuffers p list_).2 := by
  have h : givSm p list_ = true := hok
  obtain ⟨h1, h2⟩ := givSm_of h
  have hp : poolSm p = true := h1
  unfold spec_GiveBuffers_t GiveBuffers
  simp only [idf, hp, room2_le h2 (show 8 ≤ 1048576 by omega), andt_true_l, cond_true]
  generalize (bif !(PoolOk p) then true else !(PoolOk (⟨p.Base, p.Size, p.Count, p.Free ++ list_⟩ : SPool))) = b
  cases b <;> rfl

end
end Go.Proofs.YtdlelfondkajbaaGreat.Pl
