/- What functions of the program compute, in plain Lean, as the value machine runs them. Conditions: none. -/
import Derived.Test.YtklbgnodgnlebaaPSw
import Derived.Test.YtklbgnodgnlebaaBit
set_option linter.unusedVariables false
set_option linter.unusedSimpArgs false
set_option maxRecDepth 100000
namespace Go.Proofs.Ytklbgnodgnlebaa.Pl
open Vm
noncomputable section


def impl_SegmentOk_t {α : Type} (k_ : Bool → α) (g : SSegment) : α :=
  bif bif !(between g.SrcPort 0 65535) then true else bif !(between g.DstPort 0 65535) then true else decide (320 < len g.Body) then k_ false
  else bif g.Kind == 6 then k_ (bif between g.Seq 0 4294967295 then bif between g.Ack 0 4294967295 then bif between g.Flags 0 31 then between g.Window 0 65535 else false else false else false)
  else bif g.Kind == 17 then k_ (bif g.Seq == 0 then bif g.Ack == 0 then bif g.Flags == 0 then g.Window == 0 else false else false else false)
  else k_ false
def SegmentOk (g : SSegment) : Bool := impl_SegmentOk_t id g
theorem impl_SegmentOk_c {α : Type} (k_ : Bool → α) (g : SSegment) : impl_SegmentOk_t k_ g = k_ (SegmentOk g) := by
  exact cond_k rfl (cond_k rfl (cond_k rfl rfl))

def spec_SegmentOk_t {α : Type} (k_ : Bool → α) (g : SSegment) : α :=
  bif bif !(between g.SrcPort 0 65535) then true else bif !(between g.DstPort 0 65535) then true else decide (320 < len g.Body) then k_ false
  else bif g.Kind == 17 then k_ (bif g.Seq == 0 then bif g.Ack == 0 then bif g.Flags == 0 then g.Window == 0 else false else false else false)
  else k_ (bif g.Kind == 6 then bif between g.Seq 0 4294967295 then bif between g.Ack 0 4294967295 then bif between g.Flags 0 31 then between g.Window 0 65535 else false else false else false else false)
theorem spec_SegmentOk_c {α : Type} (k_ : Bool → α) (g : SSegment) (h_g : WtL SSegment.ct g.enc) : spec_SegmentOk_t k_ g = k_ (SegmentOk g) := by
  unfold spec_SegmentOk_t SegmentOk impl_SegmentOk_t
  refine cond_k rfl ?_
  by_cases h6 : g.Kind = 6
  · have h17 : (g.Kind == 17) = false := by rw [h6]; rfl
    have h6' : (g.Kind == 6) = true := by rw [h6]; rfl
    rw [h17, h6']
    rfl
  · have h6' : (g.Kind == 6) = false := by simpa using h6
    rw [h6']
    cases (g.Kind == 17) <;> rfl

def impl_streaming_t {α : Type} (k_ : Bool → α) (flags : Int) : α :=
  k_ (bif (bits .and .i64 flags 16) != 0 then (bits .andNot .i64 flags 25) == 0 else false)
def streaming (flags : Int) : Bool := impl_streaming_t id flags
theorem impl_streaming_c {α : Type} (k_ : Bool → α) (flags : Int) : impl_streaming_t k_ flags = k_ (streaming flags) := by
  rfl

def impl_SuperOk_t {α : Type} (k_ : Bool → α) (p : SPacket) : α :=
  k_ (bif between p.DstMac 0 281474976710655 then bif between p.SrcMac 0 281474976710655 then bif between p.Vlan (-1) 4095 then bif between p.Tos 0 255 then bif between p.Ttl 0 255 then bif between p.Id 0 65535 then bif between p.SrcIp 0 4294967295 then bif between p.DstIp 0 4294967295 then bif SegmentOk p.Seg then bif decide (len p.Seg.Body ≤ 128) then true else bif p.Seg.Kind == 6 then streaming p.Seg.Flags else false else false else false else false else false else false else false else false else false else false)
def SuperOk (p : SPacket) : Bool := impl_SuperOk_t id p
theorem impl_SuperOk_c {α : Type} (k_ : Bool → α) (p : SPacket) : impl_SuperOk_t k_ p = k_ (SuperOk p) := by
  rfl

def spec_SuperOk_t {α : Type} (k_ : Bool → α) (p : SPacket) : α :=
  bif bif !(between p.DstMac 0 281474976710655) then true else bif !(between p.SrcMac 0 281474976710655) then true else bif !(between p.Vlan (-1) 4095) then true else bif !(between p.Tos 0 255) then true else bif !(between p.Ttl 0 255) then true else bif !(between p.Id 0 65535) then true else bif !(between p.SrcIp 0 4294967295) then true else bif !(between p.DstIp 0 4294967295) then true else !(SegmentOk p.Seg) then k_ false
  else k_ (bif bif p.Seg.Kind == 6 then (bits .andNot .i64 p.Seg.Flags 9) == 16 else false then true else decide (len p.Seg.Body ≤ 128))
theorem streaming_eq {f : Int} (h : between f 0 31 = true) : ((bits .andNot .i64 f 9) == 16) = streaming f := by
  have key : ∀ n : Fin 32, ((bits .andNot .i64 ((n.val : Nat) : Int) 9) == 16) = streaming ((n.val : Nat) : Int) := by decide +kernel
  have h0 : 0 ≤ f ∧ f ≤ 31 := by
    unfold between impl_between_t at h
    by_cases h1 : 0 ≤ f
    · by_cases h2 : f ≤ 31
      · exact ⟨h1, h2⟩
      · simp [h1, h2] at h
    · simp [h1] at h
  have := key ⟨f.toNat, by omega⟩
  simp only at this
  rw [show ((f.toNat : Nat) : Int) = f by omega] at this
  exact this
theorem seg_flags {g : SSegment} (h : SegmentOk g = true) (h6 : (g.Kind == 6) = true) : between g.Flags 0 31 = true := by
  unfold SegmentOk impl_SegmentOk_t at h
  rw [h6] at h
  cases hb : between g.Flags 0 31
  · rw [hb] at h
    revert h
    cases (bif !(between g.SrcPort 0 65535) then true else bif !(between g.DstPort 0 65535) then true else decide (320 < len g.Body)) <;> cases between g.Seq 0 4294967295 <;> cases between g.Ack 0 4294967295 <;> simp
  · rfl
theorem spec_SuperOk_c {α : Type} (k_ : Bool → α) (p : SPacket) (h_p : WtL SPacket.ct p.enc) : spec_SuperOk_t k_ p = k_ (SuperOk p) := by
  unfold spec_SuperOk_t SuperOk impl_SuperOk_t
  cases between p.DstMac 0 281474976710655
  · rfl
  cases between p.SrcMac 0 281474976710655
  · rfl
  cases between p.Vlan (-1) 4095
  · rfl
  cases between p.Tos 0 255
  · rfl
  cases between p.Ttl 0 255
  · rfl
  cases between p.Id 0 65535
  · rfl
  cases between p.SrcIp 0 4294967295
  · rfl
  cases between p.DstIp 0 4294967295
  · rfl
  cases hs : SegmentOk p.Seg
  · rfl
  cases h6 : (p.Seg.Kind == 6)
  · cases decide (len p.Seg.Body ≤ 128) <;> rfl
  · rw [streaming_eq (seg_flags hs h6)]
    cases streaming p.Seg.Flags <;> cases decide (len p.Seg.Body ≤ 128) <;> rfl

def impl_EntryVlan_t {α : Type} (bad : α) (k_ : Int → α) (list_ : Rows) (from_ : Int) (p : SPacket) : α :=
  let z0 : Int := bif p.Vlan == (-1) then rI (nth list_ (Int.toNat from_)) 2 else p.Vlan
  bif bif !(PortsOk list_) then true else bif !(SuperOk p) then true else !(between from_ 0 (w64 ((len list_) - 1))) then k_ (-1)
  else bif andt true (idx from_ list_) then
      bif bif !(hasInt (rR (nth list_ (Int.toNat from_)) 1) z0) then true else bif from_ != 0 then bif rB (nth list_ (Int.toNat from_)) 3 then (rI (nth list_ (Int.toNat from_)) 0) != p.SrcMac else false else false then k_ (-1)
      else k_ z0
    else bad
theorem ports_idx {list_ : Rows} {n : Int} (hl : list_.length ≤ 9223372036854775807) (h : between n 0 (w64 (len list_ - 1)) = true) : idx n list_ = true := by
  have hl0 : 0 ≤ len list_ := by simp [len]
  have hl1 : len list_ ≤ 9223372036854775807 := by simp only [len]; omega
  rw [w64_in (by omega) (by omega)] at h
  unfold between impl_between_t at h
  by_cases h1 : 0 ≤ n
  · by_cases h2 : n ≤ len list_ - 1
    · simp only [len] at h2
      simp only [idx, Bool.and_eq_true]
      exact ⟨decide_eq_true h1, decide_eq_true (by omega)⟩
    · simp [h1, h2] at h
  · simp [h1] at h
def EntryVlan (list_ : Rows) (from_ : Int) (p : SPacket) : Int :=
  bif bif !(PortsOk list_) then true else bif !(SuperOk p) then true else !(between from_ 0 (w64 ((len list_) - 1))) then -1
  else bif bif !(hasInt (rR (nth list_ (Int.toNat from_)) 1) (bif p.Vlan == (-1) then rI (nth list_ (Int.toNat from_)) 2 else p.Vlan)) then true else bif from_ != 0 then bif rB (nth list_ (Int.toNat from_)) 3 then (rI (nth list_ (Int.toNat from_)) 0) != p.SrcMac else false else false then -1
  else bif p.Vlan == (-1) then rI (nth list_ (Int.toNat from_)) 2 else p.Vlan
theorem super_vlan {p : SPacket} (h : SuperOk p = true) : decide (p.Vlan < 0) = (p.Vlan == (-1)) := by
  have hv : between p.Vlan (-1) 4095 = true := by
    unfold SuperOk impl_SuperOk_t at h
    cases hv : between p.Vlan (-1) 4095
    · rw [hv] at h
      revert h
      cases between p.DstMac 0 281474976710655 <;> cases between p.SrcMac 0 281474976710655 <;> simp
    · rfl
  unfold between impl_between_t at hv
  by_cases h1 : -1 ≤ p.Vlan
  · by_cases h2 : p.Vlan = -1
    · rw [h2]
      rfl
    · rw [decide_eq_false (by omega)]
      simp [h2]
  · simp [h1] at hv
theorem impl_EntryVlan_c {α : Type} (bad : α) (k_ : Int → α) (list_ : Rows) (from_ : Int) (p : SPacket) (h_list_ : WtC (.sl [.int .i64, .sl [.int .i64], .int .i64, .bool]) (.sl list_)) (h_from_ : WtC (.int .i64) (.int from_)) (h_p : WtL SPacket.ct p.enc) : impl_EntryVlan_t bad k_ list_ from_ p = k_ (EntryVlan list_ from_ p) := by
  obtain ⟨hl, _⟩ := wt_sl h_list_
  unfold impl_EntryVlan_t EntryVlan
  refine cond_c (fun _ => rfl) (fun hg => ?_)
  have hx : idx from_ list_ = true := ports_idx hl (by
    cases h1 : PortsOk list_
    · rw [h1] at hg
      cases hg
    · rw [h1] at hg
      cases h2 : SuperOk p
      · rw [h2] at hg
        cases hg
      · rw [h2] at hg
        cases h3 : between from_ 0 (w64 (len list_ - 1))
        · rw [h3] at hg
          cases hg
        · rfl)
  simp only [hx, andt_true_l, andt_true_r, cond_true, okm_tt]
  exact cond_k rfl rfl

def spec_EntryVlan_t {α : Type} (bad : α) (k_ : Int → α) (list_ : Rows) (from_ : Int) (p : SPacket) : α :=
  let z0 : Int := bif decide (p.Vlan < 0) then rI (nth list_ (Int.toNat from_)) 2 else p.Vlan
  let z1 : Bool := !(hasInt (rR (nth list_ (Int.toNat from_)) 1) z0)
  let z2 : Bool := andt (andt true (idx from_ list_)) (idx from_ list_)
  bif bif !(PortsOk list_) then true else bif !(SuperOk p) then true else !(between from_ 0 (w64 ((len list_) - 1))) then k_ (-1)
  else bif okm (decide (p.Vlan < 0)) (andt true (idx from_ list_)) true then
      bif okm z1 (andt true (idx from_ list_)) (okm (from_ != 0) (okm (rB (nth list_ (Int.toNat from_)) 3) (andt z2 (idx from_ list_)) z2) (andt true (idx from_ list_))) then
        bif bif z1 then true else bif from_ != 0 then bif rB (nth list_ (Int.toNat from_)) 3 then (rI (nth list_ (Int.toNat from_)) 0) != p.SrcMac else false else false then k_ (-1)
        else k_ z0
      else bad
    else bad
theorem spec_EntryVlan_c {α : Type} (bad : α) (k_ : Int → α) (list_ : Rows) (from_ : Int) (p : SPacket) (h_list_ : WtC (.sl [.int .i64, .sl [.int .i64], .int .i64, .bool]) (.sl list_)) (h_from_ : WtC (.int .i64) (.int from_)) (h_p : WtL SPacket.ct p.enc) : spec_EntryVlan_t bad k_ list_ from_ p = k_ (EntryVlan list_ from_ p) := by
  obtain ⟨hl, _⟩ := wt_sl h_list_
  unfold spec_EntryVlan_t EntryVlan
  refine cond_c (fun _ => rfl) (fun hg => ?_)
  have hx : idx from_ list_ = true := ports_idx hl (by
    cases h1 : PortsOk list_
    · rw [h1] at hg
      cases hg
    · rw [h1] at hg
      cases h2 : SuperOk p
      · rw [h2] at hg
        cases hg
      · rw [h2] at hg
        cases h3 : between from_ 0 (w64 (len list_ - 1))
        · rw [h3] at hg
          cases hg
        · rfl)
  have hs : SuperOk p = true := by
    cases h2 : SuperOk p
    · rw [h2] at hg
      revert hg
      cases PortsOk list_ <;> simp
    · rfl
  simp only [hx, super_vlan hs, andt_true_l, andt_true_r, cond_true, okm_tt]
  exact cond_k rfl rfl

def laws_FnExactEntryVlan_t {α : Type} (bad : α) (k_ : Bool → α) (aList : Rows) (aFrom : Int) (aP : SPacket) : α :=
  let z0 : Int := EntryVlan (idf aList) aFrom (idf aP)
  bif decide (laws_szPortS aList 1048576 < 0) then k_ true
  else bif decide (laws_szPacket aP (laws_szPortS aList 1048576) < 0) then k_ true
  else bif andt true (laws_toPortS_ok aList) then
      bif andt true (laws_toPortS_ok aList) then
        bif z0 != z0 then k_ false
        else bif andt (andt true (laws_toPortS_ok aList)) (same (idf aList) (idf aList)) then
            bif !(yes2 (idf aList) (idf aList)) then k_ false
            else k_ true
          else bad
      else bad
    else bad
theorem laws_FnExactEntryVlan_c {α : Type} (bad : α) (k_ : Bool → α) (aList : Rows) (aFrom : Int) (aP : SPacket) (h_aList : WtC (.sl [.int .i64, .sl [.int .i64], .int .i64, .bool]) (.sl aList)) (h_aFrom : WtC (.int .i64) (.int aFrom)) (h_aP : WtL SPacket.ct aP.enc) (hok : fitL ((.sl [.int .i64, .sl [.int .i64], .int .i64, .bool]) :: ((.int .i64) :: (SPacket.ct ++ ([])))) (.sl aList :: (.int aFrom :: (aP.enc ++ ([])))) = true) : laws_FnExactEntryVlan_t bad k_ aList aFrom aP = k_ true := by
  unfold laws_FnExactEntryVlan_t
  by_cases c0 : laws_szPortS aList 1048576 < 0
  · simp only [c0, decide_true, decide_false, cond_true, cond_false]
  have k0 := laws_szPortS_ok h_aList (by omega) (by omega) (Int.not_lt.1 c0)
  by_cases c1 : laws_szPacket aP (laws_szPortS aList 1048576) < 0
  · simp only [c0, c1, decide_true, decide_false, cond_true, cond_false]
  have k1 := laws_szPacket_ok h_aP (Int.not_lt.1 c0) k0.1 (Int.not_lt.1 c1)
  simp only [c0, c1, decide_false, cond_false, cond_true, idf, k0.2, k1.2, andt_true_l, andt_true_r, same_refl, yes2, beq_self_eq_true, bne_self_eq_false, Bool.not_true, okm_tt]

def impl_LeavePacket_t {α : Type} (bad : α) (k_ : SPacket → α) (list_ : Rows) (to : Int) (vlan : Int) (p : SPacket) : α :=
  let z0 : Bool := !(between to 0 (w64 ((len list_) - 1)))
  let z1 : Bool := !(hasInt (rR (nth list_ (Int.toNat to)) 1) vlan)
  bif okm (!(PortsOk list_)) true (okm z0 true (okm z1 (andt true (idx to list_)) (andt true (idx to list_)))) then
    bif bif !(PortsOk list_) then true else bif z0 then true else bif z1 then true else !(SuperOk p) then k_ (⟨0, 0, 0, 0, 0, 0, 0, 0, (⟨0, 0, 0, 0, 0, 0, 0, []⟩ : SSegment)⟩ : SPacket)
    else bif andt true (idx to list_) then
        bif vlan == (rI (nth list_ (Int.toNat to)) 2) then k_ (⟨p.DstMac, p.SrcMac, (-1), p.Tos, p.Id, p.Ttl, p.SrcIp, p.DstIp, p.Seg⟩ : SPacket)
        else k_ (⟨p.DstMac, p.SrcMac, vlan, p.Tos, p.Id, p.Ttl, p.SrcIp, p.DstIp, p.Seg⟩ : SPacket)
      else bad
  else bad
def LeavePacket (list_ : Rows) (to : Int) (vlan : Int) (p : SPacket) : SPacket :=
  bif bif !(PortsOk list_) then true else bif !(between to 0 (w64 ((len list_) - 1))) then true else bif !(hasInt (rR (nth list_ (Int.toNat to)) 1) vlan) then true else !(SuperOk p) then (⟨0, 0, 0, 0, 0, 0, 0, 0, (⟨0, 0, 0, 0, 0, 0, 0, []⟩ : SSegment)⟩ : SPacket)
  else bif vlan == (rI (nth list_ (Int.toNat to)) 2) then (⟨p.DstMac, p.SrcMac, (-1), p.Tos, p.Id, p.Ttl, p.SrcIp, p.DstIp, p.Seg⟩ : SPacket)
  else (⟨p.DstMac, p.SrcMac, vlan, p.Tos, p.Id, p.Ttl, p.SrcIp, p.DstIp, p.Seg⟩ : SPacket)
theorem impl_LeavePacket_c {α : Type} (bad : α) (k_ : SPacket → α) (list_ : Rows) (to : Int) (vlan : Int) (p : SPacket) (h_list_ : WtC (.sl [.int .i64, .sl [.int .i64], .int .i64, .bool]) (.sl list_)) (h_to : WtC (.int .i64) (.int to)) (h_vlan : WtC (.int .i64) (.int vlan)) (h_p : WtL SPacket.ct p.enc) : impl_LeavePacket_t bad k_ list_ to vlan p = k_ (LeavePacket list_ to vlan p) := by
  obtain ⟨hl, _⟩ := wt_sl h_list_
  unfold impl_LeavePacket_t LeavePacket
  have hi : (!(between to 0 (w64 ((len list_) - 1)))) = false → idx to list_ = true := fun h => ports_idx hl (by simpa using h)
  refine guard_c (okm_t (fun _ => rfl) (fun _ => okm_t (fun _ => rfl) (fun h => okm_t (fun _ => by rw [hi h]; rfl) (fun _ => by rw [hi h]; rfl)))) ?_
  refine cond_c (fun _ => rfl) (fun hg => ?_)
  have hx : idx to list_ = true := hi (by
    cases h1 : PortsOk list_
    · rw [h1] at hg
      cases hg
    · rw [h1] at hg
      cases h3 : between to 0 (w64 (len list_ - 1))
      · rw [h3] at hg
        cases hg
      · rfl)
  simp only [hx, andt_true_l, cond_true]
  exact cond_k rfl rfl

def spec_LeavePacket_t {α : Type} (bad : α) (k_ : SPacket → α) (list_ : Rows) (to : Int) (vlan : Int) (p : SPacket) : α :=
  let z0 : Bool := !(between to 0 (w64 ((len list_) - 1)))
  let z1 : Bool := !(hasInt (rR (nth list_ (Int.toNat to)) 1) vlan)
  bif okm (!(PortsOk list_)) true (okm z0 true (okm z1 (andt true (idx to list_)) (andt true (idx to list_)))) then
    bif bif !(PortsOk list_) then true else bif z0 then true else bif z1 then true else !(SuperOk p) then k_ (⟨0, 0, 0, 0, 0, 0, 0, 0, (⟨0, 0, 0, 0, 0, 0, 0, []⟩ : SSegment)⟩ : SPacket)
    else bif andt true (idx to list_) then
        bif vlan == (rI (nth list_ (Int.toNat to)) 2) then k_ (⟨p.DstMac, p.SrcMac, (-1), p.Tos, p.Id, p.Ttl, p.SrcIp, p.DstIp, p.Seg⟩ : SPacket)
        else k_ (⟨p.DstMac, p.SrcMac, vlan, p.Tos, p.Id, p.Ttl, p.SrcIp, p.DstIp, p.Seg⟩ : SPacket)
      else bad
  else bad
theorem spec_LeavePacket_c {α : Type} (bad : α) (k_ : SPacket → α) (list_ : Rows) (to : Int) (vlan : Int) (p : SPacket) (h_list_ : WtC (.sl [.int .i64, .sl [.int .i64], .int .i64, .bool]) (.sl list_)) (h_to : WtC (.int .i64) (.int to)) (h_vlan : WtC (.int .i64) (.int vlan)) (h_p : WtL SPacket.ct p.enc) : spec_LeavePacket_t bad k_ list_ to vlan p = k_ (LeavePacket list_ to vlan p) := by
  obtain ⟨hl, _⟩ := wt_sl h_list_
  unfold spec_LeavePacket_t LeavePacket
  have hi : (!(between to 0 (w64 ((len list_) - 1)))) = false → idx to list_ = true := fun h => ports_idx hl (by simpa using h)
  refine guard_c (okm_t (fun _ => rfl) (fun _ => okm_t (fun _ => rfl) (fun h => okm_t (fun _ => by rw [hi h]; rfl) (fun _ => by rw [hi h]; rfl)))) ?_
  refine cond_c (fun _ => rfl) (fun hg => ?_)
  have hx : idx to list_ = true := hi (by
    cases h1 : PortsOk list_
    · rw [h1] at hg
      cases hg
    · rw [h1] at hg
      cases h3 : between to 0 (w64 (len list_ - 1))
      · rw [h3] at hg
        cases hg
      · rfl)
  simp only [hx, andt_true_l, cond_true]
  exact cond_k rfl rfl

def laws_FnExactLeavePacket_t {α : Type} (bad : α) (k_ : Bool → α) (aList : Rows) (aTo : Int) (aVlan : Int) (aP : SPacket) : α :=
  let z0 : SPacket := LeavePacket (idf aList) aTo aVlan (idf aP)
  bif decide (laws_szPortS aList 1048576 < 0) then k_ true
  else bif decide (laws_szPacket aP (laws_szPortS aList 1048576) < 0) then k_ true
  else bif andt true (laws_toPortS_ok aList) then
      bif andt true (laws_toPortS_ok aList) then
        bif andt true (same z0 z0) then
          bif !(yes2 z0 z0) then k_ false
          else bif andt (andt true (laws_toPortS_ok aList)) (same (idf aList) (idf aList)) then
              bif !(yes2 (idf aList) (idf aList)) then k_ false
              else k_ true
            else bad
        else bad
      else bad
    else bad
theorem laws_FnExactLeavePacket_c {α : Type} (bad : α) (k_ : Bool → α) (aList : Rows) (aTo : Int) (aVlan : Int) (aP : SPacket) (h_aList : WtC (.sl [.int .i64, .sl [.int .i64], .int .i64, .bool]) (.sl aList)) (h_aTo : WtC (.int .i64) (.int aTo)) (h_aVlan : WtC (.int .i64) (.int aVlan)) (h_aP : WtL SPacket.ct aP.enc) (hok : fitL ((.sl [.int .i64, .sl [.int .i64], .int .i64, .bool]) :: ((.int .i64) :: ((.int .i64) :: (SPacket.ct ++ ([]))))) (.sl aList :: (.int aTo :: (.int aVlan :: (aP.enc ++ ([]))))) = true) : laws_FnExactLeavePacket_t bad k_ aList aTo aVlan aP = k_ true := by
  unfold laws_FnExactLeavePacket_t
  by_cases c0 : laws_szPortS aList 1048576 < 0
  · simp only [c0, decide_true, decide_false, cond_true, cond_false]
  have k0 := laws_szPortS_ok h_aList (by omega) (by omega) (Int.not_lt.1 c0)
  by_cases c1 : laws_szPacket aP (laws_szPortS aList 1048576) < 0
  · simp only [c0, c1, decide_true, decide_false, cond_true, cond_false]
  have k1 := laws_szPacket_ok h_aP (Int.not_lt.1 c0) k0.1 (Int.not_lt.1 c1)
  simp only [c0, c1, decide_false, cond_false, cond_true, idf, k0.2, k1.2, andt_true_l, andt_true_r, same_refl, yes2, beq_self_eq_true, bne_self_eq_false, Bool.not_true, okm_tt]

end
end Go.Proofs.Ytklbgnodgnlebaa.Pl
