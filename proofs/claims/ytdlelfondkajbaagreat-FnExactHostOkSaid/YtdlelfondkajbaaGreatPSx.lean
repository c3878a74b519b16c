/- What functions of the program compute, in plain Lean, as the value machine runs them. Conditions: none. -/
import Derived.Test.YtdlelfondkajbaaGreatPBa
import Derived.Test.YtdlelfondkajbaaGreatBit
set_option linter.unusedVariables false
set_option linter.unusedSimpArgs false
set_option maxRecDepth 100000
namespace Go.Proofs.YtdlelfondkajbaaGreat.Pl
open Vm
noncomputable section


def impl_SegmentOk_t {α : Type} (k_ : Bool → α) (g : SSegment) : α :=
  bif bif !(between g.SrcPort 0 65535) then true else bif !(between g.DstPort 0 65535) then true else decide (320 < len g.Body) then k_ false
  else bif g.Kind == 6 then k_ (bif between g.Seq 0 4294967295 then bif between g.Ack 0 4294967295 then bif between g.Flags 0 31 then between g.Window 0 65535 else false else false else false)
  else bif g.Kind == 17 then k_ (bif g.Seq == 0 then bif g.Ack == 0 then bif g.Flags == 0 then g.Window == 0 else false else false else false)
  else k_ false
def SegmentOk (g : SSegment) : Bool := impl_SegmentOk_t id g
theorem impl_SegmentOk_c {α : Type} (k_ : Bool → α) (g : SSegment) : impl_SegmentOk_t k_ g = k_ (SegmentOk g) := by
  exact cond_k rfl (cond_k rfl (cond_k rfl rfl))

def spec_SegmentOk_t {α : Type} (k_ : Bool → α) (g : SSegment) : α :=
  bif bif !(between g.SrcPort 0 65535) then true else bif !(between g.DstPort 0 65535) then true else decide (320 < len g.Body) then k_ false
  else bif g.Kind == 17 then k_ (bif g.Seq == 0 then bif g.Ack == 0 then bif g.Flags == 0 then g.Window == 0 else false else false else false)
  else k_ (bif g.Kind == 6 then bif between g.Seq 0 4294967295 then bif between g.Ack 0 4294967295 then bif between g.Flags 0 31 then between g.Window 0 65535 else false else false else false else false)
theorem spec_SegmentOk_c {α : Type} (k_ : Bool → α) (g : SSegment) (h_g : WtL SSegment.ct g.enc) : spec_SegmentOk_t k_ g = k_ (SegmentOk g) := by
  unfold spec_SegmentOk_t SegmentOk impl_SegmentOk_t
  refine cond_k rfl ?_
  by_cases h6 : g.Kind = 6
  · have h17 : (g.Kind == 17) = false := by rw [h6]; rfl
    have h6' : (g.Kind == 6) = true := by rw [h6]; rfl
    rw [h17, h6']
    rfl
  · have h6' : (g.Kind == 6) = false := by simpa using h6
    rw [h6']
    cases (g.Kind == 17) <;> rfl

def impl_streaming_t {α : Type} (k_ : Bool → α) (flags : Int) : α :=
  k_ (bif (bits .and .i64 flags 16) != 0 then (bits .andNot .i64 flags 25) == 0 else false)
def streaming (flags : Int) : Bool := impl_streaming_t id flags
theorem impl_streaming_c {α : Type} (k_ : Bool → α) (flags : Int) : impl_streaming_t k_ flags = k_ (streaming flags) := by
  rfl

def impl_SuperOk_t {α : Type} (k_ : Bool → α) (p : SPacket) : α :=
  k_ (bif between p.DstMac 0 281474976710655 then bif between p.SrcMac 0 281474976710655 then bif between p.Vlan (-1) 4095 then bif between p.Tos 0 255 then bif between p.Ttl 0 255 then bif between p.Id 0 65535 then bif between p.SrcIp 0 4294967295 then bif between p.DstIp 0 4294967295 then bif SegmentOk p.Seg then bif decide (len p.Seg.Body ≤ 128) then true else bif p.Seg.Kind == 6 then streaming p.Seg.Flags else false else false else false else false else false else false else false else false else false else false)
def SuperOk (p : SPacket) : Bool := impl_SuperOk_t id p
theorem impl_SuperOk_c {α : Type} (k_ : Bool → α) (p : SPacket) : impl_SuperOk_t k_ p = k_ (SuperOk p) := by
  rfl

def spec_SuperOk_t {α : Type} (k_ : Bool → α) (p : SPacket) : α :=
  bif bif !(between p.DstMac 0 281474976710655) then true else bif !(between p.SrcMac 0 281474976710655) then true else bif !(between p.Vlan (-1) 4095) then true else bif !(between p.Tos 0 255) then true else bif !(between p.Ttl 0 255) then true else bif !(between p.Id 0 65535) then true else bif !(between p.SrcIp 0 4294967295) then true else bif !(between p.DstIp 0 4294967295) then true else !(SegmentOk p.Seg) then k_ false
  else k_ (bif bif p.Seg.Kind == 6 then (bits .andNot .i64 p.Seg.Flags 9) == 16 else false then true else decide (len p.Seg.Body ≤ 128))
theorem streaming_eq {f : Int} (h : between f 0 31 = true) : ((bits .andNot .i64 f 9) == 16) = streaming f := by
  have key : ∀ n : Fin 32, ((bits .andNot .i64 ((n.val : Nat) : Int) 9) == 16) = streaming ((n.val : Nat) : Int) := by decide +kernel
  have h0 : 0 ≤ f ∧ f ≤ 31 := by
    unfold between impl_between_t at h
    by_cases h1 : 0 ≤ f
    · by_cases h2 : f ≤ 31
      · exact ⟨h1, h2⟩
      · simp [h1, h2] at h
    · simp [h1] at h
  have := key ⟨f.toNat, by omega⟩
  simp only at this
  rw [show ((f.toNat : Nat) : Int) = f by omega] at this
  exact this
theorem seg_flags {g : SSegment} (h : SegmentOk g = true) (h6 : (g.Kind == 6) = true) : between g.Flags 0 31 = true := by
  unfold SegmentOk impl_SegmentOk_t at h
  rw [h6] at h
  cases hb : between g.Flags 0 31
  · rw [hb] at h
    revert h
    cases (bif !(between g.SrcPort 0 65535) then true else bif !(between g.DstPort 0 65535) then true else decide (320 < len g.Body)) <;> cases between g.Seq 0 4294967295 <;> cases between g.Ack 0 4294967295 <;> simp
  · rfl
theorem spec_SuperOk_c {α : Type} (k_ : Bool → α) (p : SPacket) (h_p : WtL SPacket.ct p.enc) : spec_SuperOk_t k_ p = k_ (SuperOk p) := by
  unfold spec_SuperOk_t SuperOk impl_SuperOk_t
  cases between p.DstMac 0 281474976710655
  · rfl
  cases between p.SrcMac 0 281474976710655
  · rfl
  cases between p.Vlan (-1) 4095
  · rfl
  cases between p.Tos 0 255
  · rfl
  cases between p.Ttl 0 255
  · rfl
  cases between p.Id 0 65535
  · rfl
  cases between p.SrcIp 0 4294967295
  · rfl
  cases between p.DstIp 0 4294967295
  · rfl
  cases hs : SegmentOk p.Seg
  · rfl
  cases h6 : (p.Seg.Kind == 6)
  · cases decide (len p.Seg.Body ≤ 128) <;> rfl
  · rw [streaming_eq (seg_flags hs h6)]
    cases streaming p.Seg.Flags <;> cases decide (len p.Seg.Body ≤ 128) <;> rfl

end
end Go.Proofs.YtdlelfondkajbaaGreat.Pl
