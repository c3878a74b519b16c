/- What functions of the program compute, in plain Lean, as the value machine runs them. Conditions: none. -/
import Derived.Test.YtfnkhejoihnlnaaPSw
import Derived.Test.YtfnkhejoihnlnaaBit
set_option linter.unusedVariables false
set_option linter.unusedSimpArgs false
namespace Go.Proofs.Ytfnkhejoihnlnaa.Pl
open Vm
noncomputable section

structure SSegment where
  Kind : Int
  SrcPort : Int
  DstPort : Int
  Seq : Int
  Ack : Int
  Flags : Int
  Window : Int
  Body : Bytes
def SSegment.enc (x : SSegment) : List DC := [.int x.Kind, .int x.SrcPort, .int x.DstPort, .int x.Seq, .int x.Ack, .int x.Flags, .int x.Window, .str x.Body]
def SSegment.decAt (r : List DC) (o : Nat) : SSegment := ⟨rI r (o + 0), rI r (o + 1), rI r (o + 2), rI r (o + 3), rI r (o + 4), rI r (o + 5), rI r (o + 6), rS r (o + 7)⟩
def SSegment.ct : List CT := [.int .i64, .int .i64, .int .i64, .int .i64, .int .i64, .int .i64, .int .i64, .str]
theorem SSegment.of_wt {r : List CT} {ds : List DC} (h : WtL (SSegment.ct ++ r) ds) : ∃ (x : SSegment) (ds' : List DC), ds = x.enc ++ ds' ∧ WtL SSegment.ct x.enc ∧ WtL r ds' := by
  simp only [SSegment.ct, List.cons_append, List.nil_append, WtL, WtC] at h
  obtain ⟨_, _, rfl, ⟨a0, rfl, p0⟩, _, _, rfl, ⟨a1, rfl, p1⟩, _, _, rfl, ⟨a2, rfl, p2⟩, _, _, rfl, ⟨a3, rfl, p3⟩, _, _, rfl, ⟨a4, rfl, p4⟩, _, _, rfl, ⟨a5, rfl, p5⟩, _, _, rfl, ⟨a6, rfl, p6⟩, _, _, rfl, ⟨a7, rfl, p7⟩, h⟩ := h
  exact ⟨⟨a0, a1, a2, a3, a4, a5, a6, a7⟩, _, rfl, by simp only [SSegment.ct, SSegment.enc, WtL, WtC]; exact ⟨_, _, rfl, ⟨_, rfl, p0⟩, _, _, rfl, ⟨_, rfl, p1⟩, _, _, rfl, ⟨_, rfl, p2⟩, _, _, rfl, ⟨_, rfl, p3⟩, _, _, rfl, ⟨_, rfl, p4⟩, _, _, rfl, ⟨_, rfl, p5⟩, _, _, rfl, ⟨_, rfl, p6⟩, _, _, rfl, ⟨_, rfl, p7⟩, rfl⟩, h⟩
theorem SSegment.wt_Kind {x : SSegment} (h : WtL SSegment.ct x.enc) : WtC (.int .i64) (.int x.Kind) := by
  obtain ⟨w0, h⟩ := wtl_uncons h
  obtain ⟨w1, h⟩ := wtl_uncons h
  obtain ⟨w2, h⟩ := wtl_uncons h
  obtain ⟨w3, h⟩ := wtl_uncons h
  obtain ⟨w4, h⟩ := wtl_uncons h
  obtain ⟨w5, h⟩ := wtl_uncons h
  obtain ⟨w6, h⟩ := wtl_uncons h
  obtain ⟨w7, h⟩ := wtl_uncons h
  exact w0
theorem SSegment.wt_SrcPort {x : SSegment} (h : WtL SSegment.ct x.enc) : WtC (.int .i64) (.int x.SrcPort) := by
  obtain ⟨w0, h⟩ := wtl_uncons h
  obtain ⟨w1, h⟩ := wtl_uncons h
  obtain ⟨w2, h⟩ := wtl_uncons h
  obtain ⟨w3, h⟩ := wtl_uncons h
  obtain ⟨w4, h⟩ := wtl_uncons h
  obtain ⟨w5, h⟩ := wtl_uncons h
  obtain ⟨w6, h⟩ := wtl_uncons h
  obtain ⟨w7, h⟩ := wtl_uncons h
  exact w1
theorem SSegment.wt_DstPort {x : SSegment} (h : WtL SSegment.ct x.enc) : WtC (.int .i64) (.int x.DstPort) := by
  obtain ⟨w0, h⟩ := wtl_uncons h
  obtain ⟨w1, h⟩ := wtl_uncons h
  obtain ⟨w2, h⟩ := wtl_uncons h
  obtain ⟨w3, h⟩ := wtl_uncons h
  obtain ⟨w4, h⟩ := wtl_uncons h
  obtain ⟨w5, h⟩ := wtl_uncons h
  obtain ⟨w6, h⟩ := wtl_uncons h
  obtain ⟨w7, h⟩ := wtl_uncons h
  exact w2
theorem SSegment.wt_Seq {x : SSegment} (h : WtL SSegment.ct x.enc) : WtC (.int .i64) (.int x.Seq) := by
  obtain ⟨w0, h⟩ := wtl_uncons h
  obtain ⟨w1, h⟩ := wtl_uncons h
  obtain ⟨w2, h⟩ := wtl_uncons h
  obtain ⟨w3, h⟩ := wtl_uncons h
  obtain ⟨w4, h⟩ := wtl_uncons h
  obtain ⟨w5, h⟩ := wtl_uncons h
  obtain ⟨w6, h⟩ := wtl_uncons h
  obtain ⟨w7, h⟩ := wtl_uncons h
  exact w3
theorem SSegment.wt_Ack {x : SSegment} (h : WtL SSegment.ct x.enc) : WtC (.int .i64) (.int x.Ack) := by
  obtain ⟨w0, h⟩ := wtl_uncons h
  obtain ⟨w1, h⟩ := wtl_uncons h
  obtain ⟨w2, h⟩ := wtl_uncons h
  obtain ⟨w3, h⟩ := wtl_uncons h
  obtain ⟨w4, h⟩ := wtl_uncons h
  obtain ⟨w5, h⟩ := wtl_uncons h
  obtain ⟨w6, h⟩ := wtl_uncons h
  obtain ⟨w7, h⟩ := wtl_uncons h
  exact w4
theorem SSegment.wt_Flags {x : SSegment} (h : WtL SSegment.ct x.enc) : WtC (.int .i64) (.int x.Flags) := by
  obtain ⟨w0, h⟩ := wtl_uncons h
  obtain ⟨w1, h⟩ := wtl_uncons h
  obtain ⟨w2, h⟩ := wtl_uncons h
  obtain ⟨w3, h⟩ := wtl_uncons h
  obtain ⟨w4, h⟩ := wtl_uncons h
  obtain ⟨w5, h⟩ := wtl_uncons h
  obtain ⟨w6, h⟩ := wtl_uncons h
  obtain ⟨w7, h⟩ := wtl_uncons h
  exact w5
theorem SSegment.wt_Window {x : SSegment} (h : WtL SSegment.ct x.enc) : WtC (.int .i64) (.int x.Window) := by
  obtain ⟨w0, h⟩ := wtl_uncons h
  obtain ⟨w1, h⟩ := wtl_uncons h
  obtain ⟨w2, h⟩ := wtl_uncons h
  obtain ⟨w3, h⟩ := wtl_uncons h
  obtain ⟨w4, h⟩ := wtl_uncons h
  obtain ⟨w5, h⟩ := wtl_uncons h
  obtain ⟨w6, h⟩ := wtl_uncons h
  obtain ⟨w7, h⟩ := wtl_uncons h
  exact w6
theorem SSegment.wt_Body {x : SSegment} (h : WtL SSegment.ct x.enc) : WtC .str (.str x.Body) := by
  obtain ⟨w0, h⟩ := wtl_uncons h
  obtain ⟨w1, h⟩ := wtl_uncons h
  obtain ⟨w2, h⟩ := wtl_uncons h
  obtain ⟨w3, h⟩ := wtl_uncons h
  obtain ⟨w4, h⟩ := wtl_uncons h
  obtain ⟨w5, h⟩ := wtl_uncons h
  obtain ⟨w6, h⟩ := wtl_uncons h
  obtain ⟨w7, h⟩ := wtl_uncons h
  exact w7
theorem SSegment.eta {r : List DC} (h : WtL SSegment.ct r) : (SSegment.decAt r 0).enc = r := by
  have h : WtL (SSegment.ct ++ []) r := by simpa using h
  obtain ⟨x, ds, rfl, _, hn⟩ := SSegment.of_wt h
  obtain rfl := of_wt_nil hn
  rfl

structure SPacket where
  DstMac : Int
  SrcMac : Int
  Vlan : Int
  Tos : Int
  Id : Int
  Ttl : Int
  SrcIp : Int
  DstIp : Int
  Seg : SSegment
def SPacket.enc (x : SPacket) : List DC := [.int x.DstMac, .int x.SrcMac, .int x.Vlan, .int x.Tos, .int x.Id, .int x.Ttl, .int x.SrcIp, .int x.DstIp, .int x.Seg.Kind, .int x.Seg.SrcPort, .int x.Seg.DstPort, .int x.Seg.Seq, .int x.Seg.Ack, .int x.Seg.Flags, .int x.Seg.Window, .str x.Seg.Body]
def SPacket.decAt (r : List DC) (o : Nat) : SPacket := ⟨rI r (o + 0), rI r (o + 1), rI r (o + 2), rI r (o + 3), rI r (o + 4), rI r (o + 5), rI r (o + 6), rI r (o + 7), SSegment.decAt r (o + 8)⟩
def SPacket.ct : List CT := [.int .i64, .int .i64, .int .i64, .int .i64, .int .i64, .int .i64, .int .i64, .int .i64, .int .i64, .int .i64, .int .i64, .int .i64, .int .i64, .int .i64, .int .i64, .str]
theorem SPacket.of_wt {r : List CT} {ds : List DC} (h : WtL (SPacket.ct ++ r) ds) : ∃ (x : SPacket) (ds' : List DC), ds = x.enc ++ ds' ∧ WtL SPacket.ct x.enc ∧ WtL r ds' := by
  simp only [SPacket.ct, List.cons_append, List.nil_append, WtL, WtC] at h
  obtain ⟨_, _, rfl, ⟨a0, rfl, p0⟩, _, _, rfl, ⟨a1, rfl, p1⟩, _, _, rfl, ⟨a2, rfl, p2⟩, _, _, rfl, ⟨a3, rfl, p3⟩, _, _, rfl, ⟨a4, rfl, p4⟩, _, _, rfl, ⟨a5, rfl, p5⟩, _, _, rfl, ⟨a6, rfl, p6⟩, _, _, rfl, ⟨a7, rfl, p7⟩, _, _, rfl, ⟨a8, rfl, p8⟩, _, _, rfl, ⟨a9, rfl, p9⟩, _, _, rfl, ⟨a10, rfl, p10⟩, _, _, rfl, ⟨a11, rfl, p11⟩, _, _, rfl, ⟨a12, rfl, p12⟩, _, _, rfl, ⟨a13, rfl, p13⟩, _, _, rfl, ⟨a14, rfl, p14⟩, _, _, rfl, ⟨a15, rfl, p15⟩, h⟩ := h
  exact ⟨⟨a0, a1, a2, a3, a4, a5, a6, a7, ⟨a8, a9, a10, a11, a12, a13, a14, a15⟩⟩, _, rfl, by simp only [SPacket.ct, SPacket.enc, WtL, WtC]; exact ⟨_, _, rfl, ⟨_, rfl, p0⟩, _, _, rfl, ⟨_, rfl, p1⟩, _, _, rfl, ⟨_, rfl, p2⟩, _, _, rfl, ⟨_, rfl, p3⟩, _, _, rfl, ⟨_, rfl, p4⟩, _, _, rfl, ⟨_, rfl, p5⟩, _, _, rfl, ⟨_, rfl, p6⟩, _, _, rfl, ⟨_, rfl, p7⟩, _, _, rfl, ⟨_, rfl, p8⟩, _, _, rfl, ⟨_, rfl, p9⟩, _, _, rfl, ⟨_, rfl, p10⟩, _, _, rfl, ⟨_, rfl, p11⟩, _, _, rfl, ⟨_, rfl, p12⟩, _, _, rfl, ⟨_, rfl, p13⟩, _, _, rfl, ⟨_, rfl, p14⟩, _, _, rfl, ⟨_, rfl, p15⟩, rfl⟩, h⟩
theorem SPacket.wt_DstMac {x : SPacket} (h : WtL SPacket.ct x.enc) : WtC (.int .i64) (.int x.DstMac) := by
  obtain ⟨w0, h⟩ := wtl_uncons h
  obtain ⟨w1, h⟩ := wtl_uncons h
  obtain ⟨w2, h⟩ := wtl_uncons h
  obtain ⟨w3, h⟩ := wtl_uncons h
  obtain ⟨w4, h⟩ := wtl_uncons h
  obtain ⟨w5, h⟩ := wtl_uncons h
  obtain ⟨w6, h⟩ := wtl_uncons h
  obtain ⟨w7, h⟩ := wtl_uncons h
  obtain ⟨w8, h⟩ := wtl_uncons h
  obtain ⟨w9, h⟩ := wtl_uncons h
  obtain ⟨w10, h⟩ := wtl_uncons h
  obtain ⟨w11, h⟩ := wtl_uncons h
  obtain ⟨w12, h⟩ := wtl_uncons h
  obtain ⟨w13, h⟩ := wtl_uncons h
  obtain ⟨w14, h⟩ := wtl_uncons h
  obtain ⟨w15, h⟩ := wtl_uncons h
  exact w0
theorem SPacket.wt_SrcMac {x : SPacket} (h : WtL SPacket.ct x.enc) : WtC (.int .i64) (.int x.SrcMac) := by
  obtain ⟨w0, h⟩ := wtl_uncons h
  obtain ⟨w1, h⟩ := wtl_uncons h
  obtain ⟨w2, h⟩ := wtl_uncons h
  obtain ⟨w3, h⟩ := wtl_uncons h
  obtain ⟨w4, h⟩ := wtl_uncons h
  obtain ⟨w5, h⟩ := wtl_uncons h
  obtain ⟨w6, h⟩ := wtl_uncons h
  obtain ⟨w7, h⟩ := wtl_uncons h
  obtain ⟨w8, h⟩ := wtl_uncons h
  obtain ⟨w9, h⟩ := wtl_uncons h
  obtain ⟨w10, h⟩ := wtl_uncons h
  obtain ⟨w11, h⟩ := wtl_uncons h
  obtain ⟨w12, h⟩ := wtl_uncons h
  obtain ⟨w13, h⟩ := wtl_uncons h
  obtain ⟨w14, h⟩ := wtl_uncons h
  obtain ⟨w15, h⟩ := wtl_uncons h
  exact w1
theorem SPacket.wt_Vlan {x : SPacket} (h : WtL SPacket.ct x.enc) : WtC (.int .i64) (.int x.Vlan) := by
  obtain ⟨w0, h⟩ := wtl_uncons h
  obtain ⟨w1, h⟩ := wtl_uncons h
  obtain ⟨w2, h⟩ := wtl_uncons h
  obtain ⟨w3, h⟩ := wtl_uncons h
  obtain ⟨w4, h⟩ := wtl_uncons h
  obtain ⟨w5, h⟩ := wtl_uncons h
  obtain ⟨w6, h⟩ := wtl_uncons h
  obtain ⟨w7, h⟩ := wtl_uncons h
  obtain ⟨w8, h⟩ := wtl_uncons h
  obtain ⟨w9, h⟩ := wtl_uncons h
  obtain ⟨w10, h⟩ := wtl_uncons h
  obtain ⟨w11, h⟩ := wtl_uncons h
  obtain ⟨w12, h⟩ := wtl_uncons h
  obtain ⟨w13, h⟩ := wtl_uncons h
  obtain ⟨w14, h⟩ := wtl_uncons h
  obtain ⟨w15, h⟩ := wtl_uncons h
  exact w2
theorem SPacket.wt_Tos {x : SPacket} (h : WtL SPacket.ct x.enc) : WtC (.int .i64) (.int x.Tos) := by
  obtain ⟨w0, h⟩ := wtl_uncons h
  obtain ⟨w1, h⟩ := wtl_uncons h
  obtain ⟨w2, h⟩ := wtl_uncons h
  obtain ⟨w3, h⟩ := wtl_uncons h
  obtain ⟨w4, h⟩ := wtl_uncons h
  obtain ⟨w5, h⟩ := wtl_uncons h
  obtain ⟨w6, h⟩ := wtl_uncons h
  obtain ⟨w7, h⟩ := wtl_uncons h
  obtain ⟨w8, h⟩ := wtl_uncons h
  obtain ⟨w9, h⟩ := wtl_uncons h
  obtain ⟨w10, h⟩ := wtl_uncons h
  obtain ⟨w11, h⟩ := wtl_uncons h
  obtain ⟨w12, h⟩ := wtl_uncons h
  obtain ⟨w13, h⟩ := wtl_uncons h
  obtain ⟨w14, h⟩ := wtl_uncons h
  obtain ⟨w15, h⟩ := wtl_uncons h
  exact w3
theorem SPacket.wt_Id {x : SPacket} (h : WtL SPacket.ct x.enc) : WtC (.int .i64) (.int x.Id) := by
  obtain ⟨w0, h⟩ := wtl_uncons h
  obtain ⟨w1, h⟩ := wtl_uncons h
  obtain ⟨w2, h⟩ := wtl_uncons h
  obtain ⟨w3, h⟩ := wtl_uncons h
  obtain ⟨w4, h⟩ := wtl_uncons h
  obtain ⟨w5, h⟩ := wtl_uncons h
  obtain ⟨w6, h⟩ := wtl_uncons h
  obtain ⟨w7, h⟩ := wtl_uncons h
  obtain ⟨w8, h⟩ := wtl_uncons h
  obtain ⟨w9, h⟩ := wtl_uncons h
  obtain ⟨w10, h⟩ := wtl_uncons h
  obtain ⟨w11, h⟩ := wtl_uncons h
  obtain ⟨w12, h⟩ := wtl_uncons h
  obtain ⟨w13, h⟩ := wtl_uncons h
  obtain ⟨w14, h⟩ := wtl_uncons h
  obtain ⟨w15, h⟩ := wtl_uncons h
  exact w4
theorem SPacket.wt_Ttl {x : SPacket} (h : WtL SPacket.ct x.enc) : WtC (.int .i64) (.int x.Ttl) := by
  obtain ⟨w0, h⟩ := wtl_uncons h
  obtain ⟨w1, h⟩ := wtl_uncons h
  obtain ⟨w2, h⟩ := wtl_uncons h
  obtain ⟨w3, h⟩ := wtl_uncons h
  obtain ⟨w4, h⟩ := wtl_uncons h
  obtain ⟨w5, h⟩ := wtl_uncons h
  obtain ⟨w6, h⟩ := wtl_uncons h
  obtain ⟨w7, h⟩ := wtl_uncons h
  obtain ⟨w8, h⟩ := wtl_uncons h
  obtain ⟨w9, h⟩ := wtl_uncons h
  obtain ⟨w10, h⟩ := wtl_uncons h
  obtain ⟨w11, h⟩ := wtl_uncons h
  obtain ⟨w12, h⟩ := wtl_uncons h
  obtain ⟨w13, h⟩ := wtl_uncons h
  obtain ⟨w14, h⟩ := wtl_uncons h
  obtain ⟨w15, h⟩ := wtl_uncons h
  exact w5
theorem SPacket.wt_SrcIp {x : SPacket} (h : WtL SPacket.ct x.enc) : WtC (.int .i64) (.int x.SrcIp) := by
  obtain ⟨w0, h⟩ := wtl_uncons h
  obtain ⟨w1, h⟩ := wtl_uncons h
  obtain ⟨w2, h⟩ := wtl_uncons h
  obtain ⟨w3, h⟩ := wtl_uncons h
  obtain ⟨w4, h⟩ := wtl_uncons h
  obtain ⟨w5, h⟩ := wtl_uncons h
  obtain ⟨w6, h⟩ := wtl_uncons h
  obtain ⟨w7, h⟩ := wtl_uncons h
  obtain ⟨w8, h⟩ := wtl_uncons h
  obtain ⟨w9, h⟩ := wtl_uncons h
  obtain ⟨w10, h⟩ := wtl_uncons h
  obtain ⟨w11, h⟩ := wtl_uncons h
  obtain ⟨w12, h⟩ := wtl_uncons h
  obtain ⟨w13, h⟩ := wtl_uncons h
  obtain ⟨w14, h⟩ := wtl_uncons h
  obtain ⟨w15, h⟩ := wtl_uncons h
  exact w6
theorem SPacket.wt_DstIp {x : SPacket} (h : WtL SPacket.ct x.enc) : WtC (.int .i64) (.int x.DstIp) := by
  obtain ⟨w0, h⟩ := wtl_uncons h
  obtain ⟨w1, h⟩ := wtl_uncons h
  obtain ⟨w2, h⟩ := wtl_uncons h
  obtain ⟨w3, h⟩ := wtl_uncons h
  obtain ⟨w4, h⟩ := wtl_uncons h
  obtain ⟨w5, h⟩ := wtl_uncons h
  obtain ⟨w6, h⟩ := wtl_uncons h
  obtain ⟨w7, h⟩ := wtl_uncons h
  obtain ⟨w8, h⟩ := wtl_uncons h
  obtain ⟨w9, h⟩ := wtl_uncons h
  obtain ⟨w10, h⟩ := wtl_uncons h
  obtain ⟨w11, h⟩ := wtl_uncons h
  obtain ⟨w12, h⟩ := wtl_uncons h
  obtain ⟨w13, h⟩ := wtl_uncons h
  obtain ⟨w14, h⟩ := wtl_uncons h
  obtain ⟨w15, h⟩ := wtl_uncons h
  exact w7
theorem SPacket.wt_Seg {x : SPacket} (h : WtL SPacket.ct x.enc) : WtL SSegment.ct x.Seg.enc := by
  obtain ⟨w0, h⟩ := wtl_uncons h
  obtain ⟨w1, h⟩ := wtl_uncons h
  obtain ⟨w2, h⟩ := wtl_uncons h
  obtain ⟨w3, h⟩ := wtl_uncons h
  obtain ⟨w4, h⟩ := wtl_uncons h
  obtain ⟨w5, h⟩ := wtl_uncons h
  obtain ⟨w6, h⟩ := wtl_uncons h
  obtain ⟨w7, h⟩ := wtl_uncons h
  obtain ⟨w8, h⟩ := wtl_uncons h
  obtain ⟨w9, h⟩ := wtl_uncons h
  obtain ⟨w10, h⟩ := wtl_uncons h
  obtain ⟨w11, h⟩ := wtl_uncons h
  obtain ⟨w12, h⟩ := wtl_uncons h
  obtain ⟨w13, h⟩ := wtl_uncons h
  obtain ⟨w14, h⟩ := wtl_uncons h
  obtain ⟨w15, h⟩ := wtl_uncons h
  exact wtl_mk w8 (wtl_mk w9 (wtl_mk w10 (wtl_mk w11 (wtl_mk w12 (wtl_mk w13 (wtl_mk w14 (wtl_mk w15 (wtl_nil))))))))
theorem SPacket.eta {r : List DC} (h : WtL SPacket.ct r) : (SPacket.decAt r 0).enc = r := by
  have h : WtL (SPacket.ct ++ []) r := by simpa using h
  obtain ⟨x, ds, rfl, _, hn⟩ := SPacket.of_wt h
  obtain rfl := of_wt_nil hn
  rfl

def impl_SegmentOk_t {α : Type} (k_ : Bool → α) (g : SSegment) : α :=
  bif bif !(between g.SrcPort 0 65535) then true else bif !(between g.DstPort 0 65535) then true else decide (320 < len g.Body) then k_ false
  else bif g.Kind == 6 then k_ (bif between g.Seq 0 4294967295 then bif between g.Ack 0 4294967295 then bif between g.Flags 0 31 then between g.Window 0 65535 else false else false else false)
  else bif g.Kind == 17 then k_ (bif g.Seq == 0 then bif g.Ack == 0 then bif g.Flags == 0 then g.Window == 0 else false else false else false)
  else k_ false
def SegmentOk (g : SSegment) : Bool := impl_SegmentOk_t id g
theorem impl_SegmentOk_c {α : Type} (k_ : Bool → α) (g : SSegment) : impl_SegmentOk_t k_ g = k_ (SegmentOk g) := by
  exact cond_k rfl (cond_k rfl (cond_k rfl rfl))

def spec_SegmentOk_t {α : Type} (k_ : Bool → α) (g : SSegment) : α :=
  bif bif !(between g.SrcPort 0 65535) then true else bif !(between g.DstPort 0 65535) then true else decide (320 < len g.Body) then k_ false
  else bif g.Kind == 17 then k_ (bif g.Seq == 0 then bif g.Ack == 0 then bif g.Flags == 0 then g.Window == 0 else false else false else false)
  else k_ (bif g.Kind == 6 then bif between g.Seq 0 4294967295 then bif between g.Ack 0 4294967295 then bif between g.Flags 0 31 then between g.Window 0 65535 else false else false else false else false)
theorem spec_SegmentOk_c {α : Type} (k_ : Bool → α) (g : SSegment) (h_g : WtL SSegment.ct g.enc) : spec_SegmentOk_t k_ g = k_ (SegmentOk g) := by
  unfold spec_SegmentOk_t SegmentOk impl_SegmentOk_t
  refine cond_k rfl ?_
  by_cases h6 : g.Kind = 6
  · have h17 : (g.Kind == 17) = false := by rw [h6]; rfl
    have h6' : (g.Kind == 6) = true := by rw [h6]; rfl
    rw [h17, h6']
    rfl
  · have h6' : (g.Kind == 6) = false := by simpa using h6
    rw [h6']
    cases (g.Kind == 17) <;> rfl

def impl_streaming_t {α : Type} (k_ : Bool → α) (flags : Int) : α :=
  k_ (bif (bits .and .i64 flags 16) != 0 then (bits .andNot .i64 flags 25) == 0 else false)
def streaming (flags : Int) : Bool := impl_streaming_t id flags
theorem impl_streaming_c {α : Type} (k_ : Bool → α) (flags : Int) : impl_streaming_t k_ flags = k_ (streaming flags) := by
  rfl

def impl_SuperOk_t {α : Type} (k_ : Bool → α) (p : SPacket) : α :=
  k_ (bif between p.DstMac 0 281474976710655 then bif between p.SrcMac 0 281474976710655 then bif between p.Vlan (-1) 4095 then bif between p.Tos 0 255 then bif between p.Ttl 0 255 then bif between p.Id 0 65535 then bif between p.SrcIp 0 4294967295 then bif between p.DstIp 0 4294967295 then bif SegmentOk p.Seg then bif decide (len p.Seg.Body ≤ 128) then true else bif p.Seg.Kind == 6 then streaming p.Seg.Flags else false else false else false else false else false else false else false else false else false else false)
def SuperOk (p : SPacket) : Bool := impl_SuperOk_t id p
theorem impl_SuperOk_c {α : Type} (k_ : Bool → α) (p : SPacket) : impl_SuperOk_t k_ p = k_ (SuperOk p) := by
  rfl

def spec_SuperOk_t {α : Type} (k_ : Bool → α) (p : SPacket) : α :=
  bif bif !(between p.DstMac 0 281474976710655) then true else bif !(between p.SrcMac 0 281474976710655) then true else bif !(between p.Vlan (-1) 4095) then true else bif !(between p.Tos 0 255) then true else bif !(between p.Ttl 0 255) then true else bif !(between p.Id 0 65535) then true else bif !(between p.SrcIp 0 4294967295) then true else bif !(between p.DstIp 0 4294967295) then true else !(SegmentOk p.Seg) then k_ false
  else k_ (bif bif p.Seg.Kind == 6 then (bits .andNot .i64 p.Seg.Flags 9) == 16 else false then true else decide (len p.Seg.Body ≤ 128))
theorem streaming_eq {f : Int} (h : between f 0 31 = true) : ((bits .andNot .i64 f 9) == 16) = streaming f := by
  have key : ∀ n : Fin 32, ((bits .andNot .i64 ((n.val : Nat) : Int) 9) == 16) = streaming ((n.val : Nat) : Int) := by decide +kernel
  have h0 : 0 ≤ f ∧ f ≤ 31 := by
    unfold between impl_between_t at h
    by_cases h1 : 0 ≤ f
    · by_cases h2 : f ≤ 31
      · exact ⟨h1, h2⟩
      · simp [h1, h2] at h
    · simp [h1] at h
  have := key ⟨f.toNat, by omega⟩
  simp only at this
  rw [show ((f.toNat : Nat) : Int) = f by omega] at this
  exact this
theorem seg_flags {g : SSegment} (h : SegmentOk g = true) (h6 : (g.Kind == 6) = true) : between g.Flags 0 31 = true := by
  unfold SegmentOk impl_SegmentOk_t at h
  rw [h6] at h
  cases hb : between g.Flags 0 31
  · rw [hb] at h
    revert h
    cases (bif !(between g.SrcPort 0 65535) then true else bif !(between g.DstPort 0 65535) then true else decide (320 < len g.Body)) <;> cases between g.Seq 0 4294967295 <;> cases between g.Ack 0 4294967295 <;> simp
  · rfl
theorem spec_SuperOk_c {α : Type} (k_ : Bool → α) (p : SPacket) (h_p : WtL SPacket.ct p.enc) : spec_SuperOk_t k_ p = k_ (SuperOk p) := by
  unfold spec_SuperOk_t SuperOk impl_SuperOk_t
  cases between p.DstMac 0 281474976710655
  · rfl
  cases between p.SrcMac 0 281474976710655
  · rfl
  cases between p.Vlan (-1) 4095
  · rfl
  cases between p.Tos 0 255
  · rfl
  cases between p.Ttl 0 255
  · rfl
  cases between p.Id 0 65535
  · rfl
  cases between p.SrcIp 0 4294967295
  · rfl
  cases between p.DstIp 0 4294967295
  · rfl
  cases hs : SegmentOk p.Seg
  · rfl
  cases h6 : (p.Seg.Kind == 6)
  · cases decide (len p.Seg.Body ≤ 128) <;> rfl
  · rw [streaming_eq (seg_flags hs h6)]
    cases streaming p.Seg.Flags <;> cases decide (len p.Seg.Body ≤ 128) <;> rfl

def impl_EntryVlan_t {α : Type} (bad : α) (k_ : Int → α) (list_ : Rows) (from_ : Int) (p : SPacket) : α :=
  let z0 : Int := bif p.Vlan == (-1) then rI (nth list_ (Int.toNat from_)) 2 else p.Vlan
  bif bif !(PortsOk list_) then true else bif !(SuperOk p) then true else !(between from_ 0 (w64 ((len list_) - 1))) then k_ (-1)
  else bif andt true (idx from_ list_) then
      bif bif !(hasInt (rR (nth list_ (Int.toNat from_)) 1) z0) then true else bif from_ != 0 then bif rB (nth list_ (Int.toNat from_)) 3 then (rI (nth list_ (Int.toNat from_)) 0) != p.SrcMac else false else false then k_ (-1)
      else k_ z0
    else bad
theorem ports_idx {list_ : Rows} {n : Int} (hl : list_.length ≤ 9223372036854775807) (h : between n 0 (w64 (len list_ - 1)) = true) : idx n list_ = true := by
  have hl0 : 0 ≤ len list_ := by simp [len]
  have hl1 : len list_ ≤ 9223372036854775807 := by simp only [len]; omega
  rw [w64_in (by omega) (by omega)] at h
  unfold between impl_between_t at h
  by_cases h1 : 0 ≤ n
  · by_cases h2 : n ≤ len list_ - 1
    · simp only [len] at h2
      simp only [idx, Bool.and_eq_true]
      exact ⟨decide_eq_true h1, decide_eq_true (by omega)⟩
    · simp [h1, h2] at h
  · simp [h1] at h
def EntryVlan (list_ : Rows) (from_ : Int) (p : SPacket) : Int :=
  bif bif !(PortsOk list_) then true else bif !(SuperOk p) then true else !(between from_ 0 (w64 ((len list_) - 1))) then -1
  else bif bif !(hasInt (rR (nth list_ (Int.toNat from_)) 1) (bif p.Vlan == (-1) then rI (nth list_ (Int.toNat from_)) 2 else p.Vlan)) then true else bif from_ != 0 then bif rB (nth list_ (Int.toNat from_)) 3 then (rI (nth list_ (Int.toNat from_)) 0) != p.SrcMac else false else false then -1
  else bif p.Vlan == (-1) then rI (nth list_ (Int.toNat from_)) 2 else p.Vlan
theorem super_vlan {p : SPacket} (h : SuperOk p = true) : decide (p.Vlan < 0) = (p.Vlan == (-1)) := by
  have hv : between p.Vlan (-1) 4095 = true := by
    unfold SuperOk impl_SuperOk_t at h
    cases hv : between p.Vlan (-1) 4095
    · rw [hv] at h
      revert h
      cases between p.DstMac 0 281474976710655 <;> cases between p.SrcMac 0 281474976710655 <;> simp
    · rfl
  unfold between impl_between_t at hv
  by_cases h1 : -1 ≤ p.Vlan
  · by_cases h2 : p.Vlan = -1
    · rw [h2]
      rfl
    · rw [decide_eq_false (by omega)]
      simp [h2]
  · simp [h1] at hv
theorem impl_EntryVlan_c {α : Type} (bad : α) (k_ : Int → α) (list_ : Rows) (from_ : Int) (p : SPacket) (h_list_ : WtC (.sl [.int .i64, .sl [.int .i64], .int .i64, .bool]) (.sl list_)) (h_from_ : WtC (.int .i64) (.int from_)) (h_p : WtL SPacket.ct p.enc) : impl_EntryVlan_t bad k_ list_ from_ p = k_ (EntryVlan list_ from_ p) := by
  obtain ⟨hl, _⟩ := wt_sl h_list_
  unfold impl_EntryVlan_t EntryVlan
  refine cond_c (fun _ => rfl) (fun hg => ?_)
  have hx : idx from_ list_ = true := ports_idx hl (by
    cases h1 : PortsOk list_
    · rw [h1] at hg
      cases hg
    · rw [h1] at hg
      cases h2 : SuperOk p
      · rw [h2] at hg
        cases hg
      · rw [h2] at hg
        cases h3 : between from_ 0 (w64 (len list_ - 1))
        · rw [h3] at hg
          cases hg
        · rfl)
  simp only [hx, andt_true_l, andt_true_r, cond_true, okm_tt]
  exact cond_k rfl rfl

end
end Go.Proofs.Ytfnkhejoihnlnaa.Pl
