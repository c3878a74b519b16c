/- What functions of the program compute, in plain Lean, as the value machine runs them. Conditions: none. -/
import Derived.Test.YthpmalpdnnbkgaaGreatPre
import Derived.Test.YthpmalpdnnbkgaaGreatLem
set_option linter.unusedVariables false
set_option linter.unusedSimpArgs false
set_option maxRecDepth 100000
namespace Go.Proofs.YthpmalpdnnbkgaaGreat.Pl
open Vm
noncomputable section

structure SMapping where
  Domain : Int
  Virtual : Int
  Physical : Int
  Writable : Bool
def SMapping.enc (x : SMapping) : List DC := [.int x.Domain, .int x.Virtual, .int x.Physical, .bool x.Writable]
def SMapping.decAt (r : List DC) (o : Nat) : SMapping := ⟨rI r (o + 0), rI r (o + 1), rI r (o + 2), rB r (o + 3)⟩
def SMapping.ct : List CT := [.int .i64, .int .i64, .int .i64, .bool]
theorem SMapping.eta {r : List DC} (h : WtL SMapping.ct r) : (SMapping.decAt r 0).enc = r := (show (SMapping.decAt r 0).enc = canonL SMapping.ct r 0 from by kernel_rfl).trans (canon_eq h)
theorem SMapping.of_wt {r : List CT} {ds : List DC} (h : WtL (SMapping.ct ++ r) ds) : ∃ (x : SMapping) (ds' : List DC), ds = x.enc ++ ds' ∧ WtL SMapping.ct x.enc ∧ WtL r ds' := by
  obtain ⟨d1, d2, rfl, h1, h2⟩ := wtl_split h
  exact ⟨SMapping.decAt d1 0, d2, by rw [SMapping.eta h1], by rw [SMapping.eta h1]; exact h1, h2⟩
theorem SMapping.wt_Domain {x : SMapping} (h : WtL SMapping.ct x.enc) : WtC (.int .i64) (.int x.Domain) := wtl_get 0 h rfl rfl
theorem SMapping.wt_Virtual {x : SMapping} (h : WtL SMapping.ct x.enc) : WtC (.int .i64) (.int x.Virtual) := wtl_get 1 h rfl rfl
theorem SMapping.wt_Physical {x : SMapping} (h : WtL SMapping.ct x.enc) : WtC (.int .i64) (.int x.Physical) := wtl_get 2 h rfl rfl
theorem SMapping.wt_Writable {x : SMapping} (h : WtL SMapping.ct x.enc) : WtC .bool (.bool x.Writable) := wtl_get 3 h rfl rfl

structure SMemory where
  Pages : Rows
def SMemory.enc (x : SMemory) : List DC := [.sl x.Pages]
def SMemory.decAt (r : List DC) (o : Nat) : SMemory := ⟨rR r (o + 0)⟩
def SMemory.ct : List CT := [.sl [.str]]
theorem SMemory.eta {r : List DC} (h : WtL SMemory.ct r) : (SMemory.decAt r 0).enc = r := (show (SMemory.decAt r 0).enc = canonL SMemory.ct r 0 from by kernel_rfl).trans (canon_eq h)
theorem SMemory.of_wt {r : List CT} {ds : List DC} (h : WtL (SMemory.ct ++ r) ds) : ∃ (x : SMemory) (ds' : List DC), ds = x.enc ++ ds' ∧ WtL SMemory.ct x.enc ∧ WtL r ds' := by
  obtain ⟨d1, d2, rfl, h1, h2⟩ := wtl_split h
  exact ⟨SMemory.decAt d1 0, d2, by rw [SMemory.eta h1], by rw [SMemory.eta h1]; exact h1, h2⟩
theorem SMemory.wt_Pages {x : SMemory} (h : WtL SMemory.ct x.enc) : WtC (.sl [.str]) (.sl x.Pages) := wtl_get 0 h rfl rfl

structure SPool where
  Base : Int
  Size : Int
  Count : Int
  Free : Rows
def SPool.enc (x : SPool) : List DC := [.int x.Base, .int x.Size, .int x.Count, .sl x.Free]
def SPool.decAt (r : List DC) (o : Nat) : SPool := ⟨rI r (o + 0), rI r (o + 1), rI r (o + 2), rR r (o + 3)⟩
def SPool.ct : List CT := [.int .i64, .int .i64, .int .i64, .sl [.int .i64]]
theorem SPool.eta {r : List DC} (h : WtL SPool.ct r) : (SPool.decAt r 0).enc = r := (show (SPool.decAt r 0).enc = canonL SPool.ct r 0 from by kernel_rfl).trans (canon_eq h)
theorem SPool.of_wt {r : List CT} {ds : List DC} (h : WtL (SPool.ct ++ r) ds) : ∃ (x : SPool) (ds' : List DC), ds = x.enc ++ ds' ∧ WtL SPool.ct x.enc ∧ WtL r ds' := by
  obtain ⟨d1, d2, rfl, h1, h2⟩ := wtl_split h
  exact ⟨SPool.decAt d1 0, d2, by rw [SPool.eta h1], by rw [SPool.eta h1]; exact h1, h2⟩
theorem SPool.wt_Base {x : SPool} (h : WtL SPool.ct x.enc) : WtC (.int .i64) (.int x.Base) := wtl_get 0 h rfl rfl
theorem SPool.wt_Size {x : SPool} (h : WtL SPool.ct x.enc) : WtC (.int .i64) (.int x.Size) := wtl_get 1 h rfl rfl
theorem SPool.wt_Count {x : SPool} (h : WtL SPool.ct x.enc) : WtC (.int .i64) (.int x.Count) := wtl_get 2 h rfl rfl
theorem SPool.wt_Free {x : SPool} (h : WtL SPool.ct x.enc) : WtC (.sl [.int .i64]) (.sl x.Free) := wtl_get 3 h rfl rfl

structure SSent where
  Cookie : Int
  Slots : Int
  Buffers : Rows
def SSent.enc (x : SSent) : List DC := [.int x.Cookie, .int x.Slots, .sl x.Buffers]
def SSent.decAt (r : List DC) (o : Nat) : SSent := ⟨rI r (o + 0), rI r (o + 1), rR r (o + 2)⟩
def SSent.ct : List CT := [.int .i64, .int .i64, .sl [.int .i64]]
theorem SSent.eta {r : List DC} (h : WtL SSent.ct r) : (SSent.decAt r 0).enc = r := (show (SSent.decAt r 0).enc = canonL SSent.ct r 0 from by kernel_rfl).trans (canon_eq h)
theorem SSent.of_wt {r : List CT} {ds : List DC} (h : WtL (SSent.ct ++ r) ds) : ∃ (x : SSent) (ds' : List DC), ds = x.enc ++ ds' ∧ WtL SSent.ct x.enc ∧ WtL r ds' := by
  obtain ⟨d1, d2, rfl, h1, h2⟩ := wtl_split h
  exact ⟨SSent.decAt d1 0, d2, by rw [SSent.eta h1], by rw [SSent.eta h1]; exact h1, h2⟩
theorem SSent.wt_Cookie {x : SSent} (h : WtL SSent.ct x.enc) : WtC (.int .i64) (.int x.Cookie) := wtl_get 0 h rfl rfl
theorem SSent.wt_Slots {x : SSent} (h : WtL SSent.ct x.enc) : WtC (.int .i64) (.int x.Slots) := wtl_get 1 h rfl rfl
theorem SSent.wt_Buffers {x : SSent} (h : WtL SSent.ct x.enc) : WtC (.sl [.int .i64]) (.sl x.Buffers) := wtl_get 2 h rfl rfl

structure SRing where
  Base : Int
  Size : Int
  Head : Int
  Tail : Int
def SRing.enc (x : SRing) : List DC := [.int x.Base, .int x.Size, .int x.Head, .int x.Tail]
def SRing.decAt (r : List DC) (o : Nat) : SRing := ⟨rI r (o + 0), rI r (o + 1), rI r (o + 2), rI r (o + 3)⟩
def SRing.ct : List CT := [.int .i64, .int .i64, .int .i64, .int .i64]
theorem SRing.eta {r : List DC} (h : WtL SRing.ct r) : (SRing.decAt r 0).enc = r := (show (SRing.decAt r 0).enc = canonL SRing.ct r 0 from by kernel_rfl).trans (canon_eq h)
theorem SRing.of_wt {r : List CT} {ds : List DC} (h : WtL (SRing.ct ++ r) ds) : ∃ (x : SRing) (ds' : List DC), ds = x.enc ++ ds' ∧ WtL SRing.ct x.enc ∧ WtL r ds' := by
  obtain ⟨d1, d2, rfl, h1, h2⟩ := wtl_split h
  exact ⟨SRing.decAt d1 0, d2, by rw [SRing.eta h1], by rw [SRing.eta h1]; exact h1, h2⟩
theorem SRing.wt_Base {x : SRing} (h : WtL SRing.ct x.enc) : WtC (.int .i64) (.int x.Base) := wtl_get 0 h rfl rfl
theorem SRing.wt_Size {x : SRing} (h : WtL SRing.ct x.enc) : WtC (.int .i64) (.int x.Size) := wtl_get 1 h rfl rfl
theorem SRing.wt_Head {x : SRing} (h : WtL SRing.ct x.enc) : WtC (.int .i64) (.int x.Head) := wtl_get 2 h rfl rfl
theorem SRing.wt_Tail {x : SRing} (h : WtL SRing.ct x.enc) : WtC (.int .i64) (.int x.Tail) := wtl_get 3 h rfl rfl

structure STxQueue where
  Ring : SRing
  Pool : SPool
  Waiting : Rows
  Next : Int
def STxQueue.enc (x : STxQueue) : List DC := [.int x.Ring.Base, .int x.Ring.Size, .int x.Ring.Head, .int x.Ring.Tail, .int x.Pool.Base, .int x.Pool.Size, .int x.Pool.Count, .sl x.Pool.Free, .sl x.Waiting, .int x.Next]
def STxQueue.decAt (r : List DC) (o : Nat) : STxQueue := ⟨SRing.decAt r (o + 0), SPool.decAt r (o + 4), rR r (o + 8), rI r (o + 9)⟩
def STxQueue.ct : List CT := [.int .i64, .int .i64, .int .i64, .int .i64, .int .i64, .int .i64, .int .i64, .sl [.int .i64], .sl [.int .i64, .int .i64, .sl [.int .i64]], .int .i64]
theorem STxQueue.eta {r : List DC} (h : WtL STxQueue.ct r) : (STxQueue.decAt r 0).enc = r := (show (STxQueue.decAt r 0).enc = canonL STxQueue.ct r 0 from by kernel_rfl).trans (canon_eq h)
theorem STxQueue.of_wt {r : List CT} {ds : List DC} (h : WtL (STxQueue.ct ++ r) ds) : ∃ (x : STxQueue) (ds' : List DC), ds = x.enc ++ ds' ∧ WtL STxQueue.ct x.enc ∧ WtL r ds' := by
  obtain ⟨d1, d2, rfl, h1, h2⟩ := wtl_split h
  exact ⟨STxQueue.decAt d1 0, d2, by rw [STxQueue.eta h1], by rw [STxQueue.eta h1]; exact h1, h2⟩
theorem STxQueue.wt_Ring {x : STxQueue} (h : WtL STxQueue.ct x.enc) : WtL SRing.ct x.Ring.enc := wtl_seg 0 4 h
theorem STxQueue.wt_Pool {x : STxQueue} (h : WtL STxQueue.ct x.enc) : WtL SPool.ct x.Pool.enc := wtl_seg 4 4 h
theorem STxQueue.wt_Waiting {x : STxQueue} (h : WtL STxQueue.ct x.enc) : WtC (.sl [.int .i64, .int .i64, .sl [.int .i64]]) (.sl x.Waiting) := wtl_get 8 h rfl rfl
theorem STxQueue.wt_Next {x : STxQueue} (h : WtL STxQueue.ct x.enc) : WtC (.int .i64) (.int x.Next) := wtl_get 9 h rfl rfl

structure SSegment where
  Kind : Int
  SrcPort : Int
  DstPort : Int
  Seq : Int
  Ack : Int
  Flags : Int
  Window : Int
  Body : Bytes
def SSegment.enc (x : SSegment) : List DC := [.int x.Kind, .int x.SrcPort, .int x.DstPort, .int x.Seq, .int x.Ack, .int x.Flags, .int x.Window, .str x.Body]
def SSegment.decAt (r : List DC) (o : Nat) : SSegment := ⟨rI r (o + 0), rI r (o + 1), rI r (o + 2), rI r (o + 3), rI r (o + 4), rI r (o + 5), rI r (o + 6), rS r (o + 7)⟩
def SSegment.ct : List CT := [.int .i64, .int .i64, .int .i64, .int .i64, .int .i64, .int .i64, .int .i64, .str]
theorem SSegment.eta {r : List DC} (h : WtL SSegment.ct r) : (SSegment.decAt r 0).enc = r := (show (SSegment.decAt r 0).enc = canonL SSegment.ct r 0 from by kernel_rfl).trans (canon_eq h)
theorem SSegment.of_wt {r : List CT} {ds : List DC} (h : WtL (SSegment.ct ++ r) ds) : ∃ (x : SSegment) (ds' : List DC), ds = x.enc ++ ds' ∧ WtL SSegment.ct x.enc ∧ WtL r ds' := by
  obtain ⟨d1, d2, rfl, h1, h2⟩ := wtl_split h
  exact ⟨SSegment.decAt d1 0, d2, by rw [SSegment.eta h1], by rw [SSegment.eta h1]; exact h1, h2⟩
theorem SSegment.wt_Kind {x : SSegment} (h : WtL SSegment.ct x.enc) : WtC (.int .i64) (.int x.Kind) := wtl_get 0 h rfl rfl
theorem SSegment.wt_SrcPort {x : SSegment} (h : WtL SSegment.ct x.enc) : WtC (.int .i64) (.int x.SrcPort) := wtl_get 1 h rfl rfl
theorem SSegment.wt_DstPort {x : SSegment} (h : WtL SSegment.ct x.enc) : WtC (.int .i64) (.int x.DstPort) := wtl_get 2 h rfl rfl
theorem SSegment.wt_Seq {x : SSegment} (h : WtL SSegment.ct x.enc) : WtC (.int .i64) (.int x.Seq) := wtl_get 3 h rfl rfl
theorem SSegment.wt_Ack {x : SSegment} (h : WtL SSegment.ct x.enc) : WtC (.int .i64) (.int x.Ack) := wtl_get 4 h rfl rfl
theorem SSegment.wt_Flags {x : SSegment} (h : WtL SSegment.ct x.enc) : WtC (.int .i64) (.int x.Flags) := wtl_get 5 h rfl rfl
theorem SSegment.wt_Window {x : SSegment} (h : WtL SSegment.ct x.enc) : WtC (.int .i64) (.int x.Window) := wtl_get 6 h rfl rfl
theorem SSegment.wt_Body {x : SSegment} (h : WtL SSegment.ct x.enc) : WtC .str (.str x.Body) := wtl_get 7 h rfl rfl

structure SPacket where
  DstMac : Int
  SrcMac : Int
  Vlan : Int
  Tos : Int
  Id : Int
  Ttl : Int
  SrcIp : Int
  DstIp : Int
  Seg : SSegment
def SPacket.enc (x : SPacket) : List DC := [.int x.DstMac, .int x.SrcMac, .int x.Vlan, .int x.Tos, .int x.Id, .int x.Ttl, .int x.SrcIp, .int x.DstIp, .int x.Seg.Kind, .int x.Seg.SrcPort, .int x.Seg.DstPort, .int x.Seg.Seq, .int x.Seg.Ack, .int x.Seg.Flags, .int x.Seg.Window, .str x.Seg.Body]
def SPacket.decAt (r : List DC) (o : Nat) : SPacket := ⟨rI r (o + 0), rI r (o + 1), rI r (o + 2), rI r (o + 3), rI r (o + 4), rI r (o + 5), rI r (o + 6), rI r (o + 7), SSegment.decAt r (o + 8)⟩
def SPacket.ct : List CT := [.int .i64, .int .i64, .int .i64, .int .i64, .int .i64, .int .i64, .int .i64, .int .i64, .int .i64, .int .i64, .int .i64, .int .i64, .int .i64, .int .i64, .int .i64, .str]
theorem SPacket.eta {r : List DC} (h : WtL SPacket.ct r) : (SPacket.decAt r 0).enc = r := (show (SPacket.decAt r 0).enc = canonL SPacket.ct r 0 from by kernel_rfl).trans (canon_eq h)
theorem SPacket.of_wt {r : List CT} {ds : List DC} (h : WtL (SPacket.ct ++ r) ds) : ∃ (x : SPacket) (ds' : List DC), ds = x.enc ++ ds' ∧ WtL SPacket.ct x.enc ∧ WtL r ds' := by
  obtain ⟨d1, d2, rfl, h1, h2⟩ := wtl_split h
  exact ⟨SPacket.decAt d1 0, d2, by rw [SPacket.eta h1], by rw [SPacket.eta h1]; exact h1, h2⟩
theorem SPacket.wt_DstMac {x : SPacket} (h : WtL SPacket.ct x.enc) : WtC (.int .i64) (.int x.DstMac) := wtl_get 0 h rfl rfl
theorem SPacket.wt_SrcMac {x : SPacket} (h : WtL SPacket.ct x.enc) : WtC (.int .i64) (.int x.SrcMac) := wtl_get 1 h rfl rfl
theorem SPacket.wt_Vlan {x : SPacket} (h : WtL SPacket.ct x.enc) : WtC (.int .i64) (.int x.Vlan) := wtl_get 2 h rfl rfl
theorem SPacket.wt_Tos {x : SPacket} (h : WtL SPacket.ct x.enc) : WtC (.int .i64) (.int x.Tos) := wtl_get 3 h rfl rfl
theorem SPacket.wt_Id {x : SPacket} (h : WtL SPacket.ct x.enc) : WtC (.int .i64) (.int x.Id) := wtl_get 4 h rfl rfl
theorem SPacket.wt_Ttl {x : SPacket} (h : WtL SPacket.ct x.enc) : WtC (.int .i64) (.int x.Ttl) := wtl_get 5 h rfl rfl
theorem SPacket.wt_SrcIp {x : SPacket} (h : WtL SPacket.ct x.enc) : WtC (.int .i64) (.int x.SrcIp) := wtl_get 6 h rfl rfl
theorem SPacket.wt_DstIp {x : SPacket} (h : WtL SPacket.ct x.enc) : WtC (.int .i64) (.int x.DstIp) := wtl_get 7 h rfl rfl
theorem SPacket.wt_Seg {x : SPacket} (h : WtL SPacket.ct x.enc) : WtL SSegment.ct x.Seg.enc := wtl_seg 8 8 h

structure SSuper where
  Packet : SPacket
  Size : Int
  Count : Int
def SSuper.enc (x : SSuper) : List DC := [.int x.Packet.DstMac, .int x.Packet.SrcMac, .int x.Packet.Vlan, .int x.Packet.Tos, .int x.Packet.Id, .int x.Packet.Ttl, .int x.Packet.SrcIp, .int x.Packet.DstIp, .int x.Packet.Seg.Kind, .int x.Packet.Seg.SrcPort, .int x.Packet.Seg.DstPort, .int x.Packet.Seg.Seq, .int x.Packet.Seg.Ack, .int x.Packet.Seg.Flags, .int x.Packet.Seg.Window, .str x.Packet.Seg.Body, .int x.Size, .int x.Count]
def SSuper.decAt (r : List DC) (o : Nat) : SSuper := ⟨SPacket.decAt r (o + 0), rI r (o + 16), rI r (o + 17)⟩
def SSuper.ct : List CT := [.int .i64, .int .i64, .int .i64, .int .i64, .int .i64, .int .i64, .int .i64, .int .i64, .int .i64, .int .i64, .int .i64, .int .i64, .int .i64, .int .i64, .int .i64, .str, .int .i64, .int .i64]
theorem SSuper.eta {r : List DC} (h : WtL SSuper.ct r) : (SSuper.decAt r 0).enc = r := (show (SSuper.decAt r 0).enc = canonL SSuper.ct r 0 from by kernel_rfl).trans (canon_eq h)
theorem SSuper.of_wt {r : List CT} {ds : List DC} (h : WtL (SSuper.ct ++ r) ds) : ∃ (x : SSuper) (ds' : List DC), ds = x.enc ++ ds' ∧ WtL SSuper.ct x.enc ∧ WtL r ds' := by
  obtain ⟨d1, d2, rfl, h1, h2⟩ := wtl_split h
  exact ⟨SSuper.decAt d1 0, d2, by rw [SSuper.eta h1], by rw [SSuper.eta h1]; exact h1, h2⟩
theorem SSuper.wt_Packet {x : SSuper} (h : WtL SSuper.ct x.enc) : WtL SPacket.ct x.Packet.enc := wtl_seg 0 16 h
theorem SSuper.wt_Size {x : SSuper} (h : WtL SSuper.ct x.enc) : WtC (.int .i64) (.int x.Size) := wtl_get 16 h rfl rfl
theorem SSuper.wt_Count {x : SSuper} (h : WtL SSuper.ct x.enc) : WtC (.int .i64) (.int x.Count) := wtl_get 17 h rfl rfl

structure SCompletionQueue where
  Base : Int
  Size : Int
  Count : Int
def SCompletionQueue.enc (x : SCompletionQueue) : List DC := [.int x.Base, .int x.Size, .int x.Count]
def SCompletionQueue.decAt (r : List DC) (o : Nat) : SCompletionQueue := ⟨rI r (o + 0), rI r (o + 1), rI r (o + 2)⟩
def SCompletionQueue.ct : List CT := [.int .i64, .int .i64, .int .i64]
theorem SCompletionQueue.eta {r : List DC} (h : WtL SCompletionQueue.ct r) : (SCompletionQueue.decAt r 0).enc = r := (show (SCompletionQueue.decAt r 0).enc = canonL SCompletionQueue.ct r 0 from by kernel_rfl).trans (canon_eq h)
theorem SCompletionQueue.of_wt {r : List CT} {ds : List DC} (h : WtL (SCompletionQueue.ct ++ r) ds) : ∃ (x : SCompletionQueue) (ds' : List DC), ds = x.enc ++ ds' ∧ WtL SCompletionQueue.ct x.enc ∧ WtL r ds' := by
  obtain ⟨d1, d2, rfl, h1, h2⟩ := wtl_split h
  exact ⟨SCompletionQueue.decAt d1 0, d2, by rw [SCompletionQueue.eta h1], by rw [SCompletionQueue.eta h1]; exact h1, h2⟩
theorem SCompletionQueue.wt_Base {x : SCompletionQueue} (h : WtL SCompletionQueue.ct x.enc) : WtC (.int .i64) (.int x.Base) := wtl_get 0 h rfl rfl
theorem SCompletionQueue.wt_Size {x : SCompletionQueue} (h : WtL SCompletionQueue.ct x.enc) : WtC (.int .i64) (.int x.Size) := wtl_get 1 h rfl rfl
theorem SCompletionQueue.wt_Count {x : SCompletionQueue} (h : WtL SCompletionQueue.ct x.enc) : WtC (.int .i64) (.int x.Count) := wtl_get 2 h rfl rfl

structure SRxQueue where
  Ring : SRing
  Device : SCompletionQueue
  Driver : SCompletionQueue
  Held : SSuper
  Holding : Bool
  Dropped : Int
def SRxQueue.enc (x : SRxQueue) : List DC := [.int x.Ring.Base, .int x.Ring.Size, .int x.Ring.Head, .int x.Ring.Tail, .int x.Device.Base, .int x.Device.Size, .int x.Device.Count, .int x.Driver.Base, .int x.Driver.Size, .int x.Driver.Count, .int x.Held.Packet.DstMac, .int x.Held.Packet.SrcMac, .int x.Held.Packet.Vlan, .int x.Held.Packet.Tos, .int x.Held.Packet.Id, .int x.Held.Packet.Ttl, .int x.Held.Packet.SrcIp, .int x.Held.Packet.DstIp, .int x.Held.Packet.Seg.Kind, .int x.Held.Packet.Seg.SrcPort, .int x.Held.Packet.Seg.DstPort, .int x.Held.Packet.Seg.Seq, .int x.Held.Packet.Seg.Ack, .int x.Held.Packet.Seg.Flags, .int x.Held.Packet.Seg.Window, .str x.Held.Packet.Seg.Body, .int x.Held.Size, .int x.Held.Count, .bool x.Holding, .int x.Dropped]
def SRxQueue.decAt (r : List DC) (o : Nat) : SRxQueue := ⟨SRing.decAt r (o + 0), SCompletionQueue.decAt r (o + 4), SCompletionQueue.decAt r (o + 7), SSuper.decAt r (o + 10), rB r (o + 28), rI r (o + 29)⟩
def SRxQueue.ct : List CT := [.int .i64, .int .i64, .int .i64, .int .i64, .int .i64, .int .i64, .int .i64, .int .i64, .int .i64, .int .i64, .int .i64, .int .i64, .int .i64, .int .i64, .int .i64, .int .i64, .int .i64, .int .i64, .int .i64, .int .i64, .int .i64, .int .i64, .int .i64, .int .i64, .int .i64, .str, .int .i64, .int .i64, .bool, .int .i64]
theorem SRxQueue.eta {r : List DC} (h : WtL SRxQueue.ct r) : (SRxQueue.decAt r 0).enc = r := (show (SRxQueue.decAt r 0).enc = canonL SRxQueue.ct r 0 from by kernel_rfl).trans (canon_eq h)
theorem SRxQueue.of_wt {r : List CT} {ds : List DC} (h : WtL (SRxQueue.ct ++ r) ds) : ∃ (x : SRxQueue) (ds' : List DC), ds = x.enc ++ ds' ∧ WtL SRxQueue.ct x.enc ∧ WtL r ds' := by
  obtain ⟨d1, d2, rfl, h1, h2⟩ := wtl_split h
  exact ⟨SRxQueue.decAt d1 0, d2, by rw [SRxQueue.eta h1], by rw [SRxQueue.eta h1]; exact h1, h2⟩
theorem SRxQueue.wt_Ring {x : SRxQueue} (h : WtL SRxQueue.ct x.enc) : WtL SRing.ct x.Ring.enc := wtl_seg 0 4 h
theorem SRxQueue.wt_Device {x : SRxQueue} (h : WtL SRxQueue.ct x.enc) : WtL SCompletionQueue.ct x.Device.enc := wtl_seg 4 3 h
theorem SRxQueue.wt_Driver {x : SRxQueue} (h : WtL SRxQueue.ct x.enc) : WtL SCompletionQueue.ct x.Driver.enc := wtl_seg 7 3 h
theorem SRxQueue.wt_Held {x : SRxQueue} (h : WtL SRxQueue.ct x.enc) : WtL SSuper.ct x.Held.enc := wtl_seg 10 18 h
theorem SRxQueue.wt_Holding {x : SRxQueue} (h : WtL SRxQueue.ct x.enc) : WtC .bool (.bool x.Holding) := wtl_get 28 h rfl rfl
theorem SRxQueue.wt_Dropped {x : SRxQueue} (h : WtL SRxQueue.ct x.enc) : WtC (.int .i64) (.int x.Dropped) := wtl_get 29 h rfl rfl

structure SFilter where
  Mac : Int
  Promiscuous : Bool
  Vlans : Rows
def SFilter.enc (x : SFilter) : List DC := [.int x.Mac, .bool x.Promiscuous, .sl x.Vlans]
def SFilter.decAt (r : List DC) (o : Nat) : SFilter := ⟨rI r (o + 0), rB r (o + 1), rR r (o + 2)⟩
def SFilter.ct : List CT := [.int .i64, .bool, .sl [.int .i64]]
theorem SFilter.eta {r : List DC} (h : WtL SFilter.ct r) : (SFilter.decAt r 0).enc = r := (show (SFilter.decAt r 0).enc = canonL SFilter.ct r 0 from by kernel_rfl).trans (canon_eq h)
theorem SFilter.of_wt {r : List CT} {ds : List DC} (h : WtL (SFilter.ct ++ r) ds) : ∃ (x : SFilter) (ds' : List DC), ds = x.enc ++ ds' ∧ WtL SFilter.ct x.enc ∧ WtL r ds' := by
  obtain ⟨d1, d2, rfl, h1, h2⟩ := wtl_split h
  exact ⟨SFilter.decAt d1 0, d2, by rw [SFilter.eta h1], by rw [SFilter.eta h1]; exact h1, h2⟩
theorem SFilter.wt_Mac {x : SFilter} (h : WtL SFilter.ct x.enc) : WtC (.int .i64) (.int x.Mac) := wtl_get 0 h rfl rfl
theorem SFilter.wt_Promiscuous {x : SFilter} (h : WtL SFilter.ct x.enc) : WtC .bool (.bool x.Promiscuous) := wtl_get 1 h rfl rfl
theorem SFilter.wt_Vlans {x : SFilter} (h : WtL SFilter.ct x.enc) : WtC (.sl [.int .i64]) (.sl x.Vlans) := wtl_get 2 h rfl rfl

structure SFlowTable where
  Slots : Rows
def SFlowTable.enc (x : SFlowTable) : List DC := [.sl x.Slots]
def SFlowTable.decAt (r : List DC) (o : Nat) : SFlowTable := ⟨rR r (o + 0)⟩
def SFlowTable.ct : List CT := [.sl [.int .i64, .int .i64, .int .i64, .int .i64, .int .i64, .int .i64, .int .i64]]
theorem SFlowTable.eta {r : List DC} (h : WtL SFlowTable.ct r) : (SFlowTable.decAt r 0).enc = r := (show (SFlowTable.decAt r 0).enc = canonL SFlowTable.ct r 0 from by kernel_rfl).trans (canon_eq h)
theorem SFlowTable.of_wt {r : List CT} {ds : List DC} (h : WtL (SFlowTable.ct ++ r) ds) : ∃ (x : SFlowTable) (ds' : List DC), ds = x.enc ++ ds' ∧ WtL SFlowTable.ct x.enc ∧ WtL r ds' := by
  obtain ⟨d1, d2, rfl, h1, h2⟩ := wtl_split h
  exact ⟨SFlowTable.decAt d1 0, d2, by rw [SFlowTable.eta h1], by rw [SFlowTable.eta h1]; exact h1, h2⟩
theorem SFlowTable.wt_Slots {x : SFlowTable} (h : WtL SFlowTable.ct x.enc) : WtC (.sl [.int .i64, .int .i64, .int .i64, .int .i64, .int .i64, .int .i64, .int .i64]) (.sl x.Slots) := wtl_get 0 h rfl rfl

structure SSpread where
  Key : Bytes
  Table : Rows
def SSpread.enc (x : SSpread) : List DC := [.str x.Key, .sl x.Table]
def SSpread.decAt (r : List DC) (o : Nat) : SSpread := ⟨rS r (o + 0), rR r (o + 1)⟩
def SSpread.ct : List CT := [.str, .sl [.int .i64]]
theorem SSpread.eta {r : List DC} (h : WtL SSpread.ct r) : (SSpread.decAt r 0).enc = r := (show (SSpread.decAt r 0).enc = canonL SSpread.ct r 0 from by kernel_rfl).trans (canon_eq h)
theorem SSpread.of_wt {r : List CT} {ds : List DC} (h : WtL (SSpread.ct ++ r) ds) : ∃ (x : SSpread) (ds' : List DC), ds = x.enc ++ ds' ∧ WtL SSpread.ct x.enc ∧ WtL r ds' := by
  obtain ⟨d1, d2, rfl, h1, h2⟩ := wtl_split h
  exact ⟨SSpread.decAt d1 0, d2, by rw [SSpread.eta h1], by rw [SSpread.eta h1]; exact h1, h2⟩
theorem SSpread.wt_Key {x : SSpread} (h : WtL SSpread.ct x.enc) : WtC .str (.str x.Key) := wtl_get 0 h rfl rfl
theorem SSpread.wt_Table {x : SSpread} (h : WtL SSpread.ct x.enc) : WtC (.sl [.int .i64]) (.sl x.Table) := wtl_get 1 h rfl rfl

structure SSteering where
  Rules : Rows
  Table : SFlowTable
  Spread : SSpread
def SSteering.enc (x : SSteering) : List DC := [.sl x.Rules, .sl x.Table.Slots, .str x.Spread.Key, .sl x.Spread.Table]
def SSteering.decAt (r : List DC) (o : Nat) : SSteering := ⟨rR r (o + 0), SFlowTable.decAt r (o + 1), SSpread.decAt r (o + 2)⟩
def SSteering.ct : List CT := [.sl [.int .i64, .int .i64, .int .i64, .int .i64, .int .i64, .int .i64, .int .i64, .int .i64, .int .i64], .sl [.int .i64, .int .i64, .int .i64, .int .i64, .int .i64, .int .i64, .int .i64], .str, .sl [.int .i64]]
theorem SSteering.eta {r : List DC} (h : WtL SSteering.ct r) : (SSteering.decAt r 0).enc = r := (show (SSteering.decAt r 0).enc = canonL SSteering.ct r 0 from by kernel_rfl).trans (canon_eq h)
theorem SSteering.of_wt {r : List CT} {ds : List DC} (h : WtL (SSteering.ct ++ r) ds) : ∃ (x : SSteering) (ds' : List DC), ds = x.enc ++ ds' ∧ WtL SSteering.ct x.enc ∧ WtL r ds' := by
  obtain ⟨d1, d2, rfl, h1, h2⟩ := wtl_split h
  exact ⟨SSteering.decAt d1 0, d2, by rw [SSteering.eta h1], by rw [SSteering.eta h1]; exact h1, h2⟩
theorem SSteering.wt_Rules {x : SSteering} (h : WtL SSteering.ct x.enc) : WtC (.sl [.int .i64, .int .i64, .int .i64, .int .i64, .int .i64, .int .i64, .int .i64, .int .i64, .int .i64]) (.sl x.Rules) := wtl_get 0 h rfl rfl
theorem SSteering.wt_Table {x : SSteering} (h : WtL SSteering.ct x.enc) : WtL SFlowTable.ct x.Table.enc := wtl_seg 1 1 h
theorem SSteering.wt_Spread {x : SSteering} (h : WtL SSteering.ct x.enc) : WtL SSpread.ct x.Spread.enc := wtl_seg 2 2 h

structure SFlow where
  Kind : Int
  SrcIp : Int
  DstIp : Int
  SrcPort : Int
  DstPort : Int
def SFlow.enc (x : SFlow) : List DC := [.int x.Kind, .int x.SrcIp, .int x.DstIp, .int x.SrcPort, .int x.DstPort]
def SFlow.decAt (r : List DC) (o : Nat) : SFlow := ⟨rI r (o + 0), rI r (o + 1), rI r (o + 2), rI r (o + 3), rI r (o + 4)⟩
def SFlow.ct : List CT := [.int .i64, .int .i64, .int .i64, .int .i64, .int .i64]
theorem SFlow.eta {r : List DC} (h : WtL SFlow.ct r) : (SFlow.decAt r 0).enc = r := (show (SFlow.decAt r 0).enc = canonL SFlow.ct r 0 from by kernel_rfl).trans (canon_eq h)
theorem SFlow.of_wt {r : List CT} {ds : List DC} (h : WtL (SFlow.ct ++ r) ds) : ∃ (x : SFlow) (ds' : List DC), ds = x.enc ++ ds' ∧ WtL SFlow.ct x.enc ∧ WtL r ds' := by
  obtain ⟨d1, d2, rfl, h1, h2⟩ := wtl_split h
  exact ⟨SFlow.decAt d1 0, d2, by rw [SFlow.eta h1], by rw [SFlow.eta h1]; exact h1, h2⟩
theorem SFlow.wt_Kind {x : SFlow} (h : WtL SFlow.ct x.enc) : WtC (.int .i64) (.int x.Kind) := wtl_get 0 h rfl rfl
theorem SFlow.wt_SrcIp {x : SFlow} (h : WtL SFlow.ct x.enc) : WtC (.int .i64) (.int x.SrcIp) := wtl_get 1 h rfl rfl
theorem SFlow.wt_DstIp {x : SFlow} (h : WtL SFlow.ct x.enc) : WtC (.int .i64) (.int x.DstIp) := wtl_get 2 h rfl rfl
theorem SFlow.wt_SrcPort {x : SFlow} (h : WtL SFlow.ct x.enc) : WtC (.int .i64) (.int x.SrcPort) := wtl_get 3 h rfl rfl
theorem SFlow.wt_DstPort {x : SFlow} (h : WtL SFlow.ct x.enc) : WtC (.int .i64) (.int x.DstPort) := wtl_get 4 h rfl rfl

structure SStream where
  Flow : SFlow
  Next : Int
  Data : Bytes
  Done : Bool
def SStream.enc (x : SStream) : List DC := [.int x.Flow.Kind, .int x.Flow.SrcIp, .int x.Flow.DstIp, .int x.Flow.SrcPort, .int x.Flow.DstPort, .int x.Next, .str x.Data, .bool x.Done]
def SStream.decAt (r : List DC) (o : Nat) : SStream := ⟨SFlow.decAt r (o + 0), rI r (o + 5), rS r (o + 6), rB r (o + 7)⟩
def SStream.ct : List CT := [.int .i64, .int .i64, .int .i64, .int .i64, .int .i64, .int .i64, .str, .bool]
theorem SStream.eta {r : List DC} (h : WtL SStream.ct r) : (SStream.decAt r 0).enc = r := (show (SStream.decAt r 0).enc = canonL SStream.ct r 0 from by kernel_rfl).trans (canon_eq h)
theorem SStream.of_wt {r : List CT} {ds : List DC} (h : WtL (SStream.ct ++ r) ds) : ∃ (x : SStream) (ds' : List DC), ds = x.enc ++ ds' ∧ WtL SStream.ct x.enc ∧ WtL r ds' := by
  obtain ⟨d1, d2, rfl, h1, h2⟩ := wtl_split h
  exact ⟨SStream.decAt d1 0, d2, by rw [SStream.eta h1], by rw [SStream.eta h1]; exact h1, h2⟩
theorem SStream.wt_Flow {x : SStream} (h : WtL SStream.ct x.enc) : WtL SFlow.ct x.Flow.enc := wtl_seg 0 5 h
theorem SStream.wt_Next {x : SStream} (h : WtL SStream.ct x.enc) : WtC (.int .i64) (.int x.Next) := wtl_get 5 h rfl rfl
theorem SStream.wt_Data {x : SStream} (h : WtL SStream.ct x.enc) : WtC .str (.str x.Data) := wtl_get 6 h rfl rfl
theorem SStream.wt_Done {x : SStream} (h : WtL SStream.ct x.enc) : WtC .bool (.bool x.Done) := wtl_get 7 h rfl rfl

structure SCounters where
  Frames : Int
  Bad : Int
  Filtered : Int
  Refused : Int
  Taken : Int
def SCounters.enc (x : SCounters) : List DC := [.int x.Frames, .int x.Bad, .int x.Filtered, .int x.Refused, .int x.Taken]
def SCounters.decAt (r : List DC) (o : Nat) : SCounters := ⟨rI r (o + 0), rI r (o + 1), rI r (o + 2), rI r (o + 3), rI r (o + 4)⟩
def SCounters.ct : List CT := [.int .i64, .int .i64, .int .i64, .int .i64, .int .i64]
theorem SCounters.eta {r : List DC} (h : WtL SCounters.ct r) : (SCounters.decAt r 0).enc = r := (show (SCounters.decAt r 0).enc = canonL SCounters.ct r 0 from by kernel_rfl).trans (canon_eq h)
theorem SCounters.of_wt {r : List CT} {ds : List DC} (h : WtL (SCounters.ct ++ r) ds) : ∃ (x : SCounters) (ds' : List DC), ds = x.enc ++ ds' ∧ WtL SCounters.ct x.enc ∧ WtL r ds' := by
  obtain ⟨d1, d2, rfl, h1, h2⟩ := wtl_split h
  exact ⟨SCounters.decAt d1 0, d2, by rw [SCounters.eta h1], by rw [SCounters.eta h1]; exact h1, h2⟩
theorem SCounters.wt_Frames {x : SCounters} (h : WtL SCounters.ct x.enc) : WtC (.int .i64) (.int x.Frames) := wtl_get 0 h rfl rfl
theorem SCounters.wt_Bad {x : SCounters} (h : WtL SCounters.ct x.enc) : WtC (.int .i64) (.int x.Bad) := wtl_get 1 h rfl rfl
theorem SCounters.wt_Filtered {x : SCounters} (h : WtL SCounters.ct x.enc) : WtC (.int .i64) (.int x.Filtered) := wtl_get 2 h rfl rfl
theorem SCounters.wt_Refused {x : SCounters} (h : WtL SCounters.ct x.enc) : WtC (.int .i64) (.int x.Refused) := wtl_get 3 h rfl rfl
theorem SCounters.wt_Taken {x : SCounters} (h : WtL SCounters.ct x.enc) : WtC (.int .i64) (.int x.Taken) := wtl_get 4 h rfl rfl

structure SHost where
  Memory : SMemory
  Maps : Rows
  Tx : STxQueue
  Rx : Rows
  Pools : Rows
  Vectors : Rows
  Polling : Rows
  Filter : SFilter
  Steering : SSteering
  Streams : Rows
  Coalesce : Bool
  Wire : Rows
  Completed : Rows
  Returned : Rows
  Counters : SCounters
def SHost.enc (x : SHost) : List DC := [.sl x.Memory.Pages, .sl x.Maps, .int x.Tx.Ring.Base, .int x.Tx.Ring.Size, .int x.Tx.Ring.Head, .int x.Tx.Ring.Tail, .int x.Tx.Pool.Base, .int x.Tx.Pool.Size, .int x.Tx.Pool.Count, .sl x.Tx.Pool.Free, .sl x.Tx.Waiting, .int x.Tx.Next, .sl x.Rx, .sl x.Pools, .sl x.Vectors, .sl x.Polling, .int x.Filter.Mac, .bool x.Filter.Promiscuous, .sl x.Filter.Vlans, .sl x.Steering.Rules, .sl x.Steering.Table.Slots, .str x.Steering.Spread.Key, .sl x.Steering.Spread.Table, .sl x.Streams, .bool x.Coalesce, .sl x.Wire, .sl x.Completed, .sl x.Returned, .int x.Counters.Frames, .int x.Counters.Bad, .int x.Counters.Filtered, .int x.Counters.Refused, .int x.Counters.Taken]
def SHost.decAt (r : List DC) (o : Nat) : SHost := ⟨SMemory.decAt r (o + 0), rR r (o + 1), STxQueue.decAt r (o + 2), rR r (o + 12), rR r (o + 13), rR r (o + 14), rR r (o + 15), SFilter.decAt r (o + 16), SSteering.decAt r (o + 19), rR r (o + 23), rB r (o + 24), rR r (o + 25), rR r (o + 26), rR r (o + 27), SCounters.decAt r (o + 28)⟩
def SHost.ct : List CT := [.sl [.str], .sl [.int .i64, .int .i64, .int .i64, .bool], .int .i64, .int .i64, .int .i64, .int .i64, .int .i64, .int .i64, .int .i64, .sl [.int .i64], .sl [.int .i64, .int .i64, .sl [.int .i64]], .int .i64, .sl [.int .i64, .int .i64, .int .i64, .int .i64, .int .i64, .int .i64, .int .i64, .int .i64, .int .i64, .int .i64, .int .i64, .int .i64, .int .i64, .int .i64, .int .i64, .int .i64, .int .i64, .int .i64, .int .i64, .int .i64, .int .i64, .int .i64, .int .i64, .int .i64, .int .i64, .str, .int .i64, .int .i64, .bool, .int .i64], .sl [.int .i64, .int .i64, .int .i64, .sl [.int .i64]], .sl [.int .i64, .int .i64, .int .i64, .int .i64, .bool, .bool], .sl [.bool], .int .i64, .bool, .sl [.int .i64], .sl [.int .i64, .int .i64, .int .i64, .int .i64, .int .i64, .int .i64, .int .i64, .int .i64, .int .i64], .sl [.int .i64, .int .i64, .int .i64, .int .i64, .int .i64, .int .i64, .int .i64], .str, .sl [.int .i64], .sl [.int .i64, .int .i64, .int .i64, .int .i64, .int .i64, .int .i64, .str, .bool], .bool, .sl [.str], .sl [.int .i64], .sl [.int .i64], .int .i64, .int .i64, .int .i64, .int .i64, .int .i64]
theorem SHost.eta {r : List DC} (h : WtL SHost.ct r) : (SHost.decAt r 0).enc = r := (show (SHost.decAt r 0).enc = canonL SHost.ct r 0 from by kernel_rfl).trans (canon_eq h)
theorem SHost.of_wt {r : List CT} {ds : List DC} (h : WtL (SHost.ct ++ r) ds) : ∃ (x : SHost) (ds' : List DC), ds = x.enc ++ ds' ∧ WtL SHost.ct x.enc ∧ WtL r ds' := by
  obtain ⟨d1, d2, rfl, h1, h2⟩ := wtl_split h
  exact ⟨SHost.decAt d1 0, d2, by rw [SHost.eta h1], by rw [SHost.eta h1]; exact h1, h2⟩
theorem SHost.wt_Memory {x : SHost} (h : WtL SHost.ct x.enc) : WtL SMemory.ct x.Memory.enc := wtl_seg 0 1 h
theorem SHost.wt_Maps {x : SHost} (h : WtL SHost.ct x.enc) : WtC (.sl [.int .i64, .int .i64, .int .i64, .bool]) (.sl x.Maps) := wtl_get 1 h rfl rfl
theorem SHost.wt_Tx {x : SHost} (h : WtL SHost.ct x.enc) : WtL STxQueue.ct x.Tx.enc := wtl_seg 2 10 h
theorem SHost.wt_Rx {x : SHost} (h : WtL SHost.ct x.enc) : WtC (.sl [.int .i64, .int .i64, .int .i64, .int .i64, .int .i64, .int .i64, .int .i64, .int .i64, .int .i64, .int .i64, .int .i64, .int .i64, .int .i64, .int .i64, .int .i64, .int .i64, .int .i64, .int .i64, .int .i64, .int .i64, .int .i64, .int .i64, .int .i64, .int .i64, .int .i64, .str, .int .i64, .int .i64, .bool, .int .i64]) (.sl x.Rx) := wtl_get 12 h rfl rfl
theorem SHost.wt_Pools {x : SHost} (h : WtL SHost.ct x.enc) : WtC (.sl [.int .i64, .int .i64, .int .i64, .sl [.int .i64]]) (.sl x.Pools) := wtl_get 13 h rfl rfl
theorem SHost.wt_Vectors {x : SHost} (h : WtL SHost.ct x.enc) : WtC (.sl [.int .i64, .int .i64, .int .i64, .int .i64, .bool, .bool]) (.sl x.Vectors) := wtl_get 14 h rfl rfl
theorem SHost.wt_Polling {x : SHost} (h : WtL SHost.ct x.enc) : WtC (.sl [.bool]) (.sl x.Polling) := wtl_get 15 h rfl rfl
theorem SHost.wt_Filter {x : SHost} (h : WtL SHost.ct x.enc) : WtL SFilter.ct x.Filter.enc := wtl_seg 16 3 h
theorem SHost.wt_Steering {x : SHost} (h : WtL SHost.ct x.enc) : WtL SSteering.ct x.Steering.enc := wtl_seg 19 4 h
theorem SHost.wt_Streams {x : SHost} (h : WtL SHost.ct x.enc) : WtC (.sl [.int .i64, .int .i64, .int .i64, .int .i64, .int .i64, .int .i64, .str, .bool]) (.sl x.Streams) := wtl_get 23 h rfl rfl
theorem SHost.wt_Coalesce {x : SHost} (h : WtL SHost.ct x.enc) : WtC .bool (.bool x.Coalesce) := wtl_get 24 h rfl rfl
theorem SHost.wt_Wire {x : SHost} (h : WtL SHost.ct x.enc) : WtC (.sl [.str]) (.sl x.Wire) := wtl_get 25 h rfl rfl
theorem SHost.wt_Completed {x : SHost} (h : WtL SHost.ct x.enc) : WtC (.sl [.int .i64]) (.sl x.Completed) := wtl_get 26 h rfl rfl
theorem SHost.wt_Returned {x : SHost} (h : WtL SHost.ct x.enc) : WtC (.sl [.int .i64]) (.sl x.Returned) := wtl_get 27 h rfl rfl
theorem SHost.wt_Counters {x : SHost} (h : WtL SHost.ct x.enc) : WtL SCounters.ct x.Counters.enc := wtl_seg 28 5 h

structure SRule where
  Priority : Int
  Kind : Int
  SrcIp : Int
  SrcBits : Int
  FirstPort : Int
  LastPort : Int
  Vlan : Int
  Action : Int
  Queue : Int
def SRule.enc (x : SRule) : List DC := [.int x.Priority, .int x.Kind, .int x.SrcIp, .int x.SrcBits, .int x.FirstPort, .int x.LastPort, .int x.Vlan, .int x.Action, .int x.Queue]
def SRule.decAt (r : List DC) (o : Nat) : SRule := ⟨rI r (o + 0), rI r (o + 1), rI r (o + 2), rI r (o + 3), rI r (o + 4), rI r (o + 5), rI r (o + 6), rI r (o + 7), rI r (o + 8)⟩
def SRule.ct : List CT := [.int .i64, .int .i64, .int .i64, .int .i64, .int .i64, .int .i64, .int .i64, .int .i64, .int .i64]
theorem SRule.eta {r : List DC} (h : WtL SRule.ct r) : (SRule.decAt r 0).enc = r := (show (SRule.decAt r 0).enc = canonL SRule.ct r 0 from by kernel_rfl).trans (canon_eq h)
theorem SRule.of_wt {r : List CT} {ds : List DC} (h : WtL (SRule.ct ++ r) ds) : ∃ (x : SRule) (ds' : List DC), ds = x.enc ++ ds' ∧ WtL SRule.ct x.enc ∧ WtL r ds' := by
  obtain ⟨d1, d2, rfl, h1, h2⟩ := wtl_split h
  exact ⟨SRule.decAt d1 0, d2, by rw [SRule.eta h1], by rw [SRule.eta h1]; exact h1, h2⟩
theorem SRule.wt_Priority {x : SRule} (h : WtL SRule.ct x.enc) : WtC (.int .i64) (.int x.Priority) := wtl_get 0 h rfl rfl
theorem SRule.wt_Kind {x : SRule} (h : WtL SRule.ct x.enc) : WtC (.int .i64) (.int x.Kind) := wtl_get 1 h rfl rfl
theorem SRule.wt_SrcIp {x : SRule} (h : WtL SRule.ct x.enc) : WtC (.int .i64) (.int x.SrcIp) := wtl_get 2 h rfl rfl
theorem SRule.wt_SrcBits {x : SRule} (h : WtL SRule.ct x.enc) : WtC (.int .i64) (.int x.SrcBits) := wtl_get 3 h rfl rfl
theorem SRule.wt_FirstPort {x : SRule} (h : WtL SRule.ct x.enc) : WtC (.int .i64) (.int x.FirstPort) := wtl_get 4 h rfl rfl
theorem SRule.wt_LastPort {x : SRule} (h : WtL SRule.ct x.enc) : WtC (.int .i64) (.int x.LastPort) := wtl_get 5 h rfl rfl
theorem SRule.wt_Vlan {x : SRule} (h : WtL SRule.ct x.enc) : WtC (.int .i64) (.int x.Vlan) := wtl_get 6 h rfl rfl
theorem SRule.wt_Action {x : SRule} (h : WtL SRule.ct x.enc) : WtC (.int .i64) (.int x.Action) := wtl_get 7 h rfl rfl
theorem SRule.wt_Queue {x : SRule} (h : WtL SRule.ct x.enc) : WtC (.int .i64) (.int x.Queue) := wtl_get 8 h rfl rfl

structure SSlot where
  State : Int
  Flow : SFlow
  Queue : Int
def SSlot.enc (x : SSlot) : List DC := [.int x.State, .int x.Flow.Kind, .int x.Flow.SrcIp, .int x.Flow.DstIp, .int x.Flow.SrcPort, .int x.Flow.DstPort, .int x.Queue]
def SSlot.decAt (r : List DC) (o : Nat) : SSlot := ⟨rI r (o + 0), SFlow.decAt r (o + 1), rI r (o + 6)⟩
def SSlot.ct : List CT := [.int .i64, .int .i64, .int .i64, .int .i64, .int .i64, .int .i64, .int .i64]
theorem SSlot.eta {r : List DC} (h : WtL SSlot.ct r) : (SSlot.decAt r 0).enc = r := (show (SSlot.decAt r 0).enc = canonL SSlot.ct r 0 from by kernel_rfl).trans (canon_eq h)
theorem SSlot.of_wt {r : List CT} {ds : List DC} (h : WtL (SSlot.ct ++ r) ds) : ∃ (x : SSlot) (ds' : List DC), ds = x.enc ++ ds' ∧ WtL SSlot.ct x.enc ∧ WtL r ds' := by
  obtain ⟨d1, d2, rfl, h1, h2⟩ := wtl_split h
  exact ⟨SSlot.decAt d1 0, d2, by rw [SSlot.eta h1], by rw [SSlot.eta h1]; exact h1, h2⟩
theorem SSlot.wt_State {x : SSlot} (h : WtL SSlot.ct x.enc) : WtC (.int .i64) (.int x.State) := wtl_get 0 h rfl rfl
theorem SSlot.wt_Flow {x : SSlot} (h : WtL SSlot.ct x.enc) : WtL SFlow.ct x.Flow.enc := wtl_seg 1 5 h
theorem SSlot.wt_Queue {x : SSlot} (h : WtL SSlot.ct x.enc) : WtC (.int .i64) (.int x.Queue) := wtl_get 6 h rfl rfl

structure SVector where
  MaxCount : Int
  MaxTime : Int
  Count : Int
  Time : Int
  Masked : Bool
  Raised : Bool
def SVector.enc (x : SVector) : List DC := [.int x.MaxCount, .int x.MaxTime, .int x.Count, .int x.Time, .bool x.Masked, .bool x.Raised]
def SVector.decAt (r : List DC) (o : Nat) : SVector := ⟨rI r (o + 0), rI r (o + 1), rI r (o + 2), rI r (o + 3), rB r (o + 4), rB r (o + 5)⟩
def SVector.ct : List CT := [.int .i64, .int .i64, .int .i64, .int .i64, .bool, .bool]
theorem SVector.eta {r : List DC} (h : WtL SVector.ct r) : (SVector.decAt r 0).enc = r := (show (SVector.decAt r 0).enc = canonL SVector.ct r 0 from by kernel_rfl).trans (canon_eq h)
theorem SVector.of_wt {r : List CT} {ds : List DC} (h : WtL (SVector.ct ++ r) ds) : ∃ (x : SVector) (ds' : List DC), ds = x.enc ++ ds' ∧ WtL SVector.ct x.enc ∧ WtL r ds' := by
  obtain ⟨d1, d2, rfl, h1, h2⟩ := wtl_split h
  exact ⟨SVector.decAt d1 0, d2, by rw [SVector.eta h1], by rw [SVector.eta h1]; exact h1, h2⟩
theorem SVector.wt_MaxCount {x : SVector} (h : WtL SVector.ct x.enc) : WtC (.int .i64) (.int x.MaxCount) := wtl_get 0 h rfl rfl
theorem SVector.wt_MaxTime {x : SVector} (h : WtL SVector.ct x.enc) : WtC (.int .i64) (.int x.MaxTime) := wtl_get 1 h rfl rfl
theorem SVector.wt_Count {x : SVector} (h : WtL SVector.ct x.enc) : WtC (.int .i64) (.int x.Count) := wtl_get 2 h rfl rfl
theorem SVector.wt_Time {x : SVector} (h : WtL SVector.ct x.enc) : WtC (.int .i64) (.int x.Time) := wtl_get 3 h rfl rfl
theorem SVector.wt_Masked {x : SVector} (h : WtL SVector.ct x.enc) : WtC .bool (.bool x.Masked) := wtl_get 4 h rfl rfl
theorem SVector.wt_Raised {x : SVector} (h : WtL SVector.ct x.enc) : WtC .bool (.bool x.Raised) := wtl_get 5 h rfl rfl

def laws_toMapping_t {α : Type} (k_ : SMapping → α) (a : SMapping) : α :=
  k_ a
theorem laws_toMapping_c {α : Type} (k_ : SMapping → α) (a : SMapping) (h_a : WtL SMapping.ct a.enc) : laws_toMapping_t k_ a = k_ (idf a) := by
  rfl

def laws_toMappingS_l0 {α : Type} (bad : α) (k_ : Rows → α) (a : Rows) (ih0 : Int → Rows → α) (i : Int) (out_ : Rows) : α :=
  bif decide (i < len a) then
    bif andt (andt (andt true (idx i a)) (idx i out_)) (inl (Int.toNat i) out_) then
      ih0 (w64 (i + 1)) (List.set out_ (Int.toNat i) (splice (nth out_ (Int.toNat i)) 0 (SMapping.enc (idf (SMapping.decAt (nth a (Int.toNat i)) 0)))))
    else bad
  else k_ out_
def laws_toMappingS_L0 {α : Type} (bad : α) (k_ : Rows → α) (N : Nat) (a : Rows) (m_ : Nat) : Int → Rows → α :=
  Nat.rec (motive := fun _ => Int → Rows → α) (fun _ _ => bad) (fun _ ih0 => laws_toMappingS_l0 bad k_ a ih0) m_
theorem laws_toMappingS_L0_z {α : Type} (bad : α) (k_ : Rows → α) (N : Nat) (a : Rows) (i : Int) (out_ : Rows) : laws_toMappingS_L0 bad k_ N a 0 i out_ = bad := rfl
theorem laws_toMappingS_L0_s {α : Type} (bad : α) (k_ : Rows → α) (N : Nat) (a : Rows) (m_ : Nat) (i : Int) (out_ : Rows) : laws_toMappingS_L0 bad k_ N a (m_ + 1) i out_ = laws_toMappingS_l0 bad k_ a (laws_toMappingS_L0 bad k_ N a m_) i out_ := rfl
def laws_toMappingS_t {α : Type} (bad : α) (k_ : Rows → α) (l0 : Int → Rows → α) (a : Rows) : α :=
  bif andt true (makeOk 32 (len a) (len a)) then
    l0 0 (List.replicate (Int.toNat (len a)) ([.int 0, .int 0, .int 0, .bool false] : List DC))
  else bad
def laws_toMappingS_f {α : Type} (bad : α) (k_ : Rows → α) (N : Nat) (a : Rows) : α := laws_toMappingS_t bad k_ (laws_toMappingS_L0 bad k_ N a N) a
theorem laws_toMappingS_c {α : Type} (bad : α) (k_ : Rows → α) (a : Rows) (h_a : WtC (.sl [.int .i64, .int .i64, .int .i64, .bool]) (.sl a)) (hok : sm a = true) : ∃ N, laws_toMappingS_f bad k_ N a = k_ (idf a) := by
  obtain ⟨hl, hw⟩ := wt_sl h_a
  have hsm := hok
  refine ⟨a.length + 1, ?_⟩
  unfold laws_toMappingS_f laws_toMappingS_t
  have e0 : Int.toNat (len a) = a.length := by simp [len]
  simp only [make_sm hsm (show 32 ≤ 8388608 by omega), andt_true_l, cond_true, e0]
  refine copy_set a (laws_toMappingS_L0 bad k_ (a.length + 1) a) k_ [.int 0, .int 0, .int 0, .bool false] (fun o r => splice o 0 (SMapping.enc (idf (SMapping.decAt r 0)))) ?_ ?_ ?_
  · intro n i out h ho
    rw [laws_toMappingS_L0_s]
    simp only [laws_toMappingS_l0, lt_len h, idx_nat h, idx_set ho h, inl_nat (show i < out.length by omega), w64_succ h hl, Int.toNat_natCast, Bool.and_true, andt_true_l, andt_true_r, cond_true]
    try rfl
  · intro n out ho
    rw [laws_toMappingS_L0_s]
    simp only [laws_toMappingS_l0, not_lt_len, cond_false]
  · intro r hr
    refine (splice_all ?_).trans ?_
    · rfl
    · exact SMapping.eta (hw r hr)

def laws_szStringS_l0 {α : Type} (bad : α) (k_ : Int → α) (a : Rows) (ih0 : Int → Int → α) (left_1 : Int) (i : Int) : α :=
  let z0 : Int := w64 (left_1 - (len (rS (nth a (Int.toNat i)) 0)))
  bif decide (i < len a) then
    bif andt true (idx i a) then
      bif decide (z0 < 0) then k_ (-1)
      else ih0 z0 (w64 (i + 1))
    else bad
  else k_ left_1
def laws_szStringS_L0 {α : Type} (bad : α) (k_ : Int → α) (N : Nat) (a : Rows) (m_ : Nat) : Int → Int → α :=
  Nat.rec (motive := fun _ => Int → Int → α) (fun _ _ => bad) (fun _ ih0 => laws_szStringS_l0 bad k_ a ih0) m_
theorem laws_szStringS_L0_z {α : Type} (bad : α) (k_ : Int → α) (N : Nat) (a : Rows) (left_1 : Int) (i : Int) : laws_szStringS_L0 bad k_ N a 0 left_1 i = bad := rfl
theorem laws_szStringS_L0_s {α : Type} (bad : α) (k_ : Int → α) (N : Nat) (a : Rows) (m_ : Nat) (left_1 : Int) (i : Int) : laws_szStringS_L0 bad k_ N a (m_ + 1) left_1 i = laws_szStringS_l0 bad k_ a (laws_szStringS_L0 bad k_ N a m_) left_1 i := rfl
def laws_szStringS_t {α : Type} (bad : α) (k_ : Int → α) (l0 : Int → Int → α) (a : Rows) (left : Int) : α :=
  bif decide (w64 (left - (len a)) < 0) then k_ (-1)
  else l0 (w64 (left - (len a))) 0
def laws_szStringS_f {α : Type} (bad : α) (k_ : Int → α) (N : Nat) (a : Rows) (left : Int) : α := laws_szStringS_t bad k_ (laws_szStringS_L0 bad k_ N a N) a left
def laws_szStringS (a : Rows) (left : Int) : Int := szAll (fun r l => w64 (l - len (rS r 0))) a left
theorem laws_szStringS_c {α : Type} (bad : α) (k_ : Int → α) (a : Rows) (left : Int) (h_a : WtC (.sl [.str]) (.sl a)) (h_left : WtC (.int .i64) (.int left)) : ∃ N, laws_szStringS_f bad k_ N a left = k_ (laws_szStringS a left) := by
  obtain ⟨hl, _⟩ := wt_sl h_a
  refine ⟨a.length + 1, ?_⟩
  unfold laws_szStringS_f laws_szStringS_t laws_szStringS szAll
  refine cond_k rfl ?_
  refine (loop_rows a (fun n i l => laws_szStringS_L0 bad k_ (a.length + 1) a n l i) (fun _ r c l => bif decide ((fun r l => w64 (l - len (rS r 0))) r l < 0) then k_ (-1) else c ((fun r l => w64 (l - len (rS r 0))) r l)) k_ ?_ ?_ _).trans (go_sz (fun r l => w64 (l - len (rS r 0))) k_ a 0 _)
  · intro n i l h
    try dsimp only
    rw [laws_szStringS_L0_s]
    simp only [laws_szStringS_l0, lt_len h, idx_nat h, w64_succ h hl, Int.toNat_natCast, andt_true_l, andt_true_r, cond_true]
  · intro n l
    try dsimp only
    rw [laws_szStringS_L0_s]
    simp only [laws_szStringS_l0, not_lt_len, cond_false]

def laws_szMemory_t {α : Type} (k_ : Int → α) (a : SMemory) (left : Int) : α :=
  bif decide (laws_szStringS a.Pages left < 0) then k_ (-1)
  else k_ (laws_szStringS a.Pages left)
def laws_szMemory (a : SMemory) (left : Int) : Int := laws_szMemory_t id a left
theorem laws_szMemory_c {α : Type} (k_ : Int → α) (a : SMemory) (left : Int) : laws_szMemory_t k_ a left = k_ (laws_szMemory a left) := by
  exact cond_k rfl rfl

def laws_szMappingS_t {α : Type} (k_ : Int → α) (a : Rows) (left : Int) : α :=
  bif decide (w64 (left - (len a)) < 0) then k_ (-1)
  else k_ (w64 (left - (len a)))
theorem laws_szMappingS_c {α : Type} (k_ : Int → α) (a : Rows) (left : Int) (h_a : WtC (.sl [.int .i64, .int .i64, .int .i64, .bool]) (.sl a)) (h_left : WtC (.int .i64) (.int left)) : laws_szMappingS_t k_ a left = k_ (szFlat a left) := by
  exact cond_k rfl rfl

def laws_szIntS_t {α : Type} (k_ : Int → α) (a : Rows) (left : Int) : α :=
  bif decide (w64 (left - (len a)) < 0) then k_ (-1)
  else k_ (w64 (left - (len a)))
theorem laws_szIntS_c {α : Type} (k_ : Int → α) (a : Rows) (left : Int) (h_a : WtC (.sl [.int .i64]) (.sl a)) (h_left : WtC (.int .i64) (.int left)) : laws_szIntS_t k_ a left = k_ (szFlat a left) := by
  exact cond_k rfl rfl

def laws_szPool_t {α : Type} (k_ : Int → α) (a : SPool) (left : Int) : α :=
  bif decide (szFlat a.Free left < 0) then k_ (-1)
  else k_ (szFlat a.Free left)
def laws_szPool (a : SPool) (left : Int) : Int := laws_szPool_t id a left
theorem laws_szPool_c {α : Type} (k_ : Int → α) (a : SPool) (left : Int) : laws_szPool_t k_ a left = k_ (laws_szPool a left) := by
  exact cond_k rfl rfl

def laws_szSent_t {α : Type} (k_ : Int → α) (a : SSent) (left : Int) : α :=
  bif decide (szFlat a.Buffers left < 0) then k_ (-1)
  else k_ (szFlat a.Buffers left)
def laws_szSent (a : SSent) (left : Int) : Int := laws_szSent_t id a left
theorem laws_szSent_c {α : Type} (k_ : Int → α) (a : SSent) (left : Int) : laws_szSent_t k_ a left = k_ (laws_szSent a left) := by
  exact cond_k rfl rfl

def laws_szSentS_l0 {α : Type} (bad : α) (k_ : Int → α) (a : Rows) (ih0 : Int → Int → α) (left_1 : Int) (i : Int) : α :=
  let z0 : Int := laws_szSent (SSent.decAt (nth a (Int.toNat i)) 0) left_1
  bif decide (i < len a) then
    bif andt true (idx i a) then
      bif decide (z0 < 0) then k_ (-1)
      else ih0 z0 (w64 (i + 1))
    else bad
  else k_ left_1
def laws_szSentS_L0 {α : Type} (bad : α) (k_ : Int → α) (N : Nat) (a : Rows) (m_ : Nat) : Int → Int → α :=
  Nat.rec (motive := fun _ => Int → Int → α) (fun _ _ => bad) (fun _ ih0 => laws_szSentS_l0 bad k_ a ih0) m_
theorem laws_szSentS_L0_z {α : Type} (bad : α) (k_ : Int → α) (N : Nat) (a : Rows) (left_1 : Int) (i : Int) : laws_szSentS_L0 bad k_ N a 0 left_1 i = bad := rfl
theorem laws_szSentS_L0_s {α : Type} (bad : α) (k_ : Int → α) (N : Nat) (a : Rows) (m_ : Nat) (left_1 : Int) (i : Int) : laws_szSentS_L0 bad k_ N a (m_ + 1) left_1 i = laws_szSentS_l0 bad k_ a (laws_szSentS_L0 bad k_ N a m_) left_1 i := rfl
def laws_szSentS_t {α : Type} (bad : α) (k_ : Int → α) (l0 : Int → Int → α) (a : Rows) (left : Int) : α :=
  bif decide (w64 (left - (len a)) < 0) then k_ (-1)
  else l0 (w64 (left - (len a))) 0
def laws_szSentS_f {α : Type} (bad : α) (k_ : Int → α) (N : Nat) (a : Rows) (left : Int) : α := laws_szSentS_t bad k_ (laws_szSentS_L0 bad k_ N a N) a left
def laws_szSentS (a : Rows) (left : Int) : Int := szAll (fun r l => laws_szSent (SSent.decAt r 0) l) a left
theorem laws_szSentS_c {α : Type} (bad : α) (k_ : Int → α) (a : Rows) (left : Int) (h_a : WtC (.sl [.int .i64, .int .i64, .sl [.int .i64]]) (.sl a)) (h_left : WtC (.int .i64) (.int left)) : ∃ N, laws_szSentS_f bad k_ N a left = k_ (laws_szSentS a left) := by
  obtain ⟨hl, _⟩ := wt_sl h_a
  refine ⟨a.length + 1, ?_⟩
  unfold laws_szSentS_f laws_szSentS_t laws_szSentS szAll
  refine cond_k rfl ?_
  refine (loop_rows a (fun n i l => laws_szSentS_L0 bad k_ (a.length + 1) a n l i) (fun _ r c l => bif decide ((fun r l => laws_szSent (SSent.decAt r 0) l) r l < 0) then k_ (-1) else c ((fun r l => laws_szSent (SSent.decAt r 0) l) r l)) k_ ?_ ?_ _).trans (go_sz (fun r l => laws_szSent (SSent.decAt r 0) l) k_ a 0 _)
  · intro n i l h
    try dsimp only
    rw [laws_szSentS_L0_s]
    simp only [laws_szSentS_l0, lt_len h, idx_nat h, w64_succ h hl, Int.toNat_natCast, andt_true_l, andt_true_r, cond_true]
  · intro n l
    try dsimp only
    rw [laws_szSentS_L0_s]
    simp only [laws_szSentS_l0, not_lt_len, cond_false]

def laws_szTxQueue_t {α : Type} (k_ : Int → α) (a : STxQueue) (left : Int) : α :=
  let z0 : Int := laws_szSentS a.Waiting (laws_szPool a.Pool left)
  bif decide (laws_szPool a.Pool left < 0) then k_ (-1)
  else bif decide (z0 < 0) then k_ (-1)
  else k_ z0
def laws_szTxQueue (a : STxQueue) (left : Int) : Int := laws_szTxQueue_t id a left
theorem laws_szTxQueue_c {α : Type} (k_ : Int → α) (a : STxQueue) (left : Int) : laws_szTxQueue_t k_ a left = k_ (laws_szTxQueue a left) := by
  exact cond_k rfl (cond_k rfl rfl)

def laws_szSegment_t {α : Type} (k_ : Int → α) (a : SSegment) (left : Int) : α :=
  let z0 : Int := w64 (left - (len a.Body))
  bif decide (z0 < 0) then k_ (-1)
  else k_ z0
def laws_szSegment (a : SSegment) (left : Int) : Int := laws_szSegment_t id a left
theorem laws_szSegment_c {α : Type} (k_ : Int → α) (a : SSegment) (left : Int) : laws_szSegment_t k_ a left = k_ (laws_szSegment a left) := by
  exact cond_k rfl rfl

def laws_szPacket_t {α : Type} (k_ : Int → α) (a : SPacket) (left : Int) : α :=
  bif decide (laws_szSegment a.Seg left < 0) then k_ (-1)
  else k_ (laws_szSegment a.Seg left)
def laws_szPacket (a : SPacket) (left : Int) : Int := laws_szPacket_t id a left
theorem laws_szPacket_c {α : Type} (k_ : Int → α) (a : SPacket) (left : Int) : laws_szPacket_t k_ a left = k_ (laws_szPacket a left) := by
  exact cond_k rfl rfl

def laws_szSuper_t {α : Type} (k_ : Int → α) (a : SSuper) (left : Int) : α :=
  bif decide (laws_szPacket a.Packet left < 0) then k_ (-1)
  else k_ (laws_szPacket a.Packet left)
def laws_szSuper (a : SSuper) (left : Int) : Int := laws_szSuper_t id a left
theorem laws_szSuper_c {α : Type} (k_ : Int → α) (a : SSuper) (left : Int) : laws_szSuper_t k_ a left = k_ (laws_szSuper a left) := by
  exact cond_k rfl rfl

def laws_szRxQueue_t {α : Type} (k_ : Int → α) (a : SRxQueue) (left : Int) : α :=
  bif decide (laws_szSuper a.Held left < 0) then k_ (-1)
  else k_ (laws_szSuper a.Held left)
def laws_szRxQueue (a : SRxQueue) (left : Int) : Int := laws_szRxQueue_t id a left
theorem laws_szRxQueue_c {α : Type} (k_ : Int → α) (a : SRxQueue) (left : Int) : laws_szRxQueue_t k_ a left = k_ (laws_szRxQueue a left) := by
  exact cond_k rfl rfl

def laws_szRxQueueS_l0 {α : Type} (bad : α) (k_ : Int → α) (a : Rows) (ih0 : Int → Int → α) (left_1 : Int) (i : Int) : α :=
  let z0 : Int := laws_szRxQueue (SRxQueue.decAt (nth a (Int.toNat i)) 0) left_1
  bif decide (i < len a) then
    bif andt true (idx i a) then
      bif decide (z0 < 0) then k_ (-1)
      else ih0 z0 (w64 (i + 1))
    else bad
  else k_ left_1
def laws_szRxQueueS_L0 {α : Type} (bad : α) (k_ : Int → α) (N : Nat) (a : Rows) (m_ : Nat) : Int → Int → α :=
  Nat.rec (motive := fun _ => Int → Int → α) (fun _ _ => bad) (fun _ ih0 => laws_szRxQueueS_l0 bad k_ a ih0) m_
theorem laws_szRxQueueS_L0_z {α : Type} (bad : α) (k_ : Int → α) (N : Nat) (a : Rows) (left_1 : Int) (i : Int) : laws_szRxQueueS_L0 bad k_ N a 0 left_1 i = bad := rfl
theorem laws_szRxQueueS_L0_s {α : Type} (bad : α) (k_ : Int → α) (N : Nat) (a : Rows) (m_ : Nat) (left_1 : Int) (i : Int) : laws_szRxQueueS_L0 bad k_ N a (m_ + 1) left_1 i = laws_szRxQueueS_l0 bad k_ a (laws_szRxQueueS_L0 bad k_ N a m_) left_1 i := rfl
def laws_szRxQueueS_t {α : Type} (bad : α) (k_ : Int → α) (l0 : Int → Int → α) (a : Rows) (left : Int) : α :=
  bif decide (w64 (left - (len a)) < 0) then k_ (-1)
  else l0 (w64 (left - (len a))) 0
def laws_szRxQueueS_f {α : Type} (bad : α) (k_ : Int → α) (N : Nat) (a : Rows) (left : Int) : α := laws_szRxQueueS_t bad k_ (laws_szRxQueueS_L0 bad k_ N a N) a left
def laws_szRxQueueS (a : Rows) (left : Int) : Int := szAll (fun r l => laws_szRxQueue (SRxQueue.decAt r 0) l) a left
theorem laws_szRxQueueS_c {α : Type} (bad : α) (k_ : Int → α) (a : Rows) (left : Int) (h_a : WtC (.sl [.int .i64, .int .i64, .int .i64, .int .i64, .int .i64, .int .i64, .int .i64, .int .i64, .int .i64, .int .i64, .int .i64, .int .i64, .int .i64, .int .i64, .int .i64, .int .i64, .int .i64, .int .i64, .int .i64, .int .i64, .int .i64, .int .i64, .int .i64, .int .i64, .int .i64, .str, .int .i64, .int .i64, .bool, .int .i64]) (.sl a)) (h_left : WtC (.int .i64) (.int left)) : ∃ N, laws_szRxQueueS_f bad k_ N a left = k_ (laws_szRxQueueS a left) := by
  obtain ⟨hl, _⟩ := wt_sl h_a
  refine ⟨a.length + 1, ?_⟩
  unfold laws_szRxQueueS_f laws_szRxQueueS_t laws_szRxQueueS szAll
  refine cond_k rfl ?_
  refine (loop_rows a (fun n i l => laws_szRxQueueS_L0 bad k_ (a.length + 1) a n l i) (fun _ r c l => bif decide ((fun r l => laws_szRxQueue (SRxQueue.decAt r 0) l) r l < 0) then k_ (-1) else c ((fun r l => laws_szRxQueue (SRxQueue.decAt r 0) l) r l)) k_ ?_ ?_ _).trans (go_sz (fun r l => laws_szRxQueue (SRxQueue.decAt r 0) l) k_ a 0 _)
  · intro n i l h
    try dsimp only
    rw [laws_szRxQueueS_L0_s]
    simp only [laws_szRxQueueS_l0, lt_len h, idx_nat h, w64_succ h hl, Int.toNat_natCast, andt_true_l, andt_true_r, cond_true]
  · intro n l
    try dsimp only
    rw [laws_szRxQueueS_L0_s]
    simp only [laws_szRxQueueS_l0, not_lt_len, cond_false]

def laws_szPoolS_l0 {α : Type} (bad : α) (k_ : Int → α) (a : Rows) (ih0 : Int → Int → α) (left_1 : Int) (i : Int) : α :=
  let z0 : Int := laws_szPool (SPool.decAt (nth a (Int.toNat i)) 0) left_1
  bif decide (i < len a) then
    bif andt true (idx i a) then
      bif decide (z0 < 0) then k_ (-1)
      else ih0 z0 (w64 (i + 1))
    else bad
  else k_ left_1
def laws_szPoolS_L0 {α : Type} (bad : α) (k_ : Int → α) (N : Nat) (a : Rows) (m_ : Nat) : Int → Int → α :=
  Nat.rec (motive := fun _ => Int → Int → α) (fun _ _ => bad) (fun _ ih0 => laws_szPoolS_l0 bad k_ a ih0) m_
theorem laws_szPoolS_L0_z {α : Type} (bad : α) (k_ : Int → α) (N : Nat) (a : Rows) (left_1 : Int) (i : Int) : laws_szPoolS_L0 bad k_ N a 0 left_1 i = bad := rfl
theorem laws_szPoolS_L0_s {α : Type} (bad : α) (k_ : Int → α) (N : Nat) (a : Rows) (m_ : Nat) (left_1 : Int) (i : Int) : laws_szPoolS_L0 bad k_ N a (m_ + 1) left_1 i = laws_szPoolS_l0 bad k_ a (laws_szPoolS_L0 bad k_ N a m_) left_1 i := rfl
def laws_szPoolS_t {α : Type} (bad : α) (k_ : Int → α) (l0 : Int → Int → α) (a : Rows) (left : Int) : α :=
  bif decide (w64 (left - (len a)) < 0) then k_ (-1)
  else l0 (w64 (left - (len a))) 0
def laws_szPoolS_f {α : Type} (bad : α) (k_ : Int → α) (N : Nat) (a : Rows) (left : Int) : α := laws_szPoolS_t bad k_ (laws_szPoolS_L0 bad k_ N a N) a left
def laws_szPoolS (a : Rows) (left : Int) : Int := szAll (fun r l => laws_szPool (SPool.decAt r 0) l) a left
theorem laws_szPoolS_c {α : Type} (bad : α) (k_ : Int → α) (a : Rows) (left : Int) (h_a : WtC (.sl [.int .i64, .int .i64, .int .i64, .sl [.int .i64]]) (.sl a)) (h_left : WtC (.int .i64) (.int left)) : ∃ N, laws_szPoolS_f bad k_ N a left = k_ (laws_szPoolS a left) := by
  obtain ⟨hl, _⟩ := wt_sl h_a
  refine ⟨a.length + 1, ?_⟩
  unfold laws_szPoolS_f laws_szPoolS_t laws_szPoolS szAll
  refine cond_k rfl ?_
  refine (loop_rows a (fun n i l => laws_szPoolS_L0 bad k_ (a.length + 1) a n l i) (fun _ r c l => bif decide ((fun r l => laws_szPool (SPool.decAt r 0) l) r l < 0) then k_ (-1) else c ((fun r l => laws_szPool (SPool.decAt r 0) l) r l)) k_ ?_ ?_ _).trans (go_sz (fun r l => laws_szPool (SPool.decAt r 0) l) k_ a 0 _)
  · intro n i l h
    try dsimp only
    rw [laws_szPoolS_L0_s]
    simp only [laws_szPoolS_l0, lt_len h, idx_nat h, w64_succ h hl, Int.toNat_natCast, andt_true_l, andt_true_r, cond_true]
  · intro n l
    try dsimp only
    rw [laws_szPoolS_L0_s]
    simp only [laws_szPoolS_l0, not_lt_len, cond_false]

def laws_szVectorS_t {α : Type} (k_ : Int → α) (a : Rows) (left : Int) : α :=
  bif decide (w64 (left - (len a)) < 0) then k_ (-1)
  else k_ (w64 (left - (len a)))
theorem laws_szVectorS_c {α : Type} (k_ : Int → α) (a : Rows) (left : Int) (h_a : WtC (.sl [.int .i64, .int .i64, .int .i64, .int .i64, .bool, .bool]) (.sl a)) (h_left : WtC (.int .i64) (.int left)) : laws_szVectorS_t k_ a left = k_ (szFlat a left) := by
  exact cond_k rfl rfl

def laws_szBoolS_t {α : Type} (k_ : Int → α) (a : Rows) (left : Int) : α :=
  bif decide (w64 (left - (len a)) < 0) then k_ (-1)
  else k_ (w64 (left - (len a)))
theorem laws_szBoolS_c {α : Type} (k_ : Int → α) (a : Rows) (left : Int) (h_a : WtC (.sl [.bool]) (.sl a)) (h_left : WtC (.int .i64) (.int left)) : laws_szBoolS_t k_ a left = k_ (szFlat a left) := by
  exact cond_k rfl rfl

def laws_szFilter_t {α : Type} (k_ : Int → α) (a : SFilter) (left : Int) : α :=
  bif decide (szFlat a.Vlans left < 0) then k_ (-1)
  else k_ (szFlat a.Vlans left)
def laws_szFilter (a : SFilter) (left : Int) : Int := laws_szFilter_t id a left
theorem laws_szFilter_c {α : Type} (k_ : Int → α) (a : SFilter) (left : Int) : laws_szFilter_t k_ a left = k_ (laws_szFilter a left) := by
  exact cond_k rfl rfl

def laws_szRuleS_t {α : Type} (k_ : Int → α) (a : Rows) (left : Int) : α :=
  bif decide (w64 (left - (len a)) < 0) then k_ (-1)
  else k_ (w64 (left - (len a)))
theorem laws_szRuleS_c {α : Type} (k_ : Int → α) (a : Rows) (left : Int) (h_a : WtC (.sl [.int .i64, .int .i64, .int .i64, .int .i64, .int .i64, .int .i64, .int .i64, .int .i64, .int .i64]) (.sl a)) (h_left : WtC (.int .i64) (.int left)) : laws_szRuleS_t k_ a left = k_ (szFlat a left) := by
  exact cond_k rfl rfl

def laws_szSlotS_t {α : Type} (k_ : Int → α) (a : Rows) (left : Int) : α :=
  bif decide (w64 (left - (len a)) < 0) then k_ (-1)
  else k_ (w64 (left - (len a)))
theorem laws_szSlotS_c {α : Type} (k_ : Int → α) (a : Rows) (left : Int) (h_a : WtC (.sl [.int .i64, .int .i64, .int .i64, .int .i64, .int .i64, .int .i64, .int .i64]) (.sl a)) (h_left : WtC (.int .i64) (.int left)) : laws_szSlotS_t k_ a left = k_ (szFlat a left) := by
  exact cond_k rfl rfl

def laws_szFlowTable_t {α : Type} (k_ : Int → α) (a : SFlowTable) (left : Int) : α :=
  bif decide (szFlat a.Slots left < 0) then k_ (-1)
  else k_ (szFlat a.Slots left)
def laws_szFlowTable (a : SFlowTable) (left : Int) : Int := laws_szFlowTable_t id a left
theorem laws_szFlowTable_c {α : Type} (k_ : Int → α) (a : SFlowTable) (left : Int) : laws_szFlowTable_t k_ a left = k_ (laws_szFlowTable a left) := by
  exact cond_k rfl rfl

def laws_szSpread_t {α : Type} (k_ : Int → α) (a : SSpread) (left : Int) : α :=
  let z0 : Int := w64 (left - (len a.Key))
  let z1 : Int := szFlat a.Table z0
  bif decide (z0 < 0) then k_ (-1)
  else bif decide (z1 < 0) then k_ (-1)
  else k_ z1
def laws_szSpread (a : SSpread) (left : Int) : Int := laws_szSpread_t id a left
theorem laws_szSpread_c {α : Type} (k_ : Int → α) (a : SSpread) (left : Int) : laws_szSpread_t k_ a left = k_ (laws_szSpread a left) := by
  exact cond_k rfl (cond_k rfl rfl)

def laws_szSteering_t {α : Type} (k_ : Int → α) (a : SSteering) (left : Int) : α :=
  let z0 : Int := laws_szFlowTable a.Table (szFlat a.Rules left)
  let z1 : Int := laws_szSpread a.Spread z0
  bif decide (szFlat a.Rules left < 0) then k_ (-1)
  else bif decide (z0 < 0) then k_ (-1)
  else bif decide (z1 < 0) then k_ (-1)
  else k_ z1
def laws_szSteering (a : SSteering) (left : Int) : Int := laws_szSteering_t id a left
theorem laws_szSteering_c {α : Type} (k_ : Int → α) (a : SSteering) (left : Int) : laws_szSteering_t k_ a left = k_ (laws_szSteering a left) := by
  exact cond_k rfl (cond_k rfl (cond_k rfl rfl))

def laws_szStream_t {α : Type} (k_ : Int → α) (a : SStream) (left : Int) : α :=
  let z0 : Int := w64 (left - (len a.Data))
  bif decide (z0 < 0) then k_ (-1)
  else k_ z0
def laws_szStream (a : SStream) (left : Int) : Int := laws_szStream_t id a left
theorem laws_szStream_c {α : Type} (k_ : Int → α) (a : SStream) (left : Int) : laws_szStream_t k_ a left = k_ (laws_szStream a left) := by
  exact cond_k rfl rfl

def laws_szStreamS_l0 {α : Type} (bad : α) (k_ : Int → α) (a : Rows) (ih0 : Int → Int → α) (left_1 : Int) (i : Int) : α :=
  let z0 : Int := laws_szStream (SStream.decAt (nth a (Int.toNat i)) 0) left_1
  bif decide (i < len a) then
    bif andt true (idx i a) then
      bif decide (z0 < 0) then k_ (-1)
      else ih0 z0 (w64 (i + 1))
    else bad
  else k_ left_1
def laws_szStreamS_L0 {α : Type} (bad : α) (k_ : Int → α) (N : Nat) (a : Rows) (m_ : Nat) : Int → Int → α :=
  Nat.rec (motive := fun _ => Int → Int → α) (fun _ _ => bad) (fun _ ih0 => laws_szStreamS_l0 bad k_ a ih0) m_
theorem laws_szStreamS_L0_z {α : Type} (bad : α) (k_ : Int → α) (N : Nat) (a : Rows) (left_1 : Int) (i : Int) : laws_szStreamS_L0 bad k_ N a 0 left_1 i = bad := rfl
theorem laws_szStreamS_L0_s {α : Type} (bad : α) (k_ : Int → α) (N : Nat) (a : Rows) (m_ : Nat) (left_1 : Int) (i : Int) : laws_szStreamS_L0 bad k_ N a (m_ + 1) left_1 i = laws_szStreamS_l0 bad k_ a (laws_szStreamS_L0 bad k_ N a m_) left_1 i := rfl
def laws_szStreamS_t {α : Type} (bad : α) (k_ : Int → α) (l0 : Int → Int → α) (a : Rows) (left : Int) : α :=
  bif decide (w64 (left - (len a)) < 0) then k_ (-1)
  else l0 (w64 (left - (len a))) 0
def laws_szStreamS_f {α : Type} (bad : α) (k_ : Int → α) (N : Nat) (a : Rows) (left : Int) : α := laws_szStreamS_t bad k_ (laws_szStreamS_L0 bad k_ N a N) a left
def laws_szStreamS (a : Rows) (left : Int) : Int := szAll (fun r l => laws_szStream (SStream.decAt r 0) l) a left
theorem laws_szStreamS_c {α : Type} (bad : α) (k_ : Int → α) (a : Rows) (left : Int) (h_a : WtC (.sl [.int .i64, .int .i64, .int .i64, .int .i64, .int .i64, .int .i64, .str, .bool]) (.sl a)) (h_left : WtC (.int .i64) (.int left)) : ∃ N, laws_szStreamS_f bad k_ N a left = k_ (laws_szStreamS a left) := by
  obtain ⟨hl, _⟩ := wt_sl h_a
  refine ⟨a.length + 1, ?_⟩
  unfold laws_szStreamS_f laws_szStreamS_t laws_szStreamS szAll
  refine cond_k rfl ?_
  refine (loop_rows a (fun n i l => laws_szStreamS_L0 bad k_ (a.length + 1) a n l i) (fun _ r c l => bif decide ((fun r l => laws_szStream (SStream.decAt r 0) l) r l < 0) then k_ (-1) else c ((fun r l => laws_szStream (SStream.decAt r 0) l) r l)) k_ ?_ ?_ _).trans (go_sz (fun r l => laws_szStream (SStream.decAt r 0) l) k_ a 0 _)
  · intro n i l h
    try dsimp only
    rw [laws_szStreamS_L0_s]
    simp only [laws_szStreamS_l0, lt_len h, idx_nat h, w64_succ h hl, Int.toNat_natCast, andt_true_l, andt_true_r, cond_true]
  · intro n l
    try dsimp only
    rw [laws_szStreamS_L0_s]
    simp only [laws_szStreamS_l0, not_lt_len, cond_false]

def laws_szHost_t {α : Type} (k_ : Int → α) (a : SHost) (left : Int) : α :=
  let z0 : Int := szFlat a.Maps (laws_szMemory a.Memory left)
  let z1 : Int := laws_szTxQueue a.Tx z0
  let z2 : Int := laws_szRxQueueS a.Rx z1
  let z3 : Int := laws_szPoolS a.Pools z2
  let z4 : Int := szFlat a.Vectors z3
  let z5 : Int := szFlat a.Polling z4
  let z6 : Int := laws_szFilter a.Filter z5
  let z7 : Int := laws_szSteering a.Steering z6
  let z8 : Int := laws_szStreamS a.Streams z7
  let z9 : Int := laws_szStringS a.Wire z8
  let z10 : Int := szFlat a.Completed z9
  let z11 : Int := szFlat a.Returned z10
  bif decide (laws_szMemory a.Memory left < 0) then k_ (-1)
  else bif decide (z0 < 0) then k_ (-1)
  else bif decide (z1 < 0) then k_ (-1)
  else bif decide (z2 < 0) then k_ (-1)
  else bif decide (z3 < 0) then k_ (-1)
  else bif decide (z4 < 0) then k_ (-1)
  else bif decide (z5 < 0) then k_ (-1)
  else bif decide (z6 < 0) then k_ (-1)
  else bif decide (z7 < 0) then k_ (-1)
  else bif decide (z8 < 0) then k_ (-1)
  else bif decide (z9 < 0) then k_ (-1)
  else bif decide (z10 < 0) then k_ (-1)
  else bif decide (z11 < 0) then k_ (-1)
  else k_ z11
def laws_szHost (a : SHost) (left : Int) : Int := laws_szHost_t id a left
theorem laws_szHost_c {α : Type} (k_ : Int → α) (a : SHost) (left : Int) : laws_szHost_t k_ a left = k_ (laws_szHost a left) := by
  exact cond_k rfl (cond_k rfl (cond_k rfl (cond_k rfl (cond_k rfl (cond_k rfl (cond_k rfl (cond_k rfl (cond_k rfl (cond_k rfl (cond_k rfl (cond_k rfl (cond_k rfl rfl))))))))))))

def laws_eqStringS_l0 {α : Type} (bad : α) (k_ : Bool → α) (a : Rows) (b : Rows) (ih0 : Int → α) (i : Int) : α :=
  bif decide (i < len a) then
    bif andt (andt true (idx i a)) (idx i b) then
      bif !((rS (nth a (Int.toNat i)) 0) == (rS (nth b (Int.toNat i)) 0)) then k_ false
      else ih0 (w64 (i + 1))
    else bad
  else k_ true
def laws_eqStringS_L0 {α : Type} (bad : α) (k_ : Bool → α) (N : Nat) (a : Rows) (b : Rows) (m_ : Nat) : Int → α :=
  Nat.rec (motive := fun _ => Int → α) (fun _ => bad) (fun _ ih0 => laws_eqStringS_l0 bad k_ a b ih0) m_
theorem laws_eqStringS_L0_z {α : Type} (bad : α) (k_ : Bool → α) (N : Nat) (a : Rows) (b : Rows) (i : Int) : laws_eqStringS_L0 bad k_ N a b 0 i = bad := rfl
theorem laws_eqStringS_L0_s {α : Type} (bad : α) (k_ : Bool → α) (N : Nat) (a : Rows) (b : Rows) (m_ : Nat) (i : Int) : laws_eqStringS_L0 bad k_ N a b (m_ + 1) i = laws_eqStringS_l0 bad k_ a b (laws_eqStringS_L0 bad k_ N a b m_) i := rfl
def laws_eqStringS_t {α : Type} (bad : α) (k_ : Bool → α) (l0 : Int → α) (a : Rows) (b : Rows) : α :=
  bif (len a) != (len b) then k_ false
  else l0 0
def laws_eqStringS_f {α : Type} (bad : α) (k_ : Bool → α) (N : Nat) (a : Rows) (b : Rows) : α := laws_eqStringS_t bad k_ (laws_eqStringS_L0 bad k_ N a b N) a b
theorem laws_eqStringS_c {α : Type} (bad : α) (k_ : Bool → α) (a : Rows) (b : Rows) (h_a : WtC (.sl [.str]) (.sl a)) (h_b : WtC (.sl [.str]) (.sl b)) (hok : same a b = true) : ∃ N, laws_eqStringS_f bad k_ N a b = k_ (yes2 a b) := by
  obtain rfl := same_eq hok
  obtain ⟨hl, _⟩ := wt_sl h_a
  refine ⟨a.length + 1, ?_⟩
  unfold laws_eqStringS_f laws_eqStringS_t
  simp only [bne_self_eq_false, cond_false]
  refine (loop_rows0 a (laws_eqStringS_L0 bad k_ (a.length + 1) a a) (fun _ _ c => c) (k_ true) ?_ ?_).trans (go_skip _ _ _)
  · intro n i h
    rw [laws_eqStringS_L0_s]
    simp only [laws_eqStringS_l0, lt_len h, idx_nat h, w64_succ h hl, Int.toNat_natCast, andt_true_l, andt_true_r, cond_true, cond_false, bne_self_eq_false, beq_self_eq_true, Bool.not_true, same_refl, yes2]
  · intro n
    rw [laws_eqStringS_L0_s]
    simp only [laws_eqStringS_l0, not_lt_len, cond_false]

def laws_eqCompletionQueue_t {α : Type} (k_ : Bool → α) (a : SCompletionQueue) (b : SCompletionQueue) : α :=
  bif a.Base != b.Base then k_ false
  else bif a.Size != b.Size then k_ false
  else bif a.Count != b.Count then k_ false
  else k_ true
theorem laws_eqCompletionQueue_c {α : Type} (k_ : Bool → α) (a : SCompletionQueue) (b : SCompletionQueue) (h_a : WtL SCompletionQueue.ct a.enc) (h_b : WtL SCompletionQueue.ct b.enc) (hok : same a b = true) : laws_eqCompletionQueue_t k_ a b = k_ (yes2 a b) := by
  obtain rfl := same_eq hok
  simp only [laws_eqCompletionQueue_t, same_refl, yes2, bne_self_eq_false, beq_self_eq_true, Bool.not_true, cond_false, cond_true, andt_true_l, andt_true_r]

def laws_toRule_t {α : Type} (k_ : SRule → α) (a : SRule) : α :=
  k_ a
theorem laws_toRule_c {α : Type} (k_ : SRule → α) (a : SRule) (h_a : WtL SRule.ct a.enc) : laws_toRule_t k_ a = k_ (idf a) := by
  rfl

def laws_toRuleS_l0 {α : Type} (bad : α) (k_ : Rows → α) (a : Rows) (ih0 : Int → Rows → α) (i : Int) (out_ : Rows) : α :=
  bif decide (i < len a) then
    bif andt (andt (andt true (idx i a)) (idx i out_)) (inl (Int.toNat i) out_) then
      ih0 (w64 (i + 1)) (List.set out_ (Int.toNat i) (splice (nth out_ (Int.toNat i)) 0 (SRule.enc (idf (SRule.decAt (nth a (Int.toNat i)) 0)))))
    else bad
  else k_ out_
def laws_toRuleS_L0 {α : Type} (bad : α) (k_ : Rows → α) (N : Nat) (a : Rows) (m_ : Nat) : Int → Rows → α :=
  Nat.rec (motive := fun _ => Int → Rows → α) (fun _ _ => bad) (fun _ ih0 => laws_toRuleS_l0 bad k_ a ih0) m_
theorem laws_toRuleS_L0_z {α : Type} (bad : α) (k_ : Rows → α) (N : Nat) (a : Rows) (i : Int) (out_ : Rows) : laws_toRuleS_L0 bad k_ N a 0 i out_ = bad := rfl
theorem laws_toRuleS_L0_s {α : Type} (bad : α) (k_ : Rows → α) (N : Nat) (a : Rows) (m_ : Nat) (i : Int) (out_ : Rows) : laws_toRuleS_L0 bad k_ N a (m_ + 1) i out_ = laws_toRuleS_l0 bad k_ a (laws_toRuleS_L0 bad k_ N a m_) i out_ := rfl
def laws_toRuleS_t {α : Type} (bad : α) (k_ : Rows → α) (l0 : Int → Rows → α) (a : Rows) : α :=
  bif andt true (makeOk 72 (len a) (len a)) then
    l0 0 (List.replicate (Int.toNat (len a)) ([.int 0, .int 0, .int 0, .int 0, .int 0, .int 0, .int 0, .int 0, .int 0] : List DC))
  else bad
def laws_toRuleS_f {α : Type} (bad : α) (k_ : Rows → α) (N : Nat) (a : Rows) : α := laws_toRuleS_t bad k_ (laws_toRuleS_L0 bad k_ N a N) a
theorem laws_toRuleS_c {α : Type} (bad : α) (k_ : Rows → α) (a : Rows) (h_a : WtC (.sl [.int .i64, .int .i64, .int .i64, .int .i64, .int .i64, .int .i64, .int .i64, .int .i64, .int .i64]) (.sl a)) (hok : sm a = true) : ∃ N, laws_toRuleS_f bad k_ N a = k_ (idf a) := by
  obtain ⟨hl, hw⟩ := wt_sl h_a
  have hsm := hok
  refine ⟨a.length + 1, ?_⟩
  unfold laws_toRuleS_f laws_toRuleS_t
  have e0 : Int.toNat (len a) = a.length := by simp [len]
  simp only [make_sm hsm (show 72 ≤ 8388608 by omega), andt_true_l, cond_true, e0]
  refine copy_set a (laws_toRuleS_L0 bad k_ (a.length + 1) a) k_ [.int 0, .int 0, .int 0, .int 0, .int 0, .int 0, .int 0, .int 0, .int 0] (fun o r => splice o 0 (SRule.enc (idf (SRule.decAt r 0)))) ?_ ?_ ?_
  · intro n i out h ho
    rw [laws_toRuleS_L0_s]
    simp only [laws_toRuleS_l0, lt_len h, idx_nat h, idx_set ho h, inl_nat (show i < out.length by omega), w64_succ h hl, Int.toNat_natCast, Bool.and_true, andt_true_l, andt_true_r, cond_true]
    try rfl
  · intro n out ho
    rw [laws_toRuleS_L0_s]
    simp only [laws_toRuleS_l0, not_lt_len, cond_false]
  · intro r hr
    refine (splice_all ?_).trans ?_
    · rfl
    · exact SRule.eta (hw r hr)

def laws_toFlow_t {α : Type} (k_ : SFlow → α) (a : SFlow) : α :=
  k_ a
theorem laws_toFlow_c {α : Type} (k_ : SFlow → α) (a : SFlow) (h_a : WtL SFlow.ct a.enc) : laws_toFlow_t k_ a = k_ (idf a) := by
  rfl

def laws_toSlot_t {α : Type} (k_ : SSlot → α) (a : SSlot) : α :=
  k_ (⟨a.State, idf a.Flow, a.Queue⟩ : SSlot)
theorem laws_toSlot_c {α : Type} (k_ : SSlot → α) (a : SSlot) (h_a : WtL SSlot.ct a.enc) : laws_toSlot_t k_ a = k_ (idf a) := by
  rfl

def laws_toSlotS_l0 {α : Type} (bad : α) (k_ : Rows → α) (a : Rows) (ih0 : Int → Rows → α) (i : Int) (out_ : Rows) : α :=
  bif decide (i < len a) then
    bif andt (andt (andt true (idx i a)) (idx i out_)) (inl (Int.toNat i) out_) then
      ih0 (w64 (i + 1)) (List.set out_ (Int.toNat i) (splice (nth out_ (Int.toNat i)) 0 (SSlot.enc (idf (SSlot.decAt (nth a (Int.toNat i)) 0)))))
    else bad
  else k_ out_
def laws_toSlotS_L0 {α : Type} (bad : α) (k_ : Rows → α) (N : Nat) (a : Rows) (m_ : Nat) : Int → Rows → α :=
  Nat.rec (motive := fun _ => Int → Rows → α) (fun _ _ => bad) (fun _ ih0 => laws_toSlotS_l0 bad k_ a ih0) m_
theorem laws_toSlotS_L0_z {α : Type} (bad : α) (k_ : Rows → α) (N : Nat) (a : Rows) (i : Int) (out_ : Rows) : laws_toSlotS_L0 bad k_ N a 0 i out_ = bad := rfl
theorem laws_toSlotS_L0_s {α : Type} (bad : α) (k_ : Rows → α) (N : Nat) (a : Rows) (m_ : Nat) (i : Int) (out_ : Rows) : laws_toSlotS_L0 bad k_ N a (m_ + 1) i out_ = laws_toSlotS_l0 bad k_ a (laws_toSlotS_L0 bad k_ N a m_) i out_ := rfl
def laws_toSlotS_t {α : Type} (bad : α) (k_ : Rows → α) (l0 : Int → Rows → α) (a : Rows) : α :=
  bif andt true (makeOk 56 (len a) (len a)) then
    l0 0 (List.replicate (Int.toNat (len a)) ([.int 0, .int 0, .int 0, .int 0, .int 0, .int 0, .int 0] : List DC))
  else bad
def laws_toSlotS_f {α : Type} (bad : α) (k_ : Rows → α) (N : Nat) (a : Rows) : α := laws_toSlotS_t bad k_ (laws_toSlotS_L0 bad k_ N a N) a
theorem laws_toSlotS_c {α : Type} (bad : α) (k_ : Rows → α) (a : Rows) (h_a : WtC (.sl [.int .i64, .int .i64, .int .i64, .int .i64, .int .i64, .int .i64, .int .i64]) (.sl a)) (hok : sm a = true) : ∃ N, laws_toSlotS_f bad k_ N a = k_ (idf a) := by
  obtain ⟨hl, hw⟩ := wt_sl h_a
  have hsm := hok
  refine ⟨a.length + 1, ?_⟩
  unfold laws_toSlotS_f laws_toSlotS_t
  have e0 : Int.toNat (len a) = a.length := by simp [len]
  simp only [make_sm hsm (show 56 ≤ 8388608 by omega), andt_true_l, cond_true, e0]
  refine copy_set a (laws_toSlotS_L0 bad k_ (a.length + 1) a) k_ [.int 0, .int 0, .int 0, .int 0, .int 0, .int 0, .int 0] (fun o r => splice o 0 (SSlot.enc (idf (SSlot.decAt r 0)))) ?_ ?_ ?_
  · intro n i out h ho
    rw [laws_toSlotS_L0_s]
    simp only [laws_toSlotS_l0, lt_len h, idx_nat h, idx_set ho h, inl_nat (show i < out.length by omega), w64_succ h hl, Int.toNat_natCast, Bool.and_true, andt_true_l, andt_true_r, cond_true]
    try rfl
  · intro n out ho
    rw [laws_toSlotS_L0_s]
    simp only [laws_toSlotS_l0, not_lt_len, cond_false]
  · intro r hr
    refine (splice_all ?_).trans ?_
    · rfl
    · exact SSlot.eta (hw r hr)

def laws_toFlowTable_t {α : Type} (bad : α) (k_ : SFlowTable → α) (a : SFlowTable) : α :=
  bif andt true (sm a.Slots) then
    k_ (⟨idf a.Slots⟩ : SFlowTable)
  else bad
def laws_toFlowTable_ok (a : SFlowTable) : Bool := laws_toFlowTable_t false (fun _ => true) a
theorem laws_toFlowTable_c {α : Type} (bad : α) (k_ : SFlowTable → α) (a : SFlowTable) (h_a : WtL SFlowTable.ct a.enc) (hok : laws_toFlowTable_ok a = true) : laws_toFlowTable_t bad k_ a = k_ (idf a) := by
  exact guard_id (fun _ => rfl) hok

def laws_toIntS_l0 {α : Type} (bad : α) (k_ : Rows → α) (a : Rows) (ih0 : Int → Rows → α) (i : Int) (out_ : Rows) : α :=
  bif decide (i < len a) then
    bif andt (andt (andt true (idx i a)) (idx i out_)) (inl (Int.toNat i) out_) then
      ih0 (w64 (i + 1)) (List.set out_ (Int.toNat i) (splice (nth out_ (Int.toNat i)) 0 [.int (rI (nth a (Int.toNat i)) 0)]))
    else bad
  else k_ out_
def laws_toIntS_L0 {α : Type} (bad : α) (k_ : Rows → α) (N : Nat) (a : Rows) (m_ : Nat) : Int → Rows → α :=
  Nat.rec (motive := fun _ => Int → Rows → α) (fun _ _ => bad) (fun _ ih0 => laws_toIntS_l0 bad k_ a ih0) m_
theorem laws_toIntS_L0_z {α : Type} (bad : α) (k_ : Rows → α) (N : Nat) (a : Rows) (i : Int) (out_ : Rows) : laws_toIntS_L0 bad k_ N a 0 i out_ = bad := rfl
theorem laws_toIntS_L0_s {α : Type} (bad : α) (k_ : Rows → α) (N : Nat) (a : Rows) (m_ : Nat) (i : Int) (out_ : Rows) : laws_toIntS_L0 bad k_ N a (m_ + 1) i out_ = laws_toIntS_l0 bad k_ a (laws_toIntS_L0 bad k_ N a m_) i out_ := rfl
def laws_toIntS_t {α : Type} (bad : α) (k_ : Rows → α) (l0 : Int → Rows → α) (a : Rows) : α :=
  bif andt true (makeOk 8 (len a) (len a)) then
    l0 0 (List.replicate (Int.toNat (len a)) ([.int 0] : List DC))
  else bad
def laws_toIntS_f {α : Type} (bad : α) (k_ : Rows → α) (N : Nat) (a : Rows) : α := laws_toIntS_t bad k_ (laws_toIntS_L0 bad k_ N a N) a
theorem laws_toIntS_c {α : Type} (bad : α) (k_ : Rows → α) (a : Rows) (h_a : WtC (.sl [.int .i64]) (.sl a)) (hok : sm a = true) : ∃ N, laws_toIntS_f bad k_ N a = k_ (idf a) := by
  obtain ⟨hl, hw⟩ := wt_sl h_a
  have hsm := hok
  refine ⟨a.length + 1, ?_⟩
  unfold laws_toIntS_f laws_toIntS_t
  have e0 : Int.toNat (len a) = a.length := by simp [len]
  simp only [make_sm hsm (show 8 ≤ 8388608 by omega), andt_true_l, cond_true, e0]
  refine copy_set a (laws_toIntS_L0 bad k_ (a.length + 1) a) k_ [.int 0] (fun o r => splice o 0 ([.int (rI r 0)])) ?_ ?_ ?_
  · intro n i out h ho
    rw [laws_toIntS_L0_s]
    simp only [laws_toIntS_l0, lt_len h, idx_nat h, idx_set ho h, inl_nat (show i < out.length by omega), w64_succ h hl, Int.toNat_natCast, Bool.and_true, andt_true_l, andt_true_r, cond_true]
    try rfl
  · intro n out ho
    rw [laws_toIntS_L0_s]
    simp only [laws_toIntS_l0, not_lt_len, cond_false]
  · intro r hr
    refine (splice_all ?_).trans ?_
    · rfl
    · exact row_int (hw r hr)

def laws_toSpread_t {α : Type} (bad : α) (k_ : SSpread → α) (a : SSpread) : α :=
  bif andt true (sm a.Table) then
    k_ (⟨a.Key, idf a.Table⟩ : SSpread)
  else bad
def laws_toSpread_ok (a : SSpread) : Bool := laws_toSpread_t false (fun _ => true) a
theorem laws_toSpread_c {α : Type} (bad : α) (k_ : SSpread → α) (a : SSpread) (h_a : WtL SSpread.ct a.enc) (hok : laws_toSpread_ok a = true) : laws_toSpread_t bad k_ a = k_ (idf a) := by
  exact guard_id (fun _ => rfl) hok

def laws_toSteering_t {α : Type} (bad : α) (k_ : SSteering → α) (a : SSteering) : α :=
  bif andt true (sm a.Rules) then
    bif andt true (laws_toFlowTable_ok a.Table) then
      bif andt true (laws_toSpread_ok a.Spread) then
        k_ (⟨idf a.Rules, idf a.Table, idf a.Spread⟩ : SSteering)
      else bad
    else bad
  else bad
def laws_toSteering_ok (a : SSteering) : Bool := laws_toSteering_t false (fun _ => true) a
theorem laws_toSteering_c {α : Type} (bad : α) (k_ : SSteering → α) (a : SSteering) (h_a : WtL SSteering.ct a.enc) (hok : laws_toSteering_ok a = true) : laws_toSteering_t bad k_ a = k_ (idf a) := by
  exact guard_id (guard_id (guard_id (fun _ => rfl))) hok

def laws_eqVector_t {α : Type} (k_ : Bool → α) (a : SVector) (b : SVector) : α :=
  bif a.MaxCount != b.MaxCount then k_ false
  else bif a.MaxTime != b.MaxTime then k_ false
  else bif a.Count != b.Count then k_ false
  else bif a.Time != b.Time then k_ false
  else bif !(a.Masked == b.Masked) then k_ false
  else bif !(a.Raised == b.Raised) then k_ false
  else k_ true
theorem laws_eqVector_c {α : Type} (k_ : Bool → α) (a : SVector) (b : SVector) (h_a : WtL SVector.ct a.enc) (h_b : WtL SVector.ct b.enc) (hok : same a b = true) : laws_eqVector_t k_ a b = k_ (yes2 a b) := by
  obtain rfl := same_eq hok
  simp only [laws_eqVector_t, same_refl, yes2, bne_self_eq_false, beq_self_eq_true, Bool.not_true, cond_false, cond_true, andt_true_l, andt_true_r]

def laws_eqVectorS_l0 {α : Type} (bad : α) (k_ : Bool → α) (a : Rows) (b : Rows) (ih0 : Int → α) (i : Int) : α :=
  bif decide (i < len a) then
    bif andt (andt (andt true (idx i a)) (idx i b)) (same (SVector.decAt (nth a (Int.toNat i)) 0) (SVector.decAt (nth b (Int.toNat i)) 0)) then
      bif !(yes2 (SVector.decAt (nth a (Int.toNat i)) 0) (SVector.decAt (nth b (Int.toNat i)) 0)) then k_ false
      else ih0 (w64 (i + 1))
    else bad
  else k_ true
def laws_eqVectorS_L0 {α : Type} (bad : α) (k_ : Bool → α) (N : Nat) (a : Rows) (b : Rows) (m_ : Nat) : Int → α :=
  Nat.rec (motive := fun _ => Int → α) (fun _ => bad) (fun _ ih0 => laws_eqVectorS_l0 bad k_ a b ih0) m_
theorem laws_eqVectorS_L0_z {α : Type} (bad : α) (k_ : Bool → α) (N : Nat) (a : Rows) (b : Rows) (i : Int) : laws_eqVectorS_L0 bad k_ N a b 0 i = bad := rfl
theorem laws_eqVectorS_L0_s {α : Type} (bad : α) (k_ : Bool → α) (N : Nat) (a : Rows) (b : Rows) (m_ : Nat) (i : Int) : laws_eqVectorS_L0 bad k_ N a b (m_ + 1) i = laws_eqVectorS_l0 bad k_ a b (laws_eqVectorS_L0 bad k_ N a b m_) i := rfl
def laws_eqVectorS_t {α : Type} (bad : α) (k_ : Bool → α) (l0 : Int → α) (a : Rows) (b : Rows) : α :=
  bif (len a) != (len b) then k_ false
  else l0 0
def laws_eqVectorS_f {α : Type} (bad : α) (k_ : Bool → α) (N : Nat) (a : Rows) (b : Rows) : α := laws_eqVectorS_t bad k_ (laws_eqVectorS_L0 bad k_ N a b N) a b
theorem laws_eqVectorS_c {α : Type} (bad : α) (k_ : Bool → α) (a : Rows) (b : Rows) (h_a : WtC (.sl [.int .i64, .int .i64, .int .i64, .int .i64, .bool, .bool]) (.sl a)) (h_b : WtC (.sl [.int .i64, .int .i64, .int .i64, .int .i64, .bool, .bool]) (.sl b)) (hok : same a b = true) : ∃ N, laws_eqVectorS_f bad k_ N a b = k_ (yes2 a b) := by
  obtain rfl := same_eq hok
  obtain ⟨hl, _⟩ := wt_sl h_a
  refine ⟨a.length + 1, ?_⟩
  unfold laws_eqVectorS_f laws_eqVectorS_t
  simp only [bne_self_eq_false, cond_false]
  refine (loop_rows0 a (laws_eqVectorS_L0 bad k_ (a.length + 1) a a) (fun _ _ c => c) (k_ true) ?_ ?_).trans (go_skip _ _ _)
  · intro n i h
    rw [laws_eqVectorS_L0_s]
    simp only [laws_eqVectorS_l0, lt_len h, idx_nat h, w64_succ h hl, Int.toNat_natCast, andt_true_l, andt_true_r, cond_true, cond_false, bne_self_eq_false, beq_self_eq_true, Bool.not_true, same_refl, yes2]
  · intro n
    rw [laws_eqVectorS_L0_s]
    simp only [laws_eqVectorS_l0, not_lt_len, cond_false]

def laws_eqIntS_l0 {α : Type} (bad : α) (k_ : Bool → α) (a : Rows) (b : Rows) (ih0 : Int → α) (i : Int) : α :=
  bif decide (i < len a) then
    bif andt (andt true (idx i a)) (idx i b) then
      bif (rI (nth a (Int.toNat i)) 0) != (rI (nth b (Int.toNat i)) 0) then k_ false
      else ih0 (w64 (i + 1))
    else bad
  else k_ true
def laws_eqIntS_L0 {α : Type} (bad : α) (k_ : Bool → α) (N : Nat) (a : Rows) (b : Rows) (m_ : Nat) : Int → α :=
  Nat.rec (motive := fun _ => Int → α) (fun _ => bad) (fun _ ih0 => laws_eqIntS_l0 bad k_ a b ih0) m_
theorem laws_eqIntS_L0_z {α : Type} (bad : α) (k_ : Bool → α) (N : Nat) (a : Rows) (b : Rows) (i : Int) : laws_eqIntS_L0 bad k_ N a b 0 i = bad := rfl
theorem laws_eqIntS_L0_s {α : Type} (bad : α) (k_ : Bool → α) (N : Nat) (a : Rows) (b : Rows) (m_ : Nat) (i : Int) : laws_eqIntS_L0 bad k_ N a b (m_ + 1) i = laws_eqIntS_l0 bad k_ a b (laws_eqIntS_L0 bad k_ N a b m_) i := rfl
def laws_eqIntS_t {α : Type} (bad : α) (k_ : Bool → α) (l0 : Int → α) (a : Rows) (b : Rows) : α :=
  bif (len a) != (len b) then k_ false
  else l0 0
def laws_eqIntS_f {α : Type} (bad : α) (k_ : Bool → α) (N : Nat) (a : Rows) (b : Rows) : α := laws_eqIntS_t bad k_ (laws_eqIntS_L0 bad k_ N a b N) a b
theorem laws_eqIntS_c {α : Type} (bad : α) (k_ : Bool → α) (a : Rows) (b : Rows) (h_a : WtC (.sl [.int .i64]) (.sl a)) (h_b : WtC (.sl [.int .i64]) (.sl b)) (hok : same a b = true) : ∃ N, laws_eqIntS_f bad k_ N a b = k_ (yes2 a b) := by
  obtain rfl := same_eq hok
  obtain ⟨hl, _⟩ := wt_sl h_a
  refine ⟨a.length + 1, ?_⟩
  unfold laws_eqIntS_f laws_eqIntS_t
  simp only [bne_self_eq_false, cond_false]
  refine (loop_rows0 a (laws_eqIntS_L0 bad k_ (a.length + 1) a a) (fun _ _ c => c) (k_ true) ?_ ?_).trans (go_skip _ _ _)
  · intro n i h
    rw [laws_eqIntS_L0_s]
    simp only [laws_eqIntS_l0, lt_len h, idx_nat h, w64_succ h hl, Int.toNat_natCast, andt_true_l, andt_true_r, cond_true, cond_false, bne_self_eq_false, beq_self_eq_true, Bool.not_true, same_refl, yes2]
  · intro n
    rw [laws_eqIntS_L0_s]
    simp only [laws_eqIntS_l0, not_lt_len, cond_false]

def laws_eqSent_t {α : Type} (bad : α) (k_ : Bool → α) (a : SSent) (b : SSent) : α :=
  bif a.Cookie != b.Cookie then k_ false
  else bif a.Slots != b.Slots then k_ false
  else bif andt true (same a.Buffers b.Buffers) then
      bif !(yes2 a.Buffers b.Buffers) then k_ false
      else k_ true
    else bad
theorem laws_eqSent_c {α : Type} (bad : α) (k_ : Bool → α) (a : SSent) (b : SSent) (h_a : WtL SSent.ct a.enc) (h_b : WtL SSent.ct b.enc) (hok : same a b = true) : laws_eqSent_t bad k_ a b = k_ (yes2 a b) := by
  obtain rfl := same_eq hok
  simp only [laws_eqSent_t, same_refl, yes2, bne_self_eq_false, beq_self_eq_true, Bool.not_true, cond_false, cond_true, andt_true_l, andt_true_r]

def laws_eqSentS_l0 {α : Type} (bad : α) (k_ : Bool → α) (a : Rows) (b : Rows) (ih0 : Int → α) (i : Int) : α :=
  bif decide (i < len a) then
    bif andt (andt (andt true (idx i a)) (idx i b)) (same (SSent.decAt (nth a (Int.toNat i)) 0) (SSent.decAt (nth b (Int.toNat i)) 0)) then
      bif !(yes2 (SSent.decAt (nth a (Int.toNat i)) 0) (SSent.decAt (nth b (Int.toNat i)) 0)) then k_ false
      else ih0 (w64 (i + 1))
    else bad
  else k_ true
def laws_eqSentS_L0 {α : Type} (bad : α) (k_ : Bool → α) (N : Nat) (a : Rows) (b : Rows) (m_ : Nat) : Int → α :=
  Nat.rec (motive := fun _ => Int → α) (fun _ => bad) (fun _ ih0 => laws_eqSentS_l0 bad k_ a b ih0) m_
theorem laws_eqSentS_L0_z {α : Type} (bad : α) (k_ : Bool → α) (N : Nat) (a : Rows) (b : Rows) (i : Int) : laws_eqSentS_L0 bad k_ N a b 0 i = bad := rfl
theorem laws_eqSentS_L0_s {α : Type} (bad : α) (k_ : Bool → α) (N : Nat) (a : Rows) (b : Rows) (m_ : Nat) (i : Int) : laws_eqSentS_L0 bad k_ N a b (m_ + 1) i = laws_eqSentS_l0 bad k_ a b (laws_eqSentS_L0 bad k_ N a b m_) i := rfl
def laws_eqSentS_t {α : Type} (bad : α) (k_ : Bool → α) (l0 : Int → α) (a : Rows) (b : Rows) : α :=
  bif (len a) != (len b) then k_ false
  else l0 0
def laws_eqSentS_f {α : Type} (bad : α) (k_ : Bool → α) (N : Nat) (a : Rows) (b : Rows) : α := laws_eqSentS_t bad k_ (laws_eqSentS_L0 bad k_ N a b N) a b
theorem laws_eqSentS_c {α : Type} (bad : α) (k_ : Bool → α) (a : Rows) (b : Rows) (h_a : WtC (.sl [.int .i64, .int .i64, .sl [.int .i64]]) (.sl a)) (h_b : WtC (.sl [.int .i64, .int .i64, .sl [.int .i64]]) (.sl b)) (hok : same a b = true) : ∃ N, laws_eqSentS_f bad k_ N a b = k_ (yes2 a b) := by
  obtain rfl := same_eq hok
  obtain ⟨hl, _⟩ := wt_sl h_a
  refine ⟨a.length + 1, ?_⟩
  unfold laws_eqSentS_f laws_eqSentS_t
  simp only [bne_self_eq_false, cond_false]
  refine (loop_rows0 a (laws_eqSentS_L0 bad k_ (a.length + 1) a a) (fun _ _ c => c) (k_ true) ?_ ?_).trans (go_skip _ _ _)
  · intro n i h
    rw [laws_eqSentS_L0_s]
    simp only [laws_eqSentS_l0, lt_len h, idx_nat h, w64_succ h hl, Int.toNat_natCast, andt_true_l, andt_true_r, cond_true, cond_false, bne_self_eq_false, beq_self_eq_true, Bool.not_true, same_refl, yes2]
  · intro n
    rw [laws_eqSentS_L0_s]
    simp only [laws_eqSentS_l0, not_lt_len, cond_false]

def laws_eqMapping_t {α : Type} (k_ : Bool → α) (a : SMapping) (b : SMapping) : α :=
  bif a.Domain != b.Domain then k_ false
  else bif a.Virtual != b.Virtual then k_ false
  else bif a.Physical != b.Physical then k_ false
  else bif !(a.Writable == b.Writable) then k_ false
  else k_ true
theorem laws_eqMapping_c {α : Type} (k_ : Bool → α) (a : SMapping) (b : SMapping) (h_a : WtL SMapping.ct a.enc) (h_b : WtL SMapping.ct b.enc) (hok : same a b = true) : laws_eqMapping_t k_ a b = k_ (yes2 a b) := by
  obtain rfl := same_eq hok
  simp only [laws_eqMapping_t, same_refl, yes2, bne_self_eq_false, beq_self_eq_true, Bool.not_true, cond_false, cond_true, andt_true_l, andt_true_r]

def laws_eqMappingS_l0 {α : Type} (bad : α) (k_ : Bool → α) (a : Rows) (b : Rows) (ih0 : Int → α) (i : Int) : α :=
  bif decide (i < len a) then
    bif andt (andt (andt true (idx i a)) (idx i b)) (same (SMapping.decAt (nth a (Int.toNat i)) 0) (SMapping.decAt (nth b (Int.toNat i)) 0)) then
      bif !(yes2 (SMapping.decAt (nth a (Int.toNat i)) 0) (SMapping.decAt (nth b (Int.toNat i)) 0)) then k_ false
      else ih0 (w64 (i + 1))
    else bad
  else k_ true
def laws_eqMappingS_L0 {α : Type} (bad : α) (k_ : Bool → α) (N : Nat) (a : Rows) (b : Rows) (m_ : Nat) : Int → α :=
  Nat.rec (motive := fun _ => Int → α) (fun _ => bad) (fun _ ih0 => laws_eqMappingS_l0 bad k_ a b ih0) m_
theorem laws_eqMappingS_L0_z {α : Type} (bad : α) (k_ : Bool → α) (N : Nat) (a : Rows) (b : Rows) (i : Int) : laws_eqMappingS_L0 bad k_ N a b 0 i = bad := rfl
theorem laws_eqMappingS_L0_s {α : Type} (bad : α) (k_ : Bool → α) (N : Nat) (a : Rows) (b : Rows) (m_ : Nat) (i : Int) : laws_eqMappingS_L0 bad k_ N a b (m_ + 1) i = laws_eqMappingS_l0 bad k_ a b (laws_eqMappingS_L0 bad k_ N a b m_) i := rfl
def laws_eqMappingS_t {α : Type} (bad : α) (k_ : Bool → α) (l0 : Int → α) (a : Rows) (b : Rows) : α :=
  bif (len a) != (len b) then k_ false
  else l0 0
def laws_eqMappingS_f {α : Type} (bad : α) (k_ : Bool → α) (N : Nat) (a : Rows) (b : Rows) : α := laws_eqMappingS_t bad k_ (laws_eqMappingS_L0 bad k_ N a b N) a b
theorem laws_eqMappingS_c {α : Type} (bad : α) (k_ : Bool → α) (a : Rows) (b : Rows) (h_a : WtC (.sl [.int .i64, .int .i64, .int .i64, .bool]) (.sl a)) (h_b : WtC (.sl [.int .i64, .int .i64, .int .i64, .bool]) (.sl b)) (hok : same a b = true) : ∃ N, laws_eqMappingS_f bad k_ N a b = k_ (yes2 a b) := by
  obtain rfl := same_eq hok
  obtain ⟨hl, _⟩ := wt_sl h_a
  refine ⟨a.length + 1, ?_⟩
  unfold laws_eqMappingS_f laws_eqMappingS_t
  simp only [bne_self_eq_false, cond_false]
  refine (loop_rows0 a (laws_eqMappingS_L0 bad k_ (a.length + 1) a a) (fun _ _ c => c) (k_ true) ?_ ?_).trans (go_skip _ _ _)
  · intro n i h
    rw [laws_eqMappingS_L0_s]
    simp only [laws_eqMappingS_l0, lt_len h, idx_nat h, w64_succ h hl, Int.toNat_natCast, andt_true_l, andt_true_r, cond_true, cond_false, bne_self_eq_false, beq_self_eq_true, Bool.not_true, same_refl, yes2]
  · intro n
    rw [laws_eqMappingS_L0_s]
    simp only [laws_eqMappingS_l0, not_lt_len, cond_false]

def laws_eqRule_t {α : Type} (k_ : Bool → α) (a : SRule) (b : SRule) : α :=
  bif a.Priority != b.Priority then k_ false
  else bif a.Kind != b.Kind then k_ false
  else bif a.SrcIp != b.SrcIp then k_ false
  else bif a.SrcBits != b.SrcBits then k_ false
  else bif a.FirstPort != b.FirstPort then k_ false
  else bif a.LastPort != b.LastPort then k_ false
  else bif a.Vlan != b.Vlan then k_ false
  else bif a.Action != b.Action then k_ false
  else bif a.Queue != b.Queue then k_ false
  else k_ true
theorem laws_eqRule_c {α : Type} (k_ : Bool → α) (a : SRule) (b : SRule) (h_a : WtL SRule.ct a.enc) (h_b : WtL SRule.ct b.enc) (hok : same a b = true) : laws_eqRule_t k_ a b = k_ (yes2 a b) := by
  obtain rfl := same_eq hok
  simp only [laws_eqRule_t, same_refl, yes2, bne_self_eq_false, beq_self_eq_true, Bool.not_true, cond_false, cond_true, andt_true_l, andt_true_r]

def laws_eqFilter_t {α : Type} (bad : α) (k_ : Bool → α) (a : SFilter) (b : SFilter) : α :=
  bif a.Mac != b.Mac then k_ false
  else bif !(a.Promiscuous == b.Promiscuous) then k_ false
  else bif andt true (same a.Vlans b.Vlans) then
      bif !(yes2 a.Vlans b.Vlans) then k_ false
      else k_ true
    else bad
theorem laws_eqFilter_c {α : Type} (bad : α) (k_ : Bool → α) (a : SFilter) (b : SFilter) (h_a : WtL SFilter.ct a.enc) (h_b : WtL SFilter.ct b.enc) (hok : same a b = true) : laws_eqFilter_t bad k_ a b = k_ (yes2 a b) := by
  obtain rfl := same_eq hok
  simp only [laws_eqFilter_t, same_refl, yes2, bne_self_eq_false, beq_self_eq_true, Bool.not_true, cond_false, cond_true, andt_true_l, andt_true_r]

def laws_eqFlow_t {α : Type} (k_ : Bool → α) (a : SFlow) (b : SFlow) : α :=
  bif a.Kind != b.Kind then k_ false
  else bif a.SrcIp != b.SrcIp then k_ false
  else bif a.DstIp != b.DstIp then k_ false
  else bif a.SrcPort != b.SrcPort then k_ false
  else bif a.DstPort != b.DstPort then k_ false
  else k_ true
theorem laws_eqFlow_c {α : Type} (k_ : Bool → α) (a : SFlow) (b : SFlow) (h_a : WtL SFlow.ct a.enc) (h_b : WtL SFlow.ct b.enc) (hok : same a b = true) : laws_eqFlow_t k_ a b = k_ (yes2 a b) := by
  obtain rfl := same_eq hok
  simp only [laws_eqFlow_t, same_refl, yes2, bne_self_eq_false, beq_self_eq_true, Bool.not_true, cond_false, cond_true, andt_true_l, andt_true_r]

def laws_eqSlot_t {α : Type} (bad : α) (k_ : Bool → α) (a : SSlot) (b : SSlot) : α :=
  bif a.State != b.State then k_ false
  else bif andt true (same a.Flow b.Flow) then
      bif !(yes2 a.Flow b.Flow) then k_ false
      else bif a.Queue != b.Queue then k_ false
      else k_ true
    else bad
theorem laws_eqSlot_c {α : Type} (bad : α) (k_ : Bool → α) (a : SSlot) (b : SSlot) (h_a : WtL SSlot.ct a.enc) (h_b : WtL SSlot.ct b.enc) (hok : same a b = true) : laws_eqSlot_t bad k_ a b = k_ (yes2 a b) := by
  obtain rfl := same_eq hok
  simp only [laws_eqSlot_t, same_refl, yes2, bne_self_eq_false, beq_self_eq_true, Bool.not_true, cond_false, cond_true, andt_true_l, andt_true_r]

def laws_eqMemory_t {α : Type} (bad : α) (k_ : Bool → α) (a : SMemory) (b : SMemory) : α :=
  bif andt true (same a.Pages b.Pages) then
    bif !(yes2 a.Pages b.Pages) then k_ false
    else k_ true
  else bad
theorem laws_eqMemory_c {α : Type} (bad : α) (k_ : Bool → α) (a : SMemory) (b : SMemory) (h_a : WtL SMemory.ct a.enc) (h_b : WtL SMemory.ct b.enc) (hok : same a b = true) : laws_eqMemory_t bad k_ a b = k_ (yes2 a b) := by
  obtain rfl := same_eq hok
  simp only [laws_eqMemory_t, same_refl, yes2, bne_self_eq_false, beq_self_eq_true, Bool.not_true, cond_false, cond_true, andt_true_l, andt_true_r]

def laws_eqRuleS_l0 {α : Type} (bad : α) (k_ : Bool → α) (a : Rows) (b : Rows) (ih0 : Int → α) (i : Int) : α :=
  bif decide (i < len a) then
    bif andt (andt (andt true (idx i a)) (idx i b)) (same (SRule.decAt (nth a (Int.toNat i)) 0) (SRule.decAt (nth b (Int.toNat i)) 0)) then
      bif !(yes2 (SRule.decAt (nth a (Int.toNat i)) 0) (SRule.decAt (nth b (Int.toNat i)) 0)) then k_ false
      else ih0 (w64 (i + 1))
    else bad
  else k_ true
def laws_eqRuleS_L0 {α : Type} (bad : α) (k_ : Bool → α) (N : Nat) (a : Rows) (b : Rows) (m_ : Nat) : Int → α :=
  Nat.rec (motive := fun _ => Int → α) (fun _ => bad) (fun _ ih0 => laws_eqRuleS_l0 bad k_ a b ih0) m_
theorem laws_eqRuleS_L0_z {α : Type} (bad : α) (k_ : Bool → α) (N : Nat) (a : Rows) (b : Rows) (i : Int) : laws_eqRuleS_L0 bad k_ N a b 0 i = bad := rfl
theorem laws_eqRuleS_L0_s {α : Type} (bad : α) (k_ : Bool → α) (N : Nat) (a : Rows) (b : Rows) (m_ : Nat) (i : Int) : laws_eqRuleS_L0 bad k_ N a b (m_ + 1) i = laws_eqRuleS_l0 bad k_ a b (laws_eqRuleS_L0 bad k_ N a b m_) i := rfl
def laws_eqRuleS_t {α : Type} (bad : α) (k_ : Bool → α) (l0 : Int → α) (a : Rows) (b : Rows) : α :=
  bif (len a) != (len b) then k_ false
  else l0 0
def laws_eqRuleS_f {α : Type} (bad : α) (k_ : Bool → α) (N : Nat) (a : Rows) (b : Rows) : α := laws_eqRuleS_t bad k_ (laws_eqRuleS_L0 bad k_ N a b N) a b
theorem laws_eqRuleS_c {α : Type} (bad : α) (k_ : Bool → α) (a : Rows) (b : Rows) (h_a : WtC (.sl [.int .i64, .int .i64, .int .i64, .int .i64, .int .i64, .int .i64, .int .i64, .int .i64, .int .i64]) (.sl a)) (h_b : WtC (.sl [.int .i64, .int .i64, .int .i64, .int .i64, .int .i64, .int .i64, .int .i64, .int .i64, .int .i64]) (.sl b)) (hok : same a b = true) : ∃ N, laws_eqRuleS_f bad k_ N a b = k_ (yes2 a b) := by
  obtain rfl := same_eq hok
  obtain ⟨hl, _⟩ := wt_sl h_a
  refine ⟨a.length + 1, ?_⟩
  unfold laws_eqRuleS_f laws_eqRuleS_t
  simp only [bne_self_eq_false, cond_false]
  refine (loop_rows0 a (laws_eqRuleS_L0 bad k_ (a.length + 1) a a) (fun _ _ c => c) (k_ true) ?_ ?_).trans (go_skip _ _ _)
  · intro n i h
    rw [laws_eqRuleS_L0_s]
    simp only [laws_eqRuleS_l0, lt_len h, idx_nat h, w64_succ h hl, Int.toNat_natCast, andt_true_l, andt_true_r, cond_true, cond_false, bne_self_eq_false, beq_self_eq_true, Bool.not_true, same_refl, yes2]
  · intro n
    rw [laws_eqRuleS_L0_s]
    simp only [laws_eqRuleS_l0, not_lt_len, cond_false]

def laws_toSent_t {α : Type} (bad : α) (k_ : SSent → α) (a : SSent) : α :=
  bif andt true (sm a.Buffers) then
    k_ (⟨a.Cookie, a.Slots, idf a.Buffers⟩ : SSent)
  else bad
def laws_toSent_ok (a : SSent) : Bool := laws_toSent_t false (fun _ => true) a
theorem laws_toSent_c {α : Type} (bad : α) (k_ : SSent → α) (a : SSent) (h_a : WtL SSent.ct a.enc) (hok : laws_toSent_ok a = true) : laws_toSent_t bad k_ a = k_ (idf a) := by
  exact guard_id (fun _ => rfl) hok

def laws_toVector_t {α : Type} (k_ : SVector → α) (a : SVector) : α :=
  k_ a
theorem laws_toVector_c {α : Type} (k_ : SVector → α) (a : SVector) (h_a : WtL SVector.ct a.enc) : laws_toVector_t k_ a = k_ (idf a) := by
  rfl

def laws_toVectorS_l0 {α : Type} (bad : α) (k_ : Rows → α) (a : Rows) (ih0 : Int → Rows → α) (i : Int) (out_ : Rows) : α :=
  bif decide (i < len a) then
    bif andt (andt (andt true (idx i a)) (idx i out_)) (inl (Int.toNat i) out_) then
      ih0 (w64 (i + 1)) (List.set out_ (Int.toNat i) (splice (nth out_ (Int.toNat i)) 0 (SVector.enc (idf (SVector.decAt (nth a (Int.toNat i)) 0)))))
    else bad
  else k_ out_
def laws_toVectorS_L0 {α : Type} (bad : α) (k_ : Rows → α) (N : Nat) (a : Rows) (m_ : Nat) : Int → Rows → α :=
  Nat.rec (motive := fun _ => Int → Rows → α) (fun _ _ => bad) (fun _ ih0 => laws_toVectorS_l0 bad k_ a ih0) m_
theorem laws_toVectorS_L0_z {α : Type} (bad : α) (k_ : Rows → α) (N : Nat) (a : Rows) (i : Int) (out_ : Rows) : laws_toVectorS_L0 bad k_ N a 0 i out_ = bad := rfl
theorem laws_toVectorS_L0_s {α : Type} (bad : α) (k_ : Rows → α) (N : Nat) (a : Rows) (m_ : Nat) (i : Int) (out_ : Rows) : laws_toVectorS_L0 bad k_ N a (m_ + 1) i out_ = laws_toVectorS_l0 bad k_ a (laws_toVectorS_L0 bad k_ N a m_) i out_ := rfl
def laws_toVectorS_t {α : Type} (bad : α) (k_ : Rows → α) (l0 : Int → Rows → α) (a : Rows) : α :=
  bif andt true (makeOk 40 (len a) (len a)) then
    l0 0 (List.replicate (Int.toNat (len a)) ([.int 0, .int 0, .int 0, .int 0, .bool false, .bool false] : List DC))
  else bad
def laws_toVectorS_f {α : Type} (bad : α) (k_ : Rows → α) (N : Nat) (a : Rows) : α := laws_toVectorS_t bad k_ (laws_toVectorS_L0 bad k_ N a N) a
theorem laws_toVectorS_c {α : Type} (bad : α) (k_ : Rows → α) (a : Rows) (h_a : WtC (.sl [.int .i64, .int .i64, .int .i64, .int .i64, .bool, .bool]) (.sl a)) (hok : sm a = true) : ∃ N, laws_toVectorS_f bad k_ N a = k_ (idf a) := by
  obtain ⟨hl, hw⟩ := wt_sl h_a
  have hsm := hok
  refine ⟨a.length + 1, ?_⟩
  unfold laws_toVectorS_f laws_toVectorS_t
  have e0 : Int.toNat (len a) = a.length := by simp [len]
  simp only [make_sm hsm (show 40 ≤ 8388608 by omega), andt_true_l, cond_true, e0]
  refine copy_set a (laws_toVectorS_L0 bad k_ (a.length + 1) a) k_ [.int 0, .int 0, .int 0, .int 0, .bool false, .bool false] (fun o r => splice o 0 (SVector.enc (idf (SVector.decAt r 0)))) ?_ ?_ ?_
  · intro n i out h ho
    rw [laws_toVectorS_L0_s]
    simp only [laws_toVectorS_l0, lt_len h, idx_nat h, idx_set ho h, inl_nat (show i < out.length by omega), w64_succ h hl, Int.toNat_natCast, Bool.and_true, andt_true_l, andt_true_r, cond_true]
    try rfl
  · intro n out ho
    rw [laws_toVectorS_L0_s]
    simp only [laws_toVectorS_l0, not_lt_len, cond_false]
  · intro r hr
    refine (splice_all ?_).trans ?_
    · rfl
    · exact SVector.eta (hw r hr)

def laws_toRing_t {α : Type} (k_ : SRing → α) (a : SRing) : α :=
  k_ a
theorem laws_toRing_c {α : Type} (k_ : SRing → α) (a : SRing) (h_a : WtL SRing.ct a.enc) : laws_toRing_t k_ a = k_ (idf a) := by
  rfl

def laws_toCompletionQueue_t {α : Type} (k_ : SCompletionQueue → α) (a : SCompletionQueue) : α :=
  k_ a
theorem laws_toCompletionQueue_c {α : Type} (k_ : SCompletionQueue → α) (a : SCompletionQueue) (h_a : WtL SCompletionQueue.ct a.enc) : laws_toCompletionQueue_t k_ a = k_ (idf a) := by
  rfl

def laws_toSegment_t {α : Type} (k_ : SSegment → α) (a : SSegment) : α :=
  k_ a
theorem laws_toSegment_c {α : Type} (k_ : SSegment → α) (a : SSegment) (h_a : WtL SSegment.ct a.enc) : laws_toSegment_t k_ a = k_ (idf a) := by
  rfl

def laws_toPacket_t {α : Type} (k_ : SPacket → α) (a : SPacket) : α :=
  k_ (⟨a.DstMac, a.SrcMac, a.Vlan, a.Tos, a.Id, a.Ttl, a.SrcIp, a.DstIp, idf a.Seg⟩ : SPacket)
theorem laws_toPacket_c {α : Type} (k_ : SPacket → α) (a : SPacket) (h_a : WtL SPacket.ct a.enc) : laws_toPacket_t k_ a = k_ (idf a) := by
  rfl

def laws_toSuper_t {α : Type} (k_ : SSuper → α) (a : SSuper) : α :=
  k_ (⟨idf a.Packet, a.Size, a.Count⟩ : SSuper)
theorem laws_toSuper_c {α : Type} (k_ : SSuper → α) (a : SSuper) (h_a : WtL SSuper.ct a.enc) : laws_toSuper_t k_ a = k_ (idf a) := by
  rfl

def laws_toRxQueue_t {α : Type} (k_ : SRxQueue → α) (a : SRxQueue) : α :=
  k_ (⟨idf a.Ring, idf a.Device, idf a.Driver, idf a.Held, a.Holding, a.Dropped⟩ : SRxQueue)
theorem laws_toRxQueue_c {α : Type} (k_ : SRxQueue → α) (a : SRxQueue) (h_a : WtL SRxQueue.ct a.enc) : laws_toRxQueue_t k_ a = k_ (idf a) := by
  rfl

def laws_toRxQueueS_l0 {α : Type} (bad : α) (k_ : Rows → α) (a : Rows) (ih0 : Int → Rows → α) (i : Int) (out_ : Rows) : α :=
  bif decide (i < len a) then
    bif andt (andt (andt true (idx i a)) (idx i out_)) (inl (Int.toNat i) out_) then
      ih0 (w64 (i + 1)) (List.set out_ (Int.toNat i) (splice (nth out_ (Int.toNat i)) 0 (SRxQueue.enc (idf (SRxQueue.decAt (nth a (Int.toNat i)) 0)))))
    else bad
  else k_ out_
def laws_toRxQueueS_L0 {α : Type} (bad : α) (k_ : Rows → α) (N : Nat) (a : Rows) (m_ : Nat) : Int → Rows → α :=
  Nat.rec (motive := fun _ => Int → Rows → α) (fun _ _ => bad) (fun _ ih0 => laws_toRxQueueS_l0 bad k_ a ih0) m_
theorem laws_toRxQueueS_L0_z {α : Type} (bad : α) (k_ : Rows → α) (N : Nat) (a : Rows) (i : Int) (out_ : Rows) : laws_toRxQueueS_L0 bad k_ N a 0 i out_ = bad := rfl
theorem laws_toRxQueueS_L0_s {α : Type} (bad : α) (k_ : Rows → α) (N : Nat) (a : Rows) (m_ : Nat) (i : Int) (out_ : Rows) : laws_toRxQueueS_L0 bad k_ N a (m_ + 1) i out_ = laws_toRxQueueS_l0 bad k_ a (laws_toRxQueueS_L0 bad k_ N a m_) i out_ := rfl
def laws_toRxQueueS_t {α : Type} (bad : α) (k_ : Rows → α) (l0 : Int → Rows → α) (a : Rows) : α :=
  bif andt true (makeOk 248 (len a) (len a)) then
    l0 0 (List.replicate (Int.toNat (len a)) (([.int 0, .int 0, .int 0, .int 0, .int 0, .int 0, .int 0, .int 0, .int 0, .int 0, .int 0, .int 0, .int 0, .int 0, .int 0, .int 0, .int 0, .int 0, .int 0, .int 0, .int 0, .int 0, .int 0, .int 0, .int 0, .str [], .int 0, .int 0, .bool false, .int 0]) : List DC))
  else bad
def laws_toRxQueueS_f {α : Type} (bad : α) (k_ : Rows → α) (N : Nat) (a : Rows) : α := laws_toRxQueueS_t bad k_ (laws_toRxQueueS_L0 bad k_ N a N) a
theorem laws_toRxQueueS_c {α : Type} (bad : α) (k_ : Rows → α) (a : Rows) (h_a : WtC (.sl [.int .i64, .int .i64, .int .i64, .int .i64, .int .i64, .int .i64, .int .i64, .int .i64, .int .i64, .int .i64, .int .i64, .int .i64, .int .i64, .int .i64, .int .i64, .int .i64, .int .i64, .int .i64, .int .i64, .int .i64, .int .i64, .int .i64, .int .i64, .int .i64, .int .i64, .str, .int .i64, .int .i64, .bool, .int .i64]) (.sl a)) (hok : sm a = true) : ∃ N, laws_toRxQueueS_f bad k_ N a = k_ (idf a) := by
  obtain ⟨hl, hw⟩ := wt_sl h_a
  have hsm := hok
  refine ⟨a.length + 1, ?_⟩
  unfold laws_toRxQueueS_f laws_toRxQueueS_t
  have e0 : Int.toNat (len a) = a.length := by simp [len]
  simp only [make_sm hsm (show 248 ≤ 8388608 by omega), andt_true_l, cond_true, e0]
  refine copy_set a (laws_toRxQueueS_L0 bad k_ (a.length + 1) a) k_ [.int 0, .int 0, .int 0, .int 0, .int 0, .int 0, .int 0, .int 0, .int 0, .int 0, .int 0, .int 0, .int 0, .int 0, .int 0, .int 0, .int 0, .int 0, .int 0, .int 0, .int 0, .int 0, .int 0, .int 0, .int 0, .str [], .int 0, .int 0, .bool false, .int 0] (fun o r => splice o 0 (SRxQueue.enc (idf (SRxQueue.decAt r 0)))) ?_ ?_ ?_
  · intro n i out h ho
    rw [laws_toRxQueueS_L0_s]
    simp only [laws_toRxQueueS_l0, lt_len h, idx_nat h, idx_set ho h, inl_nat (show i < out.length by omega), w64_succ h hl, Int.toNat_natCast, Bool.and_true, andt_true_l, andt_true_r, cond_true]
    try rfl
  · intro n out ho
    rw [laws_toRxQueueS_L0_s]
    simp only [laws_toRxQueueS_l0, not_lt_len, cond_false]
  · intro r hr
    refine (splice_all ?_).trans ?_
    · rfl
    · exact SRxQueue.eta (hw r hr)

def laws_toStringS_l0 {α : Type} (bad : α) (k_ : Rows → α) (a : Rows) (ih0 : Int → Rows → α) (i : Int) (out_ : Rows) : α :=
  bif decide (i < len a) then
    bif andt (andt (andt true (idx i a)) (idx i out_)) (inl (Int.toNat i) out_) then
      ih0 (w64 (i + 1)) (List.set out_ (Int.toNat i) (splice (nth out_ (Int.toNat i)) 0 [.str (rS (nth a (Int.toNat i)) 0)]))
    else bad
  else k_ out_
def laws_toStringS_L0 {α : Type} (bad : α) (k_ : Rows → α) (N : Nat) (a : Rows) (m_ : Nat) : Int → Rows → α :=
  Nat.rec (motive := fun _ => Int → Rows → α) (fun _ _ => bad) (fun _ ih0 => laws_toStringS_l0 bad k_ a ih0) m_
theorem laws_toStringS_L0_z {α : Type} (bad : α) (k_ : Rows → α) (N : Nat) (a : Rows) (i : Int) (out_ : Rows) : laws_toStringS_L0 bad k_ N a 0 i out_ = bad := rfl
theorem laws_toStringS_L0_s {α : Type} (bad : α) (k_ : Rows → α) (N : Nat) (a : Rows) (m_ : Nat) (i : Int) (out_ : Rows) : laws_toStringS_L0 bad k_ N a (m_ + 1) i out_ = laws_toStringS_l0 bad k_ a (laws_toStringS_L0 bad k_ N a m_) i out_ := rfl
def laws_toStringS_t {α : Type} (bad : α) (k_ : Rows → α) (l0 : Int → Rows → α) (a : Rows) : α :=
  bif andt true (makeOk 16 (len a) (len a)) then
    l0 0 (List.replicate (Int.toNat (len a)) (([.str []]) : List DC))
  else bad
def laws_toStringS_f {α : Type} (bad : α) (k_ : Rows → α) (N : Nat) (a : Rows) : α := laws_toStringS_t bad k_ (laws_toStringS_L0 bad k_ N a N) a
theorem laws_toStringS_c {α : Type} (bad : α) (k_ : Rows → α) (a : Rows) (h_a : WtC (.sl [.str]) (.sl a)) (hok : sm a = true) : ∃ N, laws_toStringS_f bad k_ N a = k_ (idf a) := by
  obtain ⟨hl, hw⟩ := wt_sl h_a
  have hsm := hok
  refine ⟨a.length + 1, ?_⟩
  unfold laws_toStringS_f laws_toStringS_t
  have e0 : Int.toNat (len a) = a.length := by simp [len]
  simp only [make_sm hsm (show 16 ≤ 8388608 by omega), andt_true_l, cond_true, e0]
  refine copy_set a (laws_toStringS_L0 bad k_ (a.length + 1) a) k_ [.str []] (fun o r => splice o 0 ([.str (rS r 0)])) ?_ ?_ ?_
  · intro n i out h ho
    rw [laws_toStringS_L0_s]
    simp only [laws_toStringS_l0, lt_len h, idx_nat h, idx_set ho h, inl_nat (show i < out.length by omega), w64_succ h hl, Int.toNat_natCast, Bool.and_true, andt_true_l, andt_true_r, cond_true]
    try rfl
  · intro n out ho
    rw [laws_toStringS_L0_s]
    simp only [laws_toStringS_l0, not_lt_len, cond_false]
  · intro r hr
    refine (splice_all ?_).trans ?_
    · rfl
    · exact row_str (hw r hr)

def laws_toMemory_t {α : Type} (bad : α) (k_ : SMemory → α) (a : SMemory) : α :=
  bif andt true (sm a.Pages) then
    k_ (⟨idf a.Pages⟩ : SMemory)
  else bad
def laws_toMemory_ok (a : SMemory) : Bool := laws_toMemory_t false (fun _ => true) a
theorem laws_toMemory_c {α : Type} (bad : α) (k_ : SMemory → α) (a : SMemory) (h_a : WtL SMemory.ct a.enc) (hok : laws_toMemory_ok a = true) : laws_toMemory_t bad k_ a = k_ (idf a) := by
  exact guard_id (fun _ => rfl) hok

def laws_eqSegment_t {α : Type} (k_ : Bool → α) (a : SSegment) (b : SSegment) : α :=
  bif a.Kind != b.Kind then k_ false
  else bif a.SrcPort != b.SrcPort then k_ false
  else bif a.DstPort != b.DstPort then k_ false
  else bif a.Seq != b.Seq then k_ false
  else bif a.Ack != b.Ack then k_ false
  else bif a.Flags != b.Flags then k_ false
  else bif a.Window != b.Window then k_ false
  else bif !(a.Body == b.Body) then k_ false
  else k_ true
theorem laws_eqSegment_c {α : Type} (k_ : Bool → α) (a : SSegment) (b : SSegment) (h_a : WtL SSegment.ct a.enc) (h_b : WtL SSegment.ct b.enc) (hok : same a b = true) : laws_eqSegment_t k_ a b = k_ (yes2 a b) := by
  obtain rfl := same_eq hok
  simp only [laws_eqSegment_t, same_refl, yes2, bne_self_eq_false, beq_self_eq_true, Bool.not_true, cond_false, cond_true, andt_true_l, andt_true_r]

def laws_eqPacket_t {α : Type} (bad : α) (k_ : Bool → α) (a : SPacket) (b : SPacket) : α :=
  bif a.DstMac != b.DstMac then k_ false
  else bif a.SrcMac != b.SrcMac then k_ false
  else bif a.Vlan != b.Vlan then k_ false
  else bif a.Tos != b.Tos then k_ false
  else bif a.Id != b.Id then k_ false
  else bif a.Ttl != b.Ttl then k_ false
  else bif a.SrcIp != b.SrcIp then k_ false
  else bif a.DstIp != b.DstIp then k_ false
  else bif andt true (same a.Seg b.Seg) then
      bif !(yes2 a.Seg b.Seg) then k_ false
      else k_ true
    else bad
theorem laws_eqPacket_c {α : Type} (bad : α) (k_ : Bool → α) (a : SPacket) (b : SPacket) (h_a : WtL SPacket.ct a.enc) (h_b : WtL SPacket.ct b.enc) (hok : same a b = true) : laws_eqPacket_t bad k_ a b = k_ (yes2 a b) := by
  obtain rfl := same_eq hok
  simp only [laws_eqPacket_t, same_refl, yes2, bne_self_eq_false, beq_self_eq_true, Bool.not_true, cond_false, cond_true, andt_true_l, andt_true_r]

def laws_eqSuper_t {α : Type} (bad : α) (k_ : Bool → α) (a : SSuper) (b : SSuper) : α :=
  bif andt true (same a.Packet b.Packet) then
    bif !(yes2 a.Packet b.Packet) then k_ false
    else bif a.Size != b.Size then k_ false
    else bif a.Count != b.Count then k_ false
    else k_ true
  else bad
theorem laws_eqSuper_c {α : Type} (bad : α) (k_ : Bool → α) (a : SSuper) (b : SSuper) (h_a : WtL SSuper.ct a.enc) (h_b : WtL SSuper.ct b.enc) (hok : same a b = true) : laws_eqSuper_t bad k_ a b = k_ (yes2 a b) := by
  obtain rfl := same_eq hok
  simp only [laws_eqSuper_t, same_refl, yes2, bne_self_eq_false, beq_self_eq_true, Bool.not_true, cond_false, cond_true, andt_true_l, andt_true_r]

def laws_eqSlotS_l0 {α : Type} (bad : α) (k_ : Bool → α) (a : Rows) (b : Rows) (ih0 : Int → α) (i : Int) : α :=
  bif decide (i < len a) then
    bif andt (andt (andt true (idx i a)) (idx i b)) (same (SSlot.decAt (nth a (Int.toNat i)) 0) (SSlot.decAt (nth b (Int.toNat i)) 0)) then
      bif !(yes2 (SSlot.decAt (nth a (Int.toNat i)) 0) (SSlot.decAt (nth b (Int.toNat i)) 0)) then k_ false
      else ih0 (w64 (i + 1))
    else bad
  else k_ true
def laws_eqSlotS_L0 {α : Type} (bad : α) (k_ : Bool → α) (N : Nat) (a : Rows) (b : Rows) (m_ : Nat) : Int → α :=
  Nat.rec (motive := fun _ => Int → α) (fun _ => bad) (fun _ ih0 => laws_eqSlotS_l0 bad k_ a b ih0) m_
theorem laws_eqSlotS_L0_z {α : Type} (bad : α) (k_ : Bool → α) (N : Nat) (a : Rows) (b : Rows) (i : Int) : laws_eqSlotS_L0 bad k_ N a b 0 i = bad := rfl
theorem laws_eqSlotS_L0_s {α : Type} (bad : α) (k_ : Bool → α) (N : Nat) (a : Rows) (b : Rows) (m_ : Nat) (i : Int) : laws_eqSlotS_L0 bad k_ N a b (m_ + 1) i = laws_eqSlotS_l0 bad k_ a b (laws_eqSlotS_L0 bad k_ N a b m_) i := rfl
def laws_eqSlotS_t {α : Type} (bad : α) (k_ : Bool → α) (l0 : Int → α) (a : Rows) (b : Rows) : α :=
  bif (len a) != (len b) then k_ false
  else l0 0
def laws_eqSlotS_f {α : Type} (bad : α) (k_ : Bool → α) (N : Nat) (a : Rows) (b : Rows) : α := laws_eqSlotS_t bad k_ (laws_eqSlotS_L0 bad k_ N a b N) a b
theorem laws_eqSlotS_c {α : Type} (bad : α) (k_ : Bool → α) (a : Rows) (b : Rows) (h_a : WtC (.sl [.int .i64, .int .i64, .int .i64, .int .i64, .int .i64, .int .i64, .int .i64]) (.sl a)) (h_b : WtC (.sl [.int .i64, .int .i64, .int .i64, .int .i64, .int .i64, .int .i64, .int .i64]) (.sl b)) (hok : same a b = true) : ∃ N, laws_eqSlotS_f bad k_ N a b = k_ (yes2 a b) := by
  obtain rfl := same_eq hok
  obtain ⟨hl, _⟩ := wt_sl h_a
  refine ⟨a.length + 1, ?_⟩
  unfold laws_eqSlotS_f laws_eqSlotS_t
  simp only [bne_self_eq_false, cond_false]
  refine (loop_rows0 a (laws_eqSlotS_L0 bad k_ (a.length + 1) a a) (fun _ _ c => c) (k_ true) ?_ ?_).trans (go_skip _ _ _)
  · intro n i h
    rw [laws_eqSlotS_L0_s]
    simp only [laws_eqSlotS_l0, lt_len h, idx_nat h, w64_succ h hl, Int.toNat_natCast, andt_true_l, andt_true_r, cond_true, cond_false, bne_self_eq_false, beq_self_eq_true, Bool.not_true, same_refl, yes2]
  · intro n
    rw [laws_eqSlotS_L0_s]
    simp only [laws_eqSlotS_l0, not_lt_len, cond_false]

def laws_eqFlowTable_t {α : Type} (bad : α) (k_ : Bool → α) (a : SFlowTable) (b : SFlowTable) : α :=
  bif andt true (same a.Slots b.Slots) then
    bif !(yes2 a.Slots b.Slots) then k_ false
    else k_ true
  else bad
theorem laws_eqFlowTable_c {α : Type} (bad : α) (k_ : Bool → α) (a : SFlowTable) (b : SFlowTable) (h_a : WtL SFlowTable.ct a.enc) (h_b : WtL SFlowTable.ct b.enc) (hok : same a b = true) : laws_eqFlowTable_t bad k_ a b = k_ (yes2 a b) := by
  obtain rfl := same_eq hok
  simp only [laws_eqFlowTable_t, same_refl, yes2, bne_self_eq_false, beq_self_eq_true, Bool.not_true, cond_false, cond_true, andt_true_l, andt_true_r]

def laws_toStream_t {α : Type} (k_ : SStream → α) (a : SStream) : α :=
  k_ (⟨idf a.Flow, a.Next, a.Data, a.Done⟩ : SStream)
theorem laws_toStream_c {α : Type} (k_ : SStream → α) (a : SStream) (h_a : WtL SStream.ct a.enc) : laws_toStream_t k_ a = k_ (idf a) := by
  rfl

def laws_toStreamS_l0 {α : Type} (bad : α) (k_ : Rows → α) (a : Rows) (ih0 : Int → Rows → α) (i : Int) (out_ : Rows) : α :=
  bif decide (i < len a) then
    bif andt (andt (andt true (idx i a)) (idx i out_)) (inl (Int.toNat i) out_) then
      ih0 (w64 (i + 1)) (List.set out_ (Int.toNat i) (splice (nth out_ (Int.toNat i)) 0 (SStream.enc (idf (SStream.decAt (nth a (Int.toNat i)) 0)))))
    else bad
  else k_ out_
def laws_toStreamS_L0 {α : Type} (bad : α) (k_ : Rows → α) (N : Nat) (a : Rows) (m_ : Nat) : Int → Rows → α :=
  Nat.rec (motive := fun _ => Int → Rows → α) (fun _ _ => bad) (fun _ ih0 => laws_toStreamS_l0 bad k_ a ih0) m_
theorem laws_toStreamS_L0_z {α : Type} (bad : α) (k_ : Rows → α) (N : Nat) (a : Rows) (i : Int) (out_ : Rows) : laws_toStreamS_L0 bad k_ N a 0 i out_ = bad := rfl
theorem laws_toStreamS_L0_s {α : Type} (bad : α) (k_ : Rows → α) (N : Nat) (a : Rows) (m_ : Nat) (i : Int) (out_ : Rows) : laws_toStreamS_L0 bad k_ N a (m_ + 1) i out_ = laws_toStreamS_l0 bad k_ a (laws_toStreamS_L0 bad k_ N a m_) i out_ := rfl
def laws_toStreamS_t {α : Type} (bad : α) (k_ : Rows → α) (l0 : Int → Rows → α) (a : Rows) : α :=
  bif andt true (makeOk 72 (len a) (len a)) then
    l0 0 (List.replicate (Int.toNat (len a)) (([.int 0, .int 0, .int 0, .int 0, .int 0, .int 0, .str [], .bool false]) : List DC))
  else bad
def laws_toStreamS_f {α : Type} (bad : α) (k_ : Rows → α) (N : Nat) (a : Rows) : α := laws_toStreamS_t bad k_ (laws_toStreamS_L0 bad k_ N a N) a
theorem laws_toStreamS_c {α : Type} (bad : α) (k_ : Rows → α) (a : Rows) (h_a : WtC (.sl [.int .i64, .int .i64, .int .i64, .int .i64, .int .i64, .int .i64, .str, .bool]) (.sl a)) (hok : sm a = true) : ∃ N, laws_toStreamS_f bad k_ N a = k_ (idf a) := by
  obtain ⟨hl, hw⟩ := wt_sl h_a
  have hsm := hok
  refine ⟨a.length + 1, ?_⟩
  unfold laws_toStreamS_f laws_toStreamS_t
  have e0 : Int.toNat (len a) = a.length := by simp [len]
  simp only [make_sm hsm (show 72 ≤ 8388608 by omega), andt_true_l, cond_true, e0]
  refine copy_set a (laws_toStreamS_L0 bad k_ (a.length + 1) a) k_ [.int 0, .int 0, .int 0, .int 0, .int 0, .int 0, .str [], .bool false] (fun o r => splice o 0 (SStream.enc (idf (SStream.decAt r 0)))) ?_ ?_ ?_
  · intro n i out h ho
    rw [laws_toStreamS_L0_s]
    simp only [laws_toStreamS_l0, lt_len h, idx_nat h, idx_set ho h, inl_nat (show i < out.length by omega), w64_succ h hl, Int.toNat_natCast, Bool.and_true, andt_true_l, andt_true_r, cond_true]
    try rfl
  · intro n out ho
    rw [laws_toStreamS_L0_s]
    simp only [laws_toStreamS_l0, not_lt_len, cond_false]
  · intro r hr
    refine (splice_all ?_).trans ?_
    · rfl
    · exact SStream.eta (hw r hr)

def laws_toPool_t {α : Type} (bad : α) (k_ : SPool → α) (a : SPool) : α :=
  bif andt true (sm a.Free) then
    k_ (⟨a.Base, a.Size, a.Count, idf a.Free⟩ : SPool)
  else bad
def laws_toPool_ok (a : SPool) : Bool := laws_toPool_t false (fun _ => true) a
theorem laws_toPool_c {α : Type} (bad : α) (k_ : SPool → α) (a : SPool) (h_a : WtL SPool.ct a.enc) (hok : laws_toPool_ok a = true) : laws_toPool_t bad k_ a = k_ (idf a) := by
  exact guard_id (fun _ => rfl) hok

def laws_toSentS_l0 {α : Type} (bad : α) (k_ : Rows → α) (a : Rows) (ih0 : Int → Rows → α) (i : Int) (out_ : Rows) : α :=
  bif decide (i < len a) then
    bif andt (andt (andt (andt true (idx i a)) (laws_toSent_ok (SSent.decAt (nth a (Int.toNat i)) 0))) (idx i out_)) ((inl (Int.toNat i) out_) && true) then
      ih0 (w64 (i + 1)) (List.set out_ (Int.toNat i) (splice (nth out_ (Int.toNat i)) 0 (SSent.enc (idf (SSent.decAt (nth a (Int.toNat i)) 0)))))
    else bad
  else k_ out_
def laws_toSentS_L0 {α : Type} (bad : α) (k_ : Rows → α) (N : Nat) (a : Rows) (m_ : Nat) : Int → Rows → α :=
  Nat.rec (motive := fun _ => Int → Rows → α) (fun _ _ => bad) (fun _ ih0 => laws_toSentS_l0 bad k_ a ih0) m_
theorem laws_toSentS_L0_z {α : Type} (bad : α) (k_ : Rows → α) (N : Nat) (a : Rows) (i : Int) (out_ : Rows) : laws_toSentS_L0 bad k_ N a 0 i out_ = bad := rfl
theorem laws_toSentS_L0_s {α : Type} (bad : α) (k_ : Rows → α) (N : Nat) (a : Rows) (m_ : Nat) (i : Int) (out_ : Rows) : laws_toSentS_L0 bad k_ N a (m_ + 1) i out_ = laws_toSentS_l0 bad k_ a (laws_toSentS_L0 bad k_ N a m_) i out_ := rfl
def laws_toSentS_t {α : Type} (bad : α) (k_ : Rows → α) (l0 : Int → Rows → α) (a : Rows) : α :=
  bif andt true (makeOk 40 (len a) (len a)) then
    l0 0 (List.replicate (Int.toNat (len a)) (([.int 0, .int 0, .sl []]) : List DC))
  else bad
def laws_toSentS_f {α : Type} (bad : α) (k_ : Rows → α) (N : Nat) (a : Rows) : α := laws_toSentS_t bad k_ (laws_toSentS_L0 bad k_ N a N) a
def laws_toSentS_ok (a : Rows) : Bool := sm a && a.all fun r => laws_toSent_ok (SSent.decAt r 0)
theorem laws_toSentS_c {α : Type} (bad : α) (k_ : Rows → α) (a : Rows) (h_a : WtC (.sl [.int .i64, .int .i64, .sl [.int .i64]]) (.sl a)) (hok : laws_toSentS_ok a = true) : ∃ N, laws_toSentS_f bad k_ N a = k_ (idf a) := by
  obtain ⟨hl, hw⟩ := wt_sl h_a
  simp only [laws_toSentS_ok, Bool.and_eq_true, List.all_eq_true] at hok
  obtain ⟨hsm, hel⟩ := hok
  refine ⟨a.length + 1, ?_⟩
  unfold laws_toSentS_f laws_toSentS_t
  have e0 : Int.toNat (len a) = a.length := by simp [len]
  simp only [make_sm hsm (show 40 ≤ 8388608 by omega), andt_true_l, cond_true, e0]
  refine copy_set a (laws_toSentS_L0 bad k_ (a.length + 1) a) k_ [.int 0, .int 0, .sl []] (fun o r => splice o 0 (SSent.enc (idf (SSent.decAt r 0)))) ?_ ?_ ?_
  · intro n i out h ho
    have he2 := hel (nth a i) (nth_mem h)
    rw [laws_toSentS_L0_s]
    simp only [laws_toSentS_l0, lt_len h, idx_nat h, idx_set ho h, inl_nat (show i < out.length by omega), w64_succ h hl, Int.toNat_natCast, Bool.and_true, andt_true_l, andt_true_r, cond_true, he2]
    try rfl
  · intro n out ho
    rw [laws_toSentS_L0_s]
    simp only [laws_toSentS_l0, not_lt_len, cond_false]
  · intro r hr
    refine (splice_all ?_).trans ?_
    · rfl
    · exact SSent.eta (hw r hr)

def laws_toTxQueue_t {α : Type} (bad : α) (k_ : STxQueue → α) (a : STxQueue) : α :=
  bif andt true (laws_toPool_ok a.Pool) then
    bif andt true (laws_toSentS_ok a.Waiting) then
      k_ (⟨idf a.Ring, idf a.Pool, idf a.Waiting, a.Next⟩ : STxQueue)
    else bad
  else bad
def laws_toTxQueue_ok (a : STxQueue) : Bool := laws_toTxQueue_t false (fun _ => true) a
theorem laws_toTxQueue_c {α : Type} (bad : α) (k_ : STxQueue → α) (a : STxQueue) (h_a : WtL STxQueue.ct a.enc) (hok : laws_toTxQueue_ok a = true) : laws_toTxQueue_t bad k_ a = k_ (idf a) := by
  exact guard_id (guard_id (fun _ => rfl)) hok

def laws_toPoolS_l0 {α : Type} (bad : α) (k_ : Rows → α) (a : Rows) (ih0 : Int → Rows → α) (i : Int) (out_ : Rows) : α :=
  bif decide (i < len a) then
    bif andt (andt (andt (andt true (idx i a)) (laws_toPool_ok (SPool.decAt (nth a (Int.toNat i)) 0))) (idx i out_)) ((inl (Int.toNat i) out_) && true) then
      ih0 (w64 (i + 1)) (List.set out_ (Int.toNat i) (splice (nth out_ (Int.toNat i)) 0 (SPool.enc (idf (SPool.decAt (nth a (Int.toNat i)) 0)))))
    else bad
  else k_ out_
def laws_toPoolS_L0 {α : Type} (bad : α) (k_ : Rows → α) (N : Nat) (a : Rows) (m_ : Nat) : Int → Rows → α :=
  Nat.rec (motive := fun _ => Int → Rows → α) (fun _ _ => bad) (fun _ ih0 => laws_toPoolS_l0 bad k_ a ih0) m_
theorem laws_toPoolS_L0_z {α : Type} (bad : α) (k_ : Rows → α) (N : Nat) (a : Rows) (i : Int) (out_ : Rows) : laws_toPoolS_L0 bad k_ N a 0 i out_ = bad := rfl
theorem laws_toPoolS_L0_s {α : Type} (bad : α) (k_ : Rows → α) (N : Nat) (a : Rows) (m_ : Nat) (i : Int) (out_ : Rows) : laws_toPoolS_L0 bad k_ N a (m_ + 1) i out_ = laws_toPoolS_l0 bad k_ a (laws_toPoolS_L0 bad k_ N a m_) i out_ := rfl
def laws_toPoolS_t {α : Type} (bad : α) (k_ : Rows → α) (l0 : Int → Rows → α) (a : Rows) : α :=
  bif andt true (makeOk 48 (len a) (len a)) then
    l0 0 (List.replicate (Int.toNat (len a)) (([.int 0, .int 0, .int 0, .sl []]) : List DC))
  else bad
def laws_toPoolS_f {α : Type} (bad : α) (k_ : Rows → α) (N : Nat) (a : Rows) : α := laws_toPoolS_t bad k_ (laws_toPoolS_L0 bad k_ N a N) a
def laws_toPoolS_ok (a : Rows) : Bool := sm a && a.all fun r => laws_toPool_ok (SPool.decAt r 0)
theorem laws_toPoolS_c {α : Type} (bad : α) (k_ : Rows → α) (a : Rows) (h_a : WtC (.sl [.int .i64, .int .i64, .int .i64, .sl [.int .i64]]) (.sl a)) (hok : laws_toPoolS_ok a = true) : ∃ N, laws_toPoolS_f bad k_ N a = k_ (idf a) := by
  obtain ⟨hl, hw⟩ := wt_sl h_a
  simp only [laws_toPoolS_ok, Bool.and_eq_true, List.all_eq_true] at hok
  obtain ⟨hsm, hel⟩ := hok
  refine ⟨a.length + 1, ?_⟩
  unfold laws_toPoolS_f laws_toPoolS_t
  have e0 : Int.toNat (len a) = a.length := by simp [len]
  simp only [make_sm hsm (show 48 ≤ 8388608 by omega), andt_true_l, cond_true, e0]
  refine copy_set a (laws_toPoolS_L0 bad k_ (a.length + 1) a) k_ [.int 0, .int 0, .int 0, .sl []] (fun o r => splice o 0 (SPool.enc (idf (SPool.decAt r 0)))) ?_ ?_ ?_
  · intro n i out h ho
    have he2 := hel (nth a i) (nth_mem h)
    rw [laws_toPoolS_L0_s]
    simp only [laws_toPoolS_l0, lt_len h, idx_nat h, idx_set ho h, inl_nat (show i < out.length by omega), w64_succ h hl, Int.toNat_natCast, Bool.and_true, andt_true_l, andt_true_r, cond_true, he2]
    try rfl
  · intro n out ho
    rw [laws_toPoolS_L0_s]
    simp only [laws_toPoolS_l0, not_lt_len, cond_false]
  · intro r hr
    refine (splice_all ?_).trans ?_
    · rfl
    · exact SPool.eta (hw r hr)

def laws_toBoolS_l0 {α : Type} (bad : α) (k_ : Rows → α) (a : Rows) (ih0 : Int → Rows → α) (i : Int) (out_ : Rows) : α :=
  bif decide (i < len a) then
    bif andt (andt (andt true (idx i a)) (idx i out_)) (inl (Int.toNat i) out_) then
      ih0 (w64 (i + 1)) (List.set out_ (Int.toNat i) (splice (nth out_ (Int.toNat i)) 0 [.bool (rB (nth a (Int.toNat i)) 0)]))
    else bad
  else k_ out_
def laws_toBoolS_L0 {α : Type} (bad : α) (k_ : Rows → α) (N : Nat) (a : Rows) (m_ : Nat) : Int → Rows → α :=
  Nat.rec (motive := fun _ => Int → Rows → α) (fun _ _ => bad) (fun _ ih0 => laws_toBoolS_l0 bad k_ a ih0) m_
theorem laws_toBoolS_L0_z {α : Type} (bad : α) (k_ : Rows → α) (N : Nat) (a : Rows) (i : Int) (out_ : Rows) : laws_toBoolS_L0 bad k_ N a 0 i out_ = bad := rfl
theorem laws_toBoolS_L0_s {α : Type} (bad : α) (k_ : Rows → α) (N : Nat) (a : Rows) (m_ : Nat) (i : Int) (out_ : Rows) : laws_toBoolS_L0 bad k_ N a (m_ + 1) i out_ = laws_toBoolS_l0 bad k_ a (laws_toBoolS_L0 bad k_ N a m_) i out_ := rfl
def laws_toBoolS_t {α : Type} (bad : α) (k_ : Rows → α) (l0 : Int → Rows → α) (a : Rows) : α :=
  bif andt true (makeOk 1 (len a) (len a)) then
    l0 0 (List.replicate (Int.toNat (len a)) ([.bool false] : List DC))
  else bad
def laws_toBoolS_f {α : Type} (bad : α) (k_ : Rows → α) (N : Nat) (a : Rows) : α := laws_toBoolS_t bad k_ (laws_toBoolS_L0 bad k_ N a N) a
theorem laws_toBoolS_c {α : Type} (bad : α) (k_ : Rows → α) (a : Rows) (h_a : WtC (.sl [.bool]) (.sl a)) (hok : sm a = true) : ∃ N, laws_toBoolS_f bad k_ N a = k_ (idf a) := by
  obtain ⟨hl, hw⟩ := wt_sl h_a
  have hsm := hok
  refine ⟨a.length + 1, ?_⟩
  unfold laws_toBoolS_f laws_toBoolS_t
  have e0 : Int.toNat (len a) = a.length := by simp [len]
  simp only [make_sm hsm (show 1 ≤ 8388608 by omega), andt_true_l, cond_true, e0]
  refine copy_set a (laws_toBoolS_L0 bad k_ (a.length + 1) a) k_ [.bool false] (fun o r => splice o 0 ([.bool (rB r 0)])) ?_ ?_ ?_
  · intro n i out h ho
    rw [laws_toBoolS_L0_s]
    simp only [laws_toBoolS_l0, lt_len h, idx_nat h, idx_set ho h, inl_nat (show i < out.length by omega), w64_succ h hl, Int.toNat_natCast, Bool.and_true, andt_true_l, andt_true_r, cond_true]
    try rfl
  · intro n out ho
    rw [laws_toBoolS_L0_s]
    simp only [laws_toBoolS_l0, not_lt_len, cond_false]
  · intro r hr
    refine (splice_all ?_).trans ?_
    · rfl
    · exact row_bool (hw r hr)

def laws_toFilter_t {α : Type} (bad : α) (k_ : SFilter → α) (a : SFilter) : α :=
  bif andt true (sm a.Vlans) then
    k_ (⟨a.Mac, a.Promiscuous, idf a.Vlans⟩ : SFilter)
  else bad
def laws_toFilter_ok (a : SFilter) : Bool := laws_toFilter_t false (fun _ => true) a
theorem laws_toFilter_c {α : Type} (bad : α) (k_ : SFilter → α) (a : SFilter) (h_a : WtL SFilter.ct a.enc) (hok : laws_toFilter_ok a = true) : laws_toFilter_t bad k_ a = k_ (idf a) := by
  exact guard_id (fun _ => rfl) hok

def laws_toCounters_t {α : Type} (k_ : SCounters → α) (a : SCounters) : α :=
  k_ a
theorem laws_toCounters_c {α : Type} (k_ : SCounters → α) (a : SCounters) (h_a : WtL SCounters.ct a.enc) : laws_toCounters_t k_ a = k_ (idf a) := by
  rfl

def laws_toHost_t {α : Type} (bad : α) (k_ : SHost → α) (a : SHost) : α :=
  bif andt true (laws_toMemory_ok a.Memory) then
    bif andt true (sm a.Maps) then
      bif andt true (laws_toTxQueue_ok a.Tx) then
        bif andt true (sm a.Rx) then
          bif andt true (laws_toPoolS_ok a.Pools) then
            bif andt true (sm a.Vectors) then
              bif andt true (sm a.Polling) then
                bif andt true (laws_toFilter_ok a.Filter) then
                  bif andt true (laws_toSteering_ok a.Steering) then
                    bif andt true (sm a.Streams) then
                      bif andt true (sm a.Wire) then
                        bif andt true (sm a.Completed) then
                          bif andt true (sm a.Returned) then
                            k_ (⟨idf a.Memory, idf a.Maps, idf a.Tx, idf a.Rx, idf a.Pools, idf a.Vectors, idf a.Polling, idf a.Filter, idf a.Steering, idf a.Streams, a.Coalesce, idf a.Wire, idf a.Completed, idf a.Returned, idf a.Counters⟩ : SHost)
                          else bad
                        else bad
                      else bad
                    else bad
                  else bad
                else bad
              else bad
            else bad
          else bad
        else bad
      else bad
    else bad
  else bad
def laws_toHost_ok (a : SHost) : Bool := laws_toHost_t false (fun _ => true) a
theorem laws_toHost_c {α : Type} (bad : α) (k_ : SHost → α) (a : SHost) (h_a : WtL SHost.ct a.enc) (hok : laws_toHost_ok a = true) : laws_toHost_t bad k_ a = k_ (idf a) := by
  exact guard_id (guard_id (guard_id (guard_id (guard_id (guard_id (guard_id (guard_id (guard_id (guard_id (guard_id (guard_id (guard_id (fun _ => rfl))))))))))))) hok

def laws_eqRing_t {α : Type} (k_ : Bool → α) (a : SRing) (b : SRing) : α :=
  bif a.Base != b.Base then k_ false
  else bif a.Size != b.Size then k_ false
  else bif a.Head != b.Head then k_ false
  else bif a.Tail != b.Tail then k_ false
  else k_ true
theorem laws_eqRing_c {α : Type} (k_ : Bool → α) (a : SRing) (b : SRing) (h_a : WtL SRing.ct a.enc) (h_b : WtL SRing.ct b.enc) (hok : same a b = true) : laws_eqRing_t k_ a b = k_ (yes2 a b) := by
  obtain rfl := same_eq hok
  simp only [laws_eqRing_t, same_refl, yes2, bne_self_eq_false, beq_self_eq_true, Bool.not_true, cond_false, cond_true, andt_true_l, andt_true_r]

def laws_eqRxQueue_t {α : Type} (bad : α) (k_ : Bool → α) (a : SRxQueue) (b : SRxQueue) : α :=
  bif andt true (same a.Ring b.Ring) then
    bif !(yes2 a.Ring b.Ring) then k_ false
    else bif andt true (same a.Device b.Device) then
        bif !(yes2 a.Device b.Device) then k_ false
        else bif andt true (same a.Driver b.Driver) then
            bif !(yes2 a.Driver b.Driver) then k_ false
            else bif andt true (same a.Held b.Held) then
                bif !(yes2 a.Held b.Held) then k_ false
                else bif !(a.Holding == b.Holding) then k_ false
                else bif a.Dropped != b.Dropped then k_ false
                else k_ true
              else bad
          else bad
      else bad
  else bad
theorem laws_eqRxQueue_c {α : Type} (bad : α) (k_ : Bool → α) (a : SRxQueue) (b : SRxQueue) (h_a : WtL SRxQueue.ct a.enc) (h_b : WtL SRxQueue.ct b.enc) (hok : same a b = true) : laws_eqRxQueue_t bad k_ a b = k_ (yes2 a b) := by
  obtain rfl := same_eq hok
  simp only [laws_eqRxQueue_t, same_refl, yes2, bne_self_eq_false, beq_self_eq_true, Bool.not_true, cond_false, cond_true, andt_true_l, andt_true_r]

def laws_eqRxQueueS_l0 {α : Type} (bad : α) (k_ : Bool → α) (a : Rows) (b : Rows) (ih0 : Int → α) (i : Int) : α :=
  bif decide (i < len a) then
    bif andt (andt (andt true (idx i a)) (idx i b)) (same (SRxQueue.decAt (nth a (Int.toNat i)) 0) (SRxQueue.decAt (nth b (Int.toNat i)) 0)) then
      bif !(yes2 (SRxQueue.decAt (nth a (Int.toNat i)) 0) (SRxQueue.decAt (nth b (Int.toNat i)) 0)) then k_ false
      else ih0 (w64 (i + 1))
    else bad
  else k_ true
def laws_eqRxQueueS_L0 {α : Type} (bad : α) (k_ : Bool → α) (N : Nat) (a : Rows) (b : Rows) (m_ : Nat) : Int → α :=
  Nat.rec (motive := fun _ => Int → α) (fun _ => bad) (fun _ ih0 => laws_eqRxQueueS_l0 bad k_ a b ih0) m_
theorem laws_eqRxQueueS_L0_z {α : Type} (bad : α) (k_ : Bool → α) (N : Nat) (a : Rows) (b : Rows) (i : Int) : laws_eqRxQueueS_L0 bad k_ N a b 0 i = bad := rfl
theorem laws_eqRxQueueS_L0_s {α : Type} (bad : α) (k_ : Bool → α) (N : Nat) (a : Rows) (b : Rows) (m_ : Nat) (i : Int) : laws_eqRxQueueS_L0 bad k_ N a b (m_ + 1) i = laws_eqRxQueueS_l0 bad k_ a b (laws_eqRxQueueS_L0 bad k_ N a b m_) i := rfl
def laws_eqRxQueueS_t {α : Type} (bad : α) (k_ : Bool → α) (l0 : Int → α) (a : Rows) (b : Rows) : α :=
  bif (len a) != (len b) then k_ false
  else l0 0
def laws_eqRxQueueS_f {α : Type} (bad : α) (k_ : Bool → α) (N : Nat) (a : Rows) (b : Rows) : α := laws_eqRxQueueS_t bad k_ (laws_eqRxQueueS_L0 bad k_ N a b N) a b
theorem laws_eqRxQueueS_c {α : Type} (bad : α) (k_ : Bool → α) (a : Rows) (b : Rows) (h_a : WtC (.sl [.int .i64, .int .i64, .int .i64, .int .i64, .int .i64, .int .i64, .int .i64, .int .i64, .int .i64, .int .i64, .int .i64, .int .i64, .int .i64, .int .i64, .int .i64, .int .i64, .int .i64, .int .i64, .int .i64, .int .i64, .int .i64, .int .i64, .int .i64, .int .i64, .int .i64, .str, .int .i64, .int .i64, .bool, .int .i64]) (.sl a)) (h_b : WtC (.sl [.int .i64, .int .i64, .int .i64, .int .i64, .int .i64, .int .i64, .int .i64, .int .i64, .int .i64, .int .i64, .int .i64, .int .i64, .int .i64, .int .i64, .int .i64, .int .i64, .int .i64, .int .i64, .int .i64, .int .i64, .int .i64, .int .i64, .int .i64, .int .i64, .int .i64, .str, .int .i64, .int .i64, .bool, .int .i64]) (.sl b)) (hok : same a b = true) : ∃ N, laws_eqRxQueueS_f bad k_ N a b = k_ (yes2 a b) := by
  obtain rfl := same_eq hok
  obtain ⟨hl, _⟩ := wt_sl h_a
  refine ⟨a.length + 1, ?_⟩
  unfold laws_eqRxQueueS_f laws_eqRxQueueS_t
  simp only [bne_self_eq_false, cond_false]
  refine (loop_rows0 a (laws_eqRxQueueS_L0 bad k_ (a.length + 1) a a) (fun _ _ c => c) (k_ true) ?_ ?_).trans (go_skip _ _ _)
  · intro n i h
    rw [laws_eqRxQueueS_L0_s]
    simp only [laws_eqRxQueueS_l0, lt_len h, idx_nat h, w64_succ h hl, Int.toNat_natCast, andt_true_l, andt_true_r, cond_true, cond_false, bne_self_eq_false, beq_self_eq_true, Bool.not_true, same_refl, yes2]
  · intro n
    rw [laws_eqRxQueueS_L0_s]
    simp only [laws_eqRxQueueS_l0, not_lt_len, cond_false]

def laws_eqStream_t {α : Type} (bad : α) (k_ : Bool → α) (a : SStream) (b : SStream) : α :=
  bif andt true (same a.Flow b.Flow) then
    bif !(yes2 a.Flow b.Flow) then k_ false
    else bif a.Next != b.Next then k_ false
    else bif !(a.Data == b.Data) then k_ false
    else bif !(a.Done == b.Done) then k_ false
    else k_ true
  else bad
theorem laws_eqStream_c {α : Type} (bad : α) (k_ : Bool → α) (a : SStream) (b : SStream) (h_a : WtL SStream.ct a.enc) (h_b : WtL SStream.ct b.enc) (hok : same a b = true) : laws_eqStream_t bad k_ a b = k_ (yes2 a b) := by
  obtain rfl := same_eq hok
  simp only [laws_eqStream_t, same_refl, yes2, bne_self_eq_false, beq_self_eq_true, Bool.not_true, cond_false, cond_true, andt_true_l, andt_true_r]

def laws_eqStreamS_l0 {α : Type} (bad : α) (k_ : Bool → α) (a : Rows) (b : Rows) (ih0 : Int → α) (i : Int) : α :=
  bif decide (i < len a) then
    bif andt (andt (andt true (idx i a)) (idx i b)) (same (SStream.decAt (nth a (Int.toNat i)) 0) (SStream.decAt (nth b (Int.toNat i)) 0)) then
      bif !(yes2 (SStream.decAt (nth a (Int.toNat i)) 0) (SStream.decAt (nth b (Int.toNat i)) 0)) then k_ false
      else ih0 (w64 (i + 1))
    else bad
  else k_ true
def laws_eqStreamS_L0 {α : Type} (bad : α) (k_ : Bool → α) (N : Nat) (a : Rows) (b : Rows) (m_ : Nat) : Int → α :=
  Nat.rec (motive := fun _ => Int → α) (fun _ => bad) (fun _ ih0 => laws_eqStreamS_l0 bad k_ a b ih0) m_
theorem laws_eqStreamS_L0_z {α : Type} (bad : α) (k_ : Bool → α) (N : Nat) (a : Rows) (b : Rows) (i : Int) : laws_eqStreamS_L0 bad k_ N a b 0 i = bad := rfl
theorem laws_eqStreamS_L0_s {α : Type} (bad : α) (k_ : Bool → α) (N : Nat) (a : Rows) (b : Rows) (m_ : Nat) (i : Int) : laws_eqStreamS_L0 bad k_ N a b (m_ + 1) i = laws_eqStreamS_l0 bad k_ a b (laws_eqStreamS_L0 bad k_ N a b m_) i := rfl
def laws_eqStreamS_t {α : Type} (bad : α) (k_ : Bool → α) (l0 : Int → α) (a : Rows) (b : Rows) : α :=
  bif (len a) != (len b) then k_ false
  else l0 0
def laws_eqStreamS_f {α : Type} (bad : α) (k_ : Bool → α) (N : Nat) (a : Rows) (b : Rows) : α := laws_eqStreamS_t bad k_ (laws_eqStreamS_L0 bad k_ N a b N) a b
theorem laws_eqStreamS_c {α : Type} (bad : α) (k_ : Bool → α) (a : Rows) (b : Rows) (h_a : WtC (.sl [.int .i64, .int .i64, .int .i64, .int .i64, .int .i64, .int .i64, .str, .bool]) (.sl a)) (h_b : WtC (.sl [.int .i64, .int .i64, .int .i64, .int .i64, .int .i64, .int .i64, .str, .bool]) (.sl b)) (hok : same a b = true) : ∃ N, laws_eqStreamS_f bad k_ N a b = k_ (yes2 a b) := by
  obtain rfl := same_eq hok
  obtain ⟨hl, _⟩ := wt_sl h_a
  refine ⟨a.length + 1, ?_⟩
  unfold laws_eqStreamS_f laws_eqStreamS_t
  simp only [bne_self_eq_false, cond_false]
  refine (loop_rows0 a (laws_eqStreamS_L0 bad k_ (a.length + 1) a a) (fun _ _ c => c) (k_ true) ?_ ?_).trans (go_skip _ _ _)
  · intro n i h
    rw [laws_eqStreamS_L0_s]
    simp only [laws_eqStreamS_l0, lt_len h, idx_nat h, w64_succ h hl, Int.toNat_natCast, andt_true_l, andt_true_r, cond_true, cond_false, bne_self_eq_false, beq_self_eq_true, Bool.not_true, same_refl, yes2]
  · intro n
    rw [laws_eqStreamS_L0_s]
    simp only [laws_eqStreamS_l0, not_lt_len, cond_false]

def laws_eqSpread_t {α : Type} (bad : α) (k_ : Bool → α) (a : SSpread) (b : SSpread) : α :=
  bif !(a.Key == b.Key) then k_ false
  else bif andt true (same a.Table b.Table) then
      bif !(yes2 a.Table b.Table) then k_ false
      else k_ true
    else bad
theorem laws_eqSpread_c {α : Type} (bad : α) (k_ : Bool → α) (a : SSpread) (b : SSpread) (h_a : WtL SSpread.ct a.enc) (h_b : WtL SSpread.ct b.enc) (hok : same a b = true) : laws_eqSpread_t bad k_ a b = k_ (yes2 a b) := by
  obtain rfl := same_eq hok
  simp only [laws_eqSpread_t, same_refl, yes2, bne_self_eq_false, beq_self_eq_true, Bool.not_true, cond_false, cond_true, andt_true_l, andt_true_r]

def laws_eqSteering_t {α : Type} (bad : α) (k_ : Bool → α) (a : SSteering) (b : SSteering) : α :=
  bif andt true (same a.Rules b.Rules) then
    bif !(yes2 a.Rules b.Rules) then k_ false
    else bif andt true (same a.Table b.Table) then
        bif !(yes2 a.Table b.Table) then k_ false
        else bif andt true (same a.Spread b.Spread) then
            bif !(yes2 a.Spread b.Spread) then k_ false
            else k_ true
          else bad
      else bad
  else bad
theorem laws_eqSteering_c {α : Type} (bad : α) (k_ : Bool → α) (a : SSteering) (b : SSteering) (h_a : WtL SSteering.ct a.enc) (h_b : WtL SSteering.ct b.enc) (hok : same a b = true) : laws_eqSteering_t bad k_ a b = k_ (yes2 a b) := by
  obtain rfl := same_eq hok
  simp only [laws_eqSteering_t, same_refl, yes2, bne_self_eq_false, beq_self_eq_true, Bool.not_true, cond_false, cond_true, andt_true_l, andt_true_r]

def laws_eqBoolS_l0 {α : Type} (bad : α) (k_ : Bool → α) (a : Rows) (b : Rows) (ih0 : Int → α) (i : Int) : α :=
  bif decide (i < len a) then
    bif andt (andt true (idx i a)) (idx i b) then
      bif !((rB (nth a (Int.toNat i)) 0) == (rB (nth b (Int.toNat i)) 0)) then k_ false
      else ih0 (w64 (i + 1))
    else bad
  else k_ true
def laws_eqBoolS_L0 {α : Type} (bad : α) (k_ : Bool → α) (N : Nat) (a : Rows) (b : Rows) (m_ : Nat) : Int → α :=
  Nat.rec (motive := fun _ => Int → α) (fun _ => bad) (fun _ ih0 => laws_eqBoolS_l0 bad k_ a b ih0) m_
theorem laws_eqBoolS_L0_z {α : Type} (bad : α) (k_ : Bool → α) (N : Nat) (a : Rows) (b : Rows) (i : Int) : laws_eqBoolS_L0 bad k_ N a b 0 i = bad := rfl
theorem laws_eqBoolS_L0_s {α : Type} (bad : α) (k_ : Bool → α) (N : Nat) (a : Rows) (b : Rows) (m_ : Nat) (i : Int) : laws_eqBoolS_L0 bad k_ N a b (m_ + 1) i = laws_eqBoolS_l0 bad k_ a b (laws_eqBoolS_L0 bad k_ N a b m_) i := rfl
def laws_eqBoolS_t {α : Type} (bad : α) (k_ : Bool → α) (l0 : Int → α) (a : Rows) (b : Rows) : α :=
  bif (len a) != (len b) then k_ false
  else l0 0
def laws_eqBoolS_f {α : Type} (bad : α) (k_ : Bool → α) (N : Nat) (a : Rows) (b : Rows) : α := laws_eqBoolS_t bad k_ (laws_eqBoolS_L0 bad k_ N a b N) a b
theorem laws_eqBoolS_c {α : Type} (bad : α) (k_ : Bool → α) (a : Rows) (b : Rows) (h_a : WtC (.sl [.bool]) (.sl a)) (h_b : WtC (.sl [.bool]) (.sl b)) (hok : same a b = true) : ∃ N, laws_eqBoolS_f bad k_ N a b = k_ (yes2 a b) := by
  obtain rfl := same_eq hok
  obtain ⟨hl, _⟩ := wt_sl h_a
  refine ⟨a.length + 1, ?_⟩
  unfold laws_eqBoolS_f laws_eqBoolS_t
  simp only [bne_self_eq_false, cond_false]
  refine (loop_rows0 a (laws_eqBoolS_L0 bad k_ (a.length + 1) a a) (fun _ _ c => c) (k_ true) ?_ ?_).trans (go_skip _ _ _)
  · intro n i h
    rw [laws_eqBoolS_L0_s]
    simp only [laws_eqBoolS_l0, lt_len h, idx_nat h, w64_succ h hl, Int.toNat_natCast, andt_true_l, andt_true_r, cond_true, cond_false, bne_self_eq_false, beq_self_eq_true, Bool.not_true, same_refl, yes2]
  · intro n
    rw [laws_eqBoolS_L0_s]
    simp only [laws_eqBoolS_l0, not_lt_len, cond_false]

def laws_eqCounters_t {α : Type} (k_ : Bool → α) (a : SCounters) (b : SCounters) : α :=
  bif a.Frames != b.Frames then k_ false
  else bif a.Bad != b.Bad then k_ false
  else bif a.Filtered != b.Filtered then k_ false
  else bif a.Refused != b.Refused then k_ false
  else bif a.Taken != b.Taken then k_ false
  else k_ true
theorem laws_eqCounters_c {α : Type} (k_ : Bool → α) (a : SCounters) (b : SCounters) (h_a : WtL SCounters.ct a.enc) (h_b : WtL SCounters.ct b.enc) (hok : same a b = true) : laws_eqCounters_t k_ a b = k_ (yes2 a b) := by
  obtain rfl := same_eq hok
  simp only [laws_eqCounters_t, same_refl, yes2, bne_self_eq_false, beq_self_eq_true, Bool.not_true, cond_false, cond_true, andt_true_l, andt_true_r]

def laws_eqPool_t {α : Type} (bad : α) (k_ : Bool → α) (a : SPool) (b : SPool) : α :=
  bif a.Base != b.Base then k_ false
  else bif a.Size != b.Size then k_ false
  else bif a.Count != b.Count then k_ false
  else bif andt true (same a.Free b.Free) then
      bif !(yes2 a.Free b.Free) then k_ false
      else k_ true
    else bad
theorem laws_eqPool_c {α : Type} (bad : α) (k_ : Bool → α) (a : SPool) (b : SPool) (h_a : WtL SPool.ct a.enc) (h_b : WtL SPool.ct b.enc) (hok : same a b = true) : laws_eqPool_t bad k_ a b = k_ (yes2 a b) := by
  obtain rfl := same_eq hok
  simp only [laws_eqPool_t, same_refl, yes2, bne_self_eq_false, beq_self_eq_true, Bool.not_true, cond_false, cond_true, andt_true_l, andt_true_r]

def laws_eqPoolS_l0 {α : Type} (bad : α) (k_ : Bool → α) (a : Rows) (b : Rows) (ih0 : Int → α) (i : Int) : α :=
  bif decide (i < len a) then
    bif andt (andt (andt true (idx i a)) (idx i b)) (same (SPool.decAt (nth a (Int.toNat i)) 0) (SPool.decAt (nth b (Int.toNat i)) 0)) then
      bif !(yes2 (SPool.decAt (nth a (Int.toNat i)) 0) (SPool.decAt (nth b (Int.toNat i)) 0)) then k_ false
      else ih0 (w64 (i + 1))
    else bad
  else k_ true
def laws_eqPoolS_L0 {α : Type} (bad : α) (k_ : Bool → α) (N : Nat) (a : Rows) (b : Rows) (m_ : Nat) : Int → α :=
  Nat.rec (motive := fun _ => Int → α) (fun _ => bad) (fun _ ih0 => laws_eqPoolS_l0 bad k_ a b ih0) m_
theorem laws_eqPoolS_L0_z {α : Type} (bad : α) (k_ : Bool → α) (N : Nat) (a : Rows) (b : Rows) (i : Int) : laws_eqPoolS_L0 bad k_ N a b 0 i = bad := rfl
theorem laws_eqPoolS_L0_s {α : Type} (bad : α) (k_ : Bool → α) (N : Nat) (a : Rows) (b : Rows) (m_ : Nat) (i : Int) : laws_eqPoolS_L0 bad k_ N a b (m_ + 1) i = laws_eqPoolS_l0 bad k_ a b (laws_eqPoolS_L0 bad k_ N a b m_) i := rfl
def laws_eqPoolS_t {α : Type} (bad : α) (k_ : Bool → α) (l0 : Int → α) (a : Rows) (b : Rows) : α :=
  bif (len a) != (len b) then k_ false
  else l0 0
def laws_eqPoolS_f {α : Type} (bad : α) (k_ : Bool → α) (N : Nat) (a : Rows) (b : Rows) : α := laws_eqPoolS_t bad k_ (laws_eqPoolS_L0 bad k_ N a b N) a b
theorem laws_eqPoolS_c {α : Type} (bad : α) (k_ : Bool → α) (a : Rows) (b : Rows) (h_a : WtC (.sl [.int .i64, .int .i64, .int .i64, .sl [.int .i64]]) (.sl a)) (h_b : WtC (.sl [.int .i64, .int .i64, .int .i64, .sl [.int .i64]]) (.sl b)) (hok : same a b = true) : ∃ N, laws_eqPoolS_f bad k_ N a b = k_ (yes2 a b) := by
  obtain rfl := same_eq hok
  obtain ⟨hl, _⟩ := wt_sl h_a
  refine ⟨a.length + 1, ?_⟩
  unfold laws_eqPoolS_f laws_eqPoolS_t
  simp only [bne_self_eq_false, cond_false]
  refine (loop_rows0 a (laws_eqPoolS_L0 bad k_ (a.length + 1) a a) (fun _ _ c => c) (k_ true) ?_ ?_).trans (go_skip _ _ _)
  · intro n i h
    rw [laws_eqPoolS_L0_s]
    simp only [laws_eqPoolS_l0, lt_len h, idx_nat h, w64_succ h hl, Int.toNat_natCast, andt_true_l, andt_true_r, cond_true, cond_false, bne_self_eq_false, beq_self_eq_true, Bool.not_true, same_refl, yes2]
  · intro n
    rw [laws_eqPoolS_L0_s]
    simp only [laws_eqPoolS_l0, not_lt_len, cond_false]

def laws_eqTxQueue_t {α : Type} (bad : α) (k_ : Bool → α) (a : STxQueue) (b : STxQueue) : α :=
  bif andt true (same a.Ring b.Ring) then
    bif !(yes2 a.Ring b.Ring) then k_ false
    else bif andt true (same a.Pool b.Pool) then
        bif !(yes2 a.Pool b.Pool) then k_ false
        else bif andt true (same a.Waiting b.Waiting) then
            bif !(yes2 a.Waiting b.Waiting) then k_ false
            else bif a.Next != b.Next then k_ false
            else k_ true
          else bad
      else bad
  else bad
theorem laws_eqTxQueue_c {α : Type} (bad : α) (k_ : Bool → α) (a : STxQueue) (b : STxQueue) (h_a : WtL STxQueue.ct a.enc) (h_b : WtL STxQueue.ct b.enc) (hok : same a b = true) : laws_eqTxQueue_t bad k_ a b = k_ (yes2 a b) := by
  obtain rfl := same_eq hok
  simp only [laws_eqTxQueue_t, same_refl, yes2, bne_self_eq_false, beq_self_eq_true, Bool.not_true, cond_false, cond_true, andt_true_l, andt_true_r]

def laws_eqHost_t {α : Type} (bad : α) (k_ : Bool → α) (a : SHost) (b : SHost) : α :=
  bif andt true (same a.Memory b.Memory) then
    bif !(yes2 a.Memory b.Memory) then k_ false
    else bif andt true (same a.Maps b.Maps) then
        bif !(yes2 a.Maps b.Maps) then k_ false
        else bif andt true (same a.Tx b.Tx) then
            bif !(yes2 a.Tx b.Tx) then k_ false
            else bif andt true (same a.Rx b.Rx) then
                bif !(yes2 a.Rx b.Rx) then k_ false
                else bif andt true (same a.Pools b.Pools) then
                    bif !(yes2 a.Pools b.Pools) then k_ false
                    else bif andt true (same a.Vectors b.Vectors) then
                        bif !(yes2 a.Vectors b.Vectors) then k_ false
                        else bif andt true (same a.Polling b.Polling) then
                            bif !(yes2 a.Polling b.Polling) then k_ false
                            else bif andt true (same a.Filter b.Filter) then
                                bif !(yes2 a.Filter b.Filter) then k_ false
                                else bif andt true (same a.Steering b.Steering) then
                                    bif !(yes2 a.Steering b.Steering) then k_ false
                                    else bif andt true (same a.Streams b.Streams) then
                                        bif !(yes2 a.Streams b.Streams) then k_ false
                                        else bif !(a.Coalesce == b.Coalesce) then k_ false
                                        else bif andt true (same a.Wire b.Wire) then
                                            bif !(yes2 a.Wire b.Wire) then k_ false
                                            else bif andt true (same a.Completed b.Completed) then
                                                bif !(yes2 a.Completed b.Completed) then k_ false
                                                else bif andt true (same a.Returned b.Returned) then
                                                    bif !(yes2 a.Returned b.Returned) then k_ false
                                                    else bif andt true (same a.Counters b.Counters) then
                                                        bif !(yes2 a.Counters b.Counters) then k_ false
                                                        else k_ true
                                                      else bad
                                                  else bad
                                              else bad
                                          else bad
                                      else bad
                                  else bad
                              else bad
                          else bad
                      else bad
                  else bad
              else bad
          else bad
      else bad
  else bad
theorem laws_eqHost_c {α : Type} (bad : α) (k_ : Bool → α) (a : SHost) (b : SHost) (h_a : WtL SHost.ct a.enc) (h_b : WtL SHost.ct b.enc) (hok : same a b = true) : laws_eqHost_t bad k_ a b = k_ (yes2 a b) := by
  obtain rfl := same_eq hok
  simp only [laws_eqHost_t, same_refl, yes2, bne_self_eq_false, beq_self_eq_true, Bool.not_true, cond_false, cond_true, andt_true_l, andt_true_r]

theorem laws_szStringS_ok {a : Rows} {left : Int} (hwt : WtC (.sl [.str]) (.sl a)) (h1 : 0 ≤ left) (h2 : left ≤ 1048576) (h0 : 0 ≤ laws_szStringS a left) : laws_szStringS a left ≤ 1048576 ∧ sm a = true := by
  obtain ⟨hl, hw⟩ := wt_sl hwt
  have h3 := szAll_ok (P := fun _ => True) (fun r hr l hl0 hl1 h => ⟨(sz_str (wt_str (show WtC .str (.str (rS r 0)) by have := hw r hr; rw [← row_str this] at this; exact (wtl_uncons this).1)) hl0 hl1 h).1, trivial⟩) h1 h2 hl h0
  exact ⟨h3.1, h3.2.1⟩

theorem laws_szMemory_ok {a : SMemory} {left : Int} (hwt : WtL SMemory.ct a.enc) (h1 : 0 ≤ left) (h2 : left ≤ 1048576) (h0 : 0 ≤ laws_szMemory a left) : laws_szMemory a left ≤ 1048576 ∧ laws_toMemory_ok a = true := by
  simp only [laws_szMemory, laws_szMemory_t, id] at h0 ⊢
  by_cases c0 : laws_szStringS a.Pages left < 0
  · simp only [c0, decide_true, cond_true] at h0; omega
  simp only [c0, decide_false, cond_false] at h0 ⊢
  have k0 := laws_szStringS_ok (SMemory.wt_Pages hwt) h1 h2 (Int.not_lt.1 c0)
  exact ⟨k0.1, by simp only [laws_toMemory_ok, laws_toMemory_t, k0.2, andt_true_l, andt_true_r, cond_true]⟩

theorem laws_szPool_ok {a : SPool} {left : Int} (hwt : WtL SPool.ct a.enc) (h1 : 0 ≤ left) (h2 : left ≤ 1048576) (h0 : 0 ≤ laws_szPool a left) : laws_szPool a left ≤ 1048576 ∧ laws_toPool_ok a = true := by
  simp only [laws_szPool, laws_szPool_t, id] at h0 ⊢
  by_cases c0 : szFlat a.Free left < 0
  · simp only [c0, decide_true, cond_true] at h0; omega
  simp only [c0, decide_false, cond_false] at h0 ⊢
  have k0 := szFlat_ok h1 h2 (wt_sl (SPool.wt_Free hwt)).1 (Int.not_lt.1 c0)
  exact ⟨k0.1, by simp only [laws_toPool_ok, laws_toPool_t, k0.2, andt_true_l, andt_true_r, cond_true]⟩

theorem laws_szSent_ok {a : SSent} {left : Int} (hwt : WtL SSent.ct a.enc) (h1 : 0 ≤ left) (h2 : left ≤ 1048576) (h0 : 0 ≤ laws_szSent a left) : laws_szSent a left ≤ 1048576 ∧ laws_toSent_ok a = true := by
  simp only [laws_szSent, laws_szSent_t, id] at h0 ⊢
  by_cases c0 : szFlat a.Buffers left < 0
  · simp only [c0, decide_true, cond_true] at h0; omega
  simp only [c0, decide_false, cond_false] at h0 ⊢
  have k0 := szFlat_ok h1 h2 (wt_sl (SSent.wt_Buffers hwt)).1 (Int.not_lt.1 c0)
  exact ⟨k0.1, by simp only [laws_toSent_ok, laws_toSent_t, k0.2, andt_true_l, andt_true_r, cond_true]⟩

theorem laws_szSentS_ok {a : Rows} {left : Int} (hwt : WtC (.sl [.int .i64, .int .i64, .sl [.int .i64]]) (.sl a)) (h1 : 0 ≤ left) (h2 : left ≤ 1048576) (h0 : 0 ≤ laws_szSentS a left) : laws_szSentS a left ≤ 1048576 ∧ laws_toSentS_ok a = true := by
  obtain ⟨hl, hw⟩ := wt_sl hwt
  have h3 := szAll_ok (P := fun r => laws_toSent_ok (SSent.decAt r 0) = true) (fun r hr l hl0 hl1 h => laws_szSent_ok (by rw [SSent.eta (hw r hr)]; exact hw r hr) hl0 hl1 h) h1 h2 hl h0
  exact ⟨h3.1, by simp only [laws_toSentS_ok, Bool.and_eq_true, List.all_eq_true]; exact h3.2⟩

theorem laws_szTxQueue_ok {a : STxQueue} {left : Int} (hwt : WtL STxQueue.ct a.enc) (h1 : 0 ≤ left) (h2 : left ≤ 1048576) (h0 : 0 ≤ laws_szTxQueue a left) : laws_szTxQueue a left ≤ 1048576 ∧ laws_toTxQueue_ok a = true := by
  simp only [laws_szTxQueue, laws_szTxQueue_t, id] at h0 ⊢
  by_cases c0 : laws_szPool a.Pool left < 0
  · simp only [c0, decide_true, cond_true] at h0; omega
  simp only [c0, decide_false, cond_false] at h0 ⊢
  have k0 := laws_szPool_ok (STxQueue.wt_Pool hwt) h1 h2 (Int.not_lt.1 c0)
  by_cases c1 : laws_szSentS a.Waiting (laws_szPool a.Pool left) < 0
  · simp only [c1, decide_true, cond_true] at h0; omega
  simp only [c1, decide_false, cond_false] at h0 ⊢
  have k1 := laws_szSentS_ok (STxQueue.wt_Waiting hwt) (Int.not_lt.1 c0) k0.1 (Int.not_lt.1 c1)
  exact ⟨k1.1, by simp only [laws_toTxQueue_ok, laws_toTxQueue_t, k0.2, k1.2, andt_true_l, andt_true_r, cond_true]⟩

theorem laws_szSegment_ok {a : SSegment} {left : Int} (hwt : WtL SSegment.ct a.enc) (h1 : 0 ≤ left) (h2 : left ≤ 1048576) (h0 : 0 ≤ laws_szSegment a left) : laws_szSegment a left ≤ 1048576 ∧ True := by
  simp only [laws_szSegment, laws_szSegment_t, id] at h0 ⊢
  by_cases c0 : w64 (left - (len a.Body)) < 0
  · simp only [c0, decide_true, cond_true] at h0; omega
  simp only [c0, decide_false, cond_false] at h0 ⊢
  have k0 := sz_str (wt_str (SSegment.wt_Body hwt)) h1 h2 (Int.not_lt.1 c0)
  exact ⟨k0.1, trivial⟩

theorem laws_szPacket_ok {a : SPacket} {left : Int} (hwt : WtL SPacket.ct a.enc) (h1 : 0 ≤ left) (h2 : left ≤ 1048576) (h0 : 0 ≤ laws_szPacket a left) : laws_szPacket a left ≤ 1048576 ∧ True := by
  simp only [laws_szPacket, laws_szPacket_t, id] at h0 ⊢
  by_cases c0 : laws_szSegment a.Seg left < 0
  · simp only [c0, decide_true, cond_true] at h0; omega
  simp only [c0, decide_false, cond_false] at h0 ⊢
  have k0 := laws_szSegment_ok (SPacket.wt_Seg hwt) h1 h2 (Int.not_lt.1 c0)
  exact ⟨k0.1, trivial⟩

theorem laws_szSuper_ok {a : SSuper} {left : Int} (hwt : WtL SSuper.ct a.enc) (h1 : 0 ≤ left) (h2 : left ≤ 1048576) (h0 : 0 ≤ laws_szSuper a left) : laws_szSuper a left ≤ 1048576 ∧ True := by
  simp only [laws_szSuper, laws_szSuper_t, id] at h0 ⊢
  by_cases c0 : laws_szPacket a.Packet left < 0
  · simp only [c0, decide_true, cond_true] at h0; omega
  simp only [c0, decide_false, cond_false] at h0 ⊢
  have k0 := laws_szPacket_ok (SSuper.wt_Packet hwt) h1 h2 (Int.not_lt.1 c0)
  exact ⟨k0.1, trivial⟩

theorem laws_szRxQueue_ok {a : SRxQueue} {left : Int} (hwt : WtL SRxQueue.ct a.enc) (h1 : 0 ≤ left) (h2 : left ≤ 1048576) (h0 : 0 ≤ laws_szRxQueue a left) : laws_szRxQueue a left ≤ 1048576 ∧ True := by
  simp only [laws_szRxQueue, laws_szRxQueue_t, id] at h0 ⊢
  by_cases c0 : laws_szSuper a.Held left < 0
  · simp only [c0, decide_true, cond_true] at h0; omega
  simp only [c0, decide_false, cond_false] at h0 ⊢
  have k0 := laws_szSuper_ok (SRxQueue.wt_Held hwt) h1 h2 (Int.not_lt.1 c0)
  exact ⟨k0.1, trivial⟩

theorem laws_szRxQueueS_ok {a : Rows} {left : Int} (hwt : WtC (.sl [.int .i64, .int .i64, .int .i64, .int .i64, .int .i64, .int .i64, .int .i64, .int .i64, .int .i64, .int .i64, .int .i64, .int .i64, .int .i64, .int .i64, .int .i64, .int .i64, .int .i64, .int .i64, .int .i64, .int .i64, .int .i64, .int .i64, .int .i64, .int .i64, .int .i64, .str, .int .i64, .int .i64, .bool, .int .i64]) (.sl a)) (h1 : 0 ≤ left) (h2 : left ≤ 1048576) (h0 : 0 ≤ laws_szRxQueueS a left) : laws_szRxQueueS a left ≤ 1048576 ∧ sm a = true := by
  obtain ⟨hl, hw⟩ := wt_sl hwt
  have h3 := szAll_ok (P := fun _ => True) (fun r hr l hl0 hl1 h => ⟨(laws_szRxQueue_ok (by rw [SRxQueue.eta (hw r hr)]; exact hw r hr) hl0 hl1 h).1, trivial⟩) h1 h2 hl h0
  exact ⟨h3.1, h3.2.1⟩

theorem laws_szPoolS_ok {a : Rows} {left : Int} (hwt : WtC (.sl [.int .i64, .int .i64, .int .i64, .sl [.int .i64]]) (.sl a)) (h1 : 0 ≤ left) (h2 : left ≤ 1048576) (h0 : 0 ≤ laws_szPoolS a left) : laws_szPoolS a left ≤ 1048576 ∧ laws_toPoolS_ok a = true := by
  obtain ⟨hl, hw⟩ := wt_sl hwt
  have h3 := szAll_ok (P := fun r => laws_toPool_ok (SPool.decAt r 0) = true) (fun r hr l hl0 hl1 h => laws_szPool_ok (by rw [SPool.eta (hw r hr)]; exact hw r hr) hl0 hl1 h) h1 h2 hl h0
  exact ⟨h3.1, by simp only [laws_toPoolS_ok, Bool.and_eq_true, List.all_eq_true]; exact h3.2⟩

theorem laws_szFilter_ok {a : SFilter} {left : Int} (hwt : WtL SFilter.ct a.enc) (h1 : 0 ≤ left) (h2 : left ≤ 1048576) (h0 : 0 ≤ laws_szFilter a left) : laws_szFilter a left ≤ 1048576 ∧ laws_toFilter_ok a = true := by
  simp only [laws_szFilter, laws_szFilter_t, id] at h0 ⊢
  by_cases c0 : szFlat a.Vlans left < 0
  · simp only [c0, decide_true, cond_true] at h0; omega
  simp only [c0, decide_false, cond_false] at h0 ⊢
  have k0 := szFlat_ok h1 h2 (wt_sl (SFilter.wt_Vlans hwt)).1 (Int.not_lt.1 c0)
  exact ⟨k0.1, by simp only [laws_toFilter_ok, laws_toFilter_t, k0.2, andt_true_l, andt_true_r, cond_true]⟩

theorem laws_szFlowTable_ok {a : SFlowTable} {left : Int} (hwt : WtL SFlowTable.ct a.enc) (h1 : 0 ≤ left) (h2 : left ≤ 1048576) (h0 : 0 ≤ laws_szFlowTable a left) : laws_szFlowTable a left ≤ 1048576 ∧ laws_toFlowTable_ok a = true := by
  simp only [laws_szFlowTable, laws_szFlowTable_t, id] at h0 ⊢
  by_cases c0 : szFlat a.Slots left < 0
  · simp only [c0, decide_true, cond_true] at h0; omega
  simp only [c0, decide_false, cond_false] at h0 ⊢
  have k0 := szFlat_ok h1 h2 (wt_sl (SFlowTable.wt_Slots hwt)).1 (Int.not_lt.1 c0)
  exact ⟨k0.1, by simp only [laws_toFlowTable_ok, laws_toFlowTable_t, k0.2, andt_true_l, andt_true_r, cond_true]⟩

theorem laws_szSpread_ok {a : SSpread} {left : Int} (hwt : WtL SSpread.ct a.enc) (h1 : 0 ≤ left) (h2 : left ≤ 1048576) (h0 : 0 ≤ laws_szSpread a left) : laws_szSpread a left ≤ 1048576 ∧ laws_toSpread_ok a = true := by
  simp only [laws_szSpread, laws_szSpread_t, id] at h0 ⊢
  by_cases c0 : w64 (left - (len a.Key)) < 0
  · simp only [c0, decide_true, cond_true] at h0; omega
  simp only [c0, decide_false, cond_false] at h0 ⊢
  have k0 := sz_str (wt_str (SSpread.wt_Key hwt)) h1 h2 (Int.not_lt.1 c0)
  by_cases c1 : szFlat a.Table (w64 (left - (len a.Key))) < 0
  · simp only [c1, decide_true, cond_true] at h0; omega
  simp only [c1, decide_false, cond_false] at h0 ⊢
  have k1 := szFlat_ok (Int.not_lt.1 c0) k0.1 (wt_sl (SSpread.wt_Table hwt)).1 (Int.not_lt.1 c1)
  exact ⟨k1.1, by simp only [laws_toSpread_ok, laws_toSpread_t, k0.2, k1.2, andt_true_l, andt_true_r, cond_true]⟩

theorem laws_szSteering_ok {a : SSteering} {left : Int} (hwt : WtL SSteering.ct a.enc) (h1 : 0 ≤ left) (h2 : left ≤ 1048576) (h0 : 0 ≤ laws_szSteering a left) : laws_szSteering a left ≤ 1048576 ∧ laws_toSteering_ok a = true := by
  simp only [laws_szSteering, laws_szSteering_t, id] at h0 ⊢
  by_cases c0 : szFlat a.Rules left < 0
  · simp only [c0, decide_true, cond_true] at h0; omega
  simp only [c0, decide_false, cond_false] at h0 ⊢
  have k0 := szFlat_ok h1 h2 (wt_sl (SSteering.wt_Rules hwt)).1 (Int.not_lt.1 c0)
  by_cases c1 : laws_szFlowTable a.Table (szFlat a.Rules left) < 0
  · simp only [c1, decide_true, cond_true] at h0; omega
  simp only [c1, decide_false, cond_false] at h0 ⊢
  have k1 := laws_szFlowTable_ok (SSteering.wt_Table hwt) (Int.not_lt.1 c0) k0.1 (Int.not_lt.1 c1)
  by_cases c2 : laws_szSpread a.Spread (laws_szFlowTable a.Table (szFlat a.Rules left)) < 0
  · simp only [c2, decide_true, cond_true] at h0; omega
  simp only [c2, decide_false, cond_false] at h0 ⊢
  have k2 := laws_szSpread_ok (SSteering.wt_Spread hwt) (Int.not_lt.1 c1) k1.1 (Int.not_lt.1 c2)
  exact ⟨k2.1, by simp only [laws_toSteering_ok, laws_toSteering_t, k0.2, k1.2, k2.2, andt_true_l, andt_true_r, cond_true]⟩

theorem laws_szStream_ok {a : SStream} {left : Int} (hwt : WtL SStream.ct a.enc) (h1 : 0 ≤ left) (h2 : left ≤ 1048576) (h0 : 0 ≤ laws_szStream a left) : laws_szStream a left ≤ 1048576 ∧ True := by
  simp only [laws_szStream, laws_szStream_t, id] at h0 ⊢
  by_cases c0 : w64 (left - (len a.Data)) < 0
  · simp only [c0, decide_true, cond_true] at h0; omega
  simp only [c0, decide_false, cond_false] at h0 ⊢
  have k0 := sz_str (wt_str (SStream.wt_Data hwt)) h1 h2 (Int.not_lt.1 c0)
  exact ⟨k0.1, trivial⟩

theorem laws_szStreamS_ok {a : Rows} {left : Int} (hwt : WtC (.sl [.int .i64, .int .i64, .int .i64, .int .i64, .int .i64, .int .i64, .str, .bool]) (.sl a)) (h1 : 0 ≤ left) (h2 : left ≤ 1048576) (h0 : 0 ≤ laws_szStreamS a left) : laws_szStreamS a left ≤ 1048576 ∧ sm a = true := by
  obtain ⟨hl, hw⟩ := wt_sl hwt
  have h3 := szAll_ok (P := fun _ => True) (fun r hr l hl0 hl1 h => ⟨(laws_szStream_ok (by rw [SStream.eta (hw r hr)]; exact hw r hr) hl0 hl1 h).1, trivial⟩) h1 h2 hl h0
  exact ⟨h3.1, h3.2.1⟩

theorem laws_szHost_ok {a : SHost} {left : Int} (hwt : WtL SHost.ct a.enc) (h1 : 0 ≤ left) (h2 : left ≤ 1048576) (h0 : 0 ≤ laws_szHost a left) : laws_szHost a left ≤ 1048576 ∧ laws_toHost_ok a = true := by
  simp only [laws_szHost, laws_szHost_t, id] at h0 ⊢
  by_cases c0 : laws_szMemory a.Memory left < 0
  · simp only [c0, decide_true, cond_true] at h0; omega
  simp only [c0, decide_false, cond_false] at h0 ⊢
  have k0 := laws_szMemory_ok (SHost.wt_Memory hwt) h1 h2 (Int.not_lt.1 c0)
  by_cases c1 : szFlat a.Maps (laws_szMemory a.Memory left) < 0
  · simp only [c1, decide_true, cond_true] at h0; omega
  simp only [c1, decide_false, cond_false] at h0 ⊢
  have k1 := szFlat_ok (Int.not_lt.1 c0) k0.1 (wt_sl (SHost.wt_Maps hwt)).1 (Int.not_lt.1 c1)
  by_cases c2 : laws_szTxQueue a.Tx (szFlat a.Maps (laws_szMemory a.Memory left)) < 0
  · simp only [c2, decide_true, cond_true] at h0; omega
  simp only [c2, decide_false, cond_false] at h0 ⊢
  have k2 := laws_szTxQueue_ok (SHost.wt_Tx hwt) (Int.not_lt.1 c1) k1.1 (Int.not_lt.1 c2)
  by_cases c3 : laws_szRxQueueS a.Rx (laws_szTxQueue a.Tx (szFlat a.Maps (laws_szMemory a.Memory left))) < 0
  · simp only [c3, decide_true, cond_true] at h0; omega
  simp only [c3, decide_false, cond_false] at h0 ⊢
  have k3 := laws_szRxQueueS_ok (SHost.wt_Rx hwt) (Int.not_lt.1 c2) k2.1 (Int.not_lt.1 c3)
  by_cases c4 : laws_szPoolS a.Pools (laws_szRxQueueS a.Rx (laws_szTxQueue a.Tx (szFlat a.Maps (laws_szMemory a.Memory left)))) < 0
  · simp only [c4, decide_true, cond_true] at h0; omega
  simp only [c4, decide_false, cond_false] at h0 ⊢
  have k4 := laws_szPoolS_ok (SHost.wt_Pools hwt) (Int.not_lt.1 c3) k3.1 (Int.not_lt.1 c4)
  by_cases c5 : szFlat a.Vectors (laws_szPoolS a.Pools (laws_szRxQueueS a.Rx (laws_szTxQueue a.Tx (szFlat a.Maps (laws_szMemory a.Memory left))))) < 0
  · simp only [c5, decide_true, cond_true] at h0; omega
  simp only [c5, decide_false, cond_false] at h0 ⊢
  have k5 := szFlat_ok (Int.not_lt.1 c4) k4.1 (wt_sl (SHost.wt_Vectors hwt)).1 (Int.not_lt.1 c5)
  by_cases c6 : szFlat a.Polling (szFlat a.Vectors (laws_szPoolS a.Pools (laws_szRxQueueS a.Rx (laws_szTxQueue a.Tx (szFlat a.Maps (laws_szMemory a.Memory left)))))) < 0
  · simp only [c6, decide_true, cond_true] at h0; omega
  simp only [c6, decide_false, cond_false] at h0 ⊢
  have k6 := szFlat_ok (Int.not_lt.1 c5) k5.1 (wt_sl (SHost.wt_Polling hwt)).1 (Int.not_lt.1 c6)
  by_cases c7 : laws_szFilter a.Filter (szFlat a.Polling (szFlat a.Vectors (laws_szPoolS a.Pools (laws_szRxQueueS a.Rx (laws_szTxQueue a.Tx (szFlat a.Maps (laws_szMemory a.Memory left))))))) < 0
  · simp only [c7, decide_true, cond_true] at h0; omega
  simp only [c7, decide_false, cond_false] at h0 ⊢
  have k7 := laws_szFilter_ok (SHost.wt_Filter hwt) (Int.not_lt.1 c6) k6.1 (Int.not_lt.1 c7)
  by_cases c8 : laws_szSteering a.Steering (laws_szFilter a.Filter (szFlat a.Polling (szFlat a.Vectors (laws_szPoolS a.Pools (laws_szRxQueueS a.Rx (laws_szTxQueue a.Tx (szFlat a.Maps (laws_szMemory a.Memory left)))))))) < 0
  · simp only [c8, decide_true, cond_true] at h0; omega
  simp only [c8, decide_false, cond_false] at h0 ⊢
  have k8 := laws_szSteering_ok (SHost.wt_Steering hwt) (Int.not_lt.1 c7) k7.1 (Int.not_lt.1 c8)
  by_cases c9 : laws_szStreamS a.Streams (laws_szSteering a.Steering (laws_szFilter a.Filter (szFlat a.Polling (szFlat a.Vectors (laws_szPoolS a.Pools (laws_szRxQueueS a.Rx (laws_szTxQueue a.Tx (szFlat a.Maps (laws_szMemory a.Memory left))))))))) < 0
  · simp only [c9, decide_true, cond_true] at h0; omega
  simp only [c9, decide_false, cond_false] at h0 ⊢
  have k9 := laws_szStreamS_ok (SHost.wt_Streams hwt) (Int.not_lt.1 c8) k8.1 (Int.not_lt.1 c9)
  by_cases c10 : laws_szStringS a.Wire (laws_szStreamS a.Streams (laws_szSteering a.Steering (laws_szFilter a.Filter (szFlat a.Polling (szFlat a.Vectors (laws_szPoolS a.Pools (laws_szRxQueueS a.Rx (laws_szTxQueue a.Tx (szFlat a.Maps (laws_szMemory a.Memory left)))))))))) < 0
  · simp only [c10, decide_true, cond_true] at h0; omega
  simp only [c10, decide_false, cond_false] at h0 ⊢
  have k10 := laws_szStringS_ok (SHost.wt_Wire hwt) (Int.not_lt.1 c9) k9.1 (Int.not_lt.1 c10)
  by_cases c11 : szFlat a.Completed (laws_szStringS a.Wire (laws_szStreamS a.Streams (laws_szSteering a.Steering (laws_szFilter a.Filter (szFlat a.Polling (szFlat a.Vectors (laws_szPoolS a.Pools (laws_szRxQueueS a.Rx (laws_szTxQueue a.Tx (szFlat a.Maps (laws_szMemory a.Memory left))))))))))) < 0
  · simp only [c11, decide_true, cond_true] at h0; omega
  simp only [c11, decide_false, cond_false] at h0 ⊢
  have k11 := szFlat_ok (Int.not_lt.1 c10) k10.1 (wt_sl (SHost.wt_Completed hwt)).1 (Int.not_lt.1 c11)
  by_cases c12 : szFlat a.Returned (szFlat a.Completed (laws_szStringS a.Wire (laws_szStreamS a.Streams (laws_szSteering a.Steering (laws_szFilter a.Filter (szFlat a.Polling (szFlat a.Vectors (laws_szPoolS a.Pools (laws_szRxQueueS a.Rx (laws_szTxQueue a.Tx (szFlat a.Maps (laws_szMemory a.Memory left)))))))))))) < 0
  · simp only [c12, decide_true, cond_true] at h0; omega
  simp only [c12, decide_false, cond_false] at h0 ⊢
  have k12 := szFlat_ok (Int.not_lt.1 c11) k11.1 (wt_sl (SHost.wt_Returned hwt)).1 (Int.not_lt.1 c12)
  exact ⟨k12.1, by simp only [laws_toHost_ok, laws_toHost_t, k0.2, k1.2, k2.2, k3.2, k4.2, k5.2, k6.2, k7.2, k8.2, k9.2, k10.2, k11.2, k12.2, andt_true_l, andt_true_r, cond_true]⟩


def laws_markIntS_l0 {α : Type} (bad : α) (k_ : Int → Rows → α) (ih0 : Int → Int → Rows → α) (k_1 : Int) (i : Int) (a_1 : Rows) : α :=
  bif decide (i < len a_1) then
    bif andt (andt true (idx i a_1)) (inl (Int.toNat i) a_1) then
      ih0 (w64 (k_1 + 1)) (w64 (i + 1)) (List.set a_1 (Int.toNat i) (splice (nth a_1 (Int.toNat i)) 0 [.int k_1]))
    else bad
  else k_ k_1 a_1
def laws_markIntS_L0 {α : Type} (bad : α) (k_ : Int → Rows → α) (N : Nat) (m_ : Nat) : Int → Int → Rows → α :=
  Nat.rec (motive := fun _ => Int → Int → Rows → α) (fun _ _ _ => bad) (fun _ ih0 => laws_markIntS_l0 bad k_ ih0) m_
theorem laws_markIntS_L0_z {α : Type} (bad : α) (k_ : Int → Rows → α) (N : Nat) (k_1 : Int) (i : Int) (a_1 : Rows) : laws_markIntS_L0 bad k_ N 0 k_1 i a_1 = bad := rfl
theorem laws_markIntS_L0_s {α : Type} (bad : α) (k_ : Int → Rows → α) (N : Nat) (m_ : Nat) (k_1 : Int) (i : Int) (a_1 : Rows) : laws_markIntS_L0 bad k_ N (m_ + 1) k_1 i a_1 = laws_markIntS_l0 bad k_ (laws_markIntS_L0 bad k_ N m_) k_1 i a_1 := rfl
def laws_markIntS_t {α : Type} (bad : α) (k_ : Int → Rows → α) (l0 : Int → Int → Rows → α) (a : Rows) (k : Int) : α :=
  l0 k 0 a
def laws_markIntS_f {α : Type} (bad : α) (k_ : Int → Rows → α) (N : Nat) (a : Rows) (k : Int) : α := laws_markIntS_t bad k_ (laws_markIntS_L0 bad k_ N N) a k
def fIntS (k : Int) : List DC := [.int k]
def markIntS (a : Rows) (k : Int) : Int × Rows := (k + 1 * a.length, mkl fIntS 1 a.length k)
theorem laws_markIntS_c {α : Type} (bad : α) (k_ : Int → Rows → α) (a : Rows) (k : Int) (h_a : WtC (.sl [.int .i64]) (.sl a)) (h_k : WtC (.int .i64) (.int k)) (hok : mko 1 a k = true) : ∃ N, laws_markIntS_f bad k_ N a k = k_ (markIntS a k).1 (markIntS a k).2 := by
  obtain ⟨hl, hw⟩ := wt_sl h_a
  obtain ⟨h1, h2, h3⟩ := mko_of hok
  refine ⟨a.length + 1, ?_⟩
  unfold laws_markIntS_f laws_markIntS_t markIntS
  refine mark_loop a k 1 fIntS (laws_markIntS_L0 bad k_ (a.length + 1)) k_ ?_ ?_
  · intro n i b h hb hn
    rw [laws_markIntS_L0_s]
    have w1 : w64 (k + 1 * (i : Int) + 1) = k + 1 * (i : Int) + 1 := w64_in (by omega) (by omega)
    have hs : splice (nth a i) 0 (fIntS (k + 1 * (i : Int))) = fIntS (k + 1 * (i : Int)) := splice_all (by rw [wtl_len (hw (nth a i) (nth_mem h))]; rfl)
    simp only [laws_markIntS_l0, lt_len (show i < b.length by omega), idx_nat (show i < b.length by omega), inl_nat (show i < b.length by omega), w64_succ h hl, Int.toNat_natCast, andt_true_l, andt_true_r, cond_true, hn, w1]
    rw [← hs]; rfl
  · intro n b hb
    rw [laws_markIntS_L0_s]
    simp only [laws_markIntS_l0, ← hb, not_lt_len, cond_false]

def laws_heldIntS_l0 {α : Type} (bad : α) (k_ : Int → α) (a : Rows) (ih0 : Int → Int → α) (k_1 : Int) (i : Int) : α :=
  bif decide (i < len a) then
    bif andt true (idx i a) then
      bif (rI (nth a (Int.toNat i)) 0) != k_1 then k_ (-1)
      else ih0 (w64 (k_1 + 1)) (w64 (i + 1))
    else bad
  else k_ k_1
def laws_heldIntS_L0 {α : Type} (bad : α) (k_ : Int → α) (N : Nat) (a : Rows) (m_ : Nat) : Int → Int → α :=
  Nat.rec (motive := fun _ => Int → Int → α) (fun _ _ => bad) (fun _ ih0 => laws_heldIntS_l0 bad k_ a ih0) m_
theorem laws_heldIntS_L0_z {α : Type} (bad : α) (k_ : Int → α) (N : Nat) (a : Rows) (k_1 : Int) (i : Int) : laws_heldIntS_L0 bad k_ N a 0 k_1 i = bad := rfl
theorem laws_heldIntS_L0_s {α : Type} (bad : α) (k_ : Int → α) (N : Nat) (a : Rows) (m_ : Nat) (k_1 : Int) (i : Int) : laws_heldIntS_L0 bad k_ N a (m_ + 1) k_1 i = laws_heldIntS_l0 bad k_ a (laws_heldIntS_L0 bad k_ N a m_) k_1 i := rfl
def laws_heldIntS_t {α : Type} (bad : α) (k_ : Int → α) (l0 : Int → Int → α) (a : Rows) (k : Int) : α :=
  l0 k 0
def laws_heldIntS_f {α : Type} (bad : α) (k_ : Int → α) (N : Nat) (a : Rows) (k : Int) : α := laws_heldIntS_t bad k_ (laws_heldIntS_L0 bad k_ N a N) a k
def heldIntS (a : Rows) (k : Int) : Int := k + 1 * a.length
theorem laws_heldIntS_c {α : Type} (bad : α) (k_ : Int → α) (a : Rows) (k : Int) (h_a : WtC (.sl [.int .i64]) (.sl a)) (h_k : WtC (.int .i64) (.int k)) (hok : hdo fIntS 1 a k = true) : ∃ N, laws_heldIntS_f bad k_ N a k = k_ (heldIntS a k) := by
  obtain ⟨hl, hw⟩ := wt_sl h_a
  obtain ⟨h0, h1, h2, h3⟩ := hdo_of hok
  refine ⟨a.length + 1, ?_⟩
  unfold laws_heldIntS_f laws_heldIntS_t heldIntS
  refine held_loop a k 1 fIntS (laws_heldIntS_L0 bad k_ (a.length + 1) a) k_ h0 ?_ ?_
  · intro n i h hn
    rw [laws_heldIntS_L0_s]
    have w1 : w64 (k + 1 * (i : Int) + 1) = k + 1 * (i : Int) + 1 := w64_in (by omega) (by omega)
    simp only [laws_heldIntS_l0, lt_len h, idx_nat h, w64_succ h hl, Int.toNat_natCast, andt_true_l, andt_true_r, cond_true, hn, w1, rI_one, bne_self_eq_false, fIntS, cond_false]
  · intro n
    rw [laws_heldIntS_L0_s]
    simp only [laws_heldIntS_l0, not_lt_len, cond_false]

def laws_markBoolS_l0 {α : Type} (bad : α) (k_ : Int → Rows → α) (ih0 : Int → Int → Rows → α) (k_1 : Int) (i : Int) (a_1 : Rows) : α :=
  bif decide (i < len a_1) then
    bif andt (andt true (idx i a_1)) (inl (Int.toNat i) a_1) then
      ih0 (w64 (k_1 + 1)) (w64 (i + 1)) (List.set a_1 (Int.toNat i) (splice (nth a_1 (Int.toNat i)) 0 [.bool ((Int.tmod k_1 3) == 0)]))
    else bad
  else k_ k_1 a_1
def laws_markBoolS_L0 {α : Type} (bad : α) (k_ : Int → Rows → α) (N : Nat) (m_ : Nat) : Int → Int → Rows → α :=
  Nat.rec (motive := fun _ => Int → Int → Rows → α) (fun _ _ _ => bad) (fun _ ih0 => laws_markBoolS_l0 bad k_ ih0) m_
theorem laws_markBoolS_L0_z {α : Type} (bad : α) (k_ : Int → Rows → α) (N : Nat) (k_1 : Int) (i : Int) (a_1 : Rows) : laws_markBoolS_L0 bad k_ N 0 k_1 i a_1 = bad := rfl
theorem laws_markBoolS_L0_s {α : Type} (bad : α) (k_ : Int → Rows → α) (N : Nat) (m_ : Nat) (k_1 : Int) (i : Int) (a_1 : Rows) : laws_markBoolS_L0 bad k_ N (m_ + 1) k_1 i a_1 = laws_markBoolS_l0 bad k_ (laws_markBoolS_L0 bad k_ N m_) k_1 i a_1 := rfl
def laws_markBoolS_t {α : Type} (bad : α) (k_ : Int → Rows → α) (l0 : Int → Int → Rows → α) (a : Rows) (k : Int) : α :=
  l0 k 0 a
def laws_markBoolS_f {α : Type} (bad : α) (k_ : Int → Rows → α) (N : Nat) (a : Rows) (k : Int) : α := laws_markBoolS_t bad k_ (laws_markBoolS_L0 bad k_ N N) a k
def fBoolS (k : Int) : List DC := [.bool (Int.tmod k 3 == 0)]
def markBoolS (a : Rows) (k : Int) : Int × Rows := (k + 1 * a.length, mkl fBoolS 1 a.length k)
theorem laws_markBoolS_c {α : Type} (bad : α) (k_ : Int → Rows → α) (a : Rows) (k : Int) (h_a : WtC (.sl [.bool]) (.sl a)) (h_k : WtC (.int .i64) (.int k)) (hok : mko 1 a k = true) : ∃ N, laws_markBoolS_f bad k_ N a k = k_ (markBoolS a k).1 (markBoolS a k).2 := by
  obtain ⟨hl, hw⟩ := wt_sl h_a
  obtain ⟨h1, h2, h3⟩ := mko_of hok
  refine ⟨a.length + 1, ?_⟩
  unfold laws_markBoolS_f laws_markBoolS_t markBoolS
  refine mark_loop a k 1 fBoolS (laws_markBoolS_L0 bad k_ (a.length + 1)) k_ ?_ ?_
  · intro n i b h hb hn
    rw [laws_markBoolS_L0_s]
    have w1 : w64 (k + 1 * (i : Int) + 1) = k + 1 * (i : Int) + 1 := w64_in (by omega) (by omega)
    have hs : splice (nth a i) 0 (fBoolS (k + 1 * (i : Int))) = fBoolS (k + 1 * (i : Int)) := splice_all (by rw [wtl_len (hw (nth a i) (nth_mem h))]; rfl)
    simp only [laws_markBoolS_l0, lt_len (show i < b.length by omega), idx_nat (show i < b.length by omega), inl_nat (show i < b.length by omega), w64_succ h hl, Int.toNat_natCast, andt_true_l, andt_true_r, cond_true, hn, w1]
    rw [← hs]; rfl
  · intro n b hb
    rw [laws_markBoolS_L0_s]
    simp only [laws_markBoolS_l0, ← hb, not_lt_len, cond_false]

def laws_markText_l0 {α : Type} (bad : α) (k_ : Bytes → α) (ih0 : Int → Bytes → α) (k_1 : Int) (out_ : Bytes) : α :=
  bif decide (0 < k_1) then
    bif andt true (catOk (toStr ([[.int (IntKind.wrap .u8 (w64 (48 + (Int.tmod k_1 10))))]])) out_) then
      ih0 (w64 (Int.tdiv k_1 10)) ((toStr ([[.int (IntKind.wrap .u8 (w64 (48 + (Int.tmod k_1 10))))]])) ++ out_)
    else bad
  else bif andt true (catOk [109] out_) then
      k_ ([109] ++ out_)
    else bad
def laws_markText_L0 {α : Type} (bad : α) (k_ : Bytes → α) (N : Nat) (m_ : Nat) : Int → Bytes → α :=
  Nat.rec (motive := fun _ => Int → Bytes → α) (fun _ _ => bad) (fun _ ih0 => laws_markText_l0 bad k_ ih0) m_
theorem laws_markText_L0_z {α : Type} (bad : α) (k_ : Bytes → α) (N : Nat) (k_1 : Int) (out_ : Bytes) : laws_markText_L0 bad k_ N 0 k_1 out_ = bad := rfl
theorem laws_markText_L0_s {α : Type} (bad : α) (k_ : Bytes → α) (N : Nat) (m_ : Nat) (k_1 : Int) (out_ : Bytes) : laws_markText_L0 bad k_ N (m_ + 1) k_1 out_ = laws_markText_l0 bad k_ (laws_markText_L0 bad k_ N m_) k_1 out_ := rfl
def laws_markText_t {α : Type} (bad : α) (k_ : Bytes → α) (l0 : Int → Bytes → α) (k : Int) : α :=
  bif decide (k ≤ 0) then k_ [109, 48]
  else l0 k []
def laws_markText_f {α : Type} (bad : α) (k_ : Bytes → α) (N : Nat) (k : Int) : α := laws_markText_t bad k_ (laws_markText_L0 bad k_ N N) k
def mtD (k : Int) : Bytes := toStr ([[.int (IntKind.wrap .u8 (w64 (48 + (Int.tmod k 10))))]])
def mtl : Nat → Int → Bytes → Bytes
  | 0, _, o => o
  | n + 1, k, o => bif decide (0 < k) then mtl n (w64 (Int.tdiv k 10)) (mtD k ++ o) else o
def markText (k : Int) : Bytes := bif decide (k ≤ 0) then [109, 48] else [109] ++ mtl 25 k []
theorem laws_markText_c {α : Type} (bad : α) (k_ : Bytes → α) (k : Int) (h_k : WtC (.int .i64) (.int k)) : ∃ N, laws_markText_f bad k_ N k = k_ (markText k) := by
  have h63 := wt_int h_k
  refine ⟨26, ?_⟩
  have key : ∀ (n : Nat) (k : Int) (o : Bytes), 0 ≤ k → k ≤ 9223372036854775807 → k < 10 ^ n → o.length + n ≤ 100 →
      laws_markText_L0 bad k_ 26 (n + 1) k o = k_ ([109] ++ mtl n k o) := by
    intro n
    induction n with
    | zero =>
      intro k o h0 h1 h2 h3
      have : k = 0 := by simp only [Int.pow_zero] at h2; omega
      subst this
      rw [laws_markText_L0_s]
      have c1 : catOk [109] o = true := by simp only [catOk, List.length_cons, List.length_nil, decide_eq_true_eq]; omega
      simp only [laws_markText_l0, c1, andt_true_l, cond_true, mtl]
      rfl
    | succ n ih =>
      intro k o h0 h1 h2 h3
      rw [laws_markText_L0_s]
      have c1 : catOk [109] o = true := by simp only [catOk, List.length_cons, List.length_nil, decide_eq_true_eq]; omega
      by_cases hk : 0 < k
      · have l1 : (mtD k).length = 1 := rfl
        have c2 : catOk (mtD k) o = true := by simp only [catOk, l1, decide_eq_true_eq]; omega
        have e1 : Int.tdiv k 10 = k / 10 := Int.tdiv_eq_ediv_of_nonneg h0
        have e2 : w64 (Int.tdiv k 10) = k / 10 := by rw [e1]; exact w64_in (by omega) (by omega)
        have := ih (k / 10) (mtD k ++ o) (by omega) (by omega) (by rw [Int.pow_succ] at h2; omega) (by rw [List.length_append, l1]; omega)
        have hd : decide (0 < k) = true := decide_eq_true hk
        unfold laws_markText_l0 mtl
        rw [hd, e2]
        show (bif andt true (catOk (mtD k) o) then _ else bad) = _
        rw [c2]
        exact this
      · have hd : decide (0 < k) = false := decide_eq_false hk
        simp only [laws_markText_l0, hd, c1, andt_true_l, cond_true, cond_false, mtl]
  unfold laws_markText_f laws_markText_t markText
  by_cases h : k ≤ 0
  · simp only [decide_eq_true h, cond_true]
  · simp only [decide_eq_false h, cond_false]
    exact key 25 k [] (by omega) (by omega) (by omega) (by simp)

def laws_markStringS_l0 {α : Type} (bad : α) (k_ : Int → Rows → α) (ih0 : Int → Int → Rows → α) (k_1 : Int) (i : Int) (a_1 : Rows) : α :=
  bif decide (i < len a_1) then
    bif andt (andt true (idx i a_1)) (inl (Int.toNat i) a_1) then
      ih0 (w64 (k_1 + 1)) (w64 (i + 1)) (List.set a_1 (Int.toNat i) (splice (nth a_1 (Int.toNat i)) 0 [.str (markText k_1)]))
    else bad
  else k_ k_1 a_1
def laws_markStringS_L0 {α : Type} (bad : α) (k_ : Int → Rows → α) (N : Nat) (m_ : Nat) : Int → Int → Rows → α :=
  Nat.rec (motive := fun _ => Int → Int → Rows → α) (fun _ _ _ => bad) (fun _ ih0 => laws_markStringS_l0 bad k_ ih0) m_
theorem laws_markStringS_L0_z {α : Type} (bad : α) (k_ : Int → Rows → α) (N : Nat) (k_1 : Int) (i : Int) (a_1 : Rows) : laws_markStringS_L0 bad k_ N 0 k_1 i a_1 = bad := rfl
theorem laws_markStringS_L0_s {α : Type} (bad : α) (k_ : Int → Rows → α) (N : Nat) (m_ : Nat) (k_1 : Int) (i : Int) (a_1 : Rows) : laws_markStringS_L0 bad k_ N (m_ + 1) k_1 i a_1 = laws_markStringS_l0 bad k_ (laws_markStringS_L0 bad k_ N m_) k_1 i a_1 := rfl
def laws_markStringS_t {α : Type} (bad : α) (k_ : Int → Rows → α) (l0 : Int → Int → Rows → α) (a : Rows) (k : Int) : α :=
  l0 k 0 a
def laws_markStringS_f {α : Type} (bad : α) (k_ : Int → Rows → α) (N : Nat) (a : Rows) (k : Int) : α := laws_markStringS_t bad k_ (laws_markStringS_L0 bad k_ N N) a k
def fStringS (k : Int) : List DC := [.str (markText k)]
def markStringS (a : Rows) (k : Int) : Int × Rows := (k + 1 * a.length, mkl fStringS 1 a.length k)
theorem laws_markStringS_c {α : Type} (bad : α) (k_ : Int → Rows → α) (a : Rows) (k : Int) (h_a : WtC (.sl [.str]) (.sl a)) (h_k : WtC (.int .i64) (.int k)) (hok : mko 1 a k = true) : ∃ N, laws_markStringS_f bad k_ N a k = k_ (markStringS a k).1 (markStringS a k).2 := by
  obtain ⟨hl, hw⟩ := wt_sl h_a
  obtain ⟨h1, h2, h3⟩ := mko_of hok
  refine ⟨a.length + 1, ?_⟩
  unfold laws_markStringS_f laws_markStringS_t markStringS
  refine mark_loop a k 1 fStringS (laws_markStringS_L0 bad k_ (a.length + 1)) k_ ?_ ?_
  · intro n i b h hb hn
    rw [laws_markStringS_L0_s]
    have w1 : w64 (k + 1 * (i : Int) + 1) = k + 1 * (i : Int) + 1 := w64_in (by omega) (by omega)
    have hs : splice (nth a i) 0 (fStringS (k + 1 * (i : Int))) = fStringS (k + 1 * (i : Int)) := splice_all (by rw [wtl_len (hw (nth a i) (nth_mem h))]; rfl)
    simp only [laws_markStringS_l0, lt_len (show i < b.length by omega), idx_nat (show i < b.length by omega), inl_nat (show i < b.length by omega), w64_succ h hl, Int.toNat_natCast, andt_true_l, andt_true_r, cond_true, hn, w1]
    rw [← hs]; rfl
  · intro n b hb
    rw [laws_markStringS_L0_s]
    simp only [laws_markStringS_l0, ← hb, not_lt_len, cond_false]

end
end Go.Proofs.YthpmalpdnnbkgaaGreat.Pl
