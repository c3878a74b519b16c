/-
  No cell of these rows narrows 'for every input' (looked for: loops, veiled, ifaces, maps, wideKeys, modest, calm, conditions, laid).
  DERIVED. THE GIVEN ROWS OF THIS SEAT. 7 by the template 'for every input the law returns true; each argument reads behind the call as it read before'; 0 by the template 'total and deterministic' (their statements: YtklbgnodgnlebaaTotals.lean).
  GIVEN WITH THE SEED: the statements are not yours to turn. If you find one false, say at which input.
  Laid BY PROGRAM, IN A SANDBOX (cutbox-rows.mjs): the forced cells as the released guide's own fill.sh prints them over the translation d7b941ce5da8f5ae… (all of the seat's roots in one cut). By AI agents, Wed Nov 11 2026. No macro, syntax, notation, axiom, sorry.
-/
import Derived.Test.YtklbgnodgnlebaaChecked
import GoSem.Claim
import GoSem.ClaimJoined
import GoSem.ClaimMapViews
import Derived.JoinedTies
import Derived.KernelRfl
namespace Go.Proofs.Ytklbgnodgnlebaa
/- THE CELL 'sum', in the pinned program and in every row, IS THE sha256 OF THE DUMP (.gsa) THAT YtklbgnodgnlebaaProg.lean LOADS. Nothing in Lean hashes anything: it is a label: what it is worth is what the hold of that sum in a sandbox is worth. -/
noncomputable def Try.pinned : Pinned := { name := "ytklbgnodgnlebaa", sum := "d7b941ce5da8f5aef2715f2752852523b237fa636ec410a0783eef74c355f2d5", checked := Try.checked }
namespace Rows
def none {H : Type} : Left H := { results := [], args := [] }

/-- 'laws.FnExactPortsOk': WHATEVER THE INPUT: true; the input reads as it did. -/
def fnExactPortsOkSpec : ChangeSpec := { name := "fnExactPortsOk", fn := fun _ => fun
  | [d] => { results := [.lit (.bool true)], args := [d] }
  | _ => none }
def fnExactPortsOkRow : OpenClaim := { program := "ytklbgnodgnlebaa", sum := "d7b941ce5da8f5aef2715f2752852523b237fa636ec410a0783eef74c355f2d5", func := "loop.example/g03312/laws.FnExactPortsOk", spec := "fnExactPortsOk", apart := false }
def FnExactPortsOkSaid : Prop := fnExactPortsOkRow.holds Try.pinned (OpenSpec.ofChange fnExactPortsOkSpec)

/-- ITS FALSE NEIGHBOUR: 'it returns false'. Refute it at one input. -/
def fnExactPortsOkWrong : ChangeSpec := { name := "fnExactPortsOk", fn := fun _ => fun
  | [d] => { results := [.lit (.bool false)], args := [d] }
  | _ => none }
def FnExactPortsOkWrongFalsely : Prop := fnExactPortsOkRow.holds Try.pinned (OpenSpec.ofChange fnExactPortsOkWrong)

/-- 'laws.FnExactEntryVlan': WHATEVER THE INPUT: true; the input reads as it did. -/
def fnExactEntryVlanSpec : ChangeSpec := { name := "fnExactEntryVlan", fn := fun _ => fun
  | [d1, d2, d3] => { results := [.lit (.bool true)], args := [d1, d2, d3] }
  | _ => none }
def fnExactEntryVlanRow : OpenClaim := { program := "ytklbgnodgnlebaa", sum := "d7b941ce5da8f5aef2715f2752852523b237fa636ec410a0783eef74c355f2d5", func := "loop.example/g03312/laws.FnExactEntryVlan", spec := "fnExactEntryVlan", apart := false }
def FnExactEntryVlanSaid : Prop := fnExactEntryVlanRow.holds Try.pinned (OpenSpec.ofChange fnExactEntryVlanSpec)

/-- ITS FALSE NEIGHBOUR: 'it returns false'. Refute it at one input. -/
def fnExactEntryVlanWrong : ChangeSpec := { name := "fnExactEntryVlan", fn := fun _ => fun
  | [d1, d2, d3] => { results := [.lit (.bool false)], args := [d1, d2, d3] }
  | _ => none }
def FnExactEntryVlanWrongFalsely : Prop := fnExactEntryVlanRow.holds Try.pinned (OpenSpec.ofChange fnExactEntryVlanWrong)

/-- 'laws.FnSwitched': WHATEVER THE INPUT: true; the input reads as it did. -/
def fnSwitchedSpec : ChangeSpec := { name := "fnSwitched", fn := fun _ => fun
  | [d] => { results := [.lit (.bool true)], args := [d] }
  | _ => none }
def fnSwitchedRow : OpenClaim := { program := "ytklbgnodgnlebaa", sum := "d7b941ce5da8f5aef2715f2752852523b237fa636ec410a0783eef74c355f2d5", func := "loop.example/g03312/laws.FnSwitched", spec := "fnSwitched", apart := false }
def FnSwitchedSaid : Prop := fnSwitchedRow.holds Try.pinned (OpenSpec.ofChange fnSwitchedSpec)

/-- ITS FALSE NEIGHBOUR: 'it returns false'. Refute it at one input. -/
def fnSwitchedWrong : ChangeSpec := { name := "fnSwitched", fn := fun _ => fun
  | [d] => { results := [.lit (.bool false)], args := [d] }
  | _ => none }
def FnSwitchedWrongFalsely : Prop := fnSwitchedRow.holds Try.pinned (OpenSpec.ofChange fnSwitchedWrong)

/-- 'laws.FnSpoofStopped': WHATEVER THE INPUT: true; the input reads as it did. -/
def fnSpoofStoppedSpec : ChangeSpec := { name := "fnSpoofStopped", fn := fun _ => fun
  | [d] => { results := [.lit (.bool true)], args := [d] }
  | _ => none }
def fnSpoofStoppedRow : OpenClaim := { program := "ytklbgnodgnlebaa", sum := "d7b941ce5da8f5aef2715f2752852523b237fa636ec410a0783eef74c355f2d5", func := "loop.example/g03312/laws.FnSpoofStopped", spec := "fnSpoofStopped", apart := false }
def FnSpoofStoppedSaid : Prop := fnSpoofStoppedRow.holds Try.pinned (OpenSpec.ofChange fnSpoofStoppedSpec)

/-- ITS FALSE NEIGHBOUR: 'it returns false'. Refute it at one input. -/
def fnSpoofStoppedWrong : ChangeSpec := { name := "fnSpoofStopped", fn := fun _ => fun
  | [d] => { results := [.lit (.bool false)], args := [d] }
  | _ => none }
def FnSpoofStoppedWrongFalsely : Prop := fnSpoofStoppedRow.holds Try.pinned (OpenSpec.ofChange fnSpoofStoppedWrong)

/-- 'laws.FnExactLeavePacket': WHATEVER THE INPUT: true; the input reads as it did. -/
def fnExactLeavePacketSpec : ChangeSpec := { name := "fnExactLeavePacket", fn := fun _ => fun
  | [d1, d2, d3, d4] => { results := [.lit (.bool true)], args := [d1, d2, d3, d4] }
  | _ => none }
def fnExactLeavePacketRow : OpenClaim := { program := "ytklbgnodgnlebaa", sum := "d7b941ce5da8f5aef2715f2752852523b237fa636ec410a0783eef74c355f2d5", func := "loop.example/g03312/laws.FnExactLeavePacket", spec := "fnExactLeavePacket", apart := false }
def FnExactLeavePacketSaid : Prop := fnExactLeavePacketRow.holds Try.pinned (OpenSpec.ofChange fnExactLeavePacketSpec)

/-- ITS FALSE NEIGHBOUR: 'it returns false'. Refute it at one input. -/
def fnExactLeavePacketWrong : ChangeSpec := { name := "fnExactLeavePacket", fn := fun _ => fun
  | [d1, d2, d3, d4] => { results := [.lit (.bool false)], args := [d1, d2, d3, d4] }
  | _ => none }
def FnExactLeavePacketWrongFalsely : Prop := fnExactLeavePacketRow.holds Try.pinned (OpenSpec.ofChange fnExactLeavePacketWrong)

/-- 'laws.FnExactSwitchPacket': WHATEVER THE INPUT: true; the input reads as it did. -/
def fnExactSwitchPacketSpec : ChangeSpec := { name := "fnExactSwitchPacket", fn := fun _ => fun
  | [d1, d2, d3] => { results := [.lit (.bool true)], args := [d1, d2, d3] }
  | _ => none }
def fnExactSwitchPacketRow : OpenClaim := { program := "ytklbgnodgnlebaa", sum := "d7b941ce5da8f5aef2715f2752852523b237fa636ec410a0783eef74c355f2d5", func := "loop.example/g03312/laws.FnExactSwitchPacket", spec := "fnExactSwitchPacket", apart := false }
def FnExactSwitchPacketSaid : Prop := fnExactSwitchPacketRow.holds Try.pinned (OpenSpec.ofChange fnExactSwitchPacketSpec)

/-- ITS FALSE NEIGHBOUR: 'it returns false'. Refute it at one input. -/
def fnExactSwitchPacketWrong : ChangeSpec := { name := "fnExactSwitchPacket", fn := fun _ => fun
  | [d1, d2, d3] => { results := [.lit (.bool false)], args := [d1, d2, d3] }
  | _ => none }
def FnExactSwitchPacketWrongFalsely : Prop := fnExactSwitchPacketRow.holds Try.pinned (OpenSpec.ofChange fnExactSwitchPacketWrong)

/-- 'laws.FnExactDeliverPorts': WHATEVER THE INPUT: true; the input reads as it did. -/
def fnExactDeliverPortsSpec : ChangeSpec := { name := "fnExactDeliverPorts", fn := fun _ => fun
  | [d1, d2, d3] => { results := [.lit (.bool true)], args := [d1, d2, d3] }
  | _ => none }
def fnExactDeliverPortsRow : OpenClaim := { program := "ytklbgnodgnlebaa", sum := "d7b941ce5da8f5aef2715f2752852523b237fa636ec410a0783eef74c355f2d5", func := "loop.example/g03312/laws.FnExactDeliverPorts", spec := "fnExactDeliverPorts", apart := false }
def FnExactDeliverPortsSaid : Prop := fnExactDeliverPortsRow.holds Try.pinned (OpenSpec.ofChange fnExactDeliverPortsSpec)

/-- ITS FALSE NEIGHBOUR: 'it returns false'. Refute it at one input. -/
def fnExactDeliverPortsWrong : ChangeSpec := { name := "fnExactDeliverPorts", fn := fun _ => fun
  | [d1, d2, d3] => { results := [.lit (.bool false)], args := [d1, d2, d3] }
  | _ => none }
def FnExactDeliverPortsWrongFalsely : Prop := fnExactDeliverPortsRow.holds Try.pinned (OpenSpec.ofChange fnExactDeliverPortsWrong)

/- THE SECOND FORM. 'bulk': how many values and letters a reading holds, each counted each time it is reached (what is shared counts as often as it is met; a slice's spare places count too). A statement '..UptoSaid' is the law's where the arguments, and the package variables that the reading takes, are together of bulk at most 1048576: NARROWER than '..Said'. Prove '..Said' where nothing that the law and all that it calls make is longer than what came in: it says more and counts as full. Else prove '..UptoSaid'. A law counts once. -/
mutual
def uptoBulk {H : Type} : DataW H → Nat
  | .lit (.string bytes) => bytes.length + 1
  | .lit _ => 1
  | .nil => 1
  | .ptr d => uptoBulk d + 1
  | .slice elems spare => uptoBulkAll elems + uptoBulkAll spare + 1
  | .agg parts => uptoBulkAll parts + 1
  | .iface _ d => uptoBulk d + 1
  | .map entries => uptoBulkEntries entries + 1
  | .held _ => 1
def uptoBulkAll {H : Type} : List (DataW H) → Nat
  | [] => 0
  | d :: r => uptoBulk d + uptoBulkAll r
def uptoBulkEntries {H : Type} : List (Lit × DataW H) → Nat
  | [] => 0
  | x :: r => uptoBulkEntry x + uptoBulkEntries r
def uptoBulkEntry {H : Type} : Lit × DataW H → Nat
  | (.string bytes, d) => bytes.length + uptoBulk d + 1
  | (_, d) => uptoBulk d + 1
 end
def uptoSmall : (H : Type) → List (DataW H) → Bool := fun _ ds => decide (uptoBulkAll ds ≤ 1048576)
def OpenSpec.upto (s : _root_.Go.ChangeSpec) : _root_.Go.OpenSpec := { _root_.Go.OpenSpec.ofChange s with cond := some uptoSmall }

/-- 'laws.FnExactPortsOk', WHERE WHAT IT READS IS OF BULK AT MOST 1048576: true; the input reads as it did. -/
def fnExactPortsOkUptoRow : OpenClaim := { program := "ytklbgnodgnlebaa", sum := "d7b941ce5da8f5aef2715f2752852523b237fa636ec410a0783eef74c355f2d5", func := "loop.example/g03312/laws.FnExactPortsOk", spec := "fnExactPortsOk", apart := false, narrowed := true }
def FnExactPortsOkUptoSaid : Prop := fnExactPortsOkUptoRow.holds Try.pinned (OpenSpec.upto fnExactPortsOkSpec)

/-- 'laws.FnExactEntryVlan', WHERE WHAT IT READS IS OF BULK AT MOST 1048576: true; the input reads as it did. -/
def fnExactEntryVlanUptoRow : OpenClaim := { program := "ytklbgnodgnlebaa", sum := "d7b941ce5da8f5aef2715f2752852523b237fa636ec410a0783eef74c355f2d5", func := "loop.example/g03312/laws.FnExactEntryVlan", spec := "fnExactEntryVlan", apart := false, narrowed := true }
def FnExactEntryVlanUptoSaid : Prop := fnExactEntryVlanUptoRow.holds Try.pinned (OpenSpec.upto fnExactEntryVlanSpec)

/-- 'laws.FnSwitched', WHERE WHAT IT READS IS OF BULK AT MOST 1048576: true; the input reads as it did. -/
def fnSwitchedUptoRow : OpenClaim := { program := "ytklbgnodgnlebaa", sum := "d7b941ce5da8f5aef2715f2752852523b237fa636ec410a0783eef74c355f2d5", func := "loop.example/g03312/laws.FnSwitched", spec := "fnSwitched", apart := false, narrowed := true }
def FnSwitchedUptoSaid : Prop := fnSwitchedUptoRow.holds Try.pinned (OpenSpec.upto fnSwitchedSpec)

/-- 'laws.FnSpoofStopped', WHERE WHAT IT READS IS OF BULK AT MOST 1048576: true; the input reads as it did. -/
def fnSpoofStoppedUptoRow : OpenClaim := { program := "ytklbgnodgnlebaa", sum := "d7b941ce5da8f5aef2715f2752852523b237fa636ec410a0783eef74c355f2d5", func := "loop.example/g03312/laws.FnSpoofStopped", spec := "fnSpoofStopped", apart := false, narrowed := true }
def FnSpoofStoppedUptoSaid : Prop := fnSpoofStoppedUptoRow.holds Try.pinned (OpenSpec.upto fnSpoofStoppedSpec)

/-- 'laws.FnExactLeavePacket', WHERE WHAT IT READS IS OF BULK AT MOST 1048576: true; the input reads as it did. -/
def fnExactLeavePacketUptoRow : OpenClaim := { program := "ytklbgnodgnlebaa", sum := "d7b941ce5da8f5aef2715f2752852523b237fa636ec410a0783eef74c355f2d5", func := "loop.example/g03312/laws.FnExactLeavePacket", spec := "fnExactLeavePacket", apart := false, narrowed := true }
def FnExactLeavePacketUptoSaid : Prop := fnExactLeavePacketUptoRow.holds Try.pinned (OpenSpec.upto fnExactLeavePacketSpec)

/-- 'laws.FnExactSwitchPacket', WHERE WHAT IT READS IS OF BULK AT MOST 1048576: true; the input reads as it did. -/
def fnExactSwitchPacketUptoRow : OpenClaim := { program := "ytklbgnodgnlebaa", sum := "d7b941ce5da8f5aef2715f2752852523b237fa636ec410a0783eef74c355f2d5", func := "loop.example/g03312/laws.FnExactSwitchPacket", spec := "fnExactSwitchPacket", apart := false, narrowed := true }
def FnExactSwitchPacketUptoSaid : Prop := fnExactSwitchPacketUptoRow.holds Try.pinned (OpenSpec.upto fnExactSwitchPacketSpec)

/-- 'laws.FnExactDeliverPorts', WHERE WHAT IT READS IS OF BULK AT MOST 1048576: true; the input reads as it did. -/
def fnExactDeliverPortsUptoRow : OpenClaim := { program := "ytklbgnodgnlebaa", sum := "d7b941ce5da8f5aef2715f2752852523b237fa636ec410a0783eef74c355f2d5", func := "loop.example/g03312/laws.FnExactDeliverPorts", spec := "fnExactDeliverPorts", apart := false, narrowed := true }
def FnExactDeliverPortsUptoSaid : Prop := fnExactDeliverPortsUptoRow.holds Try.pinned (OpenSpec.upto fnExactDeliverPortsSpec)

end Rows
end Go.Proofs.Ytklbgnodgnlebaa
