/-
  No cell of these rows narrows 'for every input' (looked for: loops, veiled, ifaces, maps, wideKeys, modest, calm, conditions, laid).
  DERIVED. THE GIVEN ROWS OF THIS SEAT. 9 by the template 'for every input the law returns true; each argument reads behind the call as it read before'; 0 by the template 'total and deterministic' (their statements: YtpkkffngnchieaaTotals.lean).
  GIVEN WITH THE SEED: the statements are not yours to turn. If you find one false, say at which input.
  Laid BY PROGRAM, IN A SANDBOX (cutbox-rows.mjs): the forced cells as the released guide's own fill.sh prints them over the translation be08ccf5fa946029… (all of the seat's roots in one cut). By AI agents, Wed Nov 11 2026. No macro, syntax, notation, axiom, sorry.
-/
import Derived.Test.YtpkkffngnchieaaChecked
import GoSem.Claim
import GoSem.ClaimJoined
import GoSem.ClaimMapViews
import Derived.JoinedTies
import Derived.KernelRfl
namespace Go.Proofs.Ytpkkffngnchieaa
/- THE CELL 'sum', in the pinned program and in every row, IS THE sha256 OF THE DUMP (.gsa) THAT YtpkkffngnchieaaProg.lean LOADS. Nothing in Lean hashes anything: it is a label: what it is worth is what the hold of that sum in a sandbox is worth. -/
noncomputable def Try.pinned : Pinned := { name := "ytpkkffngnchieaa", sum := "be08ccf5fa946029e707c5694470f7d0bcac5e000924d1d57e60c033a0a9d0f9", checked := Try.checked }
namespace Rows
def none {H : Type} : Left H := { results := [], args := [] }

/-- 'laws.FnExactClockOk': WHATEVER THE INPUT: true; the input reads as it did. -/
def fnExactClockOkSpec : ChangeSpec := { name := "fnExactClockOk", fn := fun _ => fun
  | [d] => { results := [.lit (.bool true)], args := [d] }
  | _ => none }
def fnExactClockOkRow : OpenClaim := { program := "ytpkkffngnchieaa", sum := "be08ccf5fa946029e707c5694470f7d0bcac5e000924d1d57e60c033a0a9d0f9", func := "loop.example/g03312/laws.FnExactClockOk", spec := "fnExactClockOk", apart := false }
def FnExactClockOkSaid : Prop := fnExactClockOkRow.holds Try.pinned (OpenSpec.ofChange fnExactClockOkSpec)

/-- ITS FALSE NEIGHBOUR: 'it returns false'. Refute it at one input. -/
def fnExactClockOkWrong : ChangeSpec := { name := "fnExactClockOk", fn := fun _ => fun
  | [d] => { results := [.lit (.bool false)], args := [d] }
  | _ => none }
def FnExactClockOkWrongFalsely : Prop := fnExactClockOkRow.holds Try.pinned (OpenSpec.ofChange fnExactClockOkWrong)

/-- 'laws.FnOffsetExact': WHATEVER THE INPUT: true; the input reads as it did. -/
def fnOffsetExactSpec : ChangeSpec := { name := "fnOffsetExact", fn := fun _ => fun
  | [d] => { results := [.lit (.bool true)], args := [d] }
  | _ => none }
def fnOffsetExactRow : OpenClaim := { program := "ytpkkffngnchieaa", sum := "be08ccf5fa946029e707c5694470f7d0bcac5e000924d1d57e60c033a0a9d0f9", func := "loop.example/g03312/laws.FnOffsetExact", spec := "fnOffsetExact", apart := false }
def FnOffsetExactSaid : Prop := fnOffsetExactRow.holds Try.pinned (OpenSpec.ofChange fnOffsetExactSpec)

/-- ITS FALSE NEIGHBOUR: 'it returns false'. Refute it at one input. -/
def fnOffsetExactWrong : ChangeSpec := { name := "fnOffsetExact", fn := fun _ => fun
  | [d] => { results := [.lit (.bool false)], args := [d] }
  | _ => none }
def FnOffsetExactWrongFalsely : Prop := fnOffsetExactRow.holds Try.pinned (OpenSpec.ofChange fnOffsetExactWrong)

/-- 'laws.FnExactDelayOf': WHATEVER THE INPUT: true; the input reads as it did. -/
def fnExactDelayOfSpec : ChangeSpec := { name := "fnExactDelayOf", fn := fun _ => fun
  | [d1, d2, d3, d4] => { results := [.lit (.bool true)], args := [d1, d2, d3, d4] }
  | _ => none }
def fnExactDelayOfRow : OpenClaim := { program := "ytpkkffngnchieaa", sum := "be08ccf5fa946029e707c5694470f7d0bcac5e000924d1d57e60c033a0a9d0f9", func := "loop.example/g03312/laws.FnExactDelayOf", spec := "fnExactDelayOf", apart := false }
def FnExactDelayOfSaid : Prop := fnExactDelayOfRow.holds Try.pinned (OpenSpec.ofChange fnExactDelayOfSpec)

/-- ITS FALSE NEIGHBOUR: 'it returns false'. Refute it at one input. -/
def fnExactDelayOfWrong : ChangeSpec := { name := "fnExactDelayOf", fn := fun _ => fun
  | [d1, d2, d3, d4] => { results := [.lit (.bool false)], args := [d1, d2, d3, d4] }
  | _ => none }
def FnExactDelayOfWrongFalsely : Prop := fnExactDelayOfRow.holds Try.pinned (OpenSpec.ofChange fnExactDelayOfWrong)

/-- 'laws.FnExactOffsetOf': WHATEVER THE INPUT: true; the input reads as it did. -/
def fnExactOffsetOfSpec : ChangeSpec := { name := "fnExactOffsetOf", fn := fun _ => fun
  | [d1, d2, d3, d4] => { results := [.lit (.bool true)], args := [d1, d2, d3, d4] }
  | _ => none }
def fnExactOffsetOfRow : OpenClaim := { program := "ytpkkffngnchieaa", sum := "be08ccf5fa946029e707c5694470f7d0bcac5e000924d1d57e60c033a0a9d0f9", func := "loop.example/g03312/laws.FnExactOffsetOf", spec := "fnExactOffsetOf", apart := false }
def FnExactOffsetOfSaid : Prop := fnExactOffsetOfRow.holds Try.pinned (OpenSpec.ofChange fnExactOffsetOfSpec)

/-- ITS FALSE NEIGHBOUR: 'it returns false'. Refute it at one input. -/
def fnExactOffsetOfWrong : ChangeSpec := { name := "fnExactOffsetOf", fn := fun _ => fun
  | [d1, d2, d3, d4] => { results := [.lit (.bool false)], args := [d1, d2, d3, d4] }
  | _ => none }
def FnExactOffsetOfWrongFalsely : Prop := fnExactOffsetOfRow.holds Try.pinned (OpenSpec.ofChange fnExactOffsetOfWrong)

/-- 'laws.FnExactTrimClock': WHATEVER THE INPUT: true; the input reads as it did. -/
def fnExactTrimClockSpec : ChangeSpec := { name := "fnExactTrimClock", fn := fun _ => fun
  | [d1, d2] => { results := [.lit (.bool true)], args := [d1, d2] }
  | _ => none }
def fnExactTrimClockRow : OpenClaim := { program := "ytpkkffngnchieaa", sum := "be08ccf5fa946029e707c5694470f7d0bcac5e000924d1d57e60c033a0a9d0f9", func := "loop.example/g03312/laws.FnExactTrimClock", spec := "fnExactTrimClock", apart := false }
def FnExactTrimClockSaid : Prop := fnExactTrimClockRow.holds Try.pinned (OpenSpec.ofChange fnExactTrimClockSpec)

/-- ITS FALSE NEIGHBOUR: 'it returns false'. Refute it at one input. -/
def fnExactTrimClockWrong : ChangeSpec := { name := "fnExactTrimClock", fn := fun _ => fun
  | [d1, d2] => { results := [.lit (.bool false)], args := [d1, d2] }
  | _ => none }
def FnExactTrimClockWrongFalsely : Prop := fnExactTrimClockRow.holds Try.pinned (OpenSpec.ofChange fnExactTrimClockWrong)

/-- 'laws.FnClockParts': WHATEVER THE INPUT: true; the input reads as it did. -/
def fnClockPartsSpec : ChangeSpec := { name := "fnClockParts", fn := fun _ => fun
  | [d] => { results := [.lit (.bool true)], args := [d] }
  | _ => none }
def fnClockPartsRow : OpenClaim := { program := "ytpkkffngnchieaa", sum := "be08ccf5fa946029e707c5694470f7d0bcac5e000924d1d57e60c033a0a9d0f9", func := "loop.example/g03312/laws.FnClockParts", spec := "fnClockParts", apart := false }
def FnClockPartsSaid : Prop := fnClockPartsRow.holds Try.pinned (OpenSpec.ofChange fnClockPartsSpec)

/-- ITS FALSE NEIGHBOUR: 'it returns false'. Refute it at one input. -/
def fnClockPartsWrong : ChangeSpec := { name := "fnClockParts", fn := fun _ => fun
  | [d] => { results := [.lit (.bool false)], args := [d] }
  | _ => none }
def FnClockPartsWrongFalsely : Prop := fnClockPartsRow.holds Try.pinned (OpenSpec.ofChange fnClockPartsWrong)

/-- 'laws.FnExactAdvanceClock': WHATEVER THE INPUT: true; the input reads as it did. -/
def fnExactAdvanceClockSpec : ChangeSpec := { name := "fnExactAdvanceClock", fn := fun _ => fun
  | [d1, d2] => { results := [.lit (.bool true)], args := [d1, d2] }
  | _ => none }
def fnExactAdvanceClockRow : OpenClaim := { program := "ytpkkffngnchieaa", sum := "be08ccf5fa946029e707c5694470f7d0bcac5e000924d1d57e60c033a0a9d0f9", func := "loop.example/g03312/laws.FnExactAdvanceClock", spec := "fnExactAdvanceClock", apart := false }
def FnExactAdvanceClockSaid : Prop := fnExactAdvanceClockRow.holds Try.pinned (OpenSpec.ofChange fnExactAdvanceClockSpec)

/-- ITS FALSE NEIGHBOUR: 'it returns false'. Refute it at one input. -/
def fnExactAdvanceClockWrong : ChangeSpec := { name := "fnExactAdvanceClock", fn := fun _ => fun
  | [d1, d2] => { results := [.lit (.bool false)], args := [d1, d2] }
  | _ => none }
def FnExactAdvanceClockWrongFalsely : Prop := fnExactAdvanceClockRow.holds Try.pinned (OpenSpec.ofChange fnExactAdvanceClockWrong)

/-- 'laws.FnExactStepClock': WHATEVER THE INPUT: true; the input reads as it did. -/
def fnExactStepClockSpec : ChangeSpec := { name := "fnExactStepClock", fn := fun _ => fun
  | [d1, d2] => { results := [.lit (.bool true)], args := [d1, d2] }
  | _ => none }
def fnExactStepClockRow : OpenClaim := { program := "ytpkkffngnchieaa", sum := "be08ccf5fa946029e707c5694470f7d0bcac5e000924d1d57e60c033a0a9d0f9", func := "loop.example/g03312/laws.FnExactStepClock", spec := "fnExactStepClock", apart := false }
def FnExactStepClockSaid : Prop := fnExactStepClockRow.holds Try.pinned (OpenSpec.ofChange fnExactStepClockSpec)

/-- ITS FALSE NEIGHBOUR: 'it returns false'. Refute it at one input. -/
def fnExactStepClockWrong : ChangeSpec := { name := "fnExactStepClock", fn := fun _ => fun
  | [d1, d2] => { results := [.lit (.bool false)], args := [d1, d2] }
  | _ => none }
def FnExactStepClockWrongFalsely : Prop := fnExactStepClockRow.holds Try.pinned (OpenSpec.ofChange fnExactStepClockWrong)

/-- 'laws.FnClockForward': WHATEVER THE INPUT: true; the input reads as it did. -/
def fnClockForwardSpec : ChangeSpec := { name := "fnClockForward", fn := fun _ => fun
  | [d] => { results := [.lit (.bool true)], args := [d] }
  | _ => none }
def fnClockForwardRow : OpenClaim := { program := "ytpkkffngnchieaa", sum := "be08ccf5fa946029e707c5694470f7d0bcac5e000924d1d57e60c033a0a9d0f9", func := "loop.example/g03312/laws.FnClockForward", spec := "fnClockForward", apart := false }
def FnClockForwardSaid : Prop := fnClockForwardRow.holds Try.pinned (OpenSpec.ofChange fnClockForwardSpec)

/-- ITS FALSE NEIGHBOUR: 'it returns false'. Refute it at one input. -/
def fnClockForwardWrong : ChangeSpec := { name := "fnClockForward", fn := fun _ => fun
  | [d] => { results := [.lit (.bool false)], args := [d] }
  | _ => none }
def FnClockForwardWrongFalsely : Prop := fnClockForwardRow.holds Try.pinned (OpenSpec.ofChange fnClockForwardWrong)

/- THE SECOND FORM. 'bulk': how many values and letters a reading holds, each counted each time it is reached (what is shared counts as often as it is met; a slice's spare places count too). A statement '..UptoSaid' is the law's where the arguments, and the package variables that the reading takes, are together of bulk at most 1048576: NARROWER than '..Said'. Prove '..Said' where nothing that the law and all that it calls make is longer than what came in: it says more and counts as full. Else prove '..UptoSaid'. A law counts once. -/
mutual
def uptoBulk {H : Type} : DataW H → Nat
  | .lit (.string bytes) => bytes.length + 1
  | .lit _ => 1
  | .nil => 1
  | .ptr d => uptoBulk d + 1
  | .slice elems spare => uptoBulkAll elems + uptoBulkAll spare + 1
  | .agg parts => uptoBulkAll parts + 1
  | .iface _ d => uptoBulk d + 1
  | .map entries => uptoBulkEntries entries + 1
  | .held _ => 1
def uptoBulkAll {H : Type} : List (DataW H) → Nat
  | [] => 0
  | d :: r => uptoBulk d + uptoBulkAll r
def uptoBulkEntries {H : Type} : List (Lit × DataW H) → Nat
  | [] => 0
  | x :: r => uptoBulkEntry x + uptoBulkEntries r
def uptoBulkEntry {H : Type} : Lit × DataW H → Nat
  | (.string bytes, d) => bytes.length + uptoBulk d + 1
  | (_, d) => uptoBulk d + 1
 end
def uptoSmall : (H : Type) → List (DataW H) → Bool := fun _ ds => decide (uptoBulkAll ds ≤ 1048576)
def OpenSpec.upto (s : _root_.Go.ChangeSpec) : _root_.Go.OpenSpec := { _root_.Go.OpenSpec.ofChange s with cond := some uptoSmall }

/-- 'laws.FnExactClockOk', WHERE WHAT IT READS IS OF BULK AT MOST 1048576: true; the input reads as it did. -/
def fnExactClockOkUptoRow : OpenClaim := { program := "ytpkkffngnchieaa", sum := "be08ccf5fa946029e707c5694470f7d0bcac5e000924d1d57e60c033a0a9d0f9", func := "loop.example/g03312/laws.FnExactClockOk", spec := "fnExactClockOk", apart := false, narrowed := true }
def FnExactClockOkUptoSaid : Prop := fnExactClockOkUptoRow.holds Try.pinned (OpenSpec.upto fnExactClockOkSpec)

/-- 'laws.FnOffsetExact', WHERE WHAT IT READS IS OF BULK AT MOST 1048576: true; the input reads as it did. -/
def fnOffsetExactUptoRow : OpenClaim := { program := "ytpkkffngnchieaa", sum := "be08ccf5fa946029e707c5694470f7d0bcac5e000924d1d57e60c033a0a9d0f9", func := "loop.example/g03312/laws.FnOffsetExact", spec := "fnOffsetExact", apart := false, narrowed := true }
def FnOffsetExactUptoSaid : Prop := fnOffsetExactUptoRow.holds Try.pinned (OpenSpec.upto fnOffsetExactSpec)

/-- 'laws.FnExactDelayOf', WHERE WHAT IT READS IS OF BULK AT MOST 1048576: true; the input reads as it did. -/
def fnExactDelayOfUptoRow : OpenClaim := { program := "ytpkkffngnchieaa", sum := "be08ccf5fa946029e707c5694470f7d0bcac5e000924d1d57e60c033a0a9d0f9", func := "loop.example/g03312/laws.FnExactDelayOf", spec := "fnExactDelayOf", apart := false, narrowed := true }
def FnExactDelayOfUptoSaid : Prop := fnExactDelayOfUptoRow.holds Try.pinned (OpenSpec.upto fnExactDelayOfSpec)

/-- 'laws.FnExactOffsetOf', WHERE WHAT IT READS IS OF BULK AT MOST 1048576: true; the input reads as it did. -/
def fnExactOffsetOfUptoRow : OpenClaim := { program := "ytpkkffngnchieaa", sum := "be08ccf5fa946029e707c5694470f7d0bcac5e000924d1d57e60c033a0a9d0f9", func := "loop.example/g03312/laws.FnExactOffsetOf", spec := "fnExactOffsetOf", apart := false, narrowed := true }
def FnExactOffsetOfUptoSaid : Prop := fnExactOffsetOfUptoRow.holds Try.pinned (OpenSpec.upto fnExactOffsetOfSpec)

/-- 'laws.FnExactTrimClock', WHERE WHAT IT READS IS OF BULK AT MOST 1048576: true; the input reads as it did. -/
def fnExactTrimClockUptoRow : OpenClaim := { program := "ytpkkffngnchieaa", sum := "be08ccf5fa946029e707c5694470f7d0bcac5e000924d1d57e60c033a0a9d0f9", func := "loop.example/g03312/laws.FnExactTrimClock", spec := "fnExactTrimClock", apart := false, narrowed := true }
def FnExactTrimClockUptoSaid : Prop := fnExactTrimClockUptoRow.holds Try.pinned (OpenSpec.upto fnExactTrimClockSpec)

/-- 'laws.FnClockParts', WHERE WHAT IT READS IS OF BULK AT MOST 1048576: true; the input reads as it did. -/
def fnClockPartsUptoRow : OpenClaim := { program := "ytpkkffngnchieaa", sum := "be08ccf5fa946029e707c5694470f7d0bcac5e000924d1d57e60c033a0a9d0f9", func := "loop.example/g03312/laws.FnClockParts", spec := "fnClockParts", apart := false, narrowed := true }
def FnClockPartsUptoSaid : Prop := fnClockPartsUptoRow.holds Try.pinned (OpenSpec.upto fnClockPartsSpec)

/-- 'laws.FnExactAdvanceClock', WHERE WHAT IT READS IS OF BULK AT MOST 1048576: true; the input reads as it did. -/
def fnExactAdvanceClockUptoRow : OpenClaim := { program := "ytpkkffngnchieaa", sum := "be08ccf5fa946029e707c5694470f7d0bcac5e000924d1d57e60c033a0a9d0f9", func := "loop.example/g03312/laws.FnExactAdvanceClock", spec := "fnExactAdvanceClock", apart := false, narrowed := true }
def FnExactAdvanceClockUptoSaid : Prop := fnExactAdvanceClockUptoRow.holds Try.pinned (OpenSpec.upto fnExactAdvanceClockSpec)

/-- 'laws.FnExactStepClock', WHERE WHAT IT READS IS OF BULK AT MOST 1048576: true; the input reads as it did. -/
def fnExactStepClockUptoRow : OpenClaim := { program := "ytpkkffngnchieaa", sum := "be08ccf5fa946029e707c5694470f7d0bcac5e000924d1d57e60c033a0a9d0f9", func := "loop.example/g03312/laws.FnExactStepClock", spec := "fnExactStepClock", apart := false, narrowed := true }
def FnExactStepClockUptoSaid : Prop := fnExactStepClockUptoRow.holds Try.pinned (OpenSpec.upto fnExactStepClockSpec)

/-- 'laws.FnClockForward', WHERE WHAT IT READS IS OF BULK AT MOST 1048576: true; the input reads as it did. -/
def fnClockForwardUptoRow : OpenClaim := { program := "ytpkkffngnchieaa", sum := "be08ccf5fa946029e707c5694470f7d0bcac5e000924d1d57e60c033a0a9d0f9", func := "loop.example/g03312/laws.FnClockForward", spec := "fnClockForward", apart := false, narrowed := true }
def FnClockForwardUptoSaid : Prop := fnClockForwardUptoRow.holds Try.pinned (OpenSpec.upto fnClockForwardSpec)

end Rows
end Go.Proofs.Ytpkkffngnchieaa
