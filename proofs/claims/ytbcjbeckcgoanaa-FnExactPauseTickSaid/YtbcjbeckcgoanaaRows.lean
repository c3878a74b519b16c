/-
  No cell of these rows narrows 'for every input' (looked for: loops, veiled, ifaces, maps, wideKeys, modest, calm, conditions, laid).
  DERIVED. THE GIVEN ROWS OF THIS SEAT. 4 by the template 'for every input the law returns true; each argument reads behind the call as it read before'; 0 by the template 'total and deterministic' (their statements: YtbcjbeckcgoanaaTotals.lean).
  GIVEN WITH THE SEED: the statements are not yours to turn. If you find one false, say at which input.
  Laid BY PROGRAM, IN A SANDBOX (cutbox-rows.mjs): the forced cells as the released guide's own fill.sh prints them over the translation 6f056d952e629c34… (all of the seat's roots in one cut). By AI agents, Wed Nov 11 2026. No macro, syntax, notation, axiom, sorry.
-/
import Derived.Test.YtbcjbeckcgoanaaChecked
import GoSem.Claim
import GoSem.ClaimJoined
import GoSem.ClaimMapViews
import Derived.JoinedTies
import Derived.KernelRfl
namespace Go.Proofs.Ytbcjbeckcgoanaa
/- THE CELL 'sum', in the pinned program and in every row, IS THE sha256 OF THE DUMP (.gsa) THAT YtbcjbeckcgoanaaProg.lean LOADS. Nothing in Lean hashes anything: it is a label: what it is worth is what the hold of that sum in a sandbox is worth. -/
noncomputable def Try.pinned : Pinned := { name := "ytbcjbeckcgoanaa", sum := "6f056d952e629c347528840869aa094797c652b26febf5f80f507bd0dea66bd9", checked := Try.checked }
namespace Rows
def none {H : Type} : Left H := { results := [], args := [] }

/-- 'laws.FnExactPauseOk': WHATEVER THE INPUT: true; the input reads as it did. -/
def fnExactPauseOkSpec : ChangeSpec := { name := "fnExactPauseOk", fn := fun _ => fun
  | [d] => { results := [.lit (.bool true)], args := [d] }
  | _ => none }
def fnExactPauseOkRow : OpenClaim := { program := "ytbcjbeckcgoanaa", sum := "6f056d952e629c347528840869aa094797c652b26febf5f80f507bd0dea66bd9", func := "loop.example/g03312/laws.FnExactPauseOk", spec := "fnExactPauseOk", apart := false }
def FnExactPauseOkSaid : Prop := fnExactPauseOkRow.holds Try.pinned (OpenSpec.ofChange fnExactPauseOkSpec)

/-- ITS FALSE NEIGHBOUR: 'it returns false'. Refute it at one input. -/
def fnExactPauseOkWrong : ChangeSpec := { name := "fnExactPauseOk", fn := fun _ => fun
  | [d] => { results := [.lit (.bool false)], args := [d] }
  | _ => none }
def FnExactPauseOkWrongFalsely : Prop := fnExactPauseOkRow.holds Try.pinned (OpenSpec.ofChange fnExactPauseOkWrong)

/-- 'laws.FnExactNewPauseLink': WHATEVER THE INPUT: true; the input reads as it did. -/
def fnExactNewPauseLinkSpec : ChangeSpec := { name := "fnExactNewPauseLink", fn := fun _ => fun
  | [d1, d2, d3, d4] => { results := [.lit (.bool true)], args := [d1, d2, d3, d4] }
  | _ => none }
def fnExactNewPauseLinkRow : OpenClaim := { program := "ytbcjbeckcgoanaa", sum := "6f056d952e629c347528840869aa094797c652b26febf5f80f507bd0dea66bd9", func := "loop.example/g03312/laws.FnExactNewPauseLink", spec := "fnExactNewPauseLink", apart := false }
def FnExactNewPauseLinkSaid : Prop := fnExactNewPauseLinkRow.holds Try.pinned (OpenSpec.ofChange fnExactNewPauseLinkSpec)

/-- ITS FALSE NEIGHBOUR: 'it returns false'. Refute it at one input. -/
def fnExactNewPauseLinkWrong : ChangeSpec := { name := "fnExactNewPauseLink", fn := fun _ => fun
  | [d1, d2, d3, d4] => { results := [.lit (.bool false)], args := [d1, d2, d3, d4] }
  | _ => none }
def FnExactNewPauseLinkWrongFalsely : Prop := fnExactNewPauseLinkRow.holds Try.pinned (OpenSpec.ofChange fnExactNewPauseLinkWrong)

/-- 'laws.FnExactPauseTick': WHATEVER THE INPUT: true; the input reads as it did. -/
def fnExactPauseTickSpec : ChangeSpec := { name := "fnExactPauseTick", fn := fun _ => fun
  | [d1, d2, d3] => { results := [.lit (.bool true)], args := [d1, d2, d3] }
  | _ => none }
def fnExactPauseTickRow : OpenClaim := { program := "ytbcjbeckcgoanaa", sum := "6f056d952e629c347528840869aa094797c652b26febf5f80f507bd0dea66bd9", func := "loop.example/g03312/laws.FnExactPauseTick", spec := "fnExactPauseTick", apart := false }
def FnExactPauseTickSaid : Prop := fnExactPauseTickRow.holds Try.pinned (OpenSpec.ofChange fnExactPauseTickSpec)

/-- ITS FALSE NEIGHBOUR: 'it returns false'. Refute it at one input. -/
def fnExactPauseTickWrong : ChangeSpec := { name := "fnExactPauseTick", fn := fun _ => fun
  | [d1, d2, d3] => { results := [.lit (.bool false)], args := [d1, d2, d3] }
  | _ => none }
def FnExactPauseTickWrongFalsely : Prop := fnExactPauseTickRow.holds Try.pinned (OpenSpec.ofChange fnExactPauseTickWrong)

/-- 'laws.FnExactPauseRun': WHATEVER THE INPUT: true; the input reads as it did. -/
def fnExactPauseRunSpec : ChangeSpec := { name := "fnExactPauseRun", fn := fun _ => fun
  | [d1, d2, d3] => { results := [.lit (.bool true)], args := [d1, d2, d3] }
  | _ => none }
def fnExactPauseRunRow : OpenClaim := { program := "ytbcjbeckcgoanaa", sum := "6f056d952e629c347528840869aa094797c652b26febf5f80f507bd0dea66bd9", func := "loop.example/g03312/laws.FnExactPauseRun", spec := "fnExactPauseRun", apart := false }
def FnExactPauseRunSaid : Prop := fnExactPauseRunRow.holds Try.pinned (OpenSpec.ofChange fnExactPauseRunSpec)

/-- ITS FALSE NEIGHBOUR: 'it returns false'. Refute it at one input. -/
def fnExactPauseRunWrong : ChangeSpec := { name := "fnExactPauseRun", fn := fun _ => fun
  | [d1, d2, d3] => { results := [.lit (.bool false)], args := [d1, d2, d3] }
  | _ => none }
def FnExactPauseRunWrongFalsely : Prop := fnExactPauseRunRow.holds Try.pinned (OpenSpec.ofChange fnExactPauseRunWrong)

/- THE SECOND FORM. 'bulk': how many values and letters a reading holds, each counted each time it is reached (what is shared counts as often as it is met; a slice's spare places count too). A statement '..UptoSaid' is the law's where the arguments, and the package variables that the reading takes, are together of bulk at most 1048576: NARROWER than '..Said'. Prove '..Said' where nothing that the law and all that it calls make is longer than what came in: it says more and counts as full. Else prove '..UptoSaid'. A law counts once. -/
mutual
def uptoBulk {H : Type} : DataW H → Nat
  | .lit (.string bytes) => bytes.length + 1
  | .lit _ => 1
  | .nil => 1
  | .ptr d => uptoBulk d + 1
  | .slice elems spare => uptoBulkAll elems + uptoBulkAll spare + 1
  | .agg parts => uptoBulkAll parts + 1
  | .iface _ d => uptoBulk d + 1
  | .map entries => uptoBulkEntries entries + 1
  | .held _ => 1
def uptoBulkAll {H : Type} : List (DataW H) → Nat
  | [] => 0
  | d :: r => uptoBulk d + uptoBulkAll r
def uptoBulkEntries {H : Type} : List (Lit × DataW H) → Nat
  | [] => 0
  | x :: r => uptoBulkEntry x + uptoBulkEntries r
def uptoBulkEntry {H : Type} : Lit × DataW H → Nat
  | (.string bytes, d) => bytes.length + uptoBulk d + 1
  | (_, d) => uptoBulk d + 1
 end
def uptoSmall : (H : Type) → List (DataW H) → Bool := fun _ ds => decide (uptoBulkAll ds ≤ 1048576)
def OpenSpec.upto (s : _root_.Go.ChangeSpec) : _root_.Go.OpenSpec := { _root_.Go.OpenSpec.ofChange s with cond := some uptoSmall }

/-- 'laws.FnExactPauseOk', WHERE WHAT IT READS IS OF BULK AT MOST 1048576: true; the input reads as it did. -/
def fnExactPauseOkUptoRow : OpenClaim := { program := "ytbcjbeckcgoanaa", sum := "6f056d952e629c347528840869aa094797c652b26febf5f80f507bd0dea66bd9", func := "loop.example/g03312/laws.FnExactPauseOk", spec := "fnExactPauseOk", apart := false, narrowed := true }
def FnExactPauseOkUptoSaid : Prop := fnExactPauseOkUptoRow.holds Try.pinned (OpenSpec.upto fnExactPauseOkSpec)

/-- 'laws.FnExactNewPauseLink', WHERE WHAT IT READS IS OF BULK AT MOST 1048576: true; the input reads as it did. -/
def fnExactNewPauseLinkUptoRow : OpenClaim := { program := "ytbcjbeckcgoanaa", sum := "6f056d952e629c347528840869aa094797c652b26febf5f80f507bd0dea66bd9", func := "loop.example/g03312/laws.FnExactNewPauseLink", spec := "fnExactNewPauseLink", apart := false, narrowed := true }
def FnExactNewPauseLinkUptoSaid : Prop := fnExactNewPauseLinkUptoRow.holds Try.pinned (OpenSpec.upto fnExactNewPauseLinkSpec)

/-- 'laws.FnExactPauseTick', WHERE WHAT IT READS IS OF BULK AT MOST 1048576: true; the input reads as it did. -/
def fnExactPauseTickUptoRow : OpenClaim := { program := "ytbcjbeckcgoanaa", sum := "6f056d952e629c347528840869aa094797c652b26febf5f80f507bd0dea66bd9", func := "loop.example/g03312/laws.FnExactPauseTick", spec := "fnExactPauseTick", apart := false, narrowed := true }
def FnExactPauseTickUptoSaid : Prop := fnExactPauseTickUptoRow.holds Try.pinned (OpenSpec.upto fnExactPauseTickSpec)

/-- 'laws.FnExactPauseRun', WHERE WHAT IT READS IS OF BULK AT MOST 1048576: true; the input reads as it did. -/
def fnExactPauseRunUptoRow : OpenClaim := { program := "ytbcjbeckcgoanaa", sum := "6f056d952e629c347528840869aa094797c652b26febf5f80f507bd0dea66bd9", func := "loop.example/g03312/laws.FnExactPauseRun", spec := "fnExactPauseRun", apart := false, narrowed := true }
def FnExactPauseRunUptoSaid : Prop := fnExactPauseRunUptoRow.holds Try.pinned (OpenSpec.upto fnExactPauseRunSpec)

end Rows
end Go.Proofs.Ytbcjbeckcgoanaa
