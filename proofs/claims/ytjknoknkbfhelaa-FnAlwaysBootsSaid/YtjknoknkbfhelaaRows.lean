/-
  No cell of these rows narrows 'for every input' (looked for: loops, veiled, ifaces, maps, wideKeys, modest, calm, conditions, laid).
  DERIVED. THE GIVEN ROWS OF THIS SEAT. 11 by the template 'for every input the law returns true; each argument reads behind the call as it read before'; 0 by the template 'total and deterministic' (their statements: YtjknoknkbfhelaaTotals.lean).
  GIVEN WITH THE SEED: the statements are not yours to turn. If you find one false, say at which input.
  Laid BY PROGRAM, IN A SANDBOX (cutbox-rows.mjs): the forced cells as the released guide's own fill.sh prints them over the translation be79f0ad7c7babbf… (all of the seat's roots in one cut). By AI agents, Wed Nov 11 2026. No macro, syntax, notation, axiom, sorry.
-/
import Derived.Test.YtjknoknkbfhelaaChecked
import GoSem.Claim
import GoSem.ClaimJoined
import GoSem.ClaimMapViews
import Derived.JoinedTies
import Derived.KernelRfl
namespace Go.Proofs.Ytjknoknkbfhelaa
/- THE CELL 'sum', in the pinned program and in every row, IS THE sha256 OF THE DUMP (.gsa) THAT YtjknoknkbfhelaaProg.lean LOADS. Nothing in Lean hashes anything: it is a label: what it is worth is what the hold of that sum in a sandbox is worth. -/
noncomputable def Try.pinned : Pinned := { name := "ytjknoknkbfhelaa", sum := "be79f0ad7c7babbfa10f2d5c8f65b1a28fddc4deea2167f5dee0701124731760", checked := Try.checked }
namespace Rows
def none {H : Type} : Left H := { results := [], args := [] }

/-- 'laws.FnExactFlashStepOk': WHATEVER THE INPUT: true; the input reads as it did. -/
def fnExactFlashStepOkSpec : ChangeSpec := { name := "fnExactFlashStepOk", fn := fun _ => fun
  | [d] => { results := [.lit (.bool true)], args := [d] }
  | _ => none }
def fnExactFlashStepOkRow : OpenClaim := { program := "ytjknoknkbfhelaa", sum := "be79f0ad7c7babbfa10f2d5c8f65b1a28fddc4deea2167f5dee0701124731760", func := "loop.example/g03312/laws.FnExactFlashStepOk", spec := "fnExactFlashStepOk", apart := false }
def FnExactFlashStepOkSaid : Prop := fnExactFlashStepOkRow.holds Try.pinned (OpenSpec.ofChange fnExactFlashStepOkSpec)

/-- ITS FALSE NEIGHBOUR: 'it returns false'. Refute it at one input. -/
def fnExactFlashStepOkWrong : ChangeSpec := { name := "fnExactFlashStepOk", fn := fun _ => fun
  | [d] => { results := [.lit (.bool false)], args := [d] }
  | _ => none }
def FnExactFlashStepOkWrongFalsely : Prop := fnExactFlashStepOkRow.holds Try.pinned (OpenSpec.ofChange fnExactFlashStepOkWrong)

/-- 'laws.FnExactFlashOk': WHATEVER THE INPUT: true; the input reads as it did. -/
def fnExactFlashOkSpec : ChangeSpec := { name := "fnExactFlashOk", fn := fun _ => fun
  | [d] => { results := [.lit (.bool true)], args := [d] }
  | _ => none }
def fnExactFlashOkRow : OpenClaim := { program := "ytjknoknkbfhelaa", sum := "be79f0ad7c7babbfa10f2d5c8f65b1a28fddc4deea2167f5dee0701124731760", func := "loop.example/g03312/laws.FnExactFlashOk", spec := "fnExactFlashOk", apart := false }
def FnExactFlashOkSaid : Prop := fnExactFlashOkRow.holds Try.pinned (OpenSpec.ofChange fnExactFlashOkSpec)

/-- ITS FALSE NEIGHBOUR: 'it returns false'. Refute it at one input. -/
def fnExactFlashOkWrong : ChangeSpec := { name := "fnExactFlashOk", fn := fun _ => fun
  | [d] => { results := [.lit (.bool false)], args := [d] }
  | _ => none }
def FnExactFlashOkWrongFalsely : Prop := fnExactFlashOkRow.holds Try.pinned (OpenSpec.ofChange fnExactFlashOkWrong)

/-- 'laws.FnExactMakeImage': WHATEVER THE INPUT: true; the input reads as it did. -/
def fnExactMakeImageSpec : ChangeSpec := { name := "fnExactMakeImage", fn := fun _ => fun
  | [d1, d2] => { results := [.lit (.bool true)], args := [d1, d2] }
  | _ => none }
def fnExactMakeImageRow : OpenClaim := { program := "ytjknoknkbfhelaa", sum := "be79f0ad7c7babbfa10f2d5c8f65b1a28fddc4deea2167f5dee0701124731760", func := "loop.example/g03312/laws.FnExactMakeImage", spec := "fnExactMakeImage", apart := false }
def FnExactMakeImageSaid : Prop := fnExactMakeImageRow.holds Try.pinned (OpenSpec.ofChange fnExactMakeImageSpec)

/-- ITS FALSE NEIGHBOUR: 'it returns false'. Refute it at one input. -/
def fnExactMakeImageWrong : ChangeSpec := { name := "fnExactMakeImage", fn := fun _ => fun
  | [d1, d2] => { results := [.lit (.bool false)], args := [d1, d2] }
  | _ => none }
def FnExactMakeImageWrongFalsely : Prop := fnExactMakeImageRow.holds Try.pinned (OpenSpec.ofChange fnExactMakeImageWrong)

/-- 'laws.FnExactImageVersion': WHATEVER THE INPUT: true; the input reads as it did. -/
def fnExactImageVersionSpec : ChangeSpec := { name := "fnExactImageVersion", fn := fun _ => fun
  | [d] => { results := [.lit (.bool true)], args := [d] }
  | _ => none }
def fnExactImageVersionRow : OpenClaim := { program := "ytjknoknkbfhelaa", sum := "be79f0ad7c7babbfa10f2d5c8f65b1a28fddc4deea2167f5dee0701124731760", func := "loop.example/g03312/laws.FnExactImageVersion", spec := "fnExactImageVersion", apart := false }
def FnExactImageVersionSaid : Prop := fnExactImageVersionRow.holds Try.pinned (OpenSpec.ofChange fnExactImageVersionSpec)

/-- ITS FALSE NEIGHBOUR: 'it returns false'. Refute it at one input. -/
def fnExactImageVersionWrong : ChangeSpec := { name := "fnExactImageVersion", fn := fun _ => fun
  | [d] => { results := [.lit (.bool false)], args := [d] }
  | _ => none }
def FnExactImageVersionWrongFalsely : Prop := fnExactImageVersionRow.holds Try.pinned (OpenSpec.ofChange fnExactImageVersionWrong)

/-- 'laws.FnImages': WHATEVER THE INPUT: true; the input reads as it did. -/
def fnImagesSpec : ChangeSpec := { name := "fnImages", fn := fun _ => fun
  | [d] => { results := [.lit (.bool true)], args := [d] }
  | _ => none }
def fnImagesRow : OpenClaim := { program := "ytjknoknkbfhelaa", sum := "be79f0ad7c7babbfa10f2d5c8f65b1a28fddc4deea2167f5dee0701124731760", func := "loop.example/g03312/laws.FnImages", spec := "fnImages", apart := false }
def FnImagesSaid : Prop := fnImagesRow.holds Try.pinned (OpenSpec.ofChange fnImagesSpec)

/-- ITS FALSE NEIGHBOUR: 'it returns false'. Refute it at one input. -/
def fnImagesWrong : ChangeSpec := { name := "fnImages", fn := fun _ => fun
  | [d] => { results := [.lit (.bool false)], args := [d] }
  | _ => none }
def FnImagesWrongFalsely : Prop := fnImagesRow.holds Try.pinned (OpenSpec.ofChange fnImagesWrong)

/-- 'laws.FnExactBootBank': WHATEVER THE INPUT: true; the input reads as it did. -/
def fnExactBootBankSpec : ChangeSpec := { name := "fnExactBootBank", fn := fun _ => fun
  | [d] => { results := [.lit (.bool true)], args := [d] }
  | _ => none }
def fnExactBootBankRow : OpenClaim := { program := "ytjknoknkbfhelaa", sum := "be79f0ad7c7babbfa10f2d5c8f65b1a28fddc4deea2167f5dee0701124731760", func := "loop.example/g03312/laws.FnExactBootBank", spec := "fnExactBootBank", apart := false }
def FnExactBootBankSaid : Prop := fnExactBootBankRow.holds Try.pinned (OpenSpec.ofChange fnExactBootBankSpec)

/-- ITS FALSE NEIGHBOUR: 'it returns false'. Refute it at one input. -/
def fnExactBootBankWrong : ChangeSpec := { name := "fnExactBootBank", fn := fun _ => fun
  | [d] => { results := [.lit (.bool false)], args := [d] }
  | _ => none }
def FnExactBootBankWrongFalsely : Prop := fnExactBootBankRow.holds Try.pinned (OpenSpec.ofChange fnExactBootBankWrong)

/-- 'laws.FnExactDoFlashStep': WHATEVER THE INPUT: true; the input reads as it did. -/
def fnExactDoFlashStepSpec : ChangeSpec := { name := "fnExactDoFlashStep", fn := fun _ => fun
  | [d1, d2, d3] => { results := [.lit (.bool true)], args := [d1, d2, d3] }
  | _ => none }
def fnExactDoFlashStepRow : OpenClaim := { program := "ytjknoknkbfhelaa", sum := "be79f0ad7c7babbfa10f2d5c8f65b1a28fddc4deea2167f5dee0701124731760", func := "loop.example/g03312/laws.FnExactDoFlashStep", spec := "fnExactDoFlashStep", apart := false }
def FnExactDoFlashStepSaid : Prop := fnExactDoFlashStepRow.holds Try.pinned (OpenSpec.ofChange fnExactDoFlashStepSpec)

/-- ITS FALSE NEIGHBOUR: 'it returns false'. Refute it at one input. -/
def fnExactDoFlashStepWrong : ChangeSpec := { name := "fnExactDoFlashStep", fn := fun _ => fun
  | [d1, d2, d3] => { results := [.lit (.bool false)], args := [d1, d2, d3] }
  | _ => none }
def FnExactDoFlashStepWrongFalsely : Prop := fnExactDoFlashStepRow.holds Try.pinned (OpenSpec.ofChange fnExactDoFlashStepWrong)

/-- 'laws.FnExactBootVersion': WHATEVER THE INPUT: true; the input reads as it did. -/
def fnExactBootVersionSpec : ChangeSpec := { name := "fnExactBootVersion", fn := fun _ => fun
  | [d] => { results := [.lit (.bool true)], args := [d] }
  | _ => none }
def fnExactBootVersionRow : OpenClaim := { program := "ytjknoknkbfhelaa", sum := "be79f0ad7c7babbfa10f2d5c8f65b1a28fddc4deea2167f5dee0701124731760", func := "loop.example/g03312/laws.FnExactBootVersion", spec := "fnExactBootVersion", apart := false }
def FnExactBootVersionSaid : Prop := fnExactBootVersionRow.holds Try.pinned (OpenSpec.ofChange fnExactBootVersionSpec)

/-- ITS FALSE NEIGHBOUR: 'it returns false'. Refute it at one input. -/
def fnExactBootVersionWrong : ChangeSpec := { name := "fnExactBootVersion", fn := fun _ => fun
  | [d] => { results := [.lit (.bool false)], args := [d] }
  | _ => none }
def FnExactBootVersionWrongFalsely : Prop := fnExactBootVersionRow.holds Try.pinned (OpenSpec.ofChange fnExactBootVersionWrong)

/-- 'laws.FnExactRunUpdate': WHATEVER THE INPUT: true; the input reads as it did. -/
def fnExactRunUpdateSpec : ChangeSpec := { name := "fnExactRunUpdate", fn := fun _ => fun
  | [d1, d2, d3, d4] => { results := [.lit (.bool true)], args := [d1, d2, d3, d4] }
  | _ => none }
def fnExactRunUpdateRow : OpenClaim := { program := "ytjknoknkbfhelaa", sum := "be79f0ad7c7babbfa10f2d5c8f65b1a28fddc4deea2167f5dee0701124731760", func := "loop.example/g03312/laws.FnExactRunUpdate", spec := "fnExactRunUpdate", apart := false }
def FnExactRunUpdateSaid : Prop := fnExactRunUpdateRow.holds Try.pinned (OpenSpec.ofChange fnExactRunUpdateSpec)

/-- ITS FALSE NEIGHBOUR: 'it returns false'. Refute it at one input. -/
def fnExactRunUpdateWrong : ChangeSpec := { name := "fnExactRunUpdate", fn := fun _ => fun
  | [d1, d2, d3, d4] => { results := [.lit (.bool false)], args := [d1, d2, d3, d4] }
  | _ => none }
def FnExactRunUpdateWrongFalsely : Prop := fnExactRunUpdateRow.holds Try.pinned (OpenSpec.ofChange fnExactRunUpdateWrong)

/-- 'laws.FnAlwaysBoots': WHATEVER THE INPUT: true; the input reads as it did. -/
def fnAlwaysBootsSpec : ChangeSpec := { name := "fnAlwaysBoots", fn := fun _ => fun
  | [d] => { results := [.lit (.bool true)], args := [d] }
  | _ => none }
def fnAlwaysBootsRow : OpenClaim := { program := "ytjknoknkbfhelaa", sum := "be79f0ad7c7babbfa10f2d5c8f65b1a28fddc4deea2167f5dee0701124731760", func := "loop.example/g03312/laws.FnAlwaysBoots", spec := "fnAlwaysBoots", apart := false }
def FnAlwaysBootsSaid : Prop := fnAlwaysBootsRow.holds Try.pinned (OpenSpec.ofChange fnAlwaysBootsSpec)

/-- ITS FALSE NEIGHBOUR: 'it returns false'. Refute it at one input. -/
def fnAlwaysBootsWrong : ChangeSpec := { name := "fnAlwaysBoots", fn := fun _ => fun
  | [d] => { results := [.lit (.bool false)], args := [d] }
  | _ => none }
def FnAlwaysBootsWrongFalsely : Prop := fnAlwaysBootsRow.holds Try.pinned (OpenSpec.ofChange fnAlwaysBootsWrong)

/-- 'laws.FnExactUpdateSteps': WHATEVER THE INPUT: true; the input reads as it did. -/
def fnExactUpdateStepsSpec : ChangeSpec := { name := "fnExactUpdateSteps", fn := fun _ => fun
  | [d1, d2] => { results := [.lit (.bool true)], args := [d1, d2] }
  | _ => none }
def fnExactUpdateStepsRow : OpenClaim := { program := "ytjknoknkbfhelaa", sum := "be79f0ad7c7babbfa10f2d5c8f65b1a28fddc4deea2167f5dee0701124731760", func := "loop.example/g03312/laws.FnExactUpdateSteps", spec := "fnExactUpdateSteps", apart := false }
def FnExactUpdateStepsSaid : Prop := fnExactUpdateStepsRow.holds Try.pinned (OpenSpec.ofChange fnExactUpdateStepsSpec)

/-- ITS FALSE NEIGHBOUR: 'it returns false'. Refute it at one input. -/
def fnExactUpdateStepsWrong : ChangeSpec := { name := "fnExactUpdateSteps", fn := fun _ => fun
  | [d1, d2] => { results := [.lit (.bool false)], args := [d1, d2] }
  | _ => none }
def FnExactUpdateStepsWrongFalsely : Prop := fnExactUpdateStepsRow.holds Try.pinned (OpenSpec.ofChange fnExactUpdateStepsWrong)

/- THE SECOND FORM. 'bulk': how many values and letters a reading holds, each counted each time it is reached (what is shared counts as often as it is met; a slice's spare places count too). A statement '..UptoSaid' is the law's where the arguments, and the package variables that the reading takes, are together of bulk at most 1048576: NARROWER than '..Said'. Prove '..Said' where nothing that the law and all that it calls make is longer than what came in: it says more and counts as full. Else prove '..UptoSaid'. A law counts once. -/
mutual
def uptoBulk {H : Type} : DataW H → Nat
  | .lit (.string bytes) => bytes.length + 1
  | .lit _ => 1
  | .nil => 1
  | .ptr d => uptoBulk d + 1
  | .slice elems spare => uptoBulkAll elems + uptoBulkAll spare + 1
  | .agg parts => uptoBulkAll parts + 1
  | .iface _ d => uptoBulk d + 1
  | .map entries => uptoBulkEntries entries + 1
  | .held _ => 1
def uptoBulkAll {H : Type} : List (DataW H) → Nat
  | [] => 0
  | d :: r => uptoBulk d + uptoBulkAll r
def uptoBulkEntries {H : Type} : List (Lit × DataW H) → Nat
  | [] => 0
  | x :: r => uptoBulkEntry x + uptoBulkEntries r
def uptoBulkEntry {H : Type} : Lit × DataW H → Nat
  | (.string bytes, d) => bytes.length + uptoBulk d + 1
  | (_, d) => uptoBulk d + 1
 end
def uptoSmall : (H : Type) → List (DataW H) → Bool := fun _ ds => decide (uptoBulkAll ds ≤ 1048576)
def OpenSpec.upto (s : _root_.Go.ChangeSpec) : _root_.Go.OpenSpec := { _root_.Go.OpenSpec.ofChange s with cond := some uptoSmall }

/-- 'laws.FnExactFlashStepOk', WHERE WHAT IT READS IS OF BULK AT MOST 1048576: true; the input reads as it did. -/
def fnExactFlashStepOkUptoRow : OpenClaim := { program := "ytjknoknkbfhelaa", sum := "be79f0ad7c7babbfa10f2d5c8f65b1a28fddc4deea2167f5dee0701124731760", func := "loop.example/g03312/laws.FnExactFlashStepOk", spec := "fnExactFlashStepOk", apart := false, narrowed := true }
def FnExactFlashStepOkUptoSaid : Prop := fnExactFlashStepOkUptoRow.holds Try.pinned (OpenSpec.upto fnExactFlashStepOkSpec)

/-- 'laws.FnExactFlashOk', WHERE WHAT IT READS IS OF BULK AT MOST 1048576: true; the input reads as it did. -/
def fnExactFlashOkUptoRow : OpenClaim := { program := "ytjknoknkbfhelaa", sum := "be79f0ad7c7babbfa10f2d5c8f65b1a28fddc4deea2167f5dee0701124731760", func := "loop.example/g03312/laws.FnExactFlashOk", spec := "fnExactFlashOk", apart := false, narrowed := true }
def FnExactFlashOkUptoSaid : Prop := fnExactFlashOkUptoRow.holds Try.pinned (OpenSpec.upto fnExactFlashOkSpec)

/-- 'laws.FnExactMakeImage', WHERE WHAT IT READS IS OF BULK AT MOST 1048576: true; the input reads as it did. -/
def fnExactMakeImageUptoRow : OpenClaim := { program := "ytjknoknkbfhelaa", sum := "be79f0ad7c7babbfa10f2d5c8f65b1a28fddc4deea2167f5dee0701124731760", func := "loop.example/g03312/laws.FnExactMakeImage", spec := "fnExactMakeImage", apart := false, narrowed := true }
def FnExactMakeImageUptoSaid : Prop := fnExactMakeImageUptoRow.holds Try.pinned (OpenSpec.upto fnExactMakeImageSpec)

/-- 'laws.FnExactImageVersion', WHERE WHAT IT READS IS OF BULK AT MOST 1048576: true; the input reads as it did. -/
def fnExactImageVersionUptoRow : OpenClaim := { program := "ytjknoknkbfhelaa", sum := "be79f0ad7c7babbfa10f2d5c8f65b1a28fddc4deea2167f5dee0701124731760", func := "loop.example/g03312/laws.FnExactImageVersion", spec := "fnExactImageVersion", apart := false, narrowed := true }
def FnExactImageVersionUptoSaid : Prop := fnExactImageVersionUptoRow.holds Try.pinned (OpenSpec.upto fnExactImageVersionSpec)

/-- 'laws.FnImages', WHERE WHAT IT READS IS OF BULK AT MOST 1048576: true; the input reads as it did. -/
def fnImagesUptoRow : OpenClaim := { program := "ytjknoknkbfhelaa", sum := "be79f0ad7c7babbfa10f2d5c8f65b1a28fddc4deea2167f5dee0701124731760", func := "loop.example/g03312/laws.FnImages", spec := "fnImages", apart := false, narrowed := true }
def FnImagesUptoSaid : Prop := fnImagesUptoRow.holds Try.pinned (OpenSpec.upto fnImagesSpec)

/-- 'laws.FnExactBootBank', WHERE WHAT IT READS IS OF BULK AT MOST 1048576: true; the input reads as it did. -/
def fnExactBootBankUptoRow : OpenClaim := { program := "ytjknoknkbfhelaa", sum := "be79f0ad7c7babbfa10f2d5c8f65b1a28fddc4deea2167f5dee0701124731760", func := "loop.example/g03312/laws.FnExactBootBank", spec := "fnExactBootBank", apart := false, narrowed := true }
def FnExactBootBankUptoSaid : Prop := fnExactBootBankUptoRow.holds Try.pinned (OpenSpec.upto fnExactBootBankSpec)

/-- 'laws.FnExactDoFlashStep', WHERE WHAT IT READS IS OF BULK AT MOST 1048576: true; the input reads as it did. -/
def fnExactDoFlashStepUptoRow : OpenClaim := { program := "ytjknoknkbfhelaa", sum := "be79f0ad7c7babbfa10f2d5c8f65b1a28fddc4deea2167f5dee0701124731760", func := "loop.example/g03312/laws.FnExactDoFlashStep", spec := "fnExactDoFlashStep", apart := false, narrowed := true }
def FnExactDoFlashStepUptoSaid : Prop := fnExactDoFlashStepUptoRow.holds Try.pinned (OpenSpec.upto fnExactDoFlashStepSpec)

/-- 'laws.FnExactBootVersion', WHERE WHAT IT READS IS OF BULK AT MOST 1048576: true; the input reads as it did. -/
def fnExactBootVersionUptoRow : OpenClaim := { program := "ytjknoknkbfhelaa", sum := "be79f0ad7c7babbfa10f2d5c8f65b1a28fddc4deea2167f5dee0701124731760", func := "loop.example/g03312/laws.FnExactBootVersion", spec := "fnExactBootVersion", apart := false, narrowed := true }
def FnExactBootVersionUptoSaid : Prop := fnExactBootVersionUptoRow.holds Try.pinned (OpenSpec.upto fnExactBootVersionSpec)

/-- 'laws.FnExactRunUpdate', WHERE WHAT IT READS IS OF BULK AT MOST 1048576: true; the input reads as it did. -/
def fnExactRunUpdateUptoRow : OpenClaim := { program := "ytjknoknkbfhelaa", sum := "be79f0ad7c7babbfa10f2d5c8f65b1a28fddc4deea2167f5dee0701124731760", func := "loop.example/g03312/laws.FnExactRunUpdate", spec := "fnExactRunUpdate", apart := false, narrowed := true }
def FnExactRunUpdateUptoSaid : Prop := fnExactRunUpdateUptoRow.holds Try.pinned (OpenSpec.upto fnExactRunUpdateSpec)

/-- 'laws.FnAlwaysBoots', WHERE WHAT IT READS IS OF BULK AT MOST 1048576: true; the input reads as it did. -/
def fnAlwaysBootsUptoRow : OpenClaim := { program := "ytjknoknkbfhelaa", sum := "be79f0ad7c7babbfa10f2d5c8f65b1a28fddc4deea2167f5dee0701124731760", func := "loop.example/g03312/laws.FnAlwaysBoots", spec := "fnAlwaysBoots", apart := false, narrowed := true }
def FnAlwaysBootsUptoSaid : Prop := fnAlwaysBootsUptoRow.holds Try.pinned (OpenSpec.upto fnAlwaysBootsSpec)

/-- 'laws.FnExactUpdateSteps', WHERE WHAT IT READS IS OF BULK AT MOST 1048576: true; the input reads as it did. -/
def fnExactUpdateStepsUptoRow : OpenClaim := { program := "ytjknoknkbfhelaa", sum := "be79f0ad7c7babbfa10f2d5c8f65b1a28fddc4deea2167f5dee0701124731760", func := "loop.example/g03312/laws.FnExactUpdateSteps", spec := "fnExactUpdateSteps", apart := false, narrowed := true }
def FnExactUpdateStepsUptoSaid : Prop := fnExactUpdateStepsUptoRow.holds Try.pinned (OpenSpec.upto fnExactUpdateStepsSpec)

end Rows
end Go.Proofs.Ytjknoknkbfhelaa
