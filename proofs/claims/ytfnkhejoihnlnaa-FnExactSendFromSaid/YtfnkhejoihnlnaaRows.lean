/-
  No cell of these rows narrows 'for every input' (looked for: loops, veiled, ifaces, maps, wideKeys, modest, calm, conditions, laid).
  DERIVED. THE GIVEN ROWS OF THIS SEAT. 8 by the template 'for every input the law returns true; each argument reads behind the call as it read before'; 0 by the template 'total and deterministic' (their statements: YtfnkhejoihnlnaaTotals.lean).
  GIVEN WITH THE SEED: the statements are not yours to turn. If you find one false, say at which input.
  Laid BY PROGRAM, IN A SANDBOX (cutbox-rows.mjs): the forced cells as the released guide's own fill.sh prints them over the translation 05b39157bc0f83b8… (all of the seat's roots in one cut). By AI agents, Wed Nov 11 2026. No macro, syntax, notation, axiom, sorry.
-/
import Derived.Test.YtfnkhejoihnlnaaChecked
import GoSem.Claim
import GoSem.ClaimJoined
import GoSem.ClaimMapViews
import Derived.JoinedTies
import Derived.KernelRfl
namespace Go.Proofs.Ytfnkhejoihnlnaa
/- THE CELL 'sum', in the pinned program and in every row, IS THE sha256 OF THE DUMP (.gsa) THAT YtfnkhejoihnlnaaProg.lean LOADS. Nothing in Lean hashes anything: it is a label: what it is worth is what the hold of that sum in a sandbox is worth. -/
noncomputable def Try.pinned : Pinned := { name := "ytfnkhejoihnlnaa", sum := "05b39157bc0f83b8c742049ee5c2d61dab8d39e67479a92c803d6868b6023420", checked := Try.checked }
namespace Rows
def none {H : Type} : Left H := { results := [], args := [] }

/-- 'laws.FnExactFunctionAt': WHATEVER THE INPUT: true; the input reads as it did. -/
def fnExactFunctionAtSpec : ChangeSpec := { name := "fnExactFunctionAt", fn := fun _ => fun
  | [d1, d2] => { results := [.lit (.bool true)], args := [d1, d2] }
  | _ => none }
def fnExactFunctionAtRow : OpenClaim := { program := "ytfnkhejoihnlnaa", sum := "05b39157bc0f83b8c742049ee5c2d61dab8d39e67479a92c803d6868b6023420", func := "loop.example/g03312/laws.FnExactFunctionAt", spec := "fnExactFunctionAt", apart := false }
def FnExactFunctionAtSaid : Prop := fnExactFunctionAtRow.holds Try.pinned (OpenSpec.ofChange fnExactFunctionAtSpec)

/-- ITS FALSE NEIGHBOUR: 'it returns false'. Refute it at one input. -/
def fnExactFunctionAtWrong : ChangeSpec := { name := "fnExactFunctionAt", fn := fun _ => fun
  | [d1, d2] => { results := [.lit (.bool false)], args := [d1, d2] }
  | _ => none }
def FnExactFunctionAtWrongFalsely : Prop := fnExactFunctionAtRow.holds Try.pinned (OpenSpec.ofChange fnExactFunctionAtWrong)

/-- 'laws.FnExactTickFunctions': WHATEVER THE INPUT: true; the input reads as it did. -/
def fnExactTickFunctionsSpec : ChangeSpec := { name := "fnExactTickFunctions", fn := fun _ => fun
  | [d1, d2] => { results := [.lit (.bool true)], args := [d1, d2] }
  | _ => none }
def fnExactTickFunctionsRow : OpenClaim := { program := "ytfnkhejoihnlnaa", sum := "05b39157bc0f83b8c742049ee5c2d61dab8d39e67479a92c803d6868b6023420", func := "loop.example/g03312/laws.FnExactTickFunctions", spec := "fnExactTickFunctions", apart := false }
def FnExactTickFunctionsSaid : Prop := fnExactTickFunctionsRow.holds Try.pinned (OpenSpec.ofChange fnExactTickFunctionsSpec)

/-- ITS FALSE NEIGHBOUR: 'it returns false'. Refute it at one input. -/
def fnExactTickFunctionsWrong : ChangeSpec := { name := "fnExactTickFunctions", fn := fun _ => fun
  | [d1, d2] => { results := [.lit (.bool false)], args := [d1, d2] }
  | _ => none }
def FnExactTickFunctionsWrongFalsely : Prop := fnExactTickFunctionsRow.holds Try.pinned (OpenSpec.ofChange fnExactTickFunctionsWrong)

/-- 'laws.FnExactFunctionsApart': WHATEVER THE INPUT: true; the input reads as it did. -/
def fnExactFunctionsApartSpec : ChangeSpec := { name := "fnExactFunctionsApart", fn := fun _ => fun
  | [d1, d2] => { results := [.lit (.bool true)], args := [d1, d2] }
  | _ => none }
def fnExactFunctionsApartRow : OpenClaim := { program := "ytfnkhejoihnlnaa", sum := "05b39157bc0f83b8c742049ee5c2d61dab8d39e67479a92c803d6868b6023420", func := "loop.example/g03312/laws.FnExactFunctionsApart", spec := "fnExactFunctionsApart", apart := false }
def FnExactFunctionsApartSaid : Prop := fnExactFunctionsApartRow.holds Try.pinned (OpenSpec.ofChange fnExactFunctionsApartSpec)

/-- ITS FALSE NEIGHBOUR: 'it returns false'. Refute it at one input. -/
def fnExactFunctionsApartWrong : ChangeSpec := { name := "fnExactFunctionsApart", fn := fun _ => fun
  | [d1, d2] => { results := [.lit (.bool false)], args := [d1, d2] }
  | _ => none }
def FnExactFunctionsApartWrongFalsely : Prop := fnExactFunctionsApartRow.holds Try.pinned (OpenSpec.ofChange fnExactFunctionsApartWrong)

/-- 'laws.FnExactFunctionsOk': WHATEVER THE INPUT: true; the input reads as it did. -/
def fnExactFunctionsOkSpec : ChangeSpec := { name := "fnExactFunctionsOk", fn := fun _ => fun
  | [d1, d2] => { results := [.lit (.bool true)], args := [d1, d2] }
  | _ => none }
def fnExactFunctionsOkRow : OpenClaim := { program := "ytfnkhejoihnlnaa", sum := "05b39157bc0f83b8c742049ee5c2d61dab8d39e67479a92c803d6868b6023420", func := "loop.example/g03312/laws.FnExactFunctionsOk", spec := "fnExactFunctionsOk", apart := false }
def FnExactFunctionsOkSaid : Prop := fnExactFunctionsOkRow.holds Try.pinned (OpenSpec.ofChange fnExactFunctionsOkSpec)

/-- ITS FALSE NEIGHBOUR: 'it returns false'. Refute it at one input. -/
def fnExactFunctionsOkWrong : ChangeSpec := { name := "fnExactFunctionsOk", fn := fun _ => fun
  | [d1, d2] => { results := [.lit (.bool false)], args := [d1, d2] }
  | _ => none }
def FnExactFunctionsOkWrongFalsely : Prop := fnExactFunctionsOkRow.holds Try.pinned (OpenSpec.ofChange fnExactFunctionsOkWrong)

/-- 'laws.FnExactGrantPages': WHATEVER THE INPUT: true; the input reads as it did. -/
def fnExactGrantPagesSpec : ChangeSpec := { name := "fnExactGrantPages", fn := fun _ => fun
  | [d1, d2, d3, d4, d5] => { results := [.lit (.bool true)], args := [d1, d2, d3, d4, d5] }
  | _ => none }
def fnExactGrantPagesRow : OpenClaim := { program := "ytfnkhejoihnlnaa", sum := "05b39157bc0f83b8c742049ee5c2d61dab8d39e67479a92c803d6868b6023420", func := "loop.example/g03312/laws.FnExactGrantPages", spec := "fnExactGrantPages", apart := false }
def FnExactGrantPagesSaid : Prop := fnExactGrantPagesRow.holds Try.pinned (OpenSpec.ofChange fnExactGrantPagesSpec)

/-- ITS FALSE NEIGHBOUR: 'it returns false'. Refute it at one input. -/
def fnExactGrantPagesWrong : ChangeSpec := { name := "fnExactGrantPages", fn := fun _ => fun
  | [d1, d2, d3, d4, d5] => { results := [.lit (.bool false)], args := [d1, d2, d3, d4, d5] }
  | _ => none }
def FnExactGrantPagesWrongFalsely : Prop := fnExactGrantPagesRow.holds Try.pinned (OpenSpec.ofChange fnExactGrantPagesWrong)

/-- 'laws.FnFunctionsApart': WHATEVER THE INPUT: true; the input reads as it did. -/
def fnFunctionsApartSpec : ChangeSpec := { name := "fnFunctionsApart", fn := fun _ => fun
  | [d] => { results := [.lit (.bool true)], args := [d] }
  | _ => none }
def fnFunctionsApartRow : OpenClaim := { program := "ytfnkhejoihnlnaa", sum := "05b39157bc0f83b8c742049ee5c2d61dab8d39e67479a92c803d6868b6023420", func := "loop.example/g03312/laws.FnFunctionsApart", spec := "fnFunctionsApart", apart := false }
def FnFunctionsApartSaid : Prop := fnFunctionsApartRow.holds Try.pinned (OpenSpec.ofChange fnFunctionsApartSpec)

/-- ITS FALSE NEIGHBOUR: 'it returns false'. Refute it at one input. -/
def fnFunctionsApartWrong : ChangeSpec := { name := "fnFunctionsApart", fn := fun _ => fun
  | [d] => { results := [.lit (.bool false)], args := [d] }
  | _ => none }
def FnFunctionsApartWrongFalsely : Prop := fnFunctionsApartRow.holds Try.pinned (OpenSpec.ofChange fnFunctionsApartWrong)

/-- 'laws.FnAccounted': WHATEVER THE INPUT: true; the input reads as it did. -/
def fnAccountedSpec : ChangeSpec := { name := "fnAccounted", fn := fun _ => fun
  | [d] => { results := [.lit (.bool true)], args := [d] }
  | _ => none }
def fnAccountedRow : OpenClaim := { program := "ytfnkhejoihnlnaa", sum := "05b39157bc0f83b8c742049ee5c2d61dab8d39e67479a92c803d6868b6023420", func := "loop.example/g03312/laws.FnAccounted", spec := "fnAccounted", apart := false }
def FnAccountedSaid : Prop := fnAccountedRow.holds Try.pinned (OpenSpec.ofChange fnAccountedSpec)

/-- ITS FALSE NEIGHBOUR: 'it returns false'. Refute it at one input. -/
def fnAccountedWrong : ChangeSpec := { name := "fnAccounted", fn := fun _ => fun
  | [d] => { results := [.lit (.bool false)], args := [d] }
  | _ => none }
def FnAccountedWrongFalsely : Prop := fnAccountedRow.holds Try.pinned (OpenSpec.ofChange fnAccountedWrong)

/-- 'laws.FnExactSendFrom': WHATEVER THE INPUT: true; the input reads as it did. -/
def fnExactSendFromSpec : ChangeSpec := { name := "fnExactSendFrom", fn := fun _ => fun
  | [d1, d2, d3, d4] => { results := [.lit (.bool true)], args := [d1, d2, d3, d4] }
  | _ => none }
def fnExactSendFromRow : OpenClaim := { program := "ytfnkhejoihnlnaa", sum := "05b39157bc0f83b8c742049ee5c2d61dab8d39e67479a92c803d6868b6023420", func := "loop.example/g03312/laws.FnExactSendFrom", spec := "fnExactSendFrom", apart := false }
def FnExactSendFromSaid : Prop := fnExactSendFromRow.holds Try.pinned (OpenSpec.ofChange fnExactSendFromSpec)

/-- ITS FALSE NEIGHBOUR: 'it returns false'. Refute it at one input. -/
def fnExactSendFromWrong : ChangeSpec := { name := "fnExactSendFrom", fn := fun _ => fun
  | [d1, d2, d3, d4] => { results := [.lit (.bool false)], args := [d1, d2, d3, d4] }
  | _ => none }
def FnExactSendFromWrongFalsely : Prop := fnExactSendFromRow.holds Try.pinned (OpenSpec.ofChange fnExactSendFromWrong)

/- THE SECOND FORM. 'bulk': how many values and letters a reading holds, each counted each time it is reached (what is shared counts as often as it is met; a slice's spare places count too). A statement '..UptoSaid' is the law's where the arguments, and the package variables that the reading takes, are together of bulk at most 1048576: NARROWER than '..Said'. Prove '..Said' where nothing that the law and all that it calls make is longer than what came in: it says more and counts as full. Else prove '..UptoSaid'. A law counts once. -/
mutual
def uptoBulk {H : Type} : DataW H → Nat
  | .lit (.string bytes) => bytes.length + 1
  | .lit _ => 1
  | .nil => 1
  | .ptr d => uptoBulk d + 1
  | .slice elems spare => uptoBulkAll elems + uptoBulkAll spare + 1
  | .agg parts => uptoBulkAll parts + 1
  | .iface _ d => uptoBulk d + 1
  | .map entries => uptoBulkEntries entries + 1
  | .held _ => 1
def uptoBulkAll {H : Type} : List (DataW H) → Nat
  | [] => 0
  | d :: r => uptoBulk d + uptoBulkAll r
def uptoBulkEntries {H : Type} : List (Lit × DataW H) → Nat
  | [] => 0
  | x :: r => uptoBulkEntry x + uptoBulkEntries r
def uptoBulkEntry {H : Type} : Lit × DataW H → Nat
  | (.string bytes, d) => bytes.length + uptoBulk d + 1
  | (_, d) => uptoBulk d + 1
 end
def uptoSmall : (H : Type) → List (DataW H) → Bool := fun _ ds => decide (uptoBulkAll ds ≤ 1048576)
def OpenSpec.upto (s : _root_.Go.ChangeSpec) : _root_.Go.OpenSpec := { _root_.Go.OpenSpec.ofChange s with cond := some uptoSmall }

/-- 'laws.FnExactFunctionAt', WHERE WHAT IT READS IS OF BULK AT MOST 1048576: true; the input reads as it did. -/
def fnExactFunctionAtUptoRow : OpenClaim := { program := "ytfnkhejoihnlnaa", sum := "05b39157bc0f83b8c742049ee5c2d61dab8d39e67479a92c803d6868b6023420", func := "loop.example/g03312/laws.FnExactFunctionAt", spec := "fnExactFunctionAt", apart := false, narrowed := true }
def FnExactFunctionAtUptoSaid : Prop := fnExactFunctionAtUptoRow.holds Try.pinned (OpenSpec.upto fnExactFunctionAtSpec)

/-- 'laws.FnExactTickFunctions', WHERE WHAT IT READS IS OF BULK AT MOST 1048576: true; the input reads as it did. -/
def fnExactTickFunctionsUptoRow : OpenClaim := { program := "ytfnkhejoihnlnaa", sum := "05b39157bc0f83b8c742049ee5c2d61dab8d39e67479a92c803d6868b6023420", func := "loop.example/g03312/laws.FnExactTickFunctions", spec := "fnExactTickFunctions", apart := false, narrowed := true }
def FnExactTickFunctionsUptoSaid : Prop := fnExactTickFunctionsUptoRow.holds Try.pinned (OpenSpec.upto fnExactTickFunctionsSpec)

/-- 'laws.FnExactFunctionsApart', WHERE WHAT IT READS IS OF BULK AT MOST 1048576: true; the input reads as it did. -/
def fnExactFunctionsApartUptoRow : OpenClaim := { program := "ytfnkhejoihnlnaa", sum := "05b39157bc0f83b8c742049ee5c2d61dab8d39e67479a92c803d6868b6023420", func := "loop.example/g03312/laws.FnExactFunctionsApart", spec := "fnExactFunctionsApart", apart := false, narrowed := true }
def FnExactFunctionsApartUptoSaid : Prop := fnExactFunctionsApartUptoRow.holds Try.pinned (OpenSpec.upto fnExactFunctionsApartSpec)

/-- 'laws.FnExactFunctionsOk', WHERE WHAT IT READS IS OF BULK AT MOST 1048576: true; the input reads as it did. -/
def fnExactFunctionsOkUptoRow : OpenClaim := { program := "ytfnkhejoihnlnaa", sum := "05b39157bc0f83b8c742049ee5c2d61dab8d39e67479a92c803d6868b6023420", func := "loop.example/g03312/laws.FnExactFunctionsOk", spec := "fnExactFunctionsOk", apart := false, narrowed := true }
def FnExactFunctionsOkUptoSaid : Prop := fnExactFunctionsOkUptoRow.holds Try.pinned (OpenSpec.upto fnExactFunctionsOkSpec)

/-- 'laws.FnExactGrantPages', WHERE WHAT IT READS IS OF BULK AT MOST 1048576: true; the input reads as it did. -/
def fnExactGrantPagesUptoRow : OpenClaim := { program := "ytfnkhejoihnlnaa", sum := "05b39157bc0f83b8c742049ee5c2d61dab8d39e67479a92c803d6868b6023420", func := "loop.example/g03312/laws.FnExactGrantPages", spec := "fnExactGrantPages", apart := false, narrowed := true }
def FnExactGrantPagesUptoSaid : Prop := fnExactGrantPagesUptoRow.holds Try.pinned (OpenSpec.upto fnExactGrantPagesSpec)

/-- 'laws.FnFunctionsApart', WHERE WHAT IT READS IS OF BULK AT MOST 1048576: true; the input reads as it did. -/
def fnFunctionsApartUptoRow : OpenClaim := { program := "ytfnkhejoihnlnaa", sum := "05b39157bc0f83b8c742049ee5c2d61dab8d39e67479a92c803d6868b6023420", func := "loop.example/g03312/laws.FnFunctionsApart", spec := "fnFunctionsApart", apart := false, narrowed := true }
def FnFunctionsApartUptoSaid : Prop := fnFunctionsApartUptoRow.holds Try.pinned (OpenSpec.upto fnFunctionsApartSpec)

/-- 'laws.FnAccounted', WHERE WHAT IT READS IS OF BULK AT MOST 1048576: true; the input reads as it did. -/
def fnAccountedUptoRow : OpenClaim := { program := "ytfnkhejoihnlnaa", sum := "05b39157bc0f83b8c742049ee5c2d61dab8d39e67479a92c803d6868b6023420", func := "loop.example/g03312/laws.FnAccounted", spec := "fnAccounted", apart := false, narrowed := true }
def FnAccountedUptoSaid : Prop := fnAccountedUptoRow.holds Try.pinned (OpenSpec.upto fnAccountedSpec)

/-- 'laws.FnExactSendFrom', WHERE WHAT IT READS IS OF BULK AT MOST 1048576: true; the input reads as it did. -/
def fnExactSendFromUptoRow : OpenClaim := { program := "ytfnkhejoihnlnaa", sum := "05b39157bc0f83b8c742049ee5c2d61dab8d39e67479a92c803d6868b6023420", func := "loop.example/g03312/laws.FnExactSendFrom", spec := "fnExactSendFrom", apart := false, narrowed := true }
def FnExactSendFromUptoSaid : Prop := fnExactSendFromUptoRow.holds Try.pinned (OpenSpec.upto fnExactSendFromSpec)

end Rows
end Go.Proofs.Ytfnkhejoihnlnaa
