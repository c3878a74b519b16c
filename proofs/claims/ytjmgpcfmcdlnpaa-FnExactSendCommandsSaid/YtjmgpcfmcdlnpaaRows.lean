/-
  No cell of these rows narrows 'for every input' (looked for: loops, veiled, ifaces, maps, wideKeys, modest, calm, conditions, laid).
  DERIVED. THE GIVEN ROWS OF THIS SEAT. 5 by the template 'for every input the law returns true; each argument reads behind the call as it read before'; 0 by the template 'total and deterministic' (their statements: YtjmgpcfmcdlnpaaTotals.lean).
  GIVEN WITH THE SEED: the statements are not yours to turn. If you find one false, say at which input.
  Laid BY PROGRAM, IN A SANDBOX (cutbox-rows.mjs): the forced cells as the released guide's own fill.sh prints them over the translation 411119fa9426da6e… (all of the seat's roots in one cut). By AI agents, Wed Nov 11 2026. No macro, syntax, notation, axiom, sorry.
-/
import Derived.Test.YtjmgpcfmcdlnpaaChecked
import GoSem.Claim
import GoSem.ClaimJoined
import GoSem.ClaimMapViews
import Derived.JoinedTies
import Derived.KernelRfl
namespace Go.Proofs.Ytjmgpcfmcdlnpaa
/- THE CELL 'sum', in the pinned program and in every row, IS THE sha256 OF THE DUMP (.gsa) THAT YtjmgpcfmcdlnpaaProg.lean LOADS. Nothing in Lean hashes anything: it is a label: what it is worth is what the hold of that sum in a sandbox is worth. -/
noncomputable def Try.pinned : Pinned := { name := "ytjmgpcfmcdlnpaa", sum := "411119fa9426da6e6b6b126c6e4bcafb2d3dcefce116f66e28f0bc1e0c854b6f", checked := Try.checked }
namespace Rows
def none {H : Type} : Left H := { results := [], args := [] }

/-- 'laws.FnExactMailboxOk': WHATEVER THE INPUT: true; the input reads as it did. -/
def fnExactMailboxOkSpec : ChangeSpec := { name := "fnExactMailboxOk", fn := fun _ => fun
  | [d] => { results := [.lit (.bool true)], args := [d] }
  | _ => none }
def fnExactMailboxOkRow : OpenClaim := { program := "ytjmgpcfmcdlnpaa", sum := "411119fa9426da6e6b6b126c6e4bcafb2d3dcefce116f66e28f0bc1e0c854b6f", func := "loop.example/g03312/laws.FnExactMailboxOk", spec := "fnExactMailboxOk", apart := false }
def FnExactMailboxOkSaid : Prop := fnExactMailboxOkRow.holds Try.pinned (OpenSpec.ofChange fnExactMailboxOkSpec)

/-- ITS FALSE NEIGHBOUR: 'it returns false'. Refute it at one input. -/
def fnExactMailboxOkWrong : ChangeSpec := { name := "fnExactMailboxOk", fn := fun _ => fun
  | [d] => { results := [.lit (.bool false)], args := [d] }
  | _ => none }
def FnExactMailboxOkWrongFalsely : Prop := fnExactMailboxOkRow.holds Try.pinned (OpenSpec.ofChange fnExactMailboxOkWrong)

/-- 'laws.FnMailFilter': WHATEVER THE INPUT: true; the input reads as it did. -/
def fnMailFilterSpec : ChangeSpec := { name := "fnMailFilter", fn := fun _ => fun
  | [d] => { results := [.lit (.bool true)], args := [d] }
  | _ => none }
def fnMailFilterRow : OpenClaim := { program := "ytjmgpcfmcdlnpaa", sum := "411119fa9426da6e6b6b126c6e4bcafb2d3dcefce116f66e28f0bc1e0c854b6f", func := "loop.example/g03312/laws.FnMailFilter", spec := "fnMailFilter", apart := false }
def FnMailFilterSaid : Prop := fnMailFilterRow.holds Try.pinned (OpenSpec.ofChange fnMailFilterSpec)

/-- ITS FALSE NEIGHBOUR: 'it returns false'. Refute it at one input. -/
def fnMailFilterWrong : ChangeSpec := { name := "fnMailFilter", fn := fun _ => fun
  | [d] => { results := [.lit (.bool false)], args := [d] }
  | _ => none }
def FnMailFilterWrongFalsely : Prop := fnMailFilterRow.holds Try.pinned (OpenSpec.ofChange fnMailFilterWrong)

/-- 'laws.FnMailOnce': WHATEVER THE INPUT: true; the input reads as it did. -/
def fnMailOnceSpec : ChangeSpec := { name := "fnMailOnce", fn := fun _ => fun
  | [d] => { results := [.lit (.bool true)], args := [d] }
  | _ => none }
def fnMailOnceRow : OpenClaim := { program := "ytjmgpcfmcdlnpaa", sum := "411119fa9426da6e6b6b126c6e4bcafb2d3dcefce116f66e28f0bc1e0c854b6f", func := "loop.example/g03312/laws.FnMailOnce", spec := "fnMailOnce", unfollowed := true, recurses := true, apart := false }
def FnMailOnceSaid : Prop := fnMailOnceRow.holds Try.pinned (OpenSpec.ofChange fnMailOnceSpec)

/-- ITS FALSE NEIGHBOUR: 'it returns false'. Refute it at one input. -/
def fnMailOnceWrong : ChangeSpec := { name := "fnMailOnce", fn := fun _ => fun
  | [d] => { results := [.lit (.bool false)], args := [d] }
  | _ => none }
def FnMailOnceWrongFalsely : Prop := fnMailOnceRow.holds Try.pinned (OpenSpec.ofChange fnMailOnceWrong)

/-- 'laws.FnExactHandleMessage': WHATEVER THE INPUT: true; the input reads as it did. -/
def fnExactHandleMessageSpec : ChangeSpec := { name := "fnExactHandleMessage", fn := fun _ => fun
  | [d1, d2] => { results := [.lit (.bool true)], args := [d1, d2] }
  | _ => none }
def fnExactHandleMessageRow : OpenClaim := { program := "ytjmgpcfmcdlnpaa", sum := "411119fa9426da6e6b6b126c6e4bcafb2d3dcefce116f66e28f0bc1e0c854b6f", func := "loop.example/g03312/laws.FnExactHandleMessage", spec := "fnExactHandleMessage", apart := false }
def FnExactHandleMessageSaid : Prop := fnExactHandleMessageRow.holds Try.pinned (OpenSpec.ofChange fnExactHandleMessageSpec)

/-- ITS FALSE NEIGHBOUR: 'it returns false'. Refute it at one input. -/
def fnExactHandleMessageWrong : ChangeSpec := { name := "fnExactHandleMessage", fn := fun _ => fun
  | [d1, d2] => { results := [.lit (.bool false)], args := [d1, d2] }
  | _ => none }
def FnExactHandleMessageWrongFalsely : Prop := fnExactHandleMessageRow.holds Try.pinned (OpenSpec.ofChange fnExactHandleMessageWrong)

/-- 'laws.FnExactSendCommands': WHATEVER THE INPUT: true; the input reads as it did. -/
def fnExactSendCommandsSpec : ChangeSpec := { name := "fnExactSendCommands", fn := fun _ => fun
  | [d1, d2, d3] => { results := [.lit (.bool true)], args := [d1, d2, d3] }
  | _ => none }
def fnExactSendCommandsRow : OpenClaim := { program := "ytjmgpcfmcdlnpaa", sum := "411119fa9426da6e6b6b126c6e4bcafb2d3dcefce116f66e28f0bc1e0c854b6f", func := "loop.example/g03312/laws.FnExactSendCommands", spec := "fnExactSendCommands", unfollowed := true, recurses := true, apart := false }
def FnExactSendCommandsSaid : Prop := fnExactSendCommandsRow.holds Try.pinned (OpenSpec.ofChange fnExactSendCommandsSpec)

/-- ITS FALSE NEIGHBOUR: 'it returns false'. Refute it at one input. -/
def fnExactSendCommandsWrong : ChangeSpec := { name := "fnExactSendCommands", fn := fun _ => fun
  | [d1, d2, d3] => { results := [.lit (.bool false)], args := [d1, d2, d3] }
  | _ => none }
def FnExactSendCommandsWrongFalsely : Prop := fnExactSendCommandsRow.holds Try.pinned (OpenSpec.ofChange fnExactSendCommandsWrong)

/- THE SECOND FORM. 'bulk': how many values and letters a reading holds, each counted each time it is reached (what is shared counts as often as it is met; a slice's spare places count too). A statement '..UptoSaid' is the law's where the arguments, and the package variables that the reading takes, are together of bulk at most 1048576: NARROWER than '..Said'. Prove '..Said' where nothing that the law and all that it calls make is longer than what came in: it says more and counts as full. Else prove '..UptoSaid'. A law counts once. -/
mutual
def uptoBulk {H : Type} : DataW H → Nat
  | .lit (.string bytes) => bytes.length + 1
  | .lit _ => 1
  | .nil => 1
  | .ptr d => uptoBulk d + 1
  | .slice elems spare => uptoBulkAll elems + uptoBulkAll spare + 1
  | .agg parts => uptoBulkAll parts + 1
  | .iface _ d => uptoBulk d + 1
  | .map entries => uptoBulkEntries entries + 1
  | .held _ => 1
def uptoBulkAll {H : Type} : List (DataW H) → Nat
  | [] => 0
  | d :: r => uptoBulk d + uptoBulkAll r
def uptoBulkEntries {H : Type} : List (Lit × DataW H) → Nat
  | [] => 0
  | x :: r => uptoBulkEntry x + uptoBulkEntries r
def uptoBulkEntry {H : Type} : Lit × DataW H → Nat
  | (.string bytes, d) => bytes.length + uptoBulk d + 1
  | (_, d) => uptoBulk d + 1
 end
def uptoSmall : (H : Type) → List (DataW H) → Bool := fun _ ds => decide (uptoBulkAll ds ≤ 1048576)
def OpenSpec.upto (s : _root_.Go.ChangeSpec) : _root_.Go.OpenSpec := { _root_.Go.OpenSpec.ofChange s with cond := some uptoSmall }

/-- 'laws.FnExactMailboxOk', WHERE WHAT IT READS IS OF BULK AT MOST 1048576: true; the input reads as it did. -/
def fnExactMailboxOkUptoRow : OpenClaim := { program := "ytjmgpcfmcdlnpaa", sum := "411119fa9426da6e6b6b126c6e4bcafb2d3dcefce116f66e28f0bc1e0c854b6f", func := "loop.example/g03312/laws.FnExactMailboxOk", spec := "fnExactMailboxOk", apart := false, narrowed := true }
def FnExactMailboxOkUptoSaid : Prop := fnExactMailboxOkUptoRow.holds Try.pinned (OpenSpec.upto fnExactMailboxOkSpec)

/-- 'laws.FnMailFilter', WHERE WHAT IT READS IS OF BULK AT MOST 1048576: true; the input reads as it did. -/
def fnMailFilterUptoRow : OpenClaim := { program := "ytjmgpcfmcdlnpaa", sum := "411119fa9426da6e6b6b126c6e4bcafb2d3dcefce116f66e28f0bc1e0c854b6f", func := "loop.example/g03312/laws.FnMailFilter", spec := "fnMailFilter", apart := false, narrowed := true }
def FnMailFilterUptoSaid : Prop := fnMailFilterUptoRow.holds Try.pinned (OpenSpec.upto fnMailFilterSpec)

/-- 'laws.FnMailOnce', WHERE WHAT IT READS IS OF BULK AT MOST 1048576: true; the input reads as it did. -/
def fnMailOnceUptoRow : OpenClaim := { program := "ytjmgpcfmcdlnpaa", sum := "411119fa9426da6e6b6b126c6e4bcafb2d3dcefce116f66e28f0bc1e0c854b6f", func := "loop.example/g03312/laws.FnMailOnce", spec := "fnMailOnce", unfollowed := true, recurses := true, apart := false, narrowed := true }
def FnMailOnceUptoSaid : Prop := fnMailOnceUptoRow.holds Try.pinned (OpenSpec.upto fnMailOnceSpec)

/-- 'laws.FnExactHandleMessage', WHERE WHAT IT READS IS OF BULK AT MOST 1048576: true; the input reads as it did. -/
def fnExactHandleMessageUptoRow : OpenClaim := { program := "ytjmgpcfmcdlnpaa", sum := "411119fa9426da6e6b6b126c6e4bcafb2d3dcefce116f66e28f0bc1e0c854b6f", func := "loop.example/g03312/laws.FnExactHandleMessage", spec := "fnExactHandleMessage", apart := false, narrowed := true }
def FnExactHandleMessageUptoSaid : Prop := fnExactHandleMessageUptoRow.holds Try.pinned (OpenSpec.upto fnExactHandleMessageSpec)

/-- 'laws.FnExactSendCommands', WHERE WHAT IT READS IS OF BULK AT MOST 1048576: true; the input reads as it did. -/
def fnExactSendCommandsUptoRow : OpenClaim := { program := "ytjmgpcfmcdlnpaa", sum := "411119fa9426da6e6b6b126c6e4bcafb2d3dcefce116f66e28f0bc1e0c854b6f", func := "loop.example/g03312/laws.FnExactSendCommands", spec := "fnExactSendCommands", unfollowed := true, recurses := true, apart := false, narrowed := true }
def FnExactSendCommandsUptoSaid : Prop := fnExactSendCommandsUptoRow.holds Try.pinned (OpenSpec.upto fnExactSendCommandsSpec)

end Rows
end Go.Proofs.Ytjmgpcfmcdlnpaa
