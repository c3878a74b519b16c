/-
  No cell of these rows narrows 'for every input' (looked for: loops, veiled, ifaces, maps, wideKeys, modest, calm, conditions, laid).
  DERIVED. THE GIVEN ROWS OF THIS SEAT. 2 by the template 'for every input the law returns true; each argument reads behind the call as it read before'; 0 by the template 'total and deterministic' (their statements: YthpmalpdnnbkgaaGreatTotals.lean).
  GIVEN WITH THE SEED: the statements are not yours to turn. If you find one false, say at which input.
  Laid BY PROGRAM, IN A SANDBOX (cutbox-rows.mjs): the forced cells as the released guide's own fill.sh prints them over the translation 6c34ee66e8047ea4… (all of the seat's roots in one cut). By AI agents, Wed Nov 11 2026. No macro, syntax, notation, axiom, sorry.
-/
import Derived.Test.YthpmalpdnnbkgaaGreatChecked
import GoSem.Claim
import GoSem.ClaimJoined
import GoSem.ClaimMapViews
import Derived.JoinedTies
import Derived.KernelRfl
namespace Go.Proofs.YthpmalpdnnbkgaaGreat
/- THE CELL 'sum', in the pinned program and in every row, IS THE sha256 OF THE DUMP (.gsa) THAT YthpmalpdnnbkgaaGreatProg.lean LOADS. Nothing in Lean hashes anything: it is a label: what it is worth is what the hold of that sum in a sandbox is worth. -/
noncomputable def Tryz.pinned : Pinned := { name := "ythpmalpdnnbkgaagreat", sum := "6c34ee66e8047ea4899e6d8d9e9ddc16ebf8afa3c32a9424fb2e292e3e3dc895", checked := Tryz.checked }
namespace Rows
def none {H : Type} : Left H := { results := [], args := [] }

/-- 'laws.FnExactHostAccount': WHATEVER THE INPUT: true; the input reads as it did. -/
def fnExactHostAccountSpec : ChangeSpec := { name := "fnExactHostAccount", fn := fun _ => fun
  | [d] => { results := [.lit (.bool true)], args := [d] }
  | _ => none }
def fnExactHostAccountRow : OpenClaim := { program := "ythpmalpdnnbkgaagreat", sum := "6c34ee66e8047ea4899e6d8d9e9ddc16ebf8afa3c32a9424fb2e292e3e3dc895", func := "loop.example/g03312/laws.FnExactHostAccount", spec := "fnExactHostAccount", apart := false }
def FnExactHostAccountSaid : Prop := fnExactHostAccountRow.holds Tryz.pinned (OpenSpec.ofChange fnExactHostAccountSpec)

/-- ITS FALSE NEIGHBOUR: 'it returns false'. Refute it at one input. -/
def fnExactHostAccountWrong : ChangeSpec := { name := "fnExactHostAccount", fn := fun _ => fun
  | [d] => { results := [.lit (.bool false)], args := [d] }
  | _ => none }
def FnExactHostAccountWrongFalsely : Prop := fnExactHostAccountRow.holds Tryz.pinned (OpenSpec.ofChange fnExactHostAccountWrong)

/-- 'laws.FnExactHostTick': WHATEVER THE INPUT: true; the input reads as it did. -/
def fnExactHostTickSpec : ChangeSpec := { name := "fnExactHostTick", fn := fun _ => fun
  | [d] => { results := [.lit (.bool true)], args := [d] }
  | _ => none }
def fnExactHostTickRow : OpenClaim := { program := "ythpmalpdnnbkgaagreat", sum := "6c34ee66e8047ea4899e6d8d9e9ddc16ebf8afa3c32a9424fb2e292e3e3dc895", func := "loop.example/g03312/laws.FnExactHostTick", spec := "fnExactHostTick", apart := false }
def FnExactHostTickSaid : Prop := fnExactHostTickRow.holds Tryz.pinned (OpenSpec.ofChange fnExactHostTickSpec)

/-- ITS FALSE NEIGHBOUR: 'it returns false'. Refute it at one input. -/
def fnExactHostTickWrong : ChangeSpec := { name := "fnExactHostTick", fn := fun _ => fun
  | [d] => { results := [.lit (.bool false)], args := [d] }
  | _ => none }
def FnExactHostTickWrongFalsely : Prop := fnExactHostTickRow.holds Tryz.pinned (OpenSpec.ofChange fnExactHostTickWrong)

/- THE SECOND FORM. 'bulk': how many values and letters a reading holds, each counted each time it is reached (what is shared counts as often as it is met; a slice's spare places count too). A statement '..UptoSaid' is the law's where the arguments, and the package variables that the reading takes, are together of bulk at most 1048576: NARROWER than '..Said'. Prove '..Said' where nothing that the law and all that it calls make is longer than what came in: it says more and counts as full. Else prove '..UptoSaid'. A law counts once. -/
mutual
def uptoBulk {H : Type} : DataW H → Nat
  | .lit (.string bytes) => bytes.length + 1
  | .lit _ => 1
  | .nil => 1
  | .ptr d => uptoBulk d + 1
  | .slice elems spare => uptoBulkAll elems + uptoBulkAll spare + 1
  | .agg parts => uptoBulkAll parts + 1
  | .iface _ d => uptoBulk d + 1
  | .map entries => uptoBulkEntries entries + 1
  | .held _ => 1
def uptoBulkAll {H : Type} : List (DataW H) → Nat
  | [] => 0
  | d :: r => uptoBulk d + uptoBulkAll r
def uptoBulkEntries {H : Type} : List (Lit × DataW H) → Nat
  | [] => 0
  | x :: r => uptoBulkEntry x + uptoBulkEntries r
def uptoBulkEntry {H : Type} : Lit × DataW H → Nat
  | (.string bytes, d) => bytes.length + uptoBulk d + 1
  | (_, d) => uptoBulk d + 1
 end
def uptoSmall : (H : Type) → List (DataW H) → Bool := fun _ ds => decide (uptoBulkAll ds ≤ 1048576)
def OpenSpec.upto (s : _root_.Go.ChangeSpec) : _root_.Go.OpenSpec := { _root_.Go.OpenSpec.ofChange s with cond := some uptoSmall }

/-- 'laws.FnExactHostAccount', WHERE WHAT IT READS IS OF BULK AT MOST 1048576: true; the input reads as it did. -/
def fnExactHostAccountUptoRow : OpenClaim := { program := "ythpmalpdnnbkgaagreat", sum := "6c34ee66e8047ea4899e6d8d9e9ddc16ebf8afa3c32a9424fb2e292e3e3dc895", func := "loop.example/g03312/laws.FnExactHostAccount", spec := "fnExactHostAccount", apart := false, narrowed := true }
def FnExactHostAccountUptoSaid : Prop := fnExactHostAccountUptoRow.holds Tryz.pinned (OpenSpec.upto fnExactHostAccountSpec)

/-- 'laws.FnExactHostTick', WHERE WHAT IT READS IS OF BULK AT MOST 1048576: true; the input reads as it did. -/
def fnExactHostTickUptoRow : OpenClaim := { program := "ythpmalpdnnbkgaagreat", sum := "6c34ee66e8047ea4899e6d8d9e9ddc16ebf8afa3c32a9424fb2e292e3e3dc895", func := "loop.example/g03312/laws.FnExactHostTick", spec := "fnExactHostTick", apart := false, narrowed := true }
def FnExactHostTickUptoSaid : Prop := fnExactHostTickUptoRow.holds Tryz.pinned (OpenSpec.upto fnExactHostTickSpec)

end Rows
end Go.Proofs.YthpmalpdnnbkgaaGreat
