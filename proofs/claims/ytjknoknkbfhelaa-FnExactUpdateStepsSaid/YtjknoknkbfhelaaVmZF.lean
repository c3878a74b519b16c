/- The value machine: loops of functions that write through parameters. Conditions: none; these are definitions. -/
import Derived.Test.YtjknoknkbfhelaaVmZE
namespace Go.Proofs.Ytjknoknkbfhelaa.Vm

/-- One round of the loop at a place of a body, for a function that writes through parameters. -/
def loopBM (P : Program) (Γ : Ctx) (A : List (Nat × Ann)) (N : Nat) (fn : Func) (s : Sum) (p : List Bool) (is : List (St → Res)) (ih : St → Res) (st : St) : Res :=
  match fn.body with
  | some c => match focus P Γ A N p is c { nrm := finM P fn s, ext := fun _ _ => bad, ret := finM P fn s } with
    | (.loop a, K) => match (firstReg a).bind (lkA A) with
      | some an => run P Γ A N a st { nrm := fun s' => ih (canon P an s'), ext := K.ext, ret := K.ret }
      | none => bad
    | _ => bad
  | none => bad

end Go.Proofs.Ytjknoknkbfhelaa.Vm
