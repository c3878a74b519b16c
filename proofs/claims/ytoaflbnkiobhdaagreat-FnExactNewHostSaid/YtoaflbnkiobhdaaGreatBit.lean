/- Plain lemmas on bits and bytes. Conditions: none. -/
import Derived.Test.YtoaflbnkiobhdaaGreatLem
set_option linter.unusedVariables false
namespace Go.Proofs.YtoaflbnkiobhdaaGreat.Pl
open Vm
theorem nji (n:Int) (nkL:0≤n) (nkM:n<2 ^ 63):IntKind.i64.wrap n=n:=by rw[IntKind.wrap_i64];omega
end Go.Proofs.YtoaflbnkiobhdaaGreat.Pl
