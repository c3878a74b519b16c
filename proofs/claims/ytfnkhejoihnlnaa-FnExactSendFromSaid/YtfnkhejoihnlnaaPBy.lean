/- What functions of the program compute, in plain Lean, as the value machine runs them. Conditions: none. -/
import Derived.Test.YtfnkhejoihnlnaaPBa
import Derived.Test.YtfnkhejoihnlnaaBit
set_option linter.unusedVariables false
set_option linter.unusedSimpArgs false
set_option maxRecDepth 100000
namespace Go.Proofs.Ytfnkhejoihnlnaa.Pl
open Vm
noncomputable section


def impl_Word32_t {α : Type} (k_ : Bytes → α) (v : Int) : α :=
  bif !(between v 0 4294967295) then k_ []
  else k_ (toStr ([[.int (IntKind.wrap .u8 (shrI .i64 v 24))], [.int (IntKind.wrap .u8 (shrI .i64 v 16))], [.int (IntKind.wrap .u8 (shrI .i64 v 8))], [.int (IntKind.wrap .u8 v)]]))
def Word32 (v : Int) : Bytes := impl_Word32_t id v
theorem impl_Word32_c {α : Type} (k_ : Bytes → α) (v : Int) : impl_Word32_t k_ v = k_ (Word32 v) := by
  exact cond_k rfl rfl

def spec_Word32_t {α : Type} (k_ : Bytes → α) (v : Int) : α :=
  bif !(between v 0 4294967295) then k_ []
  else k_ (toStr ([[.int (IntKind.wrap .u8 (shrI .i64 v 24))], [.int (IntKind.wrap .u8 (shrI .i64 v 16))], [.int (IntKind.wrap .u8 (shrI .i64 v 8))], [.int (IntKind.wrap .u8 v)]]))
theorem spec_Word32_c {α : Type} (k_ : Bytes → α) (v : Int) (h_v : WtC (.int .i64) (.int v)) : spec_Word32_t k_ v = k_ (Word32 v) := by
  exact cond_k rfl rfl

end
end Go.Proofs.Ytfnkhejoihnlnaa.Pl
