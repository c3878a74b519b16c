/- What functions of the program compute, in plain Lean, as the value machine runs them. Conditions: none. -/
import Derived.Test.YtfnkhejoihnlnaaPBa
set_option linter.unusedVariables false
set_option linter.unusedSimpArgs false
namespace Go.Proofs.Ytfnkhejoihnlnaa.Pl
open Vm
noncomputable section


def impl_FunctionAt_l0 {α : Type} (bad : α) (k_ : Int → α) (port : Int) (list_ : Rows) (x_1 : Int) (ih0 : Int → α) (x_2 : Int) : α :=
  bif decide (x_2 < x_1) then
    bif andt true (idx x_2 list_) then
      bif (rI (nth list_ (Int.toNat x_2)) 1) == port then k_ x_2
      else ih0 (w64 (x_2 + 1))
    else bad
  else k_ (-1)
def impl_FunctionAt_L0 {α : Type} (bad : α) (k_ : Int → α) (N : Nat) (port : Int) (list_ : Rows) (x_1 : Int) (m_ : Nat) : Int → α :=
  Nat.rec (motive := fun _ => Int → α) (fun _ => bad) (fun _ ih0 => impl_FunctionAt_l0 bad k_ port list_ x_1 ih0) m_
theorem impl_FunctionAt_L0_z {α : Type} (bad : α) (k_ : Int → α) (N : Nat) (port : Int) (list_ : Rows) (x_1 : Int) (x_2 : Int) : impl_FunctionAt_L0 bad k_ N port list_ x_1 0 x_2 = bad := rfl
theorem impl_FunctionAt_L0_s {α : Type} (bad : α) (k_ : Int → α) (N : Nat) (port : Int) (list_ : Rows) (x_1 : Int) (m_ : Nat) (x_2 : Int) : impl_FunctionAt_L0 bad k_ N port list_ x_1 (m_ + 1) x_2 = impl_FunctionAt_l0 bad k_ port list_ x_1 (impl_FunctionAt_L0 bad k_ N port list_ x_1 m_) x_2 := rfl
def impl_FunctionAt_t {α : Type} (bad : α) (k_ : Int → α) (l0 : Int → Int → α) (list_ : Rows) (port : Int) : α :=
  l0 (len list_) 0
def impl_FunctionAt_f {α : Type} (bad : α) (k_ : Int → α) (N : Nat) (list_ : Rows) (port : Int) : α := impl_FunctionAt_t bad k_ (fun x_1 => impl_FunctionAt_L0 bad k_ N port list_ x_1 N) list_ port
def FunctionAt (list_ : Rows) (port : Int) : Int := findIdx (fun _ r => (rI r 1) == port) list_ 0
theorem impl_FunctionAt_c {α : Type} (bad : α) (k_ : Int → α) (list_ : Rows) (port : Int) (h_list_ : WtC (.sl [.int .i64, .int .i64, .int .i64, .int .i64, .int .i64, .bool, .int .i64, .int .i64]) (.sl list_)) (h_port : WtC (.int .i64) (.int port)) : ∃ N, impl_FunctionAt_f bad k_ N list_ port = k_ (FunctionAt list_ port) := by
  obtain ⟨hl, _⟩ := wt_sl h_list_
  refine ⟨list_.length + 1, ?_⟩
  unfold impl_FunctionAt_f impl_FunctionAt_t
  refine (loop_rows0 list_ (impl_FunctionAt_L0 bad k_ (list_.length + 1) port list_ (len list_)) (fun i r c => bif (rI r 1) == port then k_ (i : Int) else c) (k_ (-1)) ?_ ?_).trans ?_
  · intro n i h
    rw [impl_FunctionAt_L0_s]
    simp only [impl_FunctionAt_l0, lt_len h, idx_nat h, w64_succ h hl, Int.toNat_natCast, andt_true_l, andt_true_r, cond_true]
  · intro n
    rw [impl_FunctionAt_L0_s]
    simp only [impl_FunctionAt_l0, not_lt_len, cond_false]
  · exact go_findIdx (fun i r => (rI r 1) == port) k_ list_ 0

end
end Go.Proofs.Ytfnkhejoihnlnaa.Pl
