/- What functions of the program compute, in plain Lean, as the value machine runs them. Conditions: none. -/
import Derived.Test.YtdlelfondkajbaaGreatPMp
import Derived.Test.YtdlelfondkajbaaGreatBit
set_option linter.unusedVariables false
set_option linter.unusedSimpArgs false
set_option maxRecDepth 100000
namespace Go.Proofs.YtdlelfondkajbaaGreat.Pl
open Vm
noncomputable section


def impl_MemoryOk_l0 {α : Type} (bad : α) (k_ : Bool → α) (x : Rows) (x_1 : Int) (m_1 : Rows) (ih0 : Int → α) (x_2 : Int) : α :=
  bif decide (x_2 < x_1) then
    bif andt true (idx x_2 x) then
      bif (len (rS (nth x (Int.toNat x_2)) 0)) != 128 then k_ false
      else ih0 (w64 (x_2 + 1))
    else bad
  else k_ (decide (len m_1 ≤ 64))
def impl_MemoryOk_L0 {α : Type} (bad : α) (k_ : Bool → α) (N : Nat) (x : Rows) (x_1 : Int) (m_1 : Rows) (m_ : Nat) : Int → α :=
  Nat.rec (motive := fun _ => Int → α) (fun _ => bad) (fun _ ih0 => impl_MemoryOk_l0 bad k_ x x_1 m_1 ih0) m_
theorem impl_MemoryOk_L0_z {α : Type} (bad : α) (k_ : Bool → α) (N : Nat) (x : Rows) (x_1 : Int) (m_1 : Rows) (x_2 : Int) : impl_MemoryOk_L0 bad k_ N x x_1 m_1 0 x_2 = bad := rfl
theorem impl_MemoryOk_L0_s {α : Type} (bad : α) (k_ : Bool → α) (N : Nat) (x : Rows) (x_1 : Int) (m_1 : Rows) (m_ : Nat) (x_2 : Int) : impl_MemoryOk_L0 bad k_ N x x_1 m_1 (m_ + 1) x_2 = impl_MemoryOk_l0 bad k_ x x_1 m_1 (impl_MemoryOk_L0 bad k_ N x x_1 m_1 m_) x_2 := rfl
def impl_MemoryOk_t {α : Type} (bad : α) (k_ : Bool → α) (l0 : Rows → Int → Rows → Int → α) (m : SMemory) : α :=
  l0 m.Pages (len m.Pages) m.Pages 0
def impl_MemoryOk_f {α : Type} (bad : α) (k_ : Bool → α) (N : Nat) (m : SMemory) : α := impl_MemoryOk_t bad k_ (fun x x_1 m_1 => impl_MemoryOk_L0 bad k_ N x x_1 m_1 N) m
def MemoryOk (m : SMemory) : Bool := bif anyIdx (fun _ r => (len (rS r 0)) != 128) m.Pages 0 then false else decide (len m.Pages ≤ 64)
theorem impl_MemoryOk_c {α : Type} (bad : α) (k_ : Bool → α) (m : SMemory) (h_m : WtL SMemory.ct m.enc) : ∃ N, impl_MemoryOk_f bad k_ N m = k_ (MemoryOk m) := by
  obtain ⟨hl, _⟩ := wt_sl (SMemory.wt_Pages h_m)
  refine ⟨m.Pages.length + 1, ?_⟩
  unfold impl_MemoryOk_f impl_MemoryOk_t MemoryOk
  refine (loop_rows0 m.Pages (impl_MemoryOk_L0 bad k_ (m.Pages.length + 1) m.Pages (len m.Pages) m.Pages) (fun i r c => bif (len (rS r 0)) != 128 then k_ false else c) (k_ (decide (len m.Pages ≤ 64))) ?_ ?_).trans ?_
  · intro n i h
    rw [impl_MemoryOk_L0_s]
    simp only [impl_MemoryOk_l0, lt_len h, idx_nat h, w64_succ h hl, Int.toNat_natCast, andt_true_l, andt_true_r, cond_true]
  · intro n
    rw [impl_MemoryOk_L0_s]
    simp only [impl_MemoryOk_l0, not_lt_len, cond_false]
  · refine (go_anyIdx (fun _ r => (len (rS r 0)) != 128) _ _ m.Pages 0).trans ?_
    exact cond_k rfl rfl

def spec_MemoryOk_l0 {α : Type} (bad : α) (k_ : Bool → α) (m_1 : Rows) (ih0 : Int → α) (k : Int) : α :=
  bif decide (k < len m_1) then
    bif andt true (idx k m_1) then
      bif (len (rS (nth m_1 (Int.toNat k)) 0)) != 128 then k_ false
      else ih0 (w64 (k + 1))
    else bad
  else k_ (decide (len m_1 ≤ 64))
def spec_MemoryOk_L0 {α : Type} (bad : α) (k_ : Bool → α) (N : Nat) (m_1 : Rows) (m_ : Nat) : Int → α :=
  Nat.rec (motive := fun _ => Int → α) (fun _ => bad) (fun _ ih0 => spec_MemoryOk_l0 bad k_ m_1 ih0) m_
theorem spec_MemoryOk_L0_z {α : Type} (bad : α) (k_ : Bool → α) (N : Nat) (m_1 : Rows) (k : Int) : spec_MemoryOk_L0 bad k_ N m_1 0 k = bad := rfl
theorem spec_MemoryOk_L0_s {α : Type} (bad : α) (k_ : Bool → α) (N : Nat) (m_1 : Rows) (m_ : Nat) (k : Int) : spec_MemoryOk_L0 bad k_ N m_1 (m_ + 1) k = spec_MemoryOk_l0 bad k_ m_1 (spec_MemoryOk_L0 bad k_ N m_1 m_) k := rfl
def spec_MemoryOk_t {α : Type} (bad : α) (k_ : Bool → α) (l0 : Rows → Int → α) (m : SMemory) : α :=
  l0 m.Pages 0
def spec_MemoryOk_f {α : Type} (bad : α) (k_ : Bool → α) (N : Nat) (m : SMemory) : α := spec_MemoryOk_t bad k_ (fun m_1 => spec_MemoryOk_L0 bad k_ N m_1 N) m
theorem spec_MemoryOk_c {α : Type} (bad : α) (k_ : Bool → α) (m : SMemory) (h_m : WtL SMemory.ct m.enc) : ∃ N, spec_MemoryOk_f bad k_ N m = k_ (MemoryOk m) := by
  obtain ⟨hl, _⟩ := wt_sl (SMemory.wt_Pages h_m)
  refine ⟨m.Pages.length + 1, ?_⟩
  unfold spec_MemoryOk_f spec_MemoryOk_t MemoryOk
  refine (loop_rows0 m.Pages (spec_MemoryOk_L0 bad k_ (m.Pages.length + 1) m.Pages) (fun i r c => bif (len (rS r 0)) != 128 then k_ false else c) (k_ (decide (len m.Pages ≤ 64))) ?_ ?_).trans ?_
  · intro n i h
    rw [spec_MemoryOk_L0_s]
    simp only [spec_MemoryOk_l0, lt_len h, idx_nat h, w64_succ h hl, Int.toNat_natCast, andt_true_l, andt_true_r, cond_true]
  · intro n
    rw [spec_MemoryOk_L0_s]
    simp only [spec_MemoryOk_l0, not_lt_len, cond_false]
  · refine (go_anyIdx (fun _ r => (len (rS r 0)) != 128) _ _ m.Pages 0).trans ?_
    exact cond_k rfl rfl

end
end Go.Proofs.YtdlelfondkajbaaGreat.Pl
