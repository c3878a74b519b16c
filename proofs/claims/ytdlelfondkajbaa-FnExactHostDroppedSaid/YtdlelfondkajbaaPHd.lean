/- What functions of the program compute, in plain Lean, as the value machine runs them. Conditions: none. -/
import Derived.Test.YtdlelfondkajbaaPLs
set_option linter.unusedVariables false
set_option linter.unusedSimpArgs false
set_option maxRecDepth 100000
namespace Go.Proofs.Ytdlelfondkajbaa.Pl
open Vm
noncomputable section


def impl_HostDropped_l0 {α : Type} (bad : α) (k_ : Int → α) (x : Rows) (x_1 : Int) (ih0 : Int → Int → α) (n : Int) (x_2 : Int) : α :=
  bif decide (x_2 < x_1) then
    bif andt true (idx x_2 x) then
      ih0 (w64 (n + (rI (nth x (Int.toNat x_2)) 29))) (w64 (x_2 + 1))
    else bad
  else k_ n
def impl_HostDropped_L0 {α : Type} (bad : α) (k_ : Int → α) (N : Nat) (x : Rows) (x_1 : Int) (m_ : Nat) : Int → Int → α :=
  Nat.rec (motive := fun _ => Int → Int → α) (fun _ _ => bad) (fun _ ih0 => impl_HostDropped_l0 bad k_ x x_1 ih0) m_
theorem impl_HostDropped_L0_z {α : Type} (bad : α) (k_ : Int → α) (N : Nat) (x : Rows) (x_1 : Int) (n : Int) (x_2 : Int) : impl_HostDropped_L0 bad k_ N x x_1 0 n x_2 = bad := rfl
theorem impl_HostDropped_L0_s {α : Type} (bad : α) (k_ : Int → α) (N : Nat) (x : Rows) (x_1 : Int) (m_ : Nat) (n : Int) (x_2 : Int) : impl_HostDropped_L0 bad k_ N x x_1 (m_ + 1) n x_2 = impl_HostDropped_l0 bad k_ x x_1 (impl_HostDropped_L0 bad k_ N x x_1 m_) n x_2 := rfl
def impl_HostDropped_t {α : Type} (bad : α) (k_ : Int → α) (l0 : Rows → Int → Int → Int → α) (h : SHost) : α :=
  l0 h.Rx (len h.Rx) 0 0
def impl_HostDropped_f {α : Type} (bad : α) (k_ : Int → α) (N : Nat) (h : SHost) : α := impl_HostDropped_t bad k_ (fun x x_1 => impl_HostDropped_L0 bad k_ N x x_1 N) h
def HostDropped (h : SHost) : Int := itN (fun i s => w64 (s + rI (nth h.Rx i) 29)) h.Rx.length 0 0
theorem impl_HostDropped_c {α : Type} (bad : α) (k_ : Int → α) (h : SHost) (h_h : WtL SHost.ct h.enc) : ∃ N, impl_HostDropped_f bad k_ N h = k_ (HostDropped h) := by
  obtain ⟨hl, _⟩ := wt_sl (SHost.wt_Rx h_h)
  refine ⟨h.Rx.length + 1, ?_⟩
  unfold impl_HostDropped_f impl_HostDropped_t HostDropped
  refine loop_inv h.Rx.length (fun n i s => impl_HostDropped_L0 bad k_ (h.Rx.length + 1) h.Rx (len h.Rx) n s i) (fun i s => w64 (s + rI (nth h.Rx i) 29)) k_ (fun _ _ => True) (fun _ _ _ _ => trivial) ?_ ?_ (h.Rx.length + 1) 0 trivial (by omega)
  · intro n i s h2 _
    show impl_HostDropped_L0 bad k_ (h.Rx.length + 1) h.Rx (len h.Rx) (n + 1) s (i : Int) = _
    rw [impl_HostDropped_L0_s]
    simp only [impl_HostDropped_l0, lt_len h2, idx_nat h2, w64_succ h2 hl, Int.toNat_natCast, andt_true_l, andt_true_r, cond_true]
  · intro n s _
    show impl_HostDropped_L0 bad k_ (h.Rx.length + 1) h.Rx (len h.Rx) (n + 1) s (h.Rx.length : Int) = _
    rw [impl_HostDropped_L0_s]
    simp only [impl_HostDropped_l0, not_lt_len, cond_false]

def spec_HostDropped_l0 {α : Type} (bad : α) (k_ : Int → α) (h_13 : Rows) (ih0 : Int → Int → α) (n : Int) (k : Int) : α :=
  bif decide (k < len h_13) then
    bif andt true (idx k h_13) then
      ih0 (w64 (n + (rI (nth h_13 (Int.toNat k)) 29))) (w64 (k + 1))
    else bad
  else k_ n
def spec_HostDropped_L0 {α : Type} (bad : α) (k_ : Int → α) (N : Nat) (h_13 : Rows) (m_ : Nat) : Int → Int → α :=
  Nat.rec (motive := fun _ => Int → Int → α) (fun _ _ => bad) (fun _ ih0 => spec_HostDropped_l0 bad k_ h_13 ih0) m_
theorem spec_HostDropped_L0_z {α : Type} (bad : α) (k_ : Int → α) (N : Nat) (h_13 : Rows) (n : Int) (k : Int) : spec_HostDropped_L0 bad k_ N h_13 0 n k = bad := rfl
theorem spec_HostDropped_L0_s {α : Type} (bad : α) (k_ : Int → α) (N : Nat) (h_13 : Rows) (m_ : Nat) (n : Int) (k : Int) : spec_HostDropped_L0 bad k_ N h_13 (m_ + 1) n k = spec_HostDropped_l0 bad k_ h_13 (spec_HostDropped_L0 bad k_ N h_13 m_) n k := rfl
def spec_HostDropped_t {α : Type} (bad : α) (k_ : Int → α) (l0 : Rows → Int → Int → α) (h : SHost) : α :=
  l0 h.Rx 0 0
def spec_HostDropped_f {α : Type} (bad : α) (k_ : Int → α) (N : Nat) (h : SHost) : α := spec_HostDropped_t bad k_ (fun h_13 => spec_HostDropped_L0 bad k_ N h_13 N) h
theorem spec_HostDropped_c {α : Type} (bad : α) (k_ : Int → α) (h : SHost) (h_h : WtL SHost.ct h.enc) : ∃ N, spec_HostDropped_f bad k_ N h = k_ (HostDropped h) := by
  obtain ⟨hl, _⟩ := wt_sl (SHost.wt_Rx h_h)
  refine ⟨h.Rx.length + 1, ?_⟩
  unfold spec_HostDropped_f spec_HostDropped_t HostDropped
  refine loop_inv h.Rx.length (fun n i s => spec_HostDropped_L0 bad k_ (h.Rx.length + 1) h.Rx n s i) (fun i s => w64 (s + rI (nth h.Rx i) 29)) k_ (fun _ _ => True) (fun _ _ _ _ => trivial) ?_ ?_ (h.Rx.length + 1) 0 trivial (by omega)
  · intro n i s h2 _
    show spec_HostDropped_L0 bad k_ (h.Rx.length + 1) h.Rx (n + 1) s (i : Int) = _
    rw [spec_HostDropped_L0_s]
    simp only [spec_HostDropped_l0, lt_len h2, idx_nat h2, w64_succ h2 hl, Int.toNat_natCast, andt_true_l, andt_true_r, cond_true]
  · intro n s _
    show spec_HostDropped_L0 bad k_ (h.Rx.length + 1) h.Rx (n + 1) s (h.Rx.length : Int) = _
    rw [spec_HostDropped_L0_s]
    simp only [spec_HostDropped_l0, not_lt_len, cond_false]

def laws_FnExactHostDropped_t {α : Type} (bad : α) (k_ : Bool → α) (aH : SHost) : α :=
  bif decide (laws_szHost aH 1048576 < 0) then k_ true
  else bif andt true (laws_toHost_ok aH) then
      bif andt true (laws_toHost_ok aH) then
        bif (HostDropped (idf aH)) != (HostDropped (idf aH)) then k_ false
        else bif andt (andt true (laws_toHost_ok aH)) (same (idf aH) (idf aH)) then
            bif !(yes2 (idf aH) (idf aH)) then k_ false
            else k_ true
          else bad
      else bad
    else bad
theorem laws_FnExactHostDropped_c {α : Type} (bad : α) (k_ : Bool → α) (aH : SHost) (h_aH : WtL SHost.ct aH.enc) (hok : fitL (SHost.ct ++ ([])) (aH.enc ++ ([])) = true) : laws_FnExactHostDropped_t bad k_ aH = k_ true := by
  unfold laws_FnExactHostDropped_t
  by_cases c0 : laws_szHost aH 1048576 < 0
  · simp only [c0, decide_true, decide_false, cond_true, cond_false]
  have k0 := laws_szHost_ok h_aH (by omega) (by omega) (Int.not_lt.1 c0)
  simp only [c0, decide_false, cond_false, cond_true, idf, k0.2, andt_true_l, andt_true_r, same_refl, yes2, beq_self_eq_true, bne_self_eq_false, Bool.not_true, okm_tt]

end
end Go.Proofs.Ytdlelfondkajbaa.Pl
