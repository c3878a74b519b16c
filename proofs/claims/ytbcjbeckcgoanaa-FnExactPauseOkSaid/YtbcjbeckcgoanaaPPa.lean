/- What functions of the program compute, in plain Lean, as the value machine runs them. Conditions: none. -/
import Derived.Test.YtbcjbeckcgoanaaPBa
set_option linter.unusedVariables false
set_option linter.unusedSimpArgs false
namespace Go.Proofs.Ytbcjbeckcgoanaa.Pl
open Vm
noncomputable section


def impl_PauseOk_l0 {α : Type} (bad : α) (k_ : Bool → α) (x : Rows) (x_1 : Int) (p_4 : Int) (p_7 : Rows) (p_8 : Rows) (ih0 : Int → α) (x_2 : Int) : α :=
  bif decide (x_2 < x_1) then
    bif andt true (idx x_2 x) then
      bif !(between (rI (nth x (Int.toNat x_2)) 0) 0 1000) then k_ false
      else ih0 (w64 (x_2 + 1))
    else bad
  else k_ (bif (len p_7) == p_4 then (len p_8) == p_4 else false)
def impl_PauseOk_L0 {α : Type} (bad : α) (k_ : Bool → α) (N : Nat) (x : Rows) (x_1 : Int) (p_4 : Int) (p_7 : Rows) (p_8 : Rows) (m_ : Nat) : Int → α :=
  Nat.rec (motive := fun _ => Int → α) (fun _ => bad) (fun _ ih0 => impl_PauseOk_l0 bad k_ x x_1 p_4 p_7 p_8 ih0) m_
theorem impl_PauseOk_L0_z {α : Type} (bad : α) (k_ : Bool → α) (N : Nat) (x : Rows) (x_1 : Int) (p_4 : Int) (p_7 : Rows) (p_8 : Rows) (x_2 : Int) : impl_PauseOk_L0 bad k_ N x x_1 p_4 p_7 p_8 0 x_2 = bad := rfl
theorem impl_PauseOk_L0_s {α : Type} (bad : α) (k_ : Bool → α) (N : Nat) (x : Rows) (x_1 : Int) (p_4 : Int) (p_7 : Rows) (p_8 : Rows) (m_ : Nat) (x_2 : Int) : impl_PauseOk_L0 bad k_ N x x_1 p_4 p_7 p_8 (m_ + 1) x_2 = impl_PauseOk_l0 bad k_ x x_1 p_4 p_7 p_8 (impl_PauseOk_L0 bad k_ N x x_1 p_4 p_7 p_8 m_) x_2 := rfl
def impl_PauseOk_t {α : Type} (bad : α) (k_ : Bool → α) (l0 : Rows → Int → Int → Rows → Rows → Int → α) (p : SPauseLink) : α :=
  bif bif decide (p.Low < 0) then true else bif decide (p.High < p.Low) then true else bif decide (p.Capacity < p.High) then true else bif decide (1000 < p.Capacity) then true else bif !(between p.Delay 1 8) then true else bif !(between p.Fill 0 p.Capacity) then true else !(between p.Lost 0 1000000000000) then k_ false
  else l0 p.Flying (len p.Flying) p.Delay p.Flying p.Signals 0
def impl_PauseOk_f {α : Type} (bad : α) (k_ : Bool → α) (N : Nat) (p : SPauseLink) : α := impl_PauseOk_t bad k_ (fun x x_1 p_4 p_7 p_8 => impl_PauseOk_L0 bad k_ N x x_1 p_4 p_7 p_8 N) p
def PauseOk (p : SPauseLink) : Bool := bif bif decide (p.Low < 0) then true else bif decide (p.High < p.Low) then true else bif decide (p.Capacity < p.High) then true else bif decide (1000 < p.Capacity) then true else bif !(between p.Delay 1 8) then true else bif !(between p.Fill 0 p.Capacity) then true else !(between p.Lost 0 1000000000000) then false
  else bif p.Flying.all (fun r => between (rI r 0) 0 1000) then bif (len p.Flying) == p.Delay then (len p.Signals) == p.Delay else false else false
theorem impl_PauseOk_c {α : Type} (bad : α) (k_ : Bool → α) (p : SPauseLink) (h_p : WtL SPauseLink.ct p.enc) : ∃ N, impl_PauseOk_f bad k_ N p = k_ (PauseOk p) := by
  obtain ⟨hl, _⟩ := wt_sl (SPauseLink.wt_Flying h_p)
  refine ⟨p.Flying.length + 1, ?_⟩
  unfold impl_PauseOk_f impl_PauseOk_t PauseOk
  refine cond_k rfl ?_
  refine (loop_rows0 p.Flying (impl_PauseOk_L0 bad k_ (p.Flying.length + 1) p.Flying (len p.Flying) p.Delay p.Flying p.Signals) (fun i r c => bif !(between (rI r 0) 0 1000) then k_ false else c) (k_ (bif (len p.Flying) == p.Delay then (len p.Signals) == p.Delay else false)) ?_ ?_).trans ?_
  · intro n i h
    rw [impl_PauseOk_L0_s]
    simp only [impl_PauseOk_l0, lt_len h, idx_nat h, w64_succ h hl, Int.toNat_natCast, andt_true_l, andt_true_r, cond_true]
  · intro n
    rw [impl_PauseOk_L0_s]
    simp only [impl_PauseOk_l0, not_lt_len, cond_false]
  · refine (go_all' (fun r => between (rI r 0) 0 1000) _ _ p.Flying 0).trans ?_
    exact cond_k rfl rfl

def spec_PauseOk_l0 {α : Type} (bad : α) (k_ : Bool → α) (p_4 : Int) (p_7 : Rows) (p_8 : Rows) (ih0 : Int → α) (k : Int) : α :=
  bif decide (k < len p_7) then
    bif andt true (idx k p_7) then
      bif !(between (rI (nth p_7 (Int.toNat k)) 0) 0 1000) then k_ false
      else ih0 (w64 (k + 1))
    else bad
  else k_ (bif (len p_7) == p_4 then (len p_8) == p_4 else false)
def spec_PauseOk_L0 {α : Type} (bad : α) (k_ : Bool → α) (N : Nat) (p_4 : Int) (p_7 : Rows) (p_8 : Rows) (m_ : Nat) : Int → α :=
  Nat.rec (motive := fun _ => Int → α) (fun _ => bad) (fun _ ih0 => spec_PauseOk_l0 bad k_ p_4 p_7 p_8 ih0) m_
theorem spec_PauseOk_L0_z {α : Type} (bad : α) (k_ : Bool → α) (N : Nat) (p_4 : Int) (p_7 : Rows) (p_8 : Rows) (k : Int) : spec_PauseOk_L0 bad k_ N p_4 p_7 p_8 0 k = bad := rfl
theorem spec_PauseOk_L0_s {α : Type} (bad : α) (k_ : Bool → α) (N : Nat) (p_4 : Int) (p_7 : Rows) (p_8 : Rows) (m_ : Nat) (k : Int) : spec_PauseOk_L0 bad k_ N p_4 p_7 p_8 (m_ + 1) k = spec_PauseOk_l0 bad k_ p_4 p_7 p_8 (spec_PauseOk_L0 bad k_ N p_4 p_7 p_8 m_) k := rfl
def spec_PauseOk_t {α : Type} (bad : α) (k_ : Bool → α) (l0 : Int → Rows → Rows → Int → α) (p : SPauseLink) : α :=
  bif bif decide (p.Low < 0) then true else bif decide (p.High < p.Low) then true else bif decide (p.Capacity < p.High) then true else bif decide (1000 < p.Capacity) then true else bif !(between p.Delay 1 8) then true else bif !(between p.Fill 0 p.Capacity) then true else !(between p.Lost 0 1000000000000) then k_ false
  else l0 p.Delay p.Flying p.Signals 0
def spec_PauseOk_f {α : Type} (bad : α) (k_ : Bool → α) (N : Nat) (p : SPauseLink) : α := spec_PauseOk_t bad k_ (fun p_4 p_7 p_8 => spec_PauseOk_L0 bad k_ N p_4 p_7 p_8 N) p
theorem spec_PauseOk_c {α : Type} (bad : α) (k_ : Bool → α) (p : SPauseLink) (h_p : WtL SPauseLink.ct p.enc) : ∃ N, spec_PauseOk_f bad k_ N p = k_ (PauseOk p) := by
  obtain ⟨hl, _⟩ := wt_sl (SPauseLink.wt_Flying h_p)
  refine ⟨p.Flying.length + 1, ?_⟩
  unfold spec_PauseOk_f spec_PauseOk_t PauseOk
  refine cond_k rfl ?_
  refine (loop_rows0 p.Flying (spec_PauseOk_L0 bad k_ (p.Flying.length + 1) p.Delay p.Flying p.Signals) (fun i r c => bif !(between (rI r 0) 0 1000) then k_ false else c) (k_ (bif (len p.Flying) == p.Delay then (len p.Signals) == p.Delay else false)) ?_ ?_).trans ?_
  · intro n i h
    rw [spec_PauseOk_L0_s]
    simp only [spec_PauseOk_l0, lt_len h, idx_nat h, w64_succ h hl, Int.toNat_natCast, andt_true_l, andt_true_r, cond_true]
  · intro n
    rw [spec_PauseOk_L0_s]
    simp only [spec_PauseOk_l0, not_lt_len, cond_false]
  · refine (go_all' (fun r => between (rI r 0) 0 1000) _ _ p.Flying 0).trans ?_
    exact cond_k rfl rfl

def laws_FnExactPauseOk_t {α : Type} (bad : α) (k_ : Bool → α) (aP : SPauseLink) : α :=
  bif decide (laws_szPauseLink aP 1048576 < 0) then k_ true
  else bif andt true (laws_toPauseLink_ok aP) then
      bif andt true (laws_toPauseLink_ok aP) then
        bif !((PauseOk (idf aP)) == (PauseOk (idf aP))) then k_ false
        else bif andt (andt true (laws_toPauseLink_ok aP)) (same (idf aP) (idf aP)) then
            bif !(yes2 (idf aP) (idf aP)) then k_ false
            else k_ true
          else bad
      else bad
    else bad
theorem laws_FnExactPauseOk_c {α : Type} (bad : α) (k_ : Bool → α) (aP : SPauseLink) (h_aP : WtL SPauseLink.ct aP.enc) (hok : fitL (SPauseLink.ct ++ ([])) (aP.enc ++ ([])) = true) : laws_FnExactPauseOk_t bad k_ aP = k_ true := by
  unfold laws_FnExactPauseOk_t
  by_cases c0 : laws_szPauseLink aP 1048576 < 0
  · simp only [c0, decide_true, cond_true]
  have k0 := laws_szPauseLink_ok h_aP (by omega) (by omega) (Int.not_lt.1 c0)
  simp only [c0, decide_false, cond_false, cond_true, idf, k0.2, andt_true_l, andt_true_r, same_refl, yes2, beq_self_eq_true, bne_self_eq_false, Bool.not_true, okm_tt]

end
end Go.Proofs.Ytbcjbeckcgoanaa.Pl
