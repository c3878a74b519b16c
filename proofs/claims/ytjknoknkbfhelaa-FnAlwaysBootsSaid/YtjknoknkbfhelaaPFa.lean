/- What functions of the program compute, in plain Lean, as the value machine runs them. Conditions: none. -/
import Derived.Test.YtjknoknkbfhelaaPBy
set_option linter.unusedVariables false
set_option linter.unusedSimpArgs false
namespace Go.Proofs.Ytjknoknkbfhelaa.Pl
open Vm
noncomputable section


def impl_FlashStepOk_t {α : Type} (k_ : Bool → α) (x : SFlashStep) : α :=
  bif !(between x.Bank 0 1) then k_ false
  else bif x.Kind == 0 then k_ (bif x.At == 0 then x.Data == [] else false)
  else bif x.Kind == 1 then k_ (bif between (len x.Data) 1 8 then between x.At 0 (w64 (96 - (len x.Data))) else false)
  else k_ false
def FlashStepOk (x : SFlashStep) : Bool := impl_FlashStepOk_t id x
theorem impl_FlashStepOk_c {α : Type} (k_ : Bool → α) (x : SFlashStep) : impl_FlashStepOk_t k_ x = k_ (FlashStepOk x) := by
  exact cond_k rfl (cond_k rfl (cond_k rfl rfl))

def spec_FlashStepOk_t {α : Type} (k_ : Bool → α) (x : SFlashStep) : α :=
  bif !(between x.Bank 0 1) then k_ false
  else bif x.Kind == 0 then k_ (bif x.At == 0 then x.Data == [] else false)
  else k_ (bif x.Kind == 1 then bif between (len x.Data) 1 8 then between x.At 0 (w64 (96 - (len x.Data))) else false else false)
theorem spec_FlashStepOk_c {α : Type} (k_ : Bool → α) (x : SFlashStep) (h_x : WtL SFlashStep.ct x.enc) : spec_FlashStepOk_t k_ x = k_ (FlashStepOk x) := by
  unfold spec_FlashStepOk_t FlashStepOk impl_FlashStepOk_t
  refine cond_k rfl (cond_k rfl ?_)
  cases (x.Kind == 1) <;> rfl

def laws_FnExactFlashStepOk_t {α : Type} (k_ : Bool → α) (aX : SFlashStep) : α :=
  bif decide (laws_szFlashStep aX 1048576 < 0) then k_ true
  else bif !((FlashStepOk (idf aX)) == (FlashStepOk (idf aX))) then k_ false
  else k_ true
theorem laws_FnExactFlashStepOk_c {α : Type} (k_ : Bool → α) (aX : SFlashStep) (h_aX : WtL SFlashStep.ct aX.enc) (hok : fitL (SFlashStep.ct ++ ([])) (aX.enc ++ ([])) = true) : laws_FnExactFlashStepOk_t k_ aX = k_ true := by
  unfold laws_FnExactFlashStepOk_t
  by_cases c0 : laws_szFlashStep aX 1048576 < 0
  · simp only [c0, decide_true, decide_false, cond_true, cond_false]
  have k0 := laws_szFlashStep_ok h_aX (by omega) (by omega) (Int.not_lt.1 c0)
  simp only [c0, decide_false, cond_false, cond_true, idf, k0.2, andt_true_l, andt_true_r, same_refl, yes2, beq_self_eq_true, bne_self_eq_false, Bool.not_true, okm_tt]

def impl_FlashOk_t {α : Type} (bad : α) (k_ : Bool → α) (f : SFlash) : α :=
  let z0 : Bool := (len (rS (nth f.Banks 0) 0)) == 96
  let z1 : Bool := andt true (idx 0 f.Banks)
  bif okm ((len f.Banks) == 2) (okm z0 (andt z1 (idx 1 f.Banks)) z1) true then
    k_ (bif (len f.Banks) == 2 then bif z0 then (len (rS (nth f.Banks 1) 0)) == 96 else false else false)
  else bad
def FlashOk (f : SFlash) : Bool := bif (len f.Banks) == 2 then bif (len (rS (nth f.Banks 0) 0)) == 96 then (len (rS (nth f.Banks 1) 0)) == 96 else false else false
theorem impl_FlashOk_c {α : Type} (bad : α) (k_ : Bool → α) (f : SFlash) (h_f : WtL SFlash.ct f.enc) : impl_FlashOk_t bad k_ f = k_ (FlashOk f) := by
  unfold impl_FlashOk_t FlashOk
  have h : len f.Banks = 2 → idx 0 f.Banks = true ∧ idx 1 f.Banks = true := by
    intro h
    simp only [len] at h
    simp only [idx, Bool.and_eq_true, decide_eq_true_eq]
    omega
  refine guard_c ?_ rfl
  refine okm_t (fun h2 => ?_) (fun _ => rfl)
  obtain ⟨a, b⟩ := h (by simpa using h2)
  rw [a, b]
  rfl

def spec_FlashOk_t {α : Type} (bad : α) (k_ : Bool → α) (f : SFlash) : α :=
  let z0 : Bool := (len (rS (nth f.Banks 0) 0)) == 96
  let z1 : Bool := andt true (idx 0 f.Banks)
  bif okm ((len f.Banks) == 2) (okm z0 (andt z1 (idx 1 f.Banks)) z1) true then
    k_ (bif (len f.Banks) == 2 then bif z0 then (len (rS (nth f.Banks 1) 0)) == 96 else false else false)
  else bad
theorem spec_FlashOk_c {α : Type} (bad : α) (k_ : Bool → α) (f : SFlash) (h_f : WtL SFlash.ct f.enc) : spec_FlashOk_t bad k_ f = k_ (FlashOk f) := by
  unfold spec_FlashOk_t FlashOk
  have h : len f.Banks = 2 → idx 0 f.Banks = true ∧ idx 1 f.Banks = true := by
    intro h
    simp only [len] at h
    simp only [idx, Bool.and_eq_true, decide_eq_true_eq]
    omega
  refine guard_c ?_ rfl
  refine okm_t (fun h2 => ?_) (fun _ => rfl)
  obtain ⟨a, b⟩ := h (by simpa using h2)
  rw [a, b]
  rfl

def laws_FnExactFlashOk_t {α : Type} (bad : α) (k_ : Bool → α) (aF : SFlash) : α :=
  bif decide (laws_szFlash aF 1048576 < 0) then k_ true
  else bif andt true (laws_toFlash_ok aF) then
      bif andt true (laws_toFlash_ok aF) then
        bif !((FlashOk (idf aF)) == (FlashOk (idf aF))) then k_ false
        else bif andt (andt true (laws_toFlash_ok aF)) (same (idf aF) (idf aF)) then
            bif !(yes2 (idf aF) (idf aF)) then k_ false
            else k_ true
          else bad
      else bad
    else bad
theorem laws_FnExactFlashOk_c {α : Type} (bad : α) (k_ : Bool → α) (aF : SFlash) (h_aF : WtL SFlash.ct aF.enc) (hok : fitL (SFlash.ct ++ ([])) (aF.enc ++ ([])) = true) : laws_FnExactFlashOk_t bad k_ aF = k_ true := by
  unfold laws_FnExactFlashOk_t
  by_cases c0 : laws_szFlash aF 1048576 < 0
  · simp only [c0, decide_true, decide_false, cond_true, cond_false]
  have k0 := laws_szFlash_ok h_aF (by omega) (by omega) (Int.not_lt.1 c0)
  simp only [c0, decide_false, cond_false, cond_true, idf, k0.2, andt_true_l, andt_true_r, same_refl, yes2, beq_self_eq_true, bne_self_eq_false, Bool.not_true, okm_tt]

end
end Go.Proofs.Ytjknoknkbfhelaa.Pl
