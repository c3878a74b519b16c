/- What functions of the program compute, in plain Lean, as the value machine runs them. Conditions: none. -/
import Derived.Test.YtjknoknkbfhelaaPFc
set_option linter.unusedVariables false
set_option linter.unusedSimpArgs false
namespace Go.Proofs.Ytjknoknkbfhelaa.Pl
open Vm
noncomputable section


def impl_RunUpdate_l0 {α : Type} (bad : α) (k_ : SFlash → α) (steps : Rows) (n : Int) (part : Int) (ih0 : Int → Rows → α) (i : Int) (out_0 : Rows) : α :=
  bif bif decide (i < len steps) then decide (i < n) else false then
    bif andt (andt true (idx i steps)) (DoFlashStep_ok (⟨out_0⟩ : SFlash) (SFlashStep.decAt (nth steps (Int.toNat i)) 0) 96) then
      ih0 (w64 (i + 1)) ((DoFlashStep (⟨out_0⟩ : SFlash) (SFlashStep.decAt (nth steps (Int.toNat i)) 0) 96).Banks)
    else bad
  else bif decide (n < len steps) then
    bif andt (andt true (idx n steps)) (DoFlashStep_ok (⟨out_0⟩ : SFlash) (SFlashStep.decAt (nth steps (Int.toNat n)) 0) part) then
      k_ (DoFlashStep (⟨out_0⟩ : SFlash) (SFlashStep.decAt (nth steps (Int.toNat n)) 0) part)
    else bad
  else k_ (⟨out_0⟩ : SFlash)
def impl_RunUpdate_L0 {α : Type} (bad : α) (k_ : SFlash → α) (N : Nat) (steps : Rows) (n : Int) (part : Int) (m_ : Nat) : Int → Rows → α :=
  Nat.rec (motive := fun _ => Int → Rows → α) (fun _ _ => bad) (fun _ ih0 => impl_RunUpdate_l0 bad k_ steps n part ih0) m_
theorem impl_RunUpdate_L0_z {α : Type} (bad : α) (k_ : SFlash → α) (N : Nat) (steps : Rows) (n : Int) (part : Int) (i : Int) (out_0 : Rows) : impl_RunUpdate_L0 bad k_ N steps n part 0 i out_0 = bad := rfl
theorem impl_RunUpdate_L0_s {α : Type} (bad : α) (k_ : SFlash → α) (N : Nat) (steps : Rows) (n : Int) (part : Int) (m_ : Nat) (i : Int) (out_0 : Rows) : impl_RunUpdate_L0 bad k_ N steps n part (m_ + 1) i out_0 = impl_RunUpdate_l0 bad k_ steps n part (impl_RunUpdate_L0 bad k_ N steps n part m_) i out_0 := rfl
def impl_RunUpdate_t {α : Type} (bad : α) (k_ : SFlash → α) (l0 : Int → Rows → α) (f : SFlash) (steps : Rows) (n : Int) (part : Int) : α :=
  bif andt true (flSm f) then
    bif bif decide (n < 0) then true else decide (part < 0) then k_ (idf f)
    else l0 0 ((idf f).Banks)
  else bad
def impl_RunUpdate_f {α : Type} (bad : α) (k_ : SFlash → α) (N : Nat) (f : SFlash) (steps : Rows) (n : Int) (part : Int) : α := impl_RunUpdate_t bad k_ (impl_RunUpdate_L0 bad k_ N steps n part N) f steps n part
def ruF (steps : Rows) (i : Nat) (b : Rows) : Rows := (DoFlashStep (⟨b⟩ : SFlash) (SFlashStep.decAt (nth steps i) 0) 96).Banks
def ruM (steps : Rows) (n : Int) : Nat := min steps.length n.toNat
def RunUpdate_ok (f : SFlash) (steps : Rows) (n : Int) (part : Int) : Bool := sm f.Banks
def RunUpdate (f : SFlash) (steps : Rows) (n : Int) (part : Int) : SFlash :=
  bif bif decide (n < 0) then true else decide (part < 0) then f
  else bif decide (n < len steps) then DoFlashStep (⟨itN (ruF steps) (ruM steps n) 0 f.Banks⟩ : SFlash) (SFlashStep.decAt (nth steps n.toNat) 0) part
  else (⟨itN (ruF steps) (ruM steps n) 0 f.Banks⟩ : SFlash)
theorem ruF_len (steps : Rows) (i : Nat) (b : Rows) : (ruF steps i b).length = b.length := by unfold ruF; rw [DoFlashStep_length]
theorem itR_len {f : Nat → Rows → Rows} (h : ∀ k s, (f k s).length = s.length) : ∀ (m i : Nat) (s : Rows), (itN f m i s).length = s.length
  | 0, _, _ => rfl
  | m + 1, i, s => by rw [itN, itR_len h m, h]
theorem RunUpdate_length (f : SFlash) (steps : Rows) (n : Int) (part : Int) : (RunUpdate f steps n part).Banks.length = f.Banks.length := by
  unfold RunUpdate
  cases (bif decide (n < 0) then true else decide (part < 0))
  · cases decide (n < len steps)
    · exact itR_len (ruF_len steps) _ _ _
    · simp only [cond_false, cond_true, DoFlashStep_length]
      exact itR_len (ruF_len steps) _ _ _
  · rfl
theorem impl_RunUpdate_c {α : Type} (bad : α) (k_ : SFlash → α) (f : SFlash) (steps : Rows) (n : Int) (part : Int) (h_f : WtL SFlash.ct f.enc) (h_steps : WtC (.sl [.int .i64, .int .i64, .int .i64, .str]) (.sl steps)) (h_n : WtC (.int .i64) (.int n)) (h_part : WtC (.int .i64) (.int part)) (hok : RunUpdate_ok f steps n part = true) : ∃ N, impl_RunUpdate_f bad k_ N f steps n part = k_ (RunUpdate f steps n part) := by
  have hsm : sm f.Banks = true := hok
  have hfs : flSm f = true := hok
  have r0 : room2 16 [] f.Banks = true := room2_sm hok (by omega)
  obtain ⟨hl, _⟩ := wt_sl h_steps
  have hn := wt_int h_n
  have hl0 : 0 ≤ len steps := by simp [len]
  have hl1 : len steps ≤ 9223372036854775807 := by simp only [len]; omega
  refine ⟨steps.length + 2, ?_⟩
  unfold impl_RunUpdate_f impl_RunUpdate_t RunUpdate
  simp only [idf, hfs, r0, andt_true_l, cond_true]
  refine cond_c (fun _ => rfl) (fun hg => ?_)
  have hn0 : 0 ≤ n := by
    by_cases h : n < 0
    · rw [decide_eq_true h] at hg; cases hg
    · omega
  have hdo : ∀ (b : Rows) (x : SFlashStep) (p : Int), sm b = true → DoFlashStep_ok (⟨b⟩ : SFlash) x p = true := fun b x p h => h
  have hpre := loop_pre (ruM steps n) (fun q i s => impl_RunUpdate_L0 bad k_ (steps.length + 2) steps n part q i s) (ruF steps) (fun _ s => sm s = true) ?_ ?_ (steps.length + 2 - ruM steps n) f.Banks hsm
  · obtain ⟨e, hI⟩ := hpre
    have hM : ruM steps n ≤ steps.length := by unfold ruM; omega
    rw [show steps.length + 2 - ruM steps n + ruM steps n = steps.length + 2 by omega] at e
    refine e.trans ?_
    clear e
    generalize itN (ruF steps) (ruM steps n) 0 f.Banks = B at hI ⊢
    obtain ⟨q, hq⟩ : ∃ q, steps.length + 2 - ruM steps n = q + 1 := ⟨steps.length + 1 - ruM steps n, by omega⟩
    show impl_RunUpdate_L0 bad k_ (steps.length + 2) steps n part (steps.length + 2 - ruM steps n) ((ruM steps n : Nat) : Int) B = _
    rw [hq, impl_RunUpdate_L0_s]
    have hc : (bif decide (((ruM steps n : Nat) : Int) < len steps) then decide (((ruM steps n : Nat) : Int) < n) else false) = false := by
      by_cases h1 : ((ruM steps n : Nat) : Int) < len steps
      · have h2 : ¬ ((ruM steps n : Nat) : Int) < n := by unfold ruM at h1 ⊢; simp only [len] at h1; omega
        simp [h1, h2]
      · simp [h1]
    by_cases h3 : n < len steps
    · have hx : idx n steps = true := by simp only [len] at h3; simp only [idx, Bool.and_eq_true, decide_eq_true_eq]; omega
      simp only [impl_RunUpdate_l0, hc, hx, decide_eq_true h3, hdo _ _ _ hI, andt_true_l, andt_true_r, cond_true, cond_false]
    · simp only [impl_RunUpdate_l0, hc, decide_eq_false h3, cond_false]
  · intro i s hi hs
    show sm (DoFlashStep (⟨s⟩ : SFlash) _ 96).Banks = true
    simp only [sm, DoFlashStep_length]
    exact hs
  · intro q i s hi hs
    show impl_RunUpdate_L0 bad k_ (steps.length + 2) steps n part (q + 1) (i : Int) s = _
    rw [impl_RunUpdate_L0_s]
    have hi2 : i < steps.length := by unfold ruM at hi; omega
    have hi3 : (i : Int) < n := by unfold ruM at hi; omega
    simp only [impl_RunUpdate_l0, lt_len hi2, idx_nat hi2, decide_eq_true hi3, decide_eq_true (Int.le_of_lt hi3), hdo _ _ _ hs, w64_succ hi2 hl, Int.toNat_natCast, andt_true_l, andt_true_r, cond_true]
    rfl

def spec_RunUpdate_l0 {α : Type} (bad : α) (k_ : SFlash → α) (steps : Rows) (n : Int) (part : Int) (ih0 : Int → Rows → α) (k : Int) (out_0 : Rows) : α :=
  bif bif decide (k < len steps) then decide (k ≤ n) else false then
    bif decide (k < n) then
      bif andt (andt true (idx k steps)) (DoFlashStep_ok (⟨out_0⟩ : SFlash) (SFlashStep.decAt (nth steps (Int.toNat k)) 0) 96) then
        ih0 (w64 (k + 1)) ((DoFlashStep (⟨out_0⟩ : SFlash) (SFlashStep.decAt (nth steps (Int.toNat k)) 0) 96).Banks)
      else bad
    else bif andt (andt true (idx k steps)) (DoFlashStep_ok (⟨out_0⟩ : SFlash) (SFlashStep.decAt (nth steps (Int.toNat k)) 0) part) then
        ih0 (w64 (k + 1)) ((DoFlashStep (⟨out_0⟩ : SFlash) (SFlashStep.decAt (nth steps (Int.toNat k)) 0) part).Banks)
      else bad
  else k_ (⟨out_0⟩ : SFlash)
def spec_RunUpdate_L0 {α : Type} (bad : α) (k_ : SFlash → α) (N : Nat) (steps : Rows) (n : Int) (part : Int) (m_ : Nat) : Int → Rows → α :=
  Nat.rec (motive := fun _ => Int → Rows → α) (fun _ _ => bad) (fun _ ih0 => spec_RunUpdate_l0 bad k_ steps n part ih0) m_
theorem spec_RunUpdate_L0_z {α : Type} (bad : α) (k_ : SFlash → α) (N : Nat) (steps : Rows) (n : Int) (part : Int) (k : Int) (out_0 : Rows) : spec_RunUpdate_L0 bad k_ N steps n part 0 k out_0 = bad := rfl
theorem spec_RunUpdate_L0_s {α : Type} (bad : α) (k_ : SFlash → α) (N : Nat) (steps : Rows) (n : Int) (part : Int) (m_ : Nat) (k : Int) (out_0 : Rows) : spec_RunUpdate_L0 bad k_ N steps n part (m_ + 1) k out_0 = spec_RunUpdate_l0 bad k_ steps n part (spec_RunUpdate_L0 bad k_ N steps n part m_) k out_0 := rfl
def spec_RunUpdate_t {α : Type} (bad : α) (k_ : SFlash → α) (l0 : Int → Rows → α) (f : SFlash) (steps : Rows) (n : Int) (part : Int) : α :=
  bif andt true (room2 16 [] f.Banks) then
    bif bif decide (n < 0) then true else decide (part < 0) then k_ f
    else l0 0 f.Banks
  else bad
def spec_RunUpdate_f {α : Type} (bad : α) (k_ : SFlash → α) (N : Nat) (f : SFlash) (steps : Rows) (n : Int) (part : Int) : α := spec_RunUpdate_t bad k_ (spec_RunUpdate_L0 bad k_ N steps n part N) f steps n part
theorem spec_RunUpdate_c {α : Type} (bad : α) (k_ : SFlash → α) (f : SFlash) (steps : Rows) (n : Int) (part : Int) (h_f : WtL SFlash.ct f.enc) (h_steps : WtC (.sl [.int .i64, .int .i64, .int .i64, .str]) (.sl steps)) (h_n : WtC (.int .i64) (.int n)) (h_part : WtC (.int .i64) (.int part)) (hok : RunUpdate_ok f steps n part = true) : ∃ N, spec_RunUpdate_f bad k_ N f steps n part = k_ (RunUpdate f steps n part) := by
  have hsm : sm f.Banks = true := hok
  have hfs : flSm f = true := hok
  have r0 : room2 16 [] f.Banks = true := room2_sm hok (by omega)
  obtain ⟨hl, _⟩ := wt_sl h_steps
  have hn := wt_int h_n
  have hl0 : 0 ≤ len steps := by simp [len]
  have hl1 : len steps ≤ 9223372036854775807 := by simp only [len]; omega
  refine ⟨steps.length + 2, ?_⟩
  unfold spec_RunUpdate_f spec_RunUpdate_t RunUpdate
  simp only [idf, hfs, r0, andt_true_l, cond_true]
  refine cond_c (fun _ => rfl) (fun hg => ?_)
  have hn0 : 0 ≤ n := by
    by_cases h : n < 0
    · rw [decide_eq_true h] at hg; cases hg
    · omega
  have hdo : ∀ (b : Rows) (x : SFlashStep) (p : Int), sm b = true → DoFlashStep_ok (⟨b⟩ : SFlash) x p = true := fun b x p h => h
  have hpre := loop_pre (ruM steps n) (fun q i s => spec_RunUpdate_L0 bad k_ (steps.length + 2) steps n part q i s) (ruF steps) (fun _ s => sm s = true) ?_ ?_ (steps.length + 2 - ruM steps n) f.Banks hsm
  · obtain ⟨e, hI⟩ := hpre
    have hM : ruM steps n ≤ steps.length := by unfold ruM; omega
    rw [show steps.length + 2 - ruM steps n + ruM steps n = steps.length + 2 by omega] at e
    refine e.trans ?_
    clear e
    generalize itN (ruF steps) (ruM steps n) 0 f.Banks = B at hI ⊢
    show spec_RunUpdate_L0 bad k_ (steps.length + 2) steps n part (steps.length + 2 - ruM steps n) ((ruM steps n : Nat) : Int) B = _
    by_cases h3 : n < len steps
    · obtain ⟨q, hq⟩ : ∃ q, steps.length + 2 - ruM steps n = q + 1 + 1 := ⟨steps.length - ruM steps n, by omega⟩
      have em : ((ruM steps n : Nat) : Int) = n := by unfold ruM; simp only [len] at h3; omega
      have hx : idx n steps = true := by simp only [len] at h3; simp only [idx, Bool.and_eq_true, decide_eq_true_eq]; omega
      rw [hq, em, spec_RunUpdate_L0_s]
      have ew : w64 (n + 1) = n + 1 := w64_in (by omega) (by omega)
      simp only [spec_RunUpdate_l0, hx, decide_eq_true h3, decide_eq_true (Int.le_refl n), decide_eq_false (Int.lt_irrefl n), ew, hdo _ _ _ hI, andt_true_l, andt_true_r, cond_true, cond_false]
      rw [spec_RunUpdate_L0_s]
      have hc : (bif decide (n + 1 < len steps) then decide (n + 1 ≤ n) else false) = false := by
        have : ¬ (n + 1 ≤ n) := by omega
        simp only [decide_eq_false this]
        cases decide (n + 1 < len steps) <;> rfl
      simp only [spec_RunUpdate_l0, hc, cond_false]
    · obtain ⟨q, hq⟩ : ∃ q, steps.length + 2 - ruM steps n = q + 1 := ⟨steps.length + 1 - ruM steps n, by omega⟩
      have em : ((ruM steps n : Nat) : Int) = len steps := by unfold ruM; simp only [len] at h3 ⊢; omega
      rw [hq, em, spec_RunUpdate_L0_s]
      simp only [spec_RunUpdate_l0, decide_eq_false (Int.lt_irrefl (len steps)), decide_eq_false h3, cond_false]
  · intro i s hi hs
    show sm (DoFlashStep (⟨s⟩ : SFlash) _ 96).Banks = true
    simp only [sm, DoFlashStep_length]
    exact hs
  · intro q i s hi hs
    show spec_RunUpdate_L0 bad k_ (steps.length + 2) steps n part (q + 1) (i : Int) s = _
    rw [spec_RunUpdate_L0_s]
    have hi2 : i < steps.length := by unfold ruM at hi; omega
    have hi3 : (i : Int) < n := by unfold ruM at hi; omega
    simp only [spec_RunUpdate_l0, lt_len hi2, idx_nat hi2, decide_eq_true hi3, decide_eq_true (Int.le_of_lt hi3), hdo _ _ _ hs, w64_succ hi2 hl, Int.toNat_natCast, andt_true_l, andt_true_r, cond_true]
    rfl

def laws_FnExactRunUpdate_t {α : Type} (bad : α) (k_ : Bool → α) (aF : SFlash) (aSteps : Rows) (aN : Int) (aPart : Int) : α :=
  let z0 : Bool := RunUpdate_ok (idf aF) (idf aSteps) aN aPart
  let z1 : Bool := andt (andt (andt true (laws_toFlash_ok aF)) (sm aSteps)) z0
  let z2 : SFlash := RunUpdate (idf aF) (idf aSteps) aN aPart
  let z3 : Bool := andt true (same z2 z2)
  let z4 : Bool := !(yes2 z2 z2)
  let z5 : Bool := decide ((markFlashStepS (idf aSteps) ((markFlash (idf aF) 1).1)).1 < 0)
  let z6 : Int × Rows := markFlash z2 1
  let z7 : SFlash := (⟨z6.2⟩ : SFlash)
  let z8 : Bool := andt true (heldFlash_ok z7 1)
  let z9 : Int := heldFlash z7 1
  let z10 : Bool := decide (z9 < 0)
  let z11 : Bool := z9 != z6.1
  bif decide (laws_szFlash aF 1048576 < 0) then k_ true
  else bif decide (laws_szFlashStepS aSteps (laws_szFlash aF 1048576) < 0) then k_ true
  else bif z1 then
      bif andt true (laws_toFlash_ok aF) then
        bif andt true (sm aSteps) then
          bif andt true z0 then
            bif z3 then
              bif z4 then k_ false
              else bif andt (andt true (laws_toFlash_ok aF)) (same (idf aF) (idf aF)) then
                  bif !(yes2 (idf aF) (idf aF)) then k_ false
                  else bif andt (andt true (sm aSteps)) (same (idf aSteps) (idf aSteps)) then
                      bif !(yes2 (idf aSteps) (idf aSteps)) then k_ false
                      else bif andt true (markFlash_ok (idf aF) 1) then
                          bif andt true (mko 4 (idf aSteps) ((markFlash (idf aF) 1).1)) then
                            bif okm z5 true z3 then
                              bif bif z5 then true else z4 then k_ false
                              else bif andt true (markFlash_ok z2 1) then
                                  bif z8 then
                                    bif z10 then k_ false
                                    else bif z11 then k_ false
                                    else bif z1 then
                                        bif z3 then
                                          bif z4 then k_ false
                                          else bif z8 then
                                              bif z10 then k_ false
                                              else bif z11 then k_ false
                                              else k_ true
                                            else bad
                                        else bad
                                      else bad
                                  else bad
                                else bad
                            else bad
                          else bad
                        else bad
                    else bad
                else bad
            else bad
          else bad
        else bad
      else bad
    else bad
theorem laws_FnExactRunUpdate_c {α : Type} (bad : α) (k_ : Bool → α) (aF : SFlash) (aSteps : Rows) (aN : Int) (aPart : Int) (h_aF : WtL SFlash.ct aF.enc) (h_aSteps : WtC (.sl [.int .i64, .int .i64, .int .i64, .str]) (.sl aSteps)) (h_aN : WtC (.int .i64) (.int aN)) (h_aPart : WtC (.int .i64) (.int aPart)) (hok : fitL (SFlash.ct ++ ((.sl [.int .i64, .int .i64, .int .i64, .str]) :: ((.int .i64) :: ((.int .i64) :: ([]))))) (aF.enc ++ (.sl aSteps :: (.int aN :: (.int aPart :: ([]))))) = true) : laws_FnExactRunUpdate_t bad k_ aF aSteps aN aPart = k_ true := by
  unfold laws_FnExactRunUpdate_t
  by_cases c0 : laws_szFlash aF 1048576 < 0
  · simp only [c0, decide_true, decide_false, cond_true, cond_false]
  have k0 := laws_szFlash_ok h_aF (by omega) (by omega) (Int.not_lt.1 c0)
  by_cases c1 : laws_szFlashStepS aSteps (laws_szFlash aF 1048576) < 0
  · simp only [c0, c1, decide_true, decide_false, cond_true, cond_false]
  have k1 := laws_szFlashStepS_ok h_aSteps (Int.not_lt.1 c0) k0.1 (Int.not_lt.1 c1)
  have hsm : sm aF.Banks = true := by
    have k := k0.2
    cases h : sm aF.Banks
    · simp only [laws_toFlash_ok, laws_toFlash_t, h] at k
      cases k
    · rfl
  have ss := k1.2
  have sl := sm_le ss
  have fl := sm_le hsm
  obtain ⟨m1, m2, m3, m4⟩ := mh_Flash aF (k := 1) (by omega) (by omega) hsm
  have me : (markFlash aF 1).1 = 1 + 1 * aF.Banks.length := by
    have a1 : mko 1 aF.Banks 1 = true := mko_mk hsm (by omega) (by omega)
    simp only [markFlash, laws_markFlash_t, a1, andt_true_l, cond_true]
    rfl
  have p2 : mko 4 aSteps (markFlash aF 1).1 = true := mko_mk ss m4 (by rw [me]; omega)
  have p3 : ¬ (markFlashStepS aSteps (markFlash aF 1).1).1 < 0 := by simp only [markFlashStepS]; omega
  have ko : RunUpdate_ok aF aSteps aN aPart = true := hsm
  obtain ⟨q1, q2, q3, q4⟩ := mh_Flash (RunUpdate aF aSteps aN aPart) (k := 1) (by omega) (by omega) (by simp only [sm, RunUpdate_length]; exact hsm)
  have q5 := decide_eq_false (Int.not_lt.2 q4)
  simp only [c0, c1, decide_false, cond_false, cond_true, idf, k0.2, k1.2, m1, p2, p3, ko, q1, q2, q3, q5, andt_true_l, andt_true_r, same_refl, yes2, beq_self_eq_true, bne_self_eq_false, Bool.not_true, okm_tt]

end
end Go.Proofs.Ytjknoknkbfhelaa.Pl
