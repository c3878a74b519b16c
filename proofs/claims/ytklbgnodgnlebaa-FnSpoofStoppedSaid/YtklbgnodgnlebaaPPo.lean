/- What functions of the program compute, in plain Lean, as the value machine runs them. Conditions: none. -/
import Derived.Test.YtklbgnodgnlebaaPSw
set_option linter.unusedVariables false
set_option linter.unusedSimpArgs false
set_option maxRecDepth 100000
namespace Go.Proofs.Ytklbgnodgnlebaa.Pl
open Vm
noncomputable section



theorem itN_snoc {σ : Type} (f : Nat → σ → σ) : ∀ (m i : Nat) (s : σ), itN f (m + 1) i s = f (i + m) (itN f m i s)
  | 0, i, s => rfl
  | m + 1, i, s => by
    rw [itN, itN_snoc f m (i + 1), itN]
    rw [show i + 1 + m = i + (m + 1) by omega]
theorem anyIdx_iff (p : Nat → List DC → Bool) : ∀ (l : Rows) (s : Nat), anyIdx p l s = true ↔ ∃ i, i < l.length ∧ p (s + i) (nth l i) = true
  | [], s => by simp [anyIdx]
  | r :: l, s => by
    unfold anyIdx
    cases hp : p s r
    · simp only [cond_false, anyIdx_iff p l (s + 1)]
      constructor
      · rintro ⟨i, h1, h2⟩
        refine ⟨i + 1, by simp; omega, ?_⟩
        rw [show s + (i + 1) = s + 1 + i by omega]
        exact h2
      · rintro ⟨i, h1, h2⟩
        cases i with
        | zero => exfalso; rw [show nth (r :: l) 0 = r from rfl, Nat.add_zero, hp] at h2; cases h2
        | succ i =>
          refine ⟨i, by simp only [List.length_cons] at h1; omega, ?_⟩
          rw [show s + 1 + i = s + (i + 1) by omega]
          exact h2
    · simp only [cond_true, true_iff]
      exact ⟨0, by simp, hp⟩
theorem anyIdx_no {p : Nat → List DC → Bool} {l : Rows} {s : Nat} (h : anyIdx p l s = false) : ∀ i, i < l.length → p (s + i) (nth l i) = false := by
  intro i hi
  cases hp : p (s + i) (nth l i)
  · rfl
  · rw [(anyIdx_iff p l s).2 ⟨i, hi, hp⟩] at h
    cases h
theorem findIdx_spec (p : Nat → List DC → Bool) : ∀ (l : Rows) (s : Nat), (findIdx p l s = -1 ∧ ∀ i, i < l.length → p (s + i) (nth l i) = false) ∨ ∃ i, i < l.length ∧ findIdx p l s = ((s + i : Nat) : Int) ∧ p (s + i) (nth l i) = true
  | [], s => .inl ⟨rfl, by simp⟩
  | r :: l, s => by
    unfold findIdx
    cases hp : p s r
    · rcases findIdx_spec p l (s + 1) with ⟨h1, h2⟩ | ⟨i, h1, h2, h3⟩
      · refine .inl ⟨h1, fun i hi => ?_⟩
        cases i with
        | zero => exact hp
        | succ i =>
          rw [show s + (i + 1) = s + 1 + i by omega]
          exact h2 i (by simp only [List.length_cons] at hi; omega)
      · refine .inr ⟨i + 1, by simp; omega, ?_, ?_⟩
        · rw [cond_false, h2, show s + (i + 1) = s + 1 + i by omega]
        · rw [show s + (i + 1) = s + 1 + i by omega]
          exact h3
    · exact .inr ⟨0, by simp, rfl, hp⟩
/-! valid ports -/
theorem PortsOk_facts {l : Rows} (h : PortsOk l = true) : 1 ≤ l.length ∧ l.length ≤ 8 ∧ ∀ i, i < l.length → portBad (nth l i) = false ∧ (i ≠ 0 → portWith l (rI (nth l i) 0) = (i : Int)) := by
  unfold PortsOk at h
  cases hb : between (len l) 1 8
  · rw [hb] at h; cases h
  · have hb := between_iff.1 hb
    simp only [len] at hb
    rw [show between (len l) 1 8 = true from between_iff.2 (by simp only [len]; omega)] at h
    refine ⟨by omega, by omega, fun i hi => ?_⟩
    cases ha : anyIdx (fun i r => bif portBad r then true else bif ((i : Nat) : Int) != 0 then (portWith l (rI r 0)) != (i : Int) else false) l 0
    · have := anyIdx_no ha i hi
      rw [Nat.zero_add] at this
      cases hp : portBad (nth l i)
      · rw [hp] at this
        refine ⟨rfl, fun h0 => ?_⟩
        have e : (((i : Nat) : Int) != 0) = true := by simp only [bne_iff_ne, ne_eq]; omega
        rw [e] at this
        simpa using this
      · rw [hp] at this; cases this
    · rw [ha] at h; cases h
theorem hasInt_iff {l : Rows} {n : Int} : hasInt l n = true ↔ ∃ i, i < l.length ∧ rI (nth l i) 0 = n := by
  unfold hasInt
  rw [anyIdx_iff]
  simp
theorem FilterOk_vlans {f : SFilter} (h : FilterOk f = true) {n : Int} (hn : hasInt f.Vlans n = true) : 0 ≤ n ∧ n ≤ 4095 := by
  obtain ⟨i, hi, rfl⟩ := hasInt_iff.1 hn
  unfold FilterOk at h
  cases ha : anyIdx (fun i r => bif !(between (rI r 0) 0 4095) then true else bif decide ((0 : Int) < (i : Int)) then decide (rI r 0 ≤ rI (nth f.Vlans (Int.toNat (w64 ((i : Int) - 1)))) 0) else false) f.Vlans 0
  · have := anyIdx_no ha i hi
    cases hb : between (rI (nth f.Vlans i) 0) 0 4095
    · rw [hb] at this; cases this
    · exact between_iff.1 hb
  · rw [ha] at h; cases h
theorem FilterOk_mac {f : SFilter} (h : FilterOk f = true) : 0 ≤ f.Mac ∧ f.Mac ≤ 281474976710654 := by
  unfold FilterOk at h
  cases ha : anyIdx (fun i r => bif !(between (rI r 0) 0 4095) then true else bif decide ((0 : Int) < (i : Int)) then decide (rI r 0 ≤ rI (nth f.Vlans (Int.toNat (w64 ((i : Int) - 1)))) 0) else false) f.Vlans 0
  · rw [ha] at h
    cases hb : between f.Mac 0 281474976710654
    · rw [hb] at h; cases h
    · exact between_iff.1 hb
  · rw [ha] at h; cases h
theorem port_good {r : List DC} (h : portBad r = false) : FilterOk (⟨rI r 0, false, rR r 1⟩ : SFilter) = true ∧ hasInt (rR r 1) (rI r 2) = true := by
  unfold portBad at h
  cases h1 : FilterOk (⟨rI r 0, false, rR r 1⟩ : SFilter)
  · rw [h1] at h; cases h
  · rw [h1] at h
    refine ⟨rfl, ?_⟩
    cases h2 : hasInt (rR r 1) (rI r 2)
    · rw [h2] at h; cases h
    · rfl
theorem portWith_spec (l : Rows) (m : Int) : (portWith l m = -1 ∧ ∀ i, i < l.length → i ≠ 0 → rI (nth l i) 0 ≠ m) ∨ ∃ i, i < l.length ∧ i ≠ 0 ∧ portWith l m = (i : Int) ∧ rI (nth l i) 0 = m := by
  rcases findIdx_spec (fun i r => bif ((i : Nat) : Int) != 0 then (rI r 0) == m else false) l 0 with ⟨h1, h2⟩ | ⟨i, h1, h2, h3⟩
  · refine .inl ⟨h1, fun i hi h0 => ?_⟩
    have := h2 i hi
    rw [Nat.zero_add, show (((i : Nat) : Int) != 0) = true by simp only [bne_iff_ne, ne_eq]; omega] at this
    simpa using this
  · rw [Nat.zero_add] at h2 h3
    refine .inr ⟨i, h1, ?_, h2, ?_⟩
    · rintro rfl
      cases h3
    · cases hb : (((i : Nat) : Int) != 0)
      · rw [hb] at h3; cases h3
      · rw [hb] at h3; simpa using h3

end
end Go.Proofs.Ytklbgnodgnlebaa.Pl
