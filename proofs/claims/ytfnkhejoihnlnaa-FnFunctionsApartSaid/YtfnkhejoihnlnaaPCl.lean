/- What functions of the program compute, in plain Lean, as the value machine runs them. Conditions: none. -/
import Derived.Test.YtfnkhejoihnlnaaPBa
set_option linter.unusedVariables false
set_option linter.unusedSimpArgs false
set_option maxRecDepth 100000
namespace Go.Proofs.Ytfnkhejoihnlnaa.Pl
open Vm
noncomputable section


def laws_big_t {α : Type} (k_ : Bool → α) (code : Rows) : α :=
  k_ (decide (1048576 < len code))
def big (code : Rows) : Bool := laws_big_t id code
theorem laws_big_c {α : Type} (k_ : Bool → α) (code : Rows) : laws_big_t k_ code = k_ (big code) := by
  rfl

def laws_at_t {α : Type} (bad : α) (k_ : Int → α) (code : Rows) (i : Int) : α :=
  let z0 : Int := Int.tmod (w64 ((w64 (i * 5)) + 1)) (len code)
  bif (len code) == 0 then k_ 0
  else bif andt (andt true (!((len code) == 0))) (idx z0 code) then
      k_ (w64 (rI (nth code (Int.toNat z0)) 0))
    else bad
def cAt (code : Rows) (i : Int) : Int := bif (len code) == 0 then 0 else rI (nth code (Int.toNat (Int.tmod (i * 5 + 1) (len code)))) 0
def cAt_ok (code : Rows) (i : Int) : Bool := decide (0 ≤ i) && decide (i ≤ 1000000)
theorem cAt_range {code : Rows} (h : WtC (.sl [.int .u8]) (.sl code)) (i : Int) : 0 ≤ cAt code i ∧ cAt code i ≤ 255 := by
  obtain ⟨_, hw⟩ := wt_sl h
  unfold cAt
  cases (len code) == 0
  · simp only [cond_false]
    by_cases hm : Int.toNat (Int.tmod (i * 5 + 1) (len code)) < code.length
    · obtain ⟨n, ds, e, hn, _⟩ := of_wt_int (hw _ (nth_mem hm))
      rw [e]
      simp only [WtC, DC.int.injEq] at hn
      obtain ⟨m, rfl, hm2⟩ := hn
      have hm3 : 0 ≤ n ∧ n ≤ 255 := by simpa [inR, IntKind.min, IntKind.max, IntKind.signed, IntKind.bits] using hm2
      exact hm3
    · have : nth code (Int.toNat (Int.tmod (i * 5 + 1) (len code))) = [] := by
        simp only [nth]
        rw [List.getD_eq_getElem?_getD, List.getElem?_eq_none (by omega)]
        rfl
      rw [this]
      decide
  · simp only [cond_true]
    omega
theorem laws_at_c {α : Type} (bad : α) (k_ : Int → α) (code : Rows) (i : Int) (h_code : WtC (.sl [.int .u8]) (.sl code)) (h_i : WtC (.int .i64) (.int i)) (hok : cAt_ok code i = true) : laws_at_t bad k_ code i = k_ (cAt code i) := by
  obtain ⟨hl, _⟩ := wt_sl h_code
  have hr := cAt_range h_code i
  simp only [cAt_ok, Bool.and_eq_true] at hok
  have h1 := of_decide_eq_true hok.1
  have h2 := of_decide_eq_true hok.2
  have hl0 : 0 ≤ len code := by simp [len]
  have hl1 : len code ≤ 9223372036854775807 := by simp only [len]; omega
  unfold laws_at_t
  rw [show w64 (i * 5) = i * 5 from w64_in (by omega) (by omega), show w64 (i * 5 + 1) = i * 5 + 1 from w64_in (by omega) (by omega)]
  unfold cAt at hr ⊢
  by_cases h0 : len code = 0
  · rw [show ((len code) == 0) = true from by simpa using h0]
    rfl
  · rw [show ((len code) == 0) = false from by simpa using h0] at hr ⊢
    simp only [cond_false] at hr ⊢
    have hm0 : 0 ≤ Int.tmod (i * 5 + 1) (len code) := Int.tmod_nonneg _ (by omega)
    have hm1 : Int.tmod (i * 5 + 1) (len code) < len code := Int.tmod_lt_of_pos _ (by omega)
    have hi : idx (Int.tmod (i * 5 + 1) (len code)) code = true := by
      simp only [len] at hm1 hm0 ⊢
      simp only [idx, Bool.and_eq_true]
      exact ⟨decide_eq_true hm0, decide_eq_true hm1⟩
    rw [hi, w64_in (by omega) (by omega)]
    rfl

end
end Go.Proofs.Ytfnkhejoihnlnaa.Pl
