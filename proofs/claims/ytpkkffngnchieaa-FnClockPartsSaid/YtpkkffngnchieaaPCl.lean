/- What functions of the program compute, in plain Lean, as the value machine runs them. Conditions: none. -/
import Derived.Test.YtpkkffngnchieaaPBa
set_option linter.unusedVariables false
set_option linter.unusedSimpArgs false
namespace Go.Proofs.Ytpkkffngnchieaa.Pl
open Vm
noncomputable section


def laws_big_t {α : Type} (k_ : Bool → α) (code : Rows) : α :=
  k_ (decide (1048576 < len code))
def big (code : Rows) : Bool := laws_big_t id code
theorem laws_big_c {α : Type} (k_ : Bool → α) (code : Rows) : laws_big_t k_ code = k_ (big code) := by
  rfl

def laws_at_t {α : Type} (bad : α) (k_ : Int → α) (code : Rows) (i : Int) : α :=
  let z0 : Int := Int.tmod (w64 ((w64 (i * 5)) + 1)) (len code)
  bif (len code) == 0 then k_ 0
  else bif andt (andt true (!((len code) == 0))) (idx z0 code) then
      k_ (w64 (rI (nth code (Int.toNat z0)) 0))
    else bad
def cAt (code : Rows) (i : Int) : Int := bif (len code) == 0 then 0 else rI (nth code (Int.toNat (Int.tmod (i * 5 + 1) (len code)))) 0
def cAt_ok (code : Rows) (i : Int) : Bool := decide (0 ≤ i) && decide (i ≤ 1000000)
theorem cAt_range {code : Rows} (h : WtC (.sl [.int .u8]) (.sl code)) (i : Int) : 0 ≤ cAt code i ∧ cAt code i ≤ 255 := by
  obtain ⟨_, hw⟩ := wt_sl h
  unfold cAt
  cases (len code) == 0
  · simp only [cond_false]
    by_cases hm : Int.toNat (Int.tmod (i * 5 + 1) (len code)) < code.length
    · obtain ⟨n, ds, e, hn, _⟩ := of_wt_int (hw _ (nth_mem hm))
      rw [e]
      simp only [WtC, DC.int.injEq] at hn
      obtain ⟨m, rfl, hm2⟩ := hn
      have hm3 : 0 ≤ n ∧ n ≤ 255 := by simpa [inR, IntKind.min, IntKind.max, IntKind.signed, IntKind.bits] using hm2
      exact hm3
    · have : nth code (Int.toNat (Int.tmod (i * 5 + 1) (len code))) = [] := by
        simp only [nth]
        rw [List.getD_eq_getElem?_getD, List.getElem?_eq_none (by omega)]
        rfl
      rw [this]
      decide
  · simp only [cond_true]
    omega
theorem laws_at_c {α : Type} (bad : α) (k_ : Int → α) (code : Rows) (i : Int) (h_code : WtC (.sl [.int .u8]) (.sl code)) (h_i : WtC (.int .i64) (.int i)) (hok : cAt_ok code i = true) : laws_at_t bad k_ code i = k_ (cAt code i) := by
  obtain ⟨hl, _⟩ := wt_sl h_code
  have hr := cAt_range h_code i
  simp only [cAt_ok, Bool.and_eq_true] at hok
  have h1 := of_decide_eq_true hok.1
  have h2 := of_decide_eq_true hok.2
  have hl0 : 0 ≤ len code := by simp [len]
  have hl1 : len code ≤ 9223372036854775807 := by simp only [len]; omega
  unfold laws_at_t
  rw [show w64 (i * 5) = i * 5 from w64_in (by omega) (by omega), show w64 (i * 5 + 1) = i * 5 + 1 from w64_in (by omega) (by omega)]
  unfold cAt at hr ⊢
  by_cases h0 : len code = 0
  · rw [show ((len code) == 0) = true from by simpa using h0]
    rfl
  · rw [show ((len code) == 0) = false from by simpa using h0] at hr ⊢
    simp only [cond_false] at hr ⊢
    have hm0 : 0 ≤ Int.tmod (i * 5 + 1) (len code) := Int.tmod_nonneg _ (by omega)
    have hm1 : Int.tmod (i * 5 + 1) (len code) < len code := Int.tmod_lt_of_pos _ (by omega)
    have hi : idx (Int.tmod (i * 5 + 1) (len code)) code = true := by
      simp only [len] at hm1 hm0 ⊢
      simp only [idx, Bool.and_eq_true]
      exact ⟨decide_eq_true hm0, decide_eq_true hm1⟩
    rw [hi, w64_in (by omega) (by omega)]
    rfl

def impl_ClockOk_t {α : Type} (k_ : Bool → α) (k : SClock) : α :=
  k_ (bif between k.Time 0 1125899906842624 then bif between k.Fraction 0 1048575 then bif between k.Rate 0 67108864 then between k.Debt 0 1099511627776 else false else false else false)
def ClockOk (k : SClock) : Bool := impl_ClockOk_t id k
theorem impl_ClockOk_c {α : Type} (k_ : Bool → α) (k : SClock) : impl_ClockOk_t k_ k = k_ (ClockOk k) := by
  rfl

def spec_ClockOk_t {α : Type} (k_ : Bool → α) (k : SClock) : α :=
  k_ (bif between k.Time 0 1125899906842624 then bif between k.Fraction 0 1048575 then bif between k.Rate 0 67108864 then between k.Debt 0 1099511627776 else false else false else false)
theorem spec_ClockOk_c {α : Type} (k_ : Bool → α) (k : SClock) (h_k : WtL SClock.ct k.enc) : spec_ClockOk_t k_ k = k_ (ClockOk k) := by
  exact rfl

def impl_gain_t {α : Type} (k_ : SClock → α) (k : SClock) (n : Int) : α :=
  k_ (⟨w64 (k.Time + (w64 (n - (minI n k.Debt)))), k.Fraction, k.Rate, w64 (k.Debt - (minI n k.Debt))⟩ : SClock)
def gain (k : SClock) (n : Int) : SClock := impl_gain_t id k n
theorem impl_gain_c {α : Type} (k_ : SClock → α) (k : SClock) (n : Int) : impl_gain_t k_ k n = k_ (gain k n) := by
  rfl

def spec_l34Gain_t {α : Type} (k_ : SClock → α) (k : SClock) (n : Int) : α :=
  k_ (⟨w64 ((w64 (k.Time + n)) - (minI n k.Debt)), k.Fraction, k.Rate, w64 (k.Debt - (minI n k.Debt))⟩ : SClock)
theorem spec_l34Gain_c {α : Type} (k_ : SClock → α) (k : SClock) (n : Int) (h_k : WtL SClock.ct k.enc) (h_n : WtC (.int .i64) (.int n)) : spec_l34Gain_t k_ k n = k_ (gain k n) := by
  unfold spec_l34Gain_t gain impl_gain_t
  simp only [w64_sub_l, w64_add_r, id]
  rw [Int.add_sub_assoc]

def impl_TrimClock_t {α : Type} (k_ : SClock → α) (k : SClock) (parts : Int) : α :=
  let z0 : SClock := (⟨k.Time, k.Fraction, w64 (k.Rate + (w64 (Int.tdiv (w64 (k.Rate * parts)) 1000000))), k.Debt⟩ : SClock)
  bif bif !(ClockOk k) then true else !(between parts (-1000000) 1000000) then k_ k
  else bif !(ClockOk z0) then k_ k
  else k_ z0
def TrimClock (k : SClock) (parts : Int) : SClock := impl_TrimClock_t id k parts
theorem impl_TrimClock_c {α : Type} (k_ : SClock → α) (k : SClock) (parts : Int) : impl_TrimClock_t k_ k parts = k_ (TrimClock k parts) := by
  exact cond_k rfl (cond_k rfl rfl)

def spec_TrimClock_t {α : Type} (k_ : SClock → α) (k : SClock) (parts : Int) : α :=
  let z0 : SClock := (⟨k.Time, k.Fraction, w64 (k.Rate + (w64 (Int.tdiv (w64 (k.Rate * parts)) 1000000))), k.Debt⟩ : SClock)
  bif bif !(ClockOk k) then true else !(between parts (-1000000) 1000000) then k_ k
  else bif !(ClockOk z0) then k_ k
  else k_ z0
theorem spec_TrimClock_c {α : Type} (k_ : SClock → α) (k : SClock) (parts : Int) (h_k : WtL SClock.ct k.enc) (h_parts : WtC (.int .i64) (.int parts)) : spec_TrimClock_t k_ k parts = k_ (TrimClock k parts) := by
  exact cond_k rfl (cond_k rfl rfl)

def impl_AdvanceClock_t {α : Type} (k_ : SClock → α) (k : SClock) (ticks : Int) : α :=
  let z0 : Int := w64 (k.Fraction + (w64 (k.Rate * ticks)))
  let z1 : SClock := gain k (w64 (Int.tdiv z0 1048576))
  let z2 : SClock := (⟨z1.Time, Int.tmod z0 1048576, z1.Rate, z1.Debt⟩ : SClock)
  bif bif !(ClockOk k) then true else !(between ticks 0 1000000) then k_ k
  else bif !(ClockOk z2) then k_ k
  else k_ z2
def AdvanceClock (k : SClock) (ticks : Int) : SClock := impl_AdvanceClock_t id k ticks
theorem impl_AdvanceClock_c {α : Type} (k_ : SClock → α) (k : SClock) (ticks : Int) : impl_AdvanceClock_t k_ k ticks = k_ (AdvanceClock k ticks) := by
  exact cond_k rfl (cond_k rfl rfl)

def spec_AdvanceClock_t {α : Type} (k_ : SClock → α) (k : SClock) (ticks : Int) : α :=
  let z0 : Int := w64 (k.Fraction + (w64 (k.Rate * ticks)))
  let z1 : SClock := gain k (w64 (Int.tdiv z0 1048576))
  let z2 : SClock := (⟨z1.Time, Int.tmod z0 1048576, z1.Rate, z1.Debt⟩ : SClock)
  bif bif !(ClockOk k) then true else !(between ticks 0 1000000) then k_ k
  else bif !(ClockOk z2) then k_ k
  else k_ z2
theorem spec_AdvanceClock_c {α : Type} (k_ : SClock → α) (k : SClock) (ticks : Int) (h_k : WtL SClock.ct k.enc) (h_ticks : WtC (.int .i64) (.int ticks)) : spec_AdvanceClock_t k_ k ticks = k_ (AdvanceClock k ticks) := by
  exact cond_k rfl (cond_k rfl rfl)

def impl_StepClock_t {α : Type} (k_ : SClock → α) (k : SClock) (offset : Int) : α :=
  let z0 : SClock := (⟨k.Time, k.Fraction, k.Rate, w64 (k.Debt - offset)⟩ : SClock)
  bif bif !(ClockOk k) then true else !(between offset (-1099511627776) 1099511627776) then k_ k
  else bif decide (0 ≤ offset) then
    bif !(ClockOk (gain k offset)) then k_ k
    else k_ (gain k offset)
  else bif !(ClockOk z0) then k_ k
  else k_ z0
def StepClock (k : SClock) (offset : Int) : SClock := impl_StepClock_t id k offset
theorem impl_StepClock_c {α : Type} (k_ : SClock → α) (k : SClock) (offset : Int) : impl_StepClock_t k_ k offset = k_ (StepClock k offset) := by
  exact cond_k rfl (cond_k (cond_k rfl rfl) (cond_k rfl rfl))

def spec_StepClock_t {α : Type} (k_ : SClock → α) (k : SClock) (offset : Int) : α :=
  let z0 : SClock := (⟨k.Time, k.Fraction, k.Rate, w64 (k.Debt - offset)⟩ : SClock)
  bif bif !(ClockOk k) then true else !(between offset (-1099511627776) 1099511627776) then k_ k
  else bif decide (offset < 0) then
    bif !(ClockOk z0) then k_ k
    else k_ z0
  else bif !(ClockOk (gain k offset)) then k_ k
  else k_ (gain k offset)
theorem spec_StepClock_c {α : Type} (k_ : SClock → α) (k : SClock) (offset : Int) (h_k : WtL SClock.ct k.enc) (h_offset : WtC (.int .i64) (.int offset)) : spec_StepClock_t k_ k offset = k_ (StepClock k offset) := by
  unfold spec_StepClock_t StepClock impl_StepClock_t
  by_cases h : offset < 0
  · have h2 : ¬ 0 ≤ offset := by omega
    simp only [h, h2, decide_true, decide_false, cond_true, cond_false]
    exact cond_k rfl (cond_k rfl rfl)
  · have h2 : 0 ≤ offset := by omega
    simp only [h, h2, decide_true, decide_false, cond_true, cond_false]
    exact cond_k rfl (cond_k rfl rfl)

def impl_areTimes_t {α : Type} (k_ : Bool → α) (t1 : Int) (t2 : Int) (t3 : Int) (t4 : Int) : α :=
  k_ (bif between t1 0 1125899906842624 then bif between t2 0 1125899906842624 then bif between t3 0 1125899906842624 then between t4 0 1125899906842624 else false else false else false)
def areTimes (t1 : Int) (t2 : Int) (t3 : Int) (t4 : Int) : Bool := impl_areTimes_t id t1 t2 t3 t4
theorem impl_areTimes_c {α : Type} (k_ : Bool → α) (t1 : Int) (t2 : Int) (t3 : Int) (t4 : Int) : impl_areTimes_t k_ t1 t2 t3 t4 = k_ (areTimes t1 t2 t3 t4) := by
  rfl

def impl_OffsetOf_t {α : Type} (k_ : Int → α) (t1 : Int) (t2 : Int) (t3 : Int) (t4 : Int) : α :=
  bif !(areTimes t1 t2 t3 t4) then k_ 0
  else k_ (w64 (Int.tdiv (w64 ((w64 ((w64 (t2 - t1)) - t4)) + t3)) 2))
def OffsetOf (t1 : Int) (t2 : Int) (t3 : Int) (t4 : Int) : Int := impl_OffsetOf_t id t1 t2 t3 t4
theorem impl_OffsetOf_c {α : Type} (k_ : Int → α) (t1 : Int) (t2 : Int) (t3 : Int) (t4 : Int) : impl_OffsetOf_t k_ t1 t2 t3 t4 = k_ (OffsetOf t1 t2 t3 t4) := by
  exact cond_k rfl rfl

def impl_DelayOf_t {α : Type} (k_ : Int → α) (t1 : Int) (t2 : Int) (t3 : Int) (t4 : Int) : α :=
  bif !(areTimes t1 t2 t3 t4) then k_ 0
  else k_ (w64 (Int.tdiv (w64 ((w64 ((w64 (t4 - t1)) - t3)) + t2)) 2))
def DelayOf (t1 : Int) (t2 : Int) (t3 : Int) (t4 : Int) : Int := impl_DelayOf_t id t1 t2 t3 t4
theorem impl_DelayOf_c {α : Type} (k_ : Int → α) (t1 : Int) (t2 : Int) (t3 : Int) (t4 : Int) : impl_DelayOf_t k_ t1 t2 t3 t4 = k_ (DelayOf t1 t2 t3 t4) := by
  exact cond_k rfl rfl

def laws_FnOffsetExact_t {α : Type} (bad : α) (k_ : Bool → α) (code : Rows) : α :=
  let z0 : Int := w64 (5000 + (cAt code 2))
  let z1 : Int := w64 ((w64 ((cAt code 0) - 100)) * 7)
  let z2 : Int := w64 ((w64 (z0 + z1)) + (cAt code 1))
  let z3 : Int := w64 (z2 + (cAt code 3))
  let z4 : Int := w64 ((w64 (z3 - z1)) + (cAt code 1))
  bif big code then k_ true
  else bif andt true (cAt_ok code 0) then
      bif andt true (cAt_ok code 1) then
        bif andt true (cAt_ok code 2) then
          bif andt true (cAt_ok code 3) then
            k_ (bif (OffsetOf z0 z2 z3 z4) == z1 then (DelayOf z0 z2 z3 z4) == (cAt code 1) else false)
          else bad
        else bad
      else bad
    else bad
theorem laws_FnOffsetExact_c {α : Type} (bad : α) (k_ : Bool → α) (code : Rows) (h_code : WtC (.sl [.int .u8]) (.sl code)) (hok : fitL ((.sl [.int .u8]) :: ([])) (.sl code :: ([])) = true) : laws_FnOffsetExact_t bad k_ code = k_ true := by
  obtain ⟨a0, b0⟩ := cAt_range h_code 0
  obtain ⟨a1, b1⟩ := cAt_range h_code 1
  obtain ⟨a2, b2⟩ := cAt_range h_code 2
  obtain ⟨a3, b3⟩ := cAt_range h_code 3
  unfold laws_FnOffsetExact_t
  have k0 : cAt_ok code 0 = true := rfl
  have k1 : cAt_ok code 1 = true := rfl
  have k2 : cAt_ok code 2 = true := rfl
  have k3 : cAt_ok code 3 = true := rfl
  cases big code
  · simp only [k0, k1, k2, k3, andt_true_l, cond_true, cond_false]
    generalize cAt code 0 = x0 at *
    generalize cAt code 1 = x1 at *
    generalize cAt code 2 = x2 at *
    generalize cAt code 3 = x3 at *
    rw [w64_in (n := x0 - 100) (by omega) (by omega), w64_in (n := 5000 + x2) (by omega) (by omega), w64_in (n := (x0 - 100) * 7) (by omega) (by omega), w64_in (n := 5000 + x2 + (x0 - 100) * 7) (by omega) (by omega), w64_in (n := 5000 + x2 + (x0 - 100) * 7 + x1) (by omega) (by omega), w64_in (n := 5000 + x2 + (x0 - 100) * 7 + x1 + x3) (by omega) (by omega), w64_in (n := 5000 + x2 + (x0 - 100) * 7 + x1 + x3 - (x0 - 100) * 7) (by omega) (by omega), w64_in (n := 5000 + x2 + (x0 - 100) * 7 + x1 + x3 - (x0 - 100) * 7 + x1) (by omega) (by omega)]
    have bt : ∀ n : Int, 0 ≤ n → n ≤ 1125899906842624 → between n 0 1125899906842624 = true := by
      intro n h1 h2
      simp only [between, impl_between_t, id, h1, h2, decide_true, cond_true]
    have ht : areTimes (5000 + x2) (5000 + x2 + (x0 - 100) * 7 + x1) (5000 + x2 + (x0 - 100) * 7 + x1 + x3) (5000 + x2 + (x0 - 100) * 7 + x1 + x3 - (x0 - 100) * 7 + x1) = true := by
      simp only [areTimes, impl_areTimes_t, id]
      rw [bt _ (by omega) (by omega), bt _ (by omega) (by omega), bt _ (by omega) (by omega), bt _ (by omega) (by omega)]
      rfl
    have e1 : OffsetOf (5000 + x2) (5000 + x2 + (x0 - 100) * 7 + x1) (5000 + x2 + (x0 - 100) * 7 + x1 + x3) (5000 + x2 + (x0 - 100) * 7 + x1 + x3 - (x0 - 100) * 7 + x1) = (x0 - 100) * 7 := by
      simp only [OffsetOf, impl_OffsetOf_t, ht, Bool.not_true, cond_false, id]
      rw [w64_in (n := 5000 + x2 + (x0 - 100) * 7 + x1 - (5000 + x2)) (by omega) (by omega)]
      rw [w64_in (n := 5000 + x2 + (x0 - 100) * 7 + x1 - (5000 + x2) - (5000 + x2 + (x0 - 100) * 7 + x1 + x3 - (x0 - 100) * 7 + x1)) (by omega) (by omega)]
      rw [w64_in (n := 5000 + x2 + (x0 - 100) * 7 + x1 - (5000 + x2) - (5000 + x2 + (x0 - 100) * 7 + x1 + x3 - (x0 - 100) * 7 + x1) + (5000 + x2 + (x0 - 100) * 7 + x1 + x3)) (by omega) (by omega)]
      rw [show 5000 + x2 + (x0 - 100) * 7 + x1 - (5000 + x2) - (5000 + x2 + (x0 - 100) * 7 + x1 + x3 - (x0 - 100) * 7 + x1) + (5000 + x2 + (x0 - 100) * 7 + x1 + x3) = (x0 - 100) * 7 * 2 by omega]
      rw [Int.mul_tdiv_cancel _ (by decide), w64_in (by omega) (by omega)]
    have e2 : DelayOf (5000 + x2) (5000 + x2 + (x0 - 100) * 7 + x1) (5000 + x2 + (x0 - 100) * 7 + x1 + x3) (5000 + x2 + (x0 - 100) * 7 + x1 + x3 - (x0 - 100) * 7 + x1) = x1 := by
      simp only [DelayOf, impl_DelayOf_t, ht, Bool.not_true, cond_false, id]
      rw [w64_in (n := 5000 + x2 + (x0 - 100) * 7 + x1 + x3 - (x0 - 100) * 7 + x1 - (5000 + x2)) (by omega) (by omega)]
      rw [w64_in (n := 5000 + x2 + (x0 - 100) * 7 + x1 + x3 - (x0 - 100) * 7 + x1 - (5000 + x2) - (5000 + x2 + (x0 - 100) * 7 + x1 + x3)) (by omega) (by omega)]
      rw [w64_in (n := 5000 + x2 + (x0 - 100) * 7 + x1 + x3 - (x0 - 100) * 7 + x1 - (5000 + x2) - (5000 + x2 + (x0 - 100) * 7 + x1 + x3) + (5000 + x2 + (x0 - 100) * 7 + x1)) (by omega) (by omega)]
      rw [show 5000 + x2 + (x0 - 100) * 7 + x1 + x3 - (x0 - 100) * 7 + x1 - (5000 + x2) - (5000 + x2 + (x0 - 100) * 7 + x1 + x3) + (5000 + x2 + (x0 - 100) * 7 + x1) = x1 * 2 by omega]
      rw [Int.mul_tdiv_cancel _ (by decide), w64_in (by omega) (by omega)]
    rw [e1, e2]
    simp
  · rfl

end
end Go.Proofs.Ytpkkffngnchieaa.Pl
