/- What functions of the program compute, in plain Lean, as the value machine runs them. Conditions: none. -/
import Derived.Test.YtpkkffngnchieaaPCl
import Derived.Test.YtpkkffngnchieaaPCu
set_option linter.unusedVariables false
set_option linter.unusedSimpArgs false
namespace Go.Proofs.Ytpkkffngnchieaa.Pl
open Vm
noncomputable section


def spec_l34Clock_t {α : Type} (bad : α) (k_ : SClock → Sl01Cur → α) (c : Sl01Cur) : α :=
  let z0 : Int × Sl01Cur := l01Below ((l01Below c 65536).2) 65536
  let z1 : Rows := [[.int 0], [.int 1048576], [.int 1048577], [.int 8388608], [.int 67108864], [.int 500000]]
  let z2 : Int × Sl01Cur := l01PickInt z0.2 z1
  let z3 : Sl01Cur := z2.2
  let z4 : Int × Sl01Cur := l01PickInt z3 ([[.int 0], [.int 0], [.int 5], [.int 1000]])
  bif andt (andt (andt (andt true (curOk1 c 65536)) (curOk1 ((l01Below c 65536).2) 65536)) (pickOk z0.2 z1)) (pickOk z3 ([[.int 0], [.int 0], [.int 5], [.int 1000]])) then
    k_ (⟨(l01Below c 65536).1, w64 (z0.1 * 16), z2.1, z4.1⟩ : SClock) z4.2
  else bad
def ckRates : Rows := [[.int 0], [.int 1048576], [.int 1048577], [.int 8388608], [.int 67108864], [.int 500000]]
def ckDebts : Rows := [[.int 0], [.int 0], [.int 5], [.int 1000]]
def l34Clock (c : Sl01Cur) : SClock × Sl01Cur :=
  (⟨(l01Below c 65536).1, w64 ((l01Below (l01Below c 65536).2 65536).1 * 16), (l01PickInt (l01Below (l01Below c 65536).2 65536).2 ckRates).1, (l01PickInt (l01PickInt (l01Below (l01Below c 65536).2 65536).2 ckRates).2 ckDebts).1⟩,
    (l01PickInt (l01PickInt (l01Below (l01Below c 65536).2 65536).2 ckRates).2 ckDebts).2)
theorem ck_pick (c : Sl01Cur) : (l01PickInt c ckRates).1 = 0 ∨ (l01PickInt c ckRates).1 = 1048576 ∨ (l01PickInt c ckRates).1 = 1048577 ∨ (l01PickInt c ckRates).1 = 8388608 ∨ (l01PickInt c ckRates).1 = 67108864 ∨ (l01PickInt c ckRates).1 = 500000 := by
  obtain ⟨k, h, e⟩ := l01PickInt_mem c (l := ckRates) (by decide)
  rw [e]
  have : k = 0 ∨ k = 1 ∨ k = 2 ∨ k = 3 ∨ k = 4 ∨ k = 5 := by simp only [ckRates, List.length_cons, List.length_nil] at h; omega
  rcases this with rfl | rfl | rfl | rfl | rfl | rfl <;> decide
theorem ck_debt (c : Sl01Cur) : 0 ≤ (l01PickInt c ckDebts).1 ∧ (l01PickInt c ckDebts).1 ≤ 1000 := by
  obtain ⟨k, h, e⟩ := l01PickInt_mem c (l := ckDebts) (by decide)
  rw [e]
  have : k = 0 ∨ k = 1 ∨ k = 2 ∨ k = 3 := by simp only [ckDebts, List.length_cons, List.length_nil] at h; omega
  rcases this with rfl | rfl | rfl | rfl <;> decide
/-- What a drawn clock is. -/
def CkIn (k : SClock) : Prop := 0 ≤ k.Time ∧ k.Time ≤ 65535 ∧ 0 ≤ k.Fraction ∧ k.Fraction ≤ 1048560 ∧ 0 ≤ k.Rate ∧ k.Rate ≤ 67108864 ∧ 0 ≤ k.Debt ∧ k.Debt ≤ 1000
theorem l34Clock_in (c : Sl01Cur) : CkIn (l34Clock c).1 := by
  have a := l01Below_range c 65536
  have b := l01Below_range (l01Below c 65536).2 65536
  have a2 := a.2 (by omega)
  have b2 := b.2 (by omega)
  have r := ck_pick (l01Below (l01Below c 65536).2 65536).2
  have d := ck_debt (l01PickInt (l01Below (l01Below c 65536).2 65536).2 ckRates).2
  simp only [l34Clock, CkIn]
  rw [w64_in (by omega) (by omega)]
  refine ⟨a.1, by omega, by omega, by omega, by omega, by omega, d.1, d.2⟩
theorem spec_l34Clock_c {α : Type} (bad : α) (k_ : SClock → Sl01Cur → α) (c : Sl01Cur) (h_c : WtL Sl01Cur.ct c.enc) (hok : curOk c = true) : spec_l34Clock_t bad k_ c = k_ (l34Clock c).1 (l34Clock c).2 := by
  have h1 := l01Below_cur hok 65536
  have h2 := l01Below_cur h1 65536
  have h3 := l01PickInt_cur h2 ckRates
  have o1 : curOk1 c (65536 : Int) = true := hok
  have o2 : curOk1 (l01Below c 65536).2 (65536 : Int) = true := h1
  have o3 : pickOk (l01Below (l01Below c 65536).2 65536).2 [[.int 0], [.int 1048576], [.int 1048577], [.int 8388608], [.int 67108864], [.int 500000]] = true := by simp only [pickOk, h2]; rfl
  have o4 : pickOk (l01PickInt (l01Below (l01Below c 65536).2 65536).2 [[.int 0], [.int 1048576], [.int 1048577], [.int 8388608], [.int 67108864], [.int 500000]]).2 [[.int 0], [.int 0], [.int 5], [.int 1000]] = true := by
    have h3 : curOk (l01PickInt (l01Below (l01Below c 65536).2 65536).2 [[.int 0], [.int 1048576], [.int 1048577], [.int 8388608], [.int 67108864], [.int 500000]]).2 = true := h3
    simp only [pickOk, h3]; rfl
  unfold spec_l34Clock_t l34Clock
  simp only [o1, o2, o3, o4, andt_true_l, andt_true_r, cond_true]
  rfl

def spec_DrawClock_t {α : Type} (bad : α) (k_ : SClock → α) (code : Rows) : α :=
  bif andt true (curOk (l01New code)) then
    k_ ((l34Clock (l01New code)).1)
  else bad
def DrawClock (code : Rows) : SClock := (l34Clock (l01New code)).1
theorem spec_DrawClock_c {α : Type} (bad : α) (k_ : SClock → α) (code : Rows) (h_code : WtC (.sl [.int .u8]) (.sl code)) : spec_DrawClock_t bad k_ code = k_ (DrawClock code) := by
  have h := l01New_ok (wt_sl h_code).1
  unfold spec_DrawClock_t DrawClock
  simp only [h, andt_true_l, cond_true]


theorem between_yes {n a b : Int} (h1 : a ≤ n) (h2 : n ≤ b) : between n a b = true := between_iff.2 ⟨h1, h2⟩
theorem ClockOk_iff {k : SClock} : ClockOk k = true ↔ (0 ≤ k.Time ∧ k.Time ≤ 1125899906842624) ∧ (0 ≤ k.Fraction ∧ k.Fraction ≤ 1048575) ∧ (0 ≤ k.Rate ∧ k.Rate ≤ 67108864) ∧ (0 ≤ k.Debt ∧ k.Debt ≤ 1099511627776) := by
  have b : ∀ n a c : Int, between n a c = true ↔ a ≤ n ∧ n ≤ c := fun n a c => between_iff
  unfold ClockOk impl_ClockOk_t
  simp only [id]
  rw [← b, ← b, ← b, ← b]
  cases between k.Time 0 1125899906842624 <;> cases between k.Fraction 0 1048575 <;> cases between k.Rate 0 67108864 <;> cases between k.Debt 0 1099511627776 <;> simp
def adv (k : SClock) (x : Int) : SClock := ⟨k.Time + ((k.Fraction + x) / 1048576 - minI ((k.Fraction + x) / 1048576) k.Debt), (k.Fraction + x) % 1048576, k.Rate, k.Debt - minI ((k.Fraction + x) / 1048576) k.Debt⟩
theorem mul_bound {a b x y : Int} (h0 : 0 ≤ a) (h1 : a ≤ x) (h2 : 0 ≤ b) (h3 : b ≤ y) : 0 ≤ a * b ∧ a * b ≤ x * y := ⟨Int.mul_nonneg h0 h2, Int.mul_le_mul h1 h3 h2 (by omega)⟩
theorem advance_eq {k : SClock} {n : Int} (hk : ClockOk k = true) (h0 : 0 ≤ n) (h1 : n ≤ 1000000) : AdvanceClock k n = bif ClockOk (adv k (k.Rate * n)) then adv k (k.Rate * n) else k := by
  obtain ⟨a, b, c, d⟩ := ClockOk_iff.1 hk
  have hx := mul_bound c.1 c.2 h0 h1
  unfold AdvanceClock impl_AdvanceClock_t
  simp only [hk, between_yes h0 h1, Bool.not_true, cond_false]
  rw [w64_in (n := k.Rate * n) (by omega) (by omega), w64_in (n := k.Fraction + k.Rate * n) (by omega) (by omega)]
  have e1 : Int.tdiv (k.Fraction + k.Rate * n) 1048576 = (k.Fraction + k.Rate * n) / 1048576 := Int.tdiv_eq_ediv_of_nonneg (by omega)
  have e2 : Int.tmod (k.Fraction + k.Rate * n) 1048576 = (k.Fraction + k.Rate * n) % 1048576 := Int.tmod_eq_emod_of_nonneg (by omega)
  rw [e1, e2, w64_in (n := (k.Fraction + k.Rate * n) / 1048576) (by omega) (by omega)]
  have hg : gain k ((k.Fraction + k.Rate * n) / 1048576) = ⟨(adv k (k.Rate * n)).Time, k.Fraction, k.Rate, (adv k (k.Rate * n)).Debt⟩ := by
    have hm : minI ((k.Fraction + k.Rate * n) / 1048576) k.Debt ≤ k.Debt ∧ minI ((k.Fraction + k.Rate * n) / 1048576) k.Debt ≤ (k.Fraction + k.Rate * n) / 1048576 ∧ 0 ≤ minI ((k.Fraction + k.Rate * n) / 1048576) k.Debt := by
      unfold minI
      split <;> omega
    unfold gain impl_gain_t adv
    simp only [id]
    generalize minI ((k.Fraction + k.Rate * n) / 1048576) k.Debt = M at hm ⊢
    rw [w64_in (n := (k.Fraction + k.Rate * n) / 1048576 - M) (by omega) (by omega), w64_in (n := k.Debt - M) (by omega) (by omega), w64_in (by omega) (by omega)]
  rw [hg]
  show (bif !(ClockOk (adv k (k.Rate * n))) then k else adv k (k.Rate * n)) = _
  cases ClockOk (adv k (k.Rate * n)) <;> rfl
theorem minI_facts (a b : Int) : minI a b ≤ a ∧ minI a b ≤ b ∧ (minI a b = a ∨ minI a b = b) := by
  unfold minI
  split <;> omega
theorem adv_ok {k : SClock} {x : Int} (ht : 0 ≤ k.Time ∧ k.Time ≤ 1000000) (hf : 0 ≤ k.Fraction ∧ k.Fraction ≤ 1048575) (hr : 0 ≤ k.Rate ∧ k.Rate ≤ 67108864) (hd : 0 ≤ k.Debt ∧ k.Debt ≤ 1000) (h0 : 0 ≤ x) (h1 : x ≤ 67108864 * 510) : ClockOk (adv k x) = true := by
  have hm := minI_facts ((k.Fraction + x) / 1048576) k.Debt
  refine ClockOk_iff.2 ⟨?_, ?_, hr, ?_⟩
  · show 0 ≤ k.Time + ((k.Fraction + x) / 1048576 - minI ((k.Fraction + x) / 1048576) k.Debt) ∧ k.Time + ((k.Fraction + x) / 1048576 - minI ((k.Fraction + x) / 1048576) k.Debt) ≤ 1125899906842624
    omega
  · show 0 ≤ (k.Fraction + x) % 1048576 ∧ (k.Fraction + x) % 1048576 ≤ 1048575
    omega
  · show 0 ≤ k.Debt - minI ((k.Fraction + x) / 1048576) k.Debt ∧ k.Debt - minI ((k.Fraction + x) / 1048576) k.Debt ≤ 1099511627776
    omega
theorem adv_adv {k : SClock} {x y : Int} (hf : 0 ≤ k.Fraction ∧ k.Fraction ≤ 1048575) (hd : 0 ≤ k.Debt) (h0 : 0 ≤ x) (h1 : 0 ≤ y) : adv (adv k x) y = adv k (x + y) := by
  have e1 : ((k.Fraction + x) % 1048576 + y) / 1048576 + (k.Fraction + x) / 1048576 = (k.Fraction + (x + y)) / 1048576 := by omega
  have e2 : ((k.Fraction + x) % 1048576 + y) % 1048576 = (k.Fraction + (x + y)) % 1048576 := by omega
  have q1 : 0 ≤ (k.Fraction + x) / 1048576 := by omega
  have q2 : 0 ≤ ((k.Fraction + x) % 1048576 + y) / 1048576 := by omega
  have key : minI ((k.Fraction + x) / 1048576) k.Debt + minI (((k.Fraction + x) % 1048576 + y) / 1048576) (k.Debt - minI ((k.Fraction + x) / 1048576) k.Debt) = minI ((k.Fraction + (x + y)) / 1048576) k.Debt := by
    rw [← e1]
    generalize (k.Fraction + x) / 1048576 = a at q1 ⊢
    generalize ((k.Fraction + x) % 1048576 + y) / 1048576 = b at q2 ⊢
    unfold minI
    repeat' split
    all_goals omega
  simp only [adv, SClock.mk.injEq]
  refine ⟨by omega, e2, trivial, by omega⟩
theorem adv_zero {k : SClock} (hf : 0 ≤ k.Fraction ∧ k.Fraction ≤ 1048575) (hd : 0 ≤ k.Debt) : adv k 0 = k := by
  have e1 : (k.Fraction + 0) / 1048576 = 0 := by omega
  have e2 : (k.Fraction + 0) % 1048576 = k.Fraction := by omega
  have e3 : minI 0 k.Debt = 0 := by unfold minI; split <;> omega
  unfold adv
  rw [e1, e2, e3]
  simp
theorem draw_ok {k : SClock} (h : CkIn k) : ClockOk k = true := by
  obtain ⟨a, b, c, d, e, f, g, i⟩ := h
  exact ClockOk_iff.2 ⟨⟨a, by omega⟩, ⟨c, by omega⟩, ⟨e, f⟩, ⟨g, by omega⟩⟩
def Fwd (k x : SClock) : Prop := ClockOk x = true ∧ k.Time ≤ x.Time
theorem advance_fwd {k : SClock} (hk : ClockOk k = true) (n : Int) : Fwd k (AdvanceClock k n) := by
  by_cases h : 0 ≤ n ∧ n ≤ 1000000
  · rw [advance_eq hk h.1 h.2]
    obtain ⟨a, b, c, d⟩ := ClockOk_iff.1 hk
    have hx := mul_bound c.1 c.2 h.1 h.2
    cases ha : ClockOk (adv k (k.Rate * n))
    · exact ⟨hk, Int.le_refl _⟩
    · refine ⟨ha, ?_⟩
      have hm := minI_facts ((k.Fraction + k.Rate * n) / 1048576) k.Debt
      show k.Time ≤ k.Time + ((k.Fraction + k.Rate * n) / 1048576 - minI ((k.Fraction + k.Rate * n) / 1048576) k.Debt)
      omega
  · have hb : between n 0 1000000 = false := by
      cases hb : between n 0 1000000
      · rfl
      · exact absurd (between_iff.1 hb) h
    unfold AdvanceClock impl_AdvanceClock_t
    simp only [hk, hb, Bool.not_true, Bool.not_false, cond_false, cond_true, id]
    exact ⟨hk, Int.le_refl _⟩
theorem trim_fwd {k : SClock} (hk : ClockOk k = true) (n : Int) : Fwd k (TrimClock k n) := by
  unfold TrimClock impl_TrimClock_t
  cases (bif !(ClockOk k) then true else !(between n (-1000000) 1000000))
  · simp only [cond_false]
    cases ha : ClockOk (⟨k.Time, k.Fraction, w64 (k.Rate + (w64 (Int.tdiv (w64 (k.Rate * n)) 1000000))), k.Debt⟩ : SClock)
    · exact ⟨hk, Int.le_refl _⟩
    · exact ⟨ha, Int.le_refl _⟩
  · exact ⟨hk, Int.le_refl _⟩
theorem step_fwd {k : SClock} (hk : ClockOk k = true) (n : Int) : Fwd k (StepClock k n) := by
  unfold StepClock impl_StepClock_t
  obtain ⟨a, b, c, d⟩ := ClockOk_iff.1 hk
  cases hb : (bif !(ClockOk k) then true else !(between n (-1099511627776) 1099511627776))
  · simp only [cond_false]
    have hr : -1099511627776 ≤ n ∧ n ≤ 1099511627776 := by
      rw [hk] at hb
      cases hc : between n (-1099511627776) 1099511627776
      · rw [hc] at hb; cases hb
      · exact between_iff.1 hc
    by_cases h0 : 0 ≤ n
    · simp only [decide_eq_true h0, cond_true]
      cases ha : ClockOk (gain k n)
      · exact ⟨hk, Int.le_refl _⟩
      · refine ⟨ha, ?_⟩
        have hm := minI_facts n k.Debt
        show k.Time ≤ w64 (k.Time + (w64 (n - (minI n k.Debt))))
        rw [w64_in (n := n - minI n k.Debt) (by omega) (by omega), w64_in (by omega) (by omega)]
        omega
    · simp only [decide_eq_false h0, cond_false]
      cases ha : ClockOk (⟨k.Time, k.Fraction, k.Rate, w64 (k.Debt - n)⟩ : SClock)
      · exact ⟨hk, Int.le_refl _⟩
      · exact ⟨ha, Int.le_refl _⟩
  · exact ⟨hk, Int.le_refl _⟩
theorem fwd_no {k x : SClock} (h : Fwd k x) : (bif !(ClockOk x) then true else decide (x.Time < k.Time)) = false := by
  rw [h.1, decide_eq_false (Int.not_lt.2 h.2)]
  rfl
theorem step_back {j : SClock} (h : CkIn j) : StepClock j (-50) = ⟨j.Time, j.Fraction, j.Rate, j.Debt + 50⟩ := by
  have hk := draw_ok h
  obtain ⟨a, b, c, d, e, f, g, i⟩ := h
  have ha : ClockOk (⟨j.Time, j.Fraction, j.Rate, j.Debt + 50⟩ : SClock) = true := ClockOk_iff.2 ⟨⟨a, show j.Time ≤ _ by omega⟩, ⟨c, show j.Fraction ≤ _ by omega⟩, ⟨e, f⟩, ⟨show 0 ≤ j.Debt + 50 by omega, show j.Debt + 50 ≤ _ by omega⟩⟩
  unfold StepClock impl_StepClock_t
  rw [show w64 (j.Debt - -50) = j.Debt + 50 from by rw [w64_in (by omega) (by omega)]; omega]
  simp only [hk, ha, show between (-50) (-1099511627776) 1099511627776 = true from rfl, show decide ((0 : Int) ≤ -50) = false from rfl, Bool.not_true, cond_false, id]
theorem step_forth {j : SClock} (h : CkIn j) : StepClock (⟨j.Time, j.Fraction, j.Rate, j.Debt + 50⟩ : SClock) 50 = j := by
  obtain ⟨a, b, c, d, e, f, g, i⟩ := h
  have ha : ClockOk (⟨j.Time, j.Fraction, j.Rate, j.Debt + 50⟩ : SClock) = true := ClockOk_iff.2 ⟨⟨a, show j.Time ≤ _ by omega⟩, ⟨c, show j.Fraction ≤ _ by omega⟩, ⟨e, f⟩, ⟨show 0 ≤ j.Debt + 50 by omega, show j.Debt + 50 ≤ _ by omega⟩⟩
  have hm : minI 50 (j.Debt + 50) = 50 := by unfold minI; split <;> omega
  have hg : gain (⟨j.Time, j.Fraction, j.Rate, j.Debt + 50⟩ : SClock) 50 = j := by
    unfold gain impl_gain_t
    simp only [hm, id]
    rw [show w64 ((50 : Int) - 50) = 0 from rfl, w64_in (n := j.Time + 0) (by omega) (by omega), w64_in (n := j.Debt + 50 - 50) (by omega) (by omega)]
    simp only [Int.add_zero, Int.add_sub_cancel]
  have hk : ClockOk j = true := draw_ok ⟨a, b, c, d, e, f, g, i⟩
  unfold StepClock impl_StepClock_t
  simp only [ha, hg, hk, show between 50 (-1099511627776) 1099511627776 = true from rfl, show decide ((0 : Int) ≤ 50) = true from rfl, Bool.not_true, cond_false, cond_true, id]

def laws_FnClockParts_t {α : Type} (bad : α) (k_ : Bool → α) (code : Rows) : α :=
  let z0 : SClock := AdvanceClock (DrawClock code) (cAt code 0)
  let z1 : SClock := AdvanceClock z0 (cAt code 1)
  let z2 : SClock := AdvanceClock (DrawClock code) (w64 ((cAt code 0) + (cAt code 1)))
  bif big code then k_ true
  else bif andt true (cAt_ok code 0) then
      bif andt true (cAt_ok code 1) then
        k_ (bif bif z1.Time == z2.Time then bif z1.Fraction == z2.Fraction then bif z1.Rate == z2.Rate then bif z1.Debt == z2.Debt then true else false else false else false else false then bif ClockOk z0 then bif ((AdvanceClock (DrawClock code) 0).Time) == ((DrawClock code).Time) then bif ((AdvanceClock (DrawClock code) 0).Fraction) == ((DrawClock code).Fraction) then bif ((AdvanceClock (DrawClock code) 0).Rate) == ((DrawClock code).Rate) then bif ((AdvanceClock (DrawClock code) 0).Debt) == ((DrawClock code).Debt) then true else false else false else false else false else false else false)
      else bad
    else bad
theorem laws_FnClockParts_c {α : Type} (bad : α) (k_ : Bool → α) (code : Rows) (h_code : WtC (.sl [.int .u8]) (.sl code)) (hok : fitL ((.sl [.int .u8]) :: ([])) (.sl code :: ([])) = true) : laws_FnClockParts_t bad k_ code = k_ true := by
  obtain ⟨a0, b0⟩ := cAt_range h_code 0
  obtain ⟨a1, b1⟩ := cAt_range h_code 1
  have hk : CkIn (DrawClock code) := l34Clock_in (l01New code)
  have k0 : cAt_ok code 0 = true := rfl
  have k1 : cAt_ok code 1 = true := rfl
  unfold laws_FnClockParts_t
  cases big code
  · simp only [k0, k1, andt_true_l, cond_true, cond_false]
    generalize DrawClock code = k at hk ⊢
    generalize cAt code 0 = n at *
    generalize cAt code 1 = m at *
    rw [w64_in (n := n + m) (by omega) (by omega)]
    have hok := draw_ok hk
    obtain ⟨t0, t1, f0, f1, r0, r1, d0, d1⟩ := hk
    have x1 := mul_bound r0 r1 a0 b0
    have x2 := mul_bound r0 r1 a1 b1
    have o1 : ClockOk (adv k (k.Rate * n)) = true := adv_ok ⟨t0, by omega⟩ ⟨f0, by omega⟩ ⟨r0, r1⟩ ⟨d0, d1⟩ x1.1 (by omega)
    have o2 : ClockOk (adv k (k.Rate * n + k.Rate * m)) = true := adv_ok ⟨t0, by omega⟩ ⟨f0, by omega⟩ ⟨r0, r1⟩ ⟨d0, d1⟩ (by omega) (by omega)
    have e1 : AdvanceClock k n = adv k (k.Rate * n) := by rw [advance_eq hok a0 (by omega), o1]; rfl
    have e2 : AdvanceClock k (n + m) = adv k (k.Rate * n + k.Rate * m) := by rw [advance_eq hok (by omega) (by omega), Int.mul_add, o2]; rfl
    have e3 : AdvanceClock (adv k (k.Rate * n)) m = adv k (k.Rate * n + k.Rate * m) := by
      rw [advance_eq o1 a1 (by omega)]
      show (bif ClockOk (adv (adv k (k.Rate * n)) (k.Rate * m)) then adv (adv k (k.Rate * n)) (k.Rate * m) else _) = _
      rw [adv_adv ⟨f0, by omega⟩ d0 x1.1 x2.1, o2]
      rfl
    have e4 : AdvanceClock k 0 = k := by
      rw [advance_eq hok (by omega) (by omega), Int.mul_zero, adv_zero ⟨f0, by omega⟩ d0, hok]
      rfl
    simp only [e1, e2, e3, e4, o1, beq_self_eq_true, cond_true]
  · rfl

def laws_FnClockForward_l0 {α : Type} (bad : α) (k_ : Bool → α) (code : Rows) (j : Int) (j_1 : Int) (j_2 : Int) (j_3 : Int) (ih0 : Int → Int → Int → Int → Int → α) (i : Int) (k : Int) (k_1 : Int) (k_2 : Int) (k_3 : Int) : α :=
  let z0 : Bool := andt true (cAt_ok code (w64 (i + 1)))
  let z1 : Int := cAt code (w64 (i + 1))
  let z2 : Bool := (Int.tmod z1 5) == 0
  let z3 : Int := w64 ((cAt code i) - 128)
  let z4 : SClock := TrimClock (⟨k, k_1, k_2, k_3⟩ : SClock) z3
  let z5 : Int := z4.Time
  let z6 : Bool := bif !(ClockOk z4) then true else decide (z5 < k)
  let z7 : Int := z4.Fraction
  let z8 : Int := z4.Rate
  let z9 : Int := z4.Debt
  let z10 : SClock := StepClock (⟨k, k_1, k_2, k_3⟩ : SClock) (w64 (z3 * 4))
  let z11 : Int := z10.Time
  let z12 : SClock := AdvanceClock (⟨k, k_1, k_2, k_3⟩ : SClock) (cAt code i)
  let z13 : SClock := StepClock (⟨j, j_1, j_2, j_3⟩ : SClock) (-50)
  let z14 : SClock := StepClock z13 50
  bif decide (i < 8) then
    bif andt true (cAt_ok code i) then
      bif z0 then
        bif (Int.tmod z1 3) == 0 then
          bif andt true (cAt_ok code i) then
            bif z0 then
              bif z2 then
                bif andt true (cAt_ok code i) then
                  bif z6 then k_ false
                  else ih0 (w64 (i + 1)) z5 z7 z8 z9
                else bad
              else bif bif !(ClockOk z10) then true else decide (z11 < k) then k_ false
              else ih0 (w64 (i + 1)) z11 z10.Fraction z10.Rate z10.Debt
            else bad
          else bad
        else bif z0 then
            bif z2 then
              bif andt true (cAt_ok code i) then
                bif z6 then k_ false
                else ih0 (w64 (i + 1)) z5 z7 z8 z9
              else bad
            else bif bif !(ClockOk z12) then true else decide (z12.Time < k) then k_ false
            else ih0 (w64 (i + 1)) z12.Time z12.Fraction z12.Rate z12.Debt
          else bad
      else bad
    else bad
  else k_ (bif bif z14.Time == j then bif z14.Fraction == j_1 then bif z14.Rate == j_2 then bif z14.Debt == j_3 then true else false else false else false else false then bif z13.Time == j then z13.Debt == (w64 (j_3 + 50)) else false else false)
def laws_FnClockForward_L0 {α : Type} (bad : α) (k_ : Bool → α) (N : Nat) (code : Rows) (j : Int) (j_1 : Int) (j_2 : Int) (j_3 : Int) (m_ : Nat) : Int → Int → Int → Int → Int → α :=
  Nat.rec (motive := fun _ => Int → Int → Int → Int → Int → α) (fun _ _ _ _ _ => bad) (fun _ ih0 => laws_FnClockForward_l0 bad k_ code j j_1 j_2 j_3 ih0) m_
theorem laws_FnClockForward_L0_z {α : Type} (bad : α) (k_ : Bool → α) (N : Nat) (code : Rows) (j : Int) (j_1 : Int) (j_2 : Int) (j_3 : Int) (i : Int) (k : Int) (k_1 : Int) (k_2 : Int) (k_3 : Int) : laws_FnClockForward_L0 bad k_ N code j j_1 j_2 j_3 0 i k k_1 k_2 k_3 = bad := rfl
theorem laws_FnClockForward_L0_s {α : Type} (bad : α) (k_ : Bool → α) (N : Nat) (code : Rows) (j : Int) (j_1 : Int) (j_2 : Int) (j_3 : Int) (m_ : Nat) (i : Int) (k : Int) (k_1 : Int) (k_2 : Int) (k_3 : Int) : laws_FnClockForward_L0 bad k_ N code j j_1 j_2 j_3 (m_ + 1) i k k_1 k_2 k_3 = laws_FnClockForward_l0 bad k_ code j j_1 j_2 j_3 (laws_FnClockForward_L0 bad k_ N code j j_1 j_2 j_3 m_) i k k_1 k_2 k_3 := rfl
def laws_FnClockForward_t {α : Type} (bad : α) (k_ : Bool → α) (l0 : Int → Int → Int → Int → Int → Int → Int → Int → Int → α) (code : Rows) : α :=
  bif big code then k_ true
  else l0 ((DrawClock code).Time) ((DrawClock code).Fraction) ((DrawClock code).Rate) ((DrawClock code).Debt) 0 ((DrawClock code).Time) ((DrawClock code).Fraction) ((DrawClock code).Rate) ((DrawClock code).Debt)
def laws_FnClockForward_f {α : Type} (bad : α) (k_ : Bool → α) (N : Nat) (code : Rows) : α := laws_FnClockForward_t bad k_ (fun j j_1 j_2 j_3 => laws_FnClockForward_L0 bad k_ N code j j_1 j_2 j_3 N) code
theorem laws_FnClockForward_c {α : Type} (bad : α) (k_ : Bool → α) (code : Rows) (h_code : WtC (.sl [.int .u8]) (.sl code)) (hok : fitL ((.sl [.int .u8]) :: ([])) (.sl code :: ([])) = true) : ∃ N, laws_FnClockForward_f bad k_ N code = k_ true := by
  have hk : CkIn (DrawClock code) := l34Clock_in (l01New code)
  refine ⟨9, ?_⟩
  unfold laws_FnClockForward_f laws_FnClockForward_t
  cases big code
  · simp only [andt_true_l, cond_true, cond_false]
    generalize DrawClock code = j at hk ⊢
    refine (loop_inv 8 (fun n i s => laws_FnClockForward_L0 bad k_ 9 code j.Time j.Fraction j.Rate j.Debt n i s.Time s.Fraction s.Rate s.Debt)
      (fun i s => bif (Int.tmod (cAt code ((i : Int) + 1)) 5) == 0 then TrimClock s (w64 (cAt code (i : Int) - 128)) else bif (Int.tmod (cAt code ((i : Int) + 1)) 3) == 0 then StepClock s (w64 (w64 (cAt code (i : Int) - 128) * 4)) else AdvanceClock s (cAt code (i : Int)))
      (fun _ => k_ true) (fun _ s => ClockOk s = true) ?_ ?_ ?_ 9 j (draw_ok hk) (by omega))
    · intro i s hi hs
      show ClockOk (bif (Int.tmod (cAt code ((i : Int) + 1)) 5) == 0 then _ else _) = true
      cases (Int.tmod (cAt code ((i : Int) + 1)) 5) == 0
      · cases (Int.tmod (cAt code ((i : Int) + 1)) 3) == 0
        · exact (advance_fwd hs _).1
        · exact (step_fwd hs _).1
      · exact (trim_fwd hs _).1
    · intro n i s hi hs
      show laws_FnClockForward_L0 bad k_ 9 code j.Time j.Fraction j.Rate j.Debt (n + 1) (i : Int) s.Time s.Fraction s.Rate s.Debt = _
      rw [laws_FnClockForward_L0_s]
      have ew : w64 ((i : Int) + 1) = (i : Int) + 1 := w64_in (by omega) (by omega)
      have k0 : cAt_ok code (i : Int) = true := by simp only [cAt_ok, Bool.and_eq_true, decide_eq_true_eq]; omega
      have k1 : cAt_ok code ((i : Int) + 1) = true := by simp only [cAt_ok, Bool.and_eq_true, decide_eq_true_eq]; omega
      have es : (⟨s.Time, s.Fraction, s.Rate, s.Debt⟩ : SClock) = s := rfl
      have t1 := fwd_no (trim_fwd hs (w64 (cAt code (i : Int) - 128)))
      have t2 := fwd_no (step_fwd hs (w64 (w64 (cAt code (i : Int) - 128) * 4)))
      have t3 := fwd_no (advance_fwd hs (cAt code (i : Int)))
      simp only [laws_FnClockForward_l0, decide_eq_true (show (i : Int) < 8 by omega), ew, k0, k1, es, t1, t2, t3, andt_true_l, cond_true, cond_false]
      cases (Int.tmod (cAt code ((i : Int) + 1)) 5) == 0 <;> cases (Int.tmod (cAt code ((i : Int) + 1)) 3) == 0 <;> rfl
    · intro n s hs
      show laws_FnClockForward_L0 bad k_ 9 code j.Time j.Fraction j.Rate j.Debt (n + 1) 8 s.Time s.Fraction s.Rate s.Debt = _
      rw [laws_FnClockForward_L0_s]
      have ej : (⟨j.Time, j.Fraction, j.Rate, j.Debt⟩ : SClock) = j := rfl
      have ed : w64 (j.Debt + 50) = j.Debt + 50 := by
        obtain ⟨t0, t1, f0, f1, r0, r1, d0, d1⟩ := hk
        exact w64_in (by omega) (by omega)
      simp only [laws_FnClockForward_l0, show decide ((8 : Int) < 8) = false from rfl, ej, step_back hk, step_forth hk, ed, beq_self_eq_true, cond_true, cond_false]
  · rfl

end
end Go.Proofs.Ytpkkffngnchieaa.Pl
