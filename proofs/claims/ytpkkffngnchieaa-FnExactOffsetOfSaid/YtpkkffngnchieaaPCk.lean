/- What functions of the program compute, in plain Lean, as the value machine runs them. Conditions: none. -/
import Derived.Test.YtpkkffngnchieaaPre
import Derived.Test.YtpkkffngnchieaaLem
set_option linter.unusedVariables false
set_option linter.unusedSimpArgs false
namespace Go.Proofs.Ytpkkffngnchieaa.Pl
open Vm

structure SClock where
  Time : Int
  Fraction : Int
  Rate : Int
  Debt : Int
def SClock.enc (x : SClock) : List DC := [.int x.Time, .int x.Fraction, .int x.Rate, .int x.Debt]
def SClock.decAt (r : List DC) (o : Nat) : SClock := ⟨rI r (o + 0), rI r (o + 1), rI r (o + 2), rI r (o + 3)⟩
def SClock.ct : List CT := [.int .i64, .int .i64, .int .i64, .int .i64]
theorem SClock.of_wt {r : List CT} {ds : List DC} (h : WtL (SClock.ct ++ r) ds) : ∃ (x : SClock) (ds' : List DC), ds = x.enc ++ ds' ∧ WtL SClock.ct x.enc ∧ WtL r ds' := by
  simp only [SClock.ct, List.cons_append, List.nil_append, WtL, WtC] at h
  obtain ⟨_, _, rfl, ⟨a0, rfl, p0⟩, _, _, rfl, ⟨a1, rfl, p1⟩, _, _, rfl, ⟨a2, rfl, p2⟩, _, _, rfl, ⟨a3, rfl, p3⟩, h⟩ := h
  exact ⟨⟨a0, a1, a2, a3⟩, _, rfl, by simp only [SClock.ct, SClock.enc, WtL, WtC]; exact ⟨_, _, rfl, ⟨_, rfl, p0⟩, _, _, rfl, ⟨_, rfl, p1⟩, _, _, rfl, ⟨_, rfl, p2⟩, _, _, rfl, ⟨_, rfl, p3⟩, rfl⟩, h⟩

def impl_between_t {α : Type} (k_ : Bool → α) (n : Int) (low : Int) (high : Int) : α :=
  k_ (bif decide (low ≤ n) then decide (n ≤ high) else false)
def between (n : Int) (low : Int) (high : Int) : Bool := impl_between_t id n low high
theorem impl_between_c {α : Type} (k_ : Bool → α) (n : Int) (low : Int) (high : Int) : impl_between_t k_ n low high = k_ (between n low high) := by
  rfl

def spec_l01In_t {α : Type} (k_ : Bool → α) (x : Int) (least : Int) (most : Int) : α :=
  k_ (bif decide (least ≤ x) then decide (x ≤ most) else false)
theorem spec_l01In_c {α : Type} (k_ : Bool → α) (x : Int) (least : Int) (most : Int) (h_x : WtC (.int .i64) (.int x)) (h_least : WtC (.int .i64) (.int least)) (h_most : WtC (.int .i64) (.int most)) : spec_l01In_t k_ x least most = k_ (between x least most) := by
  exact rfl

def laws_toClock_t {α : Type} (k_ : SClock → α) (a : SClock) : α :=
  k_ a
def toClock (a : SClock) : SClock := laws_toClock_t id a
theorem laws_toClock_c {α : Type} (k_ : SClock → α) (a : SClock) : laws_toClock_t k_ a = k_ (toClock a) := by
  rfl

def laws_eqClock_t {α : Type} (k_ : Bool → α) (a : SClock) (b : SClock) : α :=
  bif a.Time != b.Time then k_ false
  else bif a.Fraction != b.Fraction then k_ false
  else bif a.Rate != b.Rate then k_ false
  else bif a.Debt != b.Debt then k_ false
  else k_ true
def eqClock (a : SClock) (b : SClock) : Bool := laws_eqClock_t id a b
theorem laws_eqClock_c {α : Type} (k_ : Bool → α) (a : SClock) (b : SClock) : laws_eqClock_t k_ a b = k_ (eqClock a b) := by
  exact cond_k rfl (cond_k rfl (cond_k rfl (cond_k rfl rfl)))

def impl_ClockOk_t {α : Type} (k_ : Bool → α) (k : SClock) : α :=
  k_ (bif between k.Time 0 1125899906842624 then bif between k.Fraction 0 1048575 then bif between k.Rate 0 67108864 then between k.Debt 0 1099511627776 else false else false else false)
def ClockOk (k : SClock) : Bool := impl_ClockOk_t id k
theorem impl_ClockOk_c {α : Type} (k_ : Bool → α) (k : SClock) : impl_ClockOk_t k_ k = k_ (ClockOk k) := by
  rfl

def spec_ClockOk_t {α : Type} (k_ : Bool → α) (k : SClock) : α :=
  k_ (bif between k.Time 0 1125899906842624 then bif between k.Fraction 0 1048575 then bif between k.Rate 0 67108864 then between k.Debt 0 1099511627776 else false else false else false)
theorem spec_ClockOk_c {α : Type} (k_ : Bool → α) (k : SClock) (h_k : WtL SClock.ct k.enc) : spec_ClockOk_t k_ k = k_ (ClockOk k) := by
  exact rfl

def impl_gain_t {α : Type} (k_ : SClock → α) (k : SClock) (n : Int) : α :=
  k_ (⟨w64 (k.Time + (w64 (n - (minI n k.Debt)))), k.Fraction, k.Rate, w64 (k.Debt - (minI n k.Debt))⟩ : SClock)
def gain (k : SClock) (n : Int) : SClock := impl_gain_t id k n
theorem impl_gain_c {α : Type} (k_ : SClock → α) (k : SClock) (n : Int) : impl_gain_t k_ k n = k_ (gain k n) := by
  rfl

def spec_l34Gain_t {α : Type} (k_ : SClock → α) (k : SClock) (n : Int) : α :=
  k_ (⟨w64 ((w64 (k.Time + n)) - (minI n k.Debt)), k.Fraction, k.Rate, w64 (k.Debt - (minI n k.Debt))⟩ : SClock)
theorem spec_l34Gain_c {α : Type} (k_ : SClock → α) (k : SClock) (n : Int) (h_k : WtL SClock.ct k.enc) (h_n : WtC (.int .i64) (.int n)) : spec_l34Gain_t k_ k n = k_ (gain k n) := by
  unfold spec_l34Gain_t gain impl_gain_t
  simp only [w64_sub_l, w64_add_r, id]
  rw [Int.add_sub_assoc]

def impl_TrimClock_t {α : Type} (k_ : SClock → α) (k : SClock) (parts : Int) : α :=
  let z0 : SClock := (⟨k.Time, k.Fraction, w64 (k.Rate + (w64 (Int.tdiv (w64 (k.Rate * parts)) 1000000))), k.Debt⟩ : SClock)
  bif bif !(ClockOk k) then true else !(between parts (-1000000) 1000000) then k_ k
  else bif !(ClockOk z0) then k_ k
  else k_ z0
def TrimClock (k : SClock) (parts : Int) : SClock := impl_TrimClock_t id k parts
theorem impl_TrimClock_c {α : Type} (k_ : SClock → α) (k : SClock) (parts : Int) : impl_TrimClock_t k_ k parts = k_ (TrimClock k parts) := by
  exact cond_k rfl (cond_k rfl rfl)

def spec_TrimClock_t {α : Type} (k_ : SClock → α) (k : SClock) (parts : Int) : α :=
  let z0 : SClock := (⟨k.Time, k.Fraction, w64 (k.Rate + (w64 (Int.tdiv (w64 (k.Rate * parts)) 1000000))), k.Debt⟩ : SClock)
  bif bif !(ClockOk k) then true else !(between parts (-1000000) 1000000) then k_ k
  else bif !(ClockOk z0) then k_ k
  else k_ z0
theorem spec_TrimClock_c {α : Type} (k_ : SClock → α) (k : SClock) (parts : Int) (h_k : WtL SClock.ct k.enc) (h_parts : WtC (.int .i64) (.int parts)) : spec_TrimClock_t k_ k parts = k_ (TrimClock k parts) := by
  exact cond_k rfl (cond_k rfl rfl)

def impl_AdvanceClock_t {α : Type} (k_ : SClock → α) (k : SClock) (ticks : Int) : α :=
  let z0 : Int := w64 (k.Fraction + (w64 (k.Rate * ticks)))
  let z1 : SClock := gain k (w64 (Int.tdiv z0 1048576))
  let z2 : SClock := (⟨z1.Time, Int.tmod z0 1048576, z1.Rate, z1.Debt⟩ : SClock)
  bif bif !(ClockOk k) then true else !(between ticks 0 1000000) then k_ k
  else bif !(ClockOk z2) then k_ k
  else k_ z2
def AdvanceClock (k : SClock) (ticks : Int) : SClock := impl_AdvanceClock_t id k ticks
theorem impl_AdvanceClock_c {α : Type} (k_ : SClock → α) (k : SClock) (ticks : Int) : impl_AdvanceClock_t k_ k ticks = k_ (AdvanceClock k ticks) := by
  exact cond_k rfl (cond_k rfl rfl)

def spec_AdvanceClock_t {α : Type} (k_ : SClock → α) (k : SClock) (ticks : Int) : α :=
  let z0 : Int := w64 (k.Fraction + (w64 (k.Rate * ticks)))
  let z1 : SClock := gain k (w64 (Int.tdiv z0 1048576))
  let z2 : SClock := (⟨z1.Time, Int.tmod z0 1048576, z1.Rate, z1.Debt⟩ : SClock)
  bif bif !(ClockOk k) then true else !(between ticks 0 1000000) then k_ k
  else bif !(ClockOk z2) then k_ k
  else k_ z2
theorem spec_AdvanceClock_c {α : Type} (k_ : SClock → α) (k : SClock) (ticks : Int) (h_k : WtL SClock.ct k.enc) (h_ticks : WtC (.int .i64) (.int ticks)) : spec_AdvanceClock_t k_ k ticks = k_ (AdvanceClock k ticks) := by
  exact cond_k rfl (cond_k rfl rfl)

def impl_StepClock_t {α : Type} (k_ : SClock → α) (k : SClock) (offset : Int) : α :=
  let z0 : SClock := (⟨k.Time, k.Fraction, k.Rate, w64 (k.Debt - offset)⟩ : SClock)
  bif bif !(ClockOk k) then true else !(between offset (-1099511627776) 1099511627776) then k_ k
  else bif decide (0 ≤ offset) then
    bif !(ClockOk (gain k offset)) then k_ k
    else k_ (gain k offset)
  else bif !(ClockOk z0) then k_ k
  else k_ z0
def StepClock (k : SClock) (offset : Int) : SClock := impl_StepClock_t id k offset
theorem impl_StepClock_c {α : Type} (k_ : SClock → α) (k : SClock) (offset : Int) : impl_StepClock_t k_ k offset = k_ (StepClock k offset) := by
  exact cond_k rfl (cond_k (cond_k rfl rfl) (cond_k rfl rfl))

def spec_StepClock_t {α : Type} (k_ : SClock → α) (k : SClock) (offset : Int) : α :=
  let z0 : SClock := (⟨k.Time, k.Fraction, k.Rate, w64 (k.Debt - offset)⟩ : SClock)
  bif bif !(ClockOk k) then true else !(between offset (-1099511627776) 1099511627776) then k_ k
  else bif decide (offset < 0) then
    bif !(ClockOk z0) then k_ k
    else k_ z0
  else bif !(ClockOk (gain k offset)) then k_ k
  else k_ (gain k offset)
theorem spec_StepClock_c {α : Type} (k_ : SClock → α) (k : SClock) (offset : Int) (h_k : WtL SClock.ct k.enc) (h_offset : WtC (.int .i64) (.int offset)) : spec_StepClock_t k_ k offset = k_ (StepClock k offset) := by
  unfold spec_StepClock_t StepClock impl_StepClock_t
  by_cases h : offset < 0
  · have h2 : ¬ 0 ≤ offset := by omega
    simp only [h, h2, decide_true, decide_false, cond_true, cond_false]
    exact cond_k rfl (cond_k rfl rfl)
  · have h2 : 0 ≤ offset := by omega
    simp only [h, h2, decide_true, decide_false, cond_true, cond_false]
    exact cond_k rfl (cond_k rfl rfl)

def laws_FnExactTrimClock_t {α : Type} (k_ : Bool → α) (aK : SClock) (aParts : Int) : α :=
  bif !(eqClock (TrimClock (toClock aK) aParts) (TrimClock (toClock aK) aParts)) then k_ false
  else k_ true
theorem laws_FnExactTrimClock_c {α : Type} (k_ : Bool → α) (aK : SClock) (aParts : Int) (h_aK : WtL SClock.ct aK.enc) (h_aParts : WtC (.int .i64) (.int aParts)) (hok : fitL (SClock.ct ++ ((.int .i64) :: ([]))) (aK.enc ++ (.int aParts :: ([]))) = true) : laws_FnExactTrimClock_t k_ aK aParts = k_ true := by
  have e : eqClock (TrimClock aK aParts) (TrimClock aK aParts) = true := by simp [eqClock, laws_eqClock_t]
  unfold laws_FnExactTrimClock_t
  show (bif !(eqClock (TrimClock aK aParts) (TrimClock aK aParts)) then k_ false else k_ true) = k_ true
  rw [e]
  rfl

def laws_FnExactAdvanceClock_t {α : Type} (k_ : Bool → α) (aK : SClock) (aTicks : Int) : α :=
  bif !(eqClock (AdvanceClock (toClock aK) aTicks) (AdvanceClock (toClock aK) aTicks)) then k_ false
  else k_ true
theorem laws_FnExactAdvanceClock_c {α : Type} (k_ : Bool → α) (aK : SClock) (aTicks : Int) (h_aK : WtL SClock.ct aK.enc) (h_aTicks : WtC (.int .i64) (.int aTicks)) (hok : fitL (SClock.ct ++ ((.int .i64) :: ([]))) (aK.enc ++ (.int aTicks :: ([]))) = true) : laws_FnExactAdvanceClock_t k_ aK aTicks = k_ true := by
  have e : eqClock (AdvanceClock aK aTicks) (AdvanceClock aK aTicks) = true := by simp [eqClock, laws_eqClock_t]
  unfold laws_FnExactAdvanceClock_t
  show (bif !(eqClock (AdvanceClock aK aTicks) (AdvanceClock aK aTicks)) then k_ false else k_ true) = k_ true
  rw [e]
  rfl

def laws_FnExactStepClock_t {α : Type} (k_ : Bool → α) (aK : SClock) (aOffset : Int) : α :=
  bif !(eqClock (StepClock (toClock aK) aOffset) (StepClock (toClock aK) aOffset)) then k_ false
  else k_ true
theorem laws_FnExactStepClock_c {α : Type} (k_ : Bool → α) (aK : SClock) (aOffset : Int) (h_aK : WtL SClock.ct aK.enc) (h_aOffset : WtC (.int .i64) (.int aOffset)) (hok : fitL (SClock.ct ++ ((.int .i64) :: ([]))) (aK.enc ++ (.int aOffset :: ([]))) = true) : laws_FnExactStepClock_t k_ aK aOffset = k_ true := by
  have e : eqClock (StepClock aK aOffset) (StepClock aK aOffset) = true := by simp [eqClock, laws_eqClock_t]
  unfold laws_FnExactStepClock_t
  show (bif !(eqClock (StepClock aK aOffset) (StepClock aK aOffset)) then k_ false else k_ true) = k_ true
  rw [e]
  rfl

def spec_l34Times_l0 {α : Type} (bad : α) (k_ : Bool → α) (list_1 : Rows) (ih0 : Int → α) (k : Int) : α :=
  bif decide (k < len list_1) then
    bif andt true (idx k list_1) then
      bif !(between (rI (nth list_1 (Int.toNat k)) 0) 0 1125899906842624) then k_ false
      else ih0 (w64 (k + 1))
    else bad
  else k_ true
def spec_l34Times_L0 {α : Type} (bad : α) (k_ : Bool → α) (N : Nat) (list_1 : Rows) (n : Nat) : Int → α :=
  Nat.rec (motive := fun _ => Int → α) (fun _ => bad) (fun _ ih0 => spec_l34Times_l0 bad k_ list_1 ih0) n
theorem spec_l34Times_L0_z {α : Type} (bad : α) (k_ : Bool → α) (N : Nat) (list_1 : Rows) (k : Int) : spec_l34Times_L0 bad k_ N list_1 0 k = bad := rfl
theorem spec_l34Times_L0_s {α : Type} (bad : α) (k_ : Bool → α) (N : Nat) (list_1 : Rows) (n : Nat) (k : Int) : spec_l34Times_L0 bad k_ N list_1 (n + 1) k = spec_l34Times_l0 bad k_ list_1 (spec_l34Times_L0 bad k_ N list_1 n) k := rfl
def spec_l34Times_t {α : Type} (bad : α) (k_ : Bool → α) (l0 : Rows → Int → α) (list_ : Rows) : α :=
  l0 list_ 0
def spec_l34Times_f {α : Type} (bad : α) (k_ : Bool → α) (N : Nat) (list_ : Rows) : α := spec_l34Times_t bad k_ (fun list_1 => spec_l34Times_L0 bad k_ N list_1 N) list_
def l34Times (list_ : Rows) : Bool := list_.all fun r => between (rI r 0) 0 1125899906842624
theorem spec_l34Times_c {α : Type} (bad : α) (k_ : Bool → α) (list_ : Rows) (h_list_ : WtC (.sl [.int .i64]) (.sl list_)) : ∃ N, spec_l34Times_f bad k_ N list_ = k_ (l34Times list_) := by
  obtain ⟨hl, _⟩ := wt_sl h_list_
  refine ⟨list_.length + 1, ?_⟩
  refine (loop_rows0 list_ (spec_l34Times_L0 bad k_ (list_.length + 1) list_) (fun _ r c => bif !(between (rI r 0) 0 1125899906842624) then k_ false else c) (k_ true) ?_ ?_).trans (go_all _ k_ list_ 0)
  · intro n i h
    rw [spec_l34Times_L0_s]
    simp only [spec_l34Times_l0, lt_len h, idx_nat h, w64_succ h hl, Int.toNat_natCast, andt_true_l, cond_true]
  · intro n
    rw [spec_l34Times_L0_s]
    simp only [spec_l34Times_l0, not_lt_len, cond_false]

def impl_areTimes_t {α : Type} (k_ : Bool → α) (t1 : Int) (t2 : Int) (t3 : Int) (t4 : Int) : α :=
  k_ (bif between t1 0 1125899906842624 then bif between t2 0 1125899906842624 then bif between t3 0 1125899906842624 then between t4 0 1125899906842624 else false else false else false)
def areTimes (t1 : Int) (t2 : Int) (t3 : Int) (t4 : Int) : Bool := impl_areTimes_t id t1 t2 t3 t4
theorem impl_areTimes_c {α : Type} (k_ : Bool → α) (t1 : Int) (t2 : Int) (t3 : Int) (t4 : Int) : impl_areTimes_t k_ t1 t2 t3 t4 = k_ (areTimes t1 t2 t3 t4) := by
  rfl

def impl_OffsetOf_t {α : Type} (k_ : Int → α) (t1 : Int) (t2 : Int) (t3 : Int) (t4 : Int) : α :=
  bif !(areTimes t1 t2 t3 t4) then k_ 0
  else k_ (w64 (Int.tdiv (w64 ((w64 ((w64 (t2 - t1)) - t4)) + t3)) 2))
def OffsetOf (t1 : Int) (t2 : Int) (t3 : Int) (t4 : Int) : Int := impl_OffsetOf_t id t1 t2 t3 t4
theorem impl_OffsetOf_c {α : Type} (k_ : Int → α) (t1 : Int) (t2 : Int) (t3 : Int) (t4 : Int) : impl_OffsetOf_t k_ t1 t2 t3 t4 = k_ (OffsetOf t1 t2 t3 t4) := by
  exact cond_k rfl rfl

def spec_OffsetOf_t {α : Type} (k_ : Int → α) (t1 : Int) (t2 : Int) (t3 : Int) (t4 : Int) : α :=
  bif !(l34Times ([[.int t1], [.int t2], [.int t3], [.int t4]])) then k_ 0
  else k_ (w64 (Int.tdiv (w64 ((w64 ((w64 (t2 - t1)) - t4)) + t3)) 2))
theorem spec_OffsetOf_c {α : Type} (k_ : Int → α) (t1 : Int) (t2 : Int) (t3 : Int) (t4 : Int) (h_t1 : WtC (.int .i64) (.int t1)) (h_t2 : WtC (.int .i64) (.int t2)) (h_t3 : WtC (.int .i64) (.int t3)) (h_t4 : WtC (.int .i64) (.int t4)) : spec_OffsetOf_t k_ t1 t2 t3 t4 = k_ (OffsetOf t1 t2 t3 t4) := by
  unfold spec_OffsetOf_t OffsetOf impl_OffsetOf_t
  have e : l34Times [[.int t1], [.int t2], [.int t3], [.int t4]] = areTimes t1 t2 t3 t4 := by
    simp only [l34Times, areTimes, impl_areTimes_t, List.all_cons, List.all_nil, rI, List.getD_cons_zero, DC.asInt, Bool.and_true, id]
    cases between t1 0 1125899906842624 <;> cases between t2 0 1125899906842624 <;> cases between t3 0 1125899906842624 <;> rfl
  rw [e]
  exact cond_k rfl rfl

def laws_FnExactOffsetOf_t {α : Type} (k_ : Bool → α) (aT1 : Int) (aT2 : Int) (aT3 : Int) (aT4 : Int) : α :=
  bif (OffsetOf aT1 aT2 aT3 aT4) != (OffsetOf aT1 aT2 aT3 aT4) then k_ false
  else k_ true
theorem laws_FnExactOffsetOf_c {α : Type} (k_ : Bool → α) (aT1 : Int) (aT2 : Int) (aT3 : Int) (aT4 : Int) (h_aT1 : WtC (.int .i64) (.int aT1)) (h_aT2 : WtC (.int .i64) (.int aT2)) (h_aT3 : WtC (.int .i64) (.int aT3)) (h_aT4 : WtC (.int .i64) (.int aT4)) (hok : fitL ((.int .i64) :: ((.int .i64) :: ((.int .i64) :: ((.int .i64) :: ([]))))) (.int aT1 :: (.int aT2 :: (.int aT3 :: (.int aT4 :: ([]))))) = true) : laws_FnExactOffsetOf_t k_ aT1 aT2 aT3 aT4 = k_ true := by
  unfold laws_FnExactOffsetOf_t
  simp

def impl_DelayOf_t {α : Type} (k_ : Int → α) (t1 : Int) (t2 : Int) (t3 : Int) (t4 : Int) : α :=
  bif !(areTimes t1 t2 t3 t4) then k_ 0
  else k_ (w64 (Int.tdiv (w64 ((w64 ((w64 (t4 - t1)) - t3)) + t2)) 2))
def DelayOf (t1 : Int) (t2 : Int) (t3 : Int) (t4 : Int) : Int := impl_DelayOf_t id t1 t2 t3 t4
theorem impl_DelayOf_c {α : Type} (k_ : Int → α) (t1 : Int) (t2 : Int) (t3 : Int) (t4 : Int) : impl_DelayOf_t k_ t1 t2 t3 t4 = k_ (DelayOf t1 t2 t3 t4) := by
  exact cond_k rfl rfl

def spec_DelayOf_t {α : Type} (k_ : Int → α) (t1 : Int) (t2 : Int) (t3 : Int) (t4 : Int) : α :=
  bif !(l34Times ([[.int t1], [.int t2], [.int t3], [.int t4]])) then k_ 0
  else k_ (w64 (Int.tdiv (w64 ((w64 ((w64 (t4 - t1)) - t3)) + t2)) 2))
theorem spec_DelayOf_c {α : Type} (k_ : Int → α) (t1 : Int) (t2 : Int) (t3 : Int) (t4 : Int) (h_t1 : WtC (.int .i64) (.int t1)) (h_t2 : WtC (.int .i64) (.int t2)) (h_t3 : WtC (.int .i64) (.int t3)) (h_t4 : WtC (.int .i64) (.int t4)) : spec_DelayOf_t k_ t1 t2 t3 t4 = k_ (DelayOf t1 t2 t3 t4) := by
  unfold spec_DelayOf_t DelayOf impl_DelayOf_t
  have e : l34Times [[.int t1], [.int t2], [.int t3], [.int t4]] = areTimes t1 t2 t3 t4 := by
    simp only [l34Times, areTimes, impl_areTimes_t, List.all_cons, List.all_nil, rI, List.getD_cons_zero, DC.asInt, Bool.and_true, id]
    cases between t1 0 1125899906842624 <;> cases between t2 0 1125899906842624 <;> cases between t3 0 1125899906842624 <;> rfl
  rw [e]
  exact cond_k rfl rfl

def laws_FnExactDelayOf_t {α : Type} (k_ : Bool → α) (aT1 : Int) (aT2 : Int) (aT3 : Int) (aT4 : Int) : α :=
  bif (DelayOf aT1 aT2 aT3 aT4) != (DelayOf aT1 aT2 aT3 aT4) then k_ false
  else k_ true
theorem laws_FnExactDelayOf_c {α : Type} (k_ : Bool → α) (aT1 : Int) (aT2 : Int) (aT3 : Int) (aT4 : Int) (h_aT1 : WtC (.int .i64) (.int aT1)) (h_aT2 : WtC (.int .i64) (.int aT2)) (h_aT3 : WtC (.int .i64) (.int aT3)) (h_aT4 : WtC (.int .i64) (.int aT4)) (hok : fitL ((.int .i64) :: ((.int .i64) :: ((.int .i64) :: ((.int .i64) :: ([]))))) (.int aT1 :: (.int aT2 :: (.int aT3 :: (.int aT4 :: ([]))))) = true) : laws_FnExactDelayOf_t k_ aT1 aT2 aT3 aT4 = k_ true := by
  unfold laws_FnExactDelayOf_t
  simp

end Go.Proofs.Ytpkkffngnchieaa.Pl
