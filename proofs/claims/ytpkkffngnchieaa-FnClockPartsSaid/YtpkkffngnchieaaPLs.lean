/- What functions of the program compute, in plain Lean, as the value machine runs them. Conditions: none. -/
import Derived.Test.YtpkkffngnchieaaPre
import Derived.Test.YtpkkffngnchieaaLem
set_option linter.unusedVariables false
set_option linter.unusedSimpArgs false
namespace Go.Proofs.Ytpkkffngnchieaa.Pl
open Vm
noncomputable section

structure SClock where
  Time : Int
  Fraction : Int
  Rate : Int
  Debt : Int
def SClock.enc (x : SClock) : List DC := [.int x.Time, .int x.Fraction, .int x.Rate, .int x.Debt]
def SClock.decAt (r : List DC) (o : Nat) : SClock := ⟨rI r (o + 0), rI r (o + 1), rI r (o + 2), rI r (o + 3)⟩
def SClock.ct : List CT := [.int .i64, .int .i64, .int .i64, .int .i64]
theorem SClock.of_wt {r : List CT} {ds : List DC} (h : WtL (SClock.ct ++ r) ds) : ∃ (x : SClock) (ds' : List DC), ds = x.enc ++ ds' ∧ WtL SClock.ct x.enc ∧ WtL r ds' := by
  simp only [SClock.ct, List.cons_append, List.nil_append, WtL, WtC] at h
  obtain ⟨_, _, rfl, ⟨a0, rfl, p0⟩, _, _, rfl, ⟨a1, rfl, p1⟩, _, _, rfl, ⟨a2, rfl, p2⟩, _, _, rfl, ⟨a3, rfl, p3⟩, h⟩ := h
  exact ⟨⟨a0, a1, a2, a3⟩, _, rfl, by simp only [SClock.ct, SClock.enc, WtL, WtC]; exact ⟨_, _, rfl, ⟨_, rfl, p0⟩, _, _, rfl, ⟨_, rfl, p1⟩, _, _, rfl, ⟨_, rfl, p2⟩, _, _, rfl, ⟨_, rfl, p3⟩, rfl⟩, h⟩
theorem SClock.wt_Time {x : SClock} (h : WtL SClock.ct x.enc) : WtC (.int .i64) (.int x.Time) := by
  obtain ⟨w0, h⟩ := wtl_uncons h
  obtain ⟨w1, h⟩ := wtl_uncons h
  obtain ⟨w2, h⟩ := wtl_uncons h
  obtain ⟨w3, h⟩ := wtl_uncons h
  exact w0
theorem SClock.wt_Fraction {x : SClock} (h : WtL SClock.ct x.enc) : WtC (.int .i64) (.int x.Fraction) := by
  obtain ⟨w0, h⟩ := wtl_uncons h
  obtain ⟨w1, h⟩ := wtl_uncons h
  obtain ⟨w2, h⟩ := wtl_uncons h
  obtain ⟨w3, h⟩ := wtl_uncons h
  exact w1
theorem SClock.wt_Rate {x : SClock} (h : WtL SClock.ct x.enc) : WtC (.int .i64) (.int x.Rate) := by
  obtain ⟨w0, h⟩ := wtl_uncons h
  obtain ⟨w1, h⟩ := wtl_uncons h
  obtain ⟨w2, h⟩ := wtl_uncons h
  obtain ⟨w3, h⟩ := wtl_uncons h
  exact w2
theorem SClock.wt_Debt {x : SClock} (h : WtL SClock.ct x.enc) : WtC (.int .i64) (.int x.Debt) := by
  obtain ⟨w0, h⟩ := wtl_uncons h
  obtain ⟨w1, h⟩ := wtl_uncons h
  obtain ⟨w2, h⟩ := wtl_uncons h
  obtain ⟨w3, h⟩ := wtl_uncons h
  exact w3
theorem SClock.eta {r : List DC} (h : WtL SClock.ct r) : (SClock.decAt r 0).enc = r := by
  have h : WtL (SClock.ct ++ []) r := by simpa using h
  obtain ⟨x, ds, rfl, _, hn⟩ := SClock.of_wt h
  obtain rfl := of_wt_nil hn
  rfl

def laws_toClock_t {α : Type} (k_ : SClock → α) (a : SClock) : α :=
  k_ a
theorem laws_toClock_c {α : Type} (k_ : SClock → α) (a : SClock) (h_a : WtL SClock.ct a.enc) : laws_toClock_t k_ a = k_ (idf a) := by
  rfl

def laws_eqClock_t {α : Type} (k_ : Bool → α) (a : SClock) (b : SClock) : α :=
  bif a.Time != b.Time then k_ false
  else bif a.Fraction != b.Fraction then k_ false
  else bif a.Rate != b.Rate then k_ false
  else bif a.Debt != b.Debt then k_ false
  else k_ true
theorem laws_eqClock_c {α : Type} (k_ : Bool → α) (a : SClock) (b : SClock) (h_a : WtL SClock.ct a.enc) (h_b : WtL SClock.ct b.enc) (hok : same a b = true) : laws_eqClock_t k_ a b = k_ (yes2 a b) := by
  obtain rfl := same_eq hok
  simp only [laws_eqClock_t, same_refl, yes2, bne_self_eq_false, beq_self_eq_true, Bool.not_true, cond_false, cond_true, andt_true_l, andt_true_r]



end
end Go.Proofs.Ytpkkffngnchieaa.Pl
