/- What functions of the program compute, in plain Lean, as the value machine runs them. Conditions: none. -/
import Derived.Test.YtdlelfondkajbaaGreatPFb
set_option linter.unusedVariables false
set_option linter.unusedSimpArgs false
set_option maxRecDepth 100000
namespace Go.Proofs.YtdlelfondkajbaaGreat.Pl
open Vm
noncomputable section


def impl_SpreadOk_l0 {α : Type} (bad : α) (k_ : Bool → α) (queues : Int) (x : Rows) (x_1 : Int) (ih0 : Int → α) (x_2 : Int) : α :=
  bif decide (x_2 < x_1) then
    bif andt true (idx x_2 x) then
      bif !(between (rI (nth x (Int.toNat x_2)) 0) 0 (w64 (queues - 1))) then k_ false
      else ih0 (w64 (x_2 + 1))
    else bad
  else k_ true
def impl_SpreadOk_L0 {α : Type} (bad : α) (k_ : Bool → α) (N : Nat) (queues : Int) (x : Rows) (x_1 : Int) (m_ : Nat) : Int → α :=
  Nat.rec (motive := fun _ => Int → α) (fun _ => bad) (fun _ ih0 => impl_SpreadOk_l0 bad k_ queues x x_1 ih0) m_
theorem impl_SpreadOk_L0_z {α : Type} (bad : α) (k_ : Bool → α) (N : Nat) (queues : Int) (x : Rows) (x_1 : Int) (x_2 : Int) : impl_SpreadOk_L0 bad k_ N queues x x_1 0 x_2 = bad := rfl
theorem impl_SpreadOk_L0_s {α : Type} (bad : α) (k_ : Bool → α) (N : Nat) (queues : Int) (x : Rows) (x_1 : Int) (m_ : Nat) (x_2 : Int) : impl_SpreadOk_L0 bad k_ N queues x x_1 (m_ + 1) x_2 = impl_SpreadOk_l0 bad k_ queues x x_1 (impl_SpreadOk_L0 bad k_ N queues x x_1 m_) x_2 := rfl
def impl_SpreadOk_t {α : Type} (bad : α) (k_ : Bool → α) (l0 : Rows → Int → Int → α) (s : SSpread) (queues : Int) : α :=
  bif bif !(between queues 1 4) then true else bif (len s.Key) != 16 then true else !(tableSize (len s.Table)) then k_ false
  else l0 s.Table (len s.Table) 0
def impl_SpreadOk_f {α : Type} (bad : α) (k_ : Bool → α) (N : Nat) (s : SSpread) (queues : Int) : α := impl_SpreadOk_t bad k_ (fun x x_1 => impl_SpreadOk_L0 bad k_ N queues x x_1 N) s queues
def SpreadOk (s : SSpread) (queues : Int) : Bool := bif bif !(between queues 1 4) then true else bif (len s.Key) != 16 then true else !(tableSize (len s.Table)) then false
  else s.Table.all (fun r => between (rI r 0) 0 (w64 (queues - 1)))
theorem impl_SpreadOk_c {α : Type} (bad : α) (k_ : Bool → α) (s : SSpread) (queues : Int) (h_s : WtL SSpread.ct s.enc) (h_queues : WtC (.int .i64) (.int queues)) : ∃ N, impl_SpreadOk_f bad k_ N s queues = k_ (SpreadOk s queues) := by
  obtain ⟨hl, _⟩ := wt_sl (SSpread.wt_Table h_s)
  refine ⟨s.Table.length + 1, ?_⟩
  unfold impl_SpreadOk_f impl_SpreadOk_t SpreadOk
  refine cond_c (fun _ => rfl) (fun _ => ?_)
  have key : impl_SpreadOk_L0 bad k_ (s.Table.length + 1) queues s.Table (len s.Table) (s.Table.length + 1) 0 = bif s.Table.all (fun r => between (rI r 0) 0 (w64 (queues - 1))) then k_ true else k_ false := by
    refine (loop_rows0 s.Table (impl_SpreadOk_L0 bad k_ (s.Table.length + 1) queues s.Table (len s.Table)) (fun i r c => bif !(between (rI r 0) 0 (w64 (queues - 1))) then k_ false else c) (k_ true) ?_ ?_).trans (go_all' (fun r => between (rI r 0) 0 (w64 (queues - 1))) (k_ false) (k_ true) s.Table 0)
    · intro n i h
      rw [impl_SpreadOk_L0_s]
      simp only [impl_SpreadOk_l0, lt_len h, idx_nat h, w64_succ h hl, Int.toNat_natCast, andt_true_l, andt_true_r, cond_true]
    · intro n
      rw [impl_SpreadOk_L0_s]
      simp only [impl_SpreadOk_l0, not_lt_len, cond_false]
  refine key.trans ?_
  cases s.Table.all (fun r => between (rI r 0) 0 (w64 (queues - 1))) <;> rfl

def spec_SpreadOk_l0 {α : Type} (bad : α) (k_ : Bool → α) (queues : Int) (s_2 : Rows) (ih0 : Int → α) (k : Int) : α :=
  bif decide (k < len s_2) then
    bif andt true (idx k s_2) then
      bif !(between (rI (nth s_2 (Int.toNat k)) 0) 0 (w64 (queues - 1))) then k_ false
      else ih0 (w64 (k + 1))
    else bad
  else k_ true
def spec_SpreadOk_L0 {α : Type} (bad : α) (k_ : Bool → α) (N : Nat) (queues : Int) (s_2 : Rows) (m_ : Nat) : Int → α :=
  Nat.rec (motive := fun _ => Int → α) (fun _ => bad) (fun _ ih0 => spec_SpreadOk_l0 bad k_ queues s_2 ih0) m_
theorem spec_SpreadOk_L0_z {α : Type} (bad : α) (k_ : Bool → α) (N : Nat) (queues : Int) (s_2 : Rows) (k : Int) : spec_SpreadOk_L0 bad k_ N queues s_2 0 k = bad := rfl
theorem spec_SpreadOk_L0_s {α : Type} (bad : α) (k_ : Bool → α) (N : Nat) (queues : Int) (s_2 : Rows) (m_ : Nat) (k : Int) : spec_SpreadOk_L0 bad k_ N queues s_2 (m_ + 1) k = spec_SpreadOk_l0 bad k_ queues s_2 (spec_SpreadOk_L0 bad k_ N queues s_2 m_) k := rfl
def spec_SpreadOk_t {α : Type} (bad : α) (k_ : Bool → α) (l0 : Rows → Int → α) (s : SSpread) (queues : Int) : α :=
  bif bif !(between queues 1 4) then true else bif (len s.Key) != 16 then true else !(tableSize (len s.Table)) then k_ false
  else l0 s.Table 0
def spec_SpreadOk_f {α : Type} (bad : α) (k_ : Bool → α) (N : Nat) (s : SSpread) (queues : Int) : α := spec_SpreadOk_t bad k_ (fun s_2 => spec_SpreadOk_L0 bad k_ N queues s_2 N) s queues
theorem spec_SpreadOk_c {α : Type} (bad : α) (k_ : Bool → α) (s : SSpread) (queues : Int) (h_s : WtL SSpread.ct s.enc) (h_queues : WtC (.int .i64) (.int queues)) : ∃ N, spec_SpreadOk_f bad k_ N s queues = k_ (SpreadOk s queues) := by
  obtain ⟨hl, _⟩ := wt_sl (SSpread.wt_Table h_s)
  refine ⟨s.Table.length + 1, ?_⟩
  unfold spec_SpreadOk_f spec_SpreadOk_t SpreadOk
  refine cond_c (fun _ => rfl) (fun _ => ?_)
  have key : spec_SpreadOk_L0 bad k_ (s.Table.length + 1) queues s.Table (s.Table.length + 1) 0 = bif s.Table.all (fun r => between (rI r 0) 0 (w64 (queues - 1))) then k_ true else k_ false := by
    refine (loop_rows0 s.Table (spec_SpreadOk_L0 bad k_ (s.Table.length + 1) queues s.Table) (fun i r c => bif !(between (rI r 0) 0 (w64 (queues - 1))) then k_ false else c) (k_ true) ?_ ?_).trans (go_all' (fun r => between (rI r 0) 0 (w64 (queues - 1))) (k_ false) (k_ true) s.Table 0)
    · intro n i h
      rw [spec_SpreadOk_L0_s]
      simp only [spec_SpreadOk_l0, lt_len h, idx_nat h, w64_succ h hl, Int.toNat_natCast, andt_true_l, andt_true_r, cond_true]
    · intro n
      rw [spec_SpreadOk_L0_s]
      simp only [spec_SpreadOk_l0, not_lt_len, cond_false]
  refine key.trans ?_
  cases s.Table.all (fun r => between (rI r 0) 0 (w64 (queues - 1))) <;> rfl

def impl_SteeringOk_l0 {α : Type} (bad : α) (k_ : Bool → α) (l1 : Int → Int → α) (queues : Int) (x : Rows) (x_1 : Int) (s_2 : Rows) (ih0 : Int → α) (x_2 : Int) : α :=
  bif decide (x_2 < x_1) then
    bif andt true (idx x_2 x) then
      bif bif (rI (nth x (Int.toNat x_2)) 7) == 0 then decide (queues ≤ rI (nth x (Int.toNat x_2)) 8) else false then k_ false
      else ih0 (w64 (x_2 + 1))
    else bad
  else l1 (len s_2) 0
def impl_SteeringOk_l1 {α : Type} (bad : α) (k_ : Bool → α) (queues : Int) (s_2 : Rows) (x_4 : Int) (ih1 : Int → α) (x_5 : Int) : α :=
  bif decide (x_5 < x_4) then
    bif andt true (idx x_5 s_2) then
      bif bif (rI (nth s_2 (Int.toNat x_5)) 0) == 1 then decide (queues ≤ rI (nth s_2 (Int.toNat x_5)) 6) else false then k_ false
      else ih1 (w64 (x_5 + 1))
    else bad
  else k_ true
def impl_SteeringOk_L1 {α : Type} (bad : α) (k_ : Bool → α) (N : Nat) (queues : Int) (s_2 : Rows) (x_4 : Int) (m_ : Nat) : Int → α :=
  Nat.rec (motive := fun _ => Int → α) (fun _ => bad) (fun _ ih1 => impl_SteeringOk_l1 bad k_ queues s_2 x_4 ih1) m_
theorem impl_SteeringOk_L1_z {α : Type} (bad : α) (k_ : Bool → α) (N : Nat) (queues : Int) (s_2 : Rows) (x_4 : Int) (x_5 : Int) : impl_SteeringOk_L1 bad k_ N queues s_2 x_4 0 x_5 = bad := rfl
theorem impl_SteeringOk_L1_s {α : Type} (bad : α) (k_ : Bool → α) (N : Nat) (queues : Int) (s_2 : Rows) (x_4 : Int) (m_ : Nat) (x_5 : Int) : impl_SteeringOk_L1 bad k_ N queues s_2 x_4 (m_ + 1) x_5 = impl_SteeringOk_l1 bad k_ queues s_2 x_4 (impl_SteeringOk_L1 bad k_ N queues s_2 x_4 m_) x_5 := rfl
def impl_SteeringOk_L0 {α : Type} (bad : α) (k_ : Bool → α) (N : Nat) (queues : Int) (x : Rows) (x_1 : Int) (s_2 : Rows) (m_ : Nat) : Int → α :=
  Nat.rec (motive := fun _ => Int → α) (fun _ => bad) (fun _ ih0 => impl_SteeringOk_l0 bad k_ (fun x_4 => impl_SteeringOk_L1 bad k_ N queues s_2 x_4 N) queues x x_1 s_2 ih0) m_
theorem impl_SteeringOk_L0_z {α : Type} (bad : α) (k_ : Bool → α) (N : Nat) (queues : Int) (x : Rows) (x_1 : Int) (s_2 : Rows) (x_2 : Int) : impl_SteeringOk_L0 bad k_ N queues x x_1 s_2 0 x_2 = bad := rfl
theorem impl_SteeringOk_L0_s {α : Type} (bad : α) (k_ : Bool → α) (N : Nat) (queues : Int) (x : Rows) (x_1 : Int) (s_2 : Rows) (m_ : Nat) (x_2 : Int) : impl_SteeringOk_L0 bad k_ N queues x x_1 s_2 (m_ + 1) x_2 = impl_SteeringOk_l0 bad k_ (fun x_4 => impl_SteeringOk_L1 bad k_ N queues s_2 x_4 N) queues x x_1 s_2 (impl_SteeringOk_L0 bad k_ N queues x x_1 s_2 m_) x_2 := rfl
def impl_SteeringOk_t {α : Type} (bad : α) (k_ : Bool → α) (l0 : Rows → Int → Rows → Int → α) (s : SSteering) (queues : Int) : α :=
  bif bif !(RulesOk s.Rules) then true else bif !(TableOk s.Table) then true else !(SpreadOk s.Spread queues) then k_ false
  else l0 s.Rules (len s.Rules) s.Table.Slots 0
def impl_SteeringOk_f {α : Type} (bad : α) (k_ : Bool → α) (N : Nat) (s : SSteering) (queues : Int) : α := impl_SteeringOk_t bad k_ (fun x x_1 s_2 => impl_SteeringOk_L0 bad k_ N queues x x_1 s_2 N) s queues
def SteeringOk (s : SSteering) (queues : Int) : Bool := bif bif !(RulesOk s.Rules) then true else bif !(TableOk s.Table) then true else !(SpreadOk s.Spread queues) then false
  else bif s.Rules.all (fun r => !(decide (queues ≤ rI r 8))) then s.Table.Slots.all (fun r => !(decide (queues ≤ rI r 6))) else false
theorem all_congr' {p q : List DC → Bool} : ∀ {l : Rows}, (∀ r ∈ l, p r = q r) → l.all p = l.all q
  | [], _ => rfl
  | r :: rs, h => by
    simp only [List.all_cons]
    rw [h r (by simp), all_congr' (fun x hx => h x (by simp [hx]))]
theorem RuleOk_drop {r : List DC} (h : RuleOk (SRule.decAt r 0) = true) (h7 : rI r 7 ≠ 0) : rI r 8 = 0 := by
  unfold RuleOk impl_RuleOk_t at h
  simp only [id] at h
  have e7 : ((SRule.decAt r 0).Action == 0) = false := by
    show (rI r 7 == 0) = false
    simpa using h7
  rw [e7] at h
  simp only [cond_false] at h
  by_cases h1 : rI r 8 = 0
  · exact h1
  · have e8 : ((SRule.decAt r 0).Queue == 0) = false := by
      show (rI r 8 == 0) = false
      simpa using h1
    rw [e8] at h
    revert h
    cases (SRule.decAt r 0).Action == 1 <;> simp
theorem TableOk_rest {t : SFlowTable} (h : TableOk t = true) {r : List DC} (hr : r ∈ t.Slots) (h0 : rI r 0 ≠ 1) : rI r 6 = 0 := by
  unfold TableOk at h
  cases h1 : (len t.Slots) != 8
  · rw [h1, cond_false] at h
    cases h2 : anyIdx (rowI t.Slots) t.Slots 0
    · obtain ⟨i, hi, rfl⟩ := List.getElem_of_mem hr
      have := anyIdx_no' h2 i hi
      rw [Nat.zero_add] at this
      have hn : nth t.Slots i = t.Slots[i] := by simp [nth, List.getD_eq_getElem?_getD, hi]
      rw [hn] at this
      unfold rowI at this
      have e1 : ((rI t.Slots[i] 0) != 1) = true := by simpa using h0
      rw [e1] at this
      by_cases h6 : rI t.Slots[i] 6 = 0
      · exact h6
      · have e6 : ((rI t.Slots[i] 6) != 0) = true := by simpa using h6
        rw [e6] at this
        revert this
        cases stBad t.Slots[i] <;> cases zFlow t.Slots[i] <;> simp
    · rw [h2] at h; cases h
  · rw [h1] at h; cases h
theorem SteeringOk_parts {s : SSteering} {queues : Int} (hg : (bif !(RulesOk s.Rules) then true else bif !(TableOk s.Table) then true else !(SpreadOk s.Spread queues)) = false) :
    (∀ r ∈ s.Rules, RuleOk (SRule.decAt r 0) = true) ∧ TableOk s.Table = true ∧ 1 ≤ queues := by
  cases h1 : RulesOk s.Rules
  · rw [h1] at hg; cases hg
  cases h2 : TableOk s.Table
  · rw [h1, h2] at hg; cases hg
  cases h3 : SpreadOk s.Spread queues
  · rw [h1, h2, h3] at hg; cases hg
  refine ⟨?_, rfl, ?_⟩
  · unfold RulesOk at h1
    cases h4 : s.Rules.all (fun r => RuleOk (SRule.decAt r 0))
    · rw [h4] at h1; cases h1
    · exact fun r hr => by simpa using List.all_eq_true.1 h4 r hr
  · unfold SpreadOk at h3
    cases h4 : between queues 1 4
    · rw [h4] at h3; cases h3
    · exact (between_iff.1 h4).1
theorem impl_SteeringOk_c {α : Type} (bad : α) (k_ : Bool → α) (s : SSteering) (queues : Int) (h_s : WtL SSteering.ct s.enc) (h_queues : WtC (.int .i64) (.int queues)) : ∃ N, impl_SteeringOk_f bad k_ N s queues = k_ (SteeringOk s queues) := by
  obtain ⟨hl, _⟩ := wt_sl (SSteering.wt_Rules h_s)
  obtain ⟨hl2, _⟩ := wt_sl (SFlowTable.wt_Slots (SSteering.wt_Table h_s))
  refine ⟨s.Rules.length + s.Table.Slots.length + 1, ?_⟩
  unfold impl_SteeringOk_f impl_SteeringOk_t SteeringOk
  refine cond_c (fun _ => rfl) (fun hg => ?_)
  have key1 : impl_SteeringOk_L1 bad k_ (s.Rules.length + s.Table.Slots.length + 1) queues s.Table.Slots (len s.Table.Slots) (s.Rules.length + s.Table.Slots.length + 1) 0 = bif s.Table.Slots.all (fun r => !(bif (rI r 0) == 1 then decide (queues ≤ rI r 6) else false)) then k_ true else k_ false := by
    refine (loop_rowsN s.Table.Slots (impl_SteeringOk_L1 bad k_ (s.Rules.length + s.Table.Slots.length + 1) queues s.Table.Slots (len s.Table.Slots)) (fun i r c => bif !(!(bif (rI r 0) == 1 then decide (queues ≤ rI r 6) else false)) then k_ false else c) (k_ true) ?_ ?_ (s.Rules.length + s.Table.Slots.length + 1) (by omega)).trans (go_all' (fun r => !(bif (rI r 0) == 1 then decide (queues ≤ rI r 6) else false)) (k_ false) (k_ true) s.Table.Slots 0)
    · intro n i h
      rw [impl_SteeringOk_L1_s]
      simp only [impl_SteeringOk_l1, lt_len h, idx_nat h, w64_succ h hl2, Int.toNat_natCast, andt_true_l, andt_true_r, cond_true, Bool.not_not]
    · intro n
      rw [impl_SteeringOk_L1_s]
      simp only [impl_SteeringOk_l1, not_lt_len, cond_false]
  have key : impl_SteeringOk_L0 bad k_ (s.Rules.length + s.Table.Slots.length + 1) queues s.Rules (len s.Rules) s.Table.Slots (s.Rules.length + s.Table.Slots.length + 1) 0 = bif s.Rules.all (fun r => !(bif (rI r 7) == 0 then decide (queues ≤ rI r 8) else false)) then (bif s.Table.Slots.all (fun r => !(bif (rI r 0) == 1 then decide (queues ≤ rI r 6) else false)) then k_ true else k_ false) else k_ false := by
    refine (loop_rowsN s.Rules (impl_SteeringOk_L0 bad k_ (s.Rules.length + s.Table.Slots.length + 1) queues s.Rules (len s.Rules) s.Table.Slots) (fun i r c => bif !(!(bif (rI r 7) == 0 then decide (queues ≤ rI r 8) else false)) then k_ false else c) (bif s.Table.Slots.all (fun r => !(bif (rI r 0) == 1 then decide (queues ≤ rI r 6) else false)) then k_ true else k_ false) ?_ ?_ (s.Rules.length + s.Table.Slots.length + 1) (by omega)).trans (go_all' (fun r => !(bif (rI r 7) == 0 then decide (queues ≤ rI r 8) else false)) (k_ false) _ s.Rules 0)
    · intro n i h
      rw [impl_SteeringOk_L0_s]
      simp only [impl_SteeringOk_l0, lt_len h, idx_nat h, w64_succ h hl, Int.toNat_natCast, andt_true_l, andt_true_r, cond_true, Bool.not_not]
    · intro n
      rw [impl_SteeringOk_L0_s]
      simp only [impl_SteeringOk_l0, not_lt_len, cond_false]
      exact key1
  refine key.trans ?_

  obtain ⟨g1, g2, g3⟩ := SteeringOk_parts hg
  rw [all_congr' (l := s.Rules) (q := fun r => !(decide (queues ≤ rI r 8))) (fun r hr => by
    by_cases h7 : rI r 7 = 0
    · have e : ((rI r 7) == 0) = true := by simpa using h7
      rw [e, cond_true]
    · have e : ((rI r 7) == 0) = false := by simpa using h7
      rw [e, cond_false, RuleOk_drop (g1 r hr) h7, decide_eq_false (by omega)])]
  rw [all_congr' (l := s.Table.Slots) (q := fun r => !(decide (queues ≤ rI r 6))) (fun r hr => by
    by_cases h7 : rI r 0 = 1
    · have e : ((rI r 0) == 1) = true := by simpa using h7
      rw [e, cond_true]
    · have e : ((rI r 0) == 1) = false := by simpa using h7
      rw [e, cond_false, TableOk_rest g2 hr h7, decide_eq_false (by omega)])]
  cases s.Rules.all (fun r => !(decide (queues ≤ rI r 8)))
  · rfl
  · cases s.Table.Slots.all (fun r => !(decide (queues ≤ rI r 6))) <;> rfl

def spec_SteeringOk_l0 {α : Type} (bad : α) (k_ : Bool → α) (l1 : Int → α) (queues : Int) (s_1 : Rows) (s_2 : Rows) (ih0 : Int → α) (k : Int) : α :=
  bif decide (k < len s_1) then
    bif andt true (idx k s_1) then
      bif decide (queues ≤ rI (nth s_1 (Int.toNat k)) 8) then k_ false
      else ih0 (w64 (k + 1))
    else bad
  else l1 0
def spec_SteeringOk_l1 {α : Type} (bad : α) (k_ : Bool → α) (queues : Int) (s_2 : Rows) (ih1 : Int → α) (k_1 : Int) : α :=
  bif decide (k_1 < len s_2) then
    bif andt true (idx k_1 s_2) then
      bif decide (queues ≤ rI (nth s_2 (Int.toNat k_1)) 6) then k_ false
      else ih1 (w64 (k_1 + 1))
    else bad
  else k_ true
def spec_SteeringOk_L1 {α : Type} (bad : α) (k_ : Bool → α) (N : Nat) (queues : Int) (s_2 : Rows) (m_ : Nat) : Int → α :=
  Nat.rec (motive := fun _ => Int → α) (fun _ => bad) (fun _ ih1 => spec_SteeringOk_l1 bad k_ queues s_2 ih1) m_
theorem spec_SteeringOk_L1_z {α : Type} (bad : α) (k_ : Bool → α) (N : Nat) (queues : Int) (s_2 : Rows) (k_1 : Int) : spec_SteeringOk_L1 bad k_ N queues s_2 0 k_1 = bad := rfl
theorem spec_SteeringOk_L1_s {α : Type} (bad : α) (k_ : Bool → α) (N : Nat) (queues : Int) (s_2 : Rows) (m_ : Nat) (k_1 : Int) : spec_SteeringOk_L1 bad k_ N queues s_2 (m_ + 1) k_1 = spec_SteeringOk_l1 bad k_ queues s_2 (spec_SteeringOk_L1 bad k_ N queues s_2 m_) k_1 := rfl
def spec_SteeringOk_L0 {α : Type} (bad : α) (k_ : Bool → α) (N : Nat) (queues : Int) (s_1 : Rows) (s_2 : Rows) (m_ : Nat) : Int → α :=
  Nat.rec (motive := fun _ => Int → α) (fun _ => bad) (fun _ ih0 => spec_SteeringOk_l0 bad k_ (spec_SteeringOk_L1 bad k_ N queues s_2 N) queues s_1 s_2 ih0) m_
theorem spec_SteeringOk_L0_z {α : Type} (bad : α) (k_ : Bool → α) (N : Nat) (queues : Int) (s_1 : Rows) (s_2 : Rows) (k : Int) : spec_SteeringOk_L0 bad k_ N queues s_1 s_2 0 k = bad := rfl
theorem spec_SteeringOk_L0_s {α : Type} (bad : α) (k_ : Bool → α) (N : Nat) (queues : Int) (s_1 : Rows) (s_2 : Rows) (m_ : Nat) (k : Int) : spec_SteeringOk_L0 bad k_ N queues s_1 s_2 (m_ + 1) k = spec_SteeringOk_l0 bad k_ (spec_SteeringOk_L1 bad k_ N queues s_2 N) queues s_1 s_2 (spec_SteeringOk_L0 bad k_ N queues s_1 s_2 m_) k := rfl
def spec_SteeringOk_t {α : Type} (bad : α) (k_ : Bool → α) (l0 : Rows → Rows → Int → α) (s : SSteering) (queues : Int) : α :=
  bif bif !(RulesOk s.Rules) then true else bif !(TableOk s.Table) then true else !(SpreadOk s.Spread queues) then k_ false
  else l0 s.Rules s.Table.Slots 0
def spec_SteeringOk_f {α : Type} (bad : α) (k_ : Bool → α) (N : Nat) (s : SSteering) (queues : Int) : α := spec_SteeringOk_t bad k_ (fun s_1 s_2 => spec_SteeringOk_L0 bad k_ N queues s_1 s_2 N) s queues
theorem spec_SteeringOk_c {α : Type} (bad : α) (k_ : Bool → α) (s : SSteering) (queues : Int) (h_s : WtL SSteering.ct s.enc) (h_queues : WtC (.int .i64) (.int queues)) : ∃ N, spec_SteeringOk_f bad k_ N s queues = k_ (SteeringOk s queues) := by
  obtain ⟨hl, _⟩ := wt_sl (SSteering.wt_Rules h_s)
  obtain ⟨hl2, _⟩ := wt_sl (SFlowTable.wt_Slots (SSteering.wt_Table h_s))
  refine ⟨s.Rules.length + s.Table.Slots.length + 1, ?_⟩
  unfold spec_SteeringOk_f spec_SteeringOk_t SteeringOk
  refine cond_c (fun _ => rfl) (fun hg => ?_)
  have key1 : spec_SteeringOk_L1 bad k_ (s.Rules.length + s.Table.Slots.length + 1) queues s.Table.Slots (s.Rules.length + s.Table.Slots.length + 1) 0 = bif s.Table.Slots.all (fun r => !(decide (queues ≤ rI r 6))) then k_ true else k_ false := by
    refine (loop_rowsN s.Table.Slots (spec_SteeringOk_L1 bad k_ (s.Rules.length + s.Table.Slots.length + 1) queues s.Table.Slots) (fun i r c => bif !(!(decide (queues ≤ rI r 6))) then k_ false else c) (k_ true) ?_ ?_ (s.Rules.length + s.Table.Slots.length + 1) (by omega)).trans (go_all' (fun r => !(decide (queues ≤ rI r 6))) (k_ false) (k_ true) s.Table.Slots 0)
    · intro n i h
      rw [spec_SteeringOk_L1_s]
      simp only [spec_SteeringOk_l1, lt_len h, idx_nat h, w64_succ h hl2, Int.toNat_natCast, andt_true_l, andt_true_r, cond_true, Bool.not_not]
    · intro n
      rw [spec_SteeringOk_L1_s]
      simp only [spec_SteeringOk_l1, not_lt_len, cond_false]
  have key : spec_SteeringOk_L0 bad k_ (s.Rules.length + s.Table.Slots.length + 1) queues s.Rules s.Table.Slots (s.Rules.length + s.Table.Slots.length + 1) 0 = bif s.Rules.all (fun r => !(decide (queues ≤ rI r 8))) then (bif s.Table.Slots.all (fun r => !(decide (queues ≤ rI r 6))) then k_ true else k_ false) else k_ false := by
    refine (loop_rowsN s.Rules (spec_SteeringOk_L0 bad k_ (s.Rules.length + s.Table.Slots.length + 1) queues s.Rules s.Table.Slots) (fun i r c => bif !(!(decide (queues ≤ rI r 8))) then k_ false else c) (bif s.Table.Slots.all (fun r => !(decide (queues ≤ rI r 6))) then k_ true else k_ false) ?_ ?_ (s.Rules.length + s.Table.Slots.length + 1) (by omega)).trans (go_all' (fun r => !(decide (queues ≤ rI r 8))) (k_ false) _ s.Rules 0)
    · intro n i h
      rw [spec_SteeringOk_L0_s]
      simp only [spec_SteeringOk_l0, lt_len h, idx_nat h, w64_succ h hl, Int.toNat_natCast, andt_true_l, andt_true_r, cond_true, Bool.not_not]
    · intro n
      rw [spec_SteeringOk_L0_s]
      simp only [spec_SteeringOk_l0, not_lt_len, cond_false]
      exact key1
  refine key.trans ?_

  cases s.Rules.all (fun r => !(decide (queues ≤ rI r 8)))
  · rfl
  · cases s.Table.Slots.all (fun r => !(decide (queues ≤ rI r 6))) <;> rfl

end
end Go.Proofs.YtdlelfondkajbaaGreat.Pl
