/- What functions of the program compute, in plain Lean, as the value machine runs them. Conditions: none. -/
import Derived.Test.YtdlelfondkajbaaGreatPSx
import Derived.Test.YtdlelfondkajbaaGreatPBa
set_option linter.unusedVariables false
set_option linter.unusedSimpArgs false
set_option maxRecDepth 100000
namespace Go.Proofs.YtdlelfondkajbaaGreat.Pl
open Vm
noncomputable section


def impl_pageMapping_l0 {α : Type} (bad : α) (k_ : Int → α) (domain : Int) (virtual : Int) (list_ : Rows) (x_1 : Int) (ih0 : Int → α) (x_2 : Int) : α :=
  bif decide (x_2 < x_1) then
    bif andt true (idx x_2 list_) then
      bif bif (rI (nth list_ (Int.toNat x_2)) 0) == domain then (rI (nth list_ (Int.toNat x_2)) 1) == virtual else false then k_ x_2
      else ih0 (w64 (x_2 + 1))
    else bad
  else k_ (-1)
def impl_pageMapping_L0 {α : Type} (bad : α) (k_ : Int → α) (N : Nat) (domain : Int) (virtual : Int) (list_ : Rows) (x_1 : Int) (m_ : Nat) : Int → α :=
  Nat.rec (motive := fun _ => Int → α) (fun _ => bad) (fun _ ih0 => impl_pageMapping_l0 bad k_ domain virtual list_ x_1 ih0) m_
theorem impl_pageMapping_L0_z {α : Type} (bad : α) (k_ : Int → α) (N : Nat) (domain : Int) (virtual : Int) (list_ : Rows) (x_1 : Int) (x_2 : Int) : impl_pageMapping_L0 bad k_ N domain virtual list_ x_1 0 x_2 = bad := rfl
theorem impl_pageMapping_L0_s {α : Type} (bad : α) (k_ : Int → α) (N : Nat) (domain : Int) (virtual : Int) (list_ : Rows) (x_1 : Int) (m_ : Nat) (x_2 : Int) : impl_pageMapping_L0 bad k_ N domain virtual list_ x_1 (m_ + 1) x_2 = impl_pageMapping_l0 bad k_ domain virtual list_ x_1 (impl_pageMapping_L0 bad k_ N domain virtual list_ x_1 m_) x_2 := rfl
def impl_pageMapping_t {α : Type} (bad : α) (k_ : Int → α) (l0 : Int → Int → α) (list_ : Rows) (domain : Int) (virtual : Int) : α :=
  l0 (len list_) 0
def impl_pageMapping_f {α : Type} (bad : α) (k_ : Int → α) (N : Nat) (list_ : Rows) (domain : Int) (virtual : Int) : α := impl_pageMapping_t bad k_ (fun x_1 => impl_pageMapping_L0 bad k_ N domain virtual list_ x_1 N) list_ domain virtual
def pageMapping (list_ : Rows) (domain : Int) (virtual : Int) : Int := findIdx (fun _ r => bif (rI r 0) == domain then (rI r 1) == virtual else false) list_ 0
theorem impl_pageMapping_c {α : Type} (bad : α) (k_ : Int → α) (list_ : Rows) (domain : Int) (virtual : Int) (h_list_ : WtC (.sl [.int .i64, .int .i64, .int .i64, .bool]) (.sl list_)) (h_domain : WtC (.int .i64) (.int domain)) (h_virtual : WtC (.int .i64) (.int virtual)) : ∃ N, impl_pageMapping_f bad k_ N list_ domain virtual = k_ (pageMapping list_ domain virtual) := by
  obtain ⟨hl, _⟩ := wt_sl h_list_
  refine ⟨list_.length + 1, ?_⟩
  unfold impl_pageMapping_f impl_pageMapping_t
  refine (loop_rows0 list_ (impl_pageMapping_L0 bad k_ (list_.length + 1) domain virtual list_ (len list_)) (fun i r c => bif bif (rI r 0) == domain then (rI r 1) == virtual else false then k_ (i : Int) else c) (k_ (-1)) ?_ ?_).trans ?_
  · intro n i h
    rw [impl_pageMapping_L0_s]
    simp only [impl_pageMapping_l0, lt_len h, idx_nat h, w64_succ h hl, Int.toNat_natCast, andt_true_l, andt_true_r, cond_true]
  · intro n
    rw [impl_pageMapping_L0_s]
    simp only [impl_pageMapping_l0, not_lt_len, cond_false]
  · exact go_findIdx (fun i r => bif (rI r 0) == domain then (rI r 1) == virtual else false) k_ list_ 0

def impl_MappingsOk_l0 {α : Type} (bad : α) (k_ : Bool → α) (list_ : Rows) (x : Rows) (x_1 : Int) (ih0 : Int → α) (x_2 : Int) : α :=
  bif decide (x_2 < x_1) then
    bif andt true (idx x_2 x) then
      bif bif !(between (rI (nth x (Int.toNat x_2)) 0) 0 7) then true else bif !(between (rI (nth x (Int.toNat x_2)) 1) 0 1023) then true else bif !(between (rI (nth x (Int.toNat x_2)) 2) 0 63) then true else (pageMapping list_ (rI (nth x (Int.toNat x_2)) 0) (rI (nth x (Int.toNat x_2)) 1)) != x_2 then k_ false
      else ih0 (w64 (x_2 + 1))
    else bad
  else k_ (decide (len list_ ≤ 96))
def impl_MappingsOk_L0 {α : Type} (bad : α) (k_ : Bool → α) (N : Nat) (list_ : Rows) (x : Rows) (x_1 : Int) (m_ : Nat) : Int → α :=
  Nat.rec (motive := fun _ => Int → α) (fun _ => bad) (fun _ ih0 => impl_MappingsOk_l0 bad k_ list_ x x_1 ih0) m_
theorem impl_MappingsOk_L0_z {α : Type} (bad : α) (k_ : Bool → α) (N : Nat) (list_ : Rows) (x : Rows) (x_1 : Int) (x_2 : Int) : impl_MappingsOk_L0 bad k_ N list_ x x_1 0 x_2 = bad := rfl
theorem impl_MappingsOk_L0_s {α : Type} (bad : α) (k_ : Bool → α) (N : Nat) (list_ : Rows) (x : Rows) (x_1 : Int) (m_ : Nat) (x_2 : Int) : impl_MappingsOk_L0 bad k_ N list_ x x_1 (m_ + 1) x_2 = impl_MappingsOk_l0 bad k_ list_ x x_1 (impl_MappingsOk_L0 bad k_ N list_ x x_1 m_) x_2 := rfl
def impl_MappingsOk_t {α : Type} (bad : α) (k_ : Bool → α) (l0 : Rows → Int → Int → α) (list_ : Rows) : α :=
  l0 list_ (len list_) 0
def impl_MappingsOk_f {α : Type} (bad : α) (k_ : Bool → α) (N : Nat) (list_ : Rows) : α := impl_MappingsOk_t bad k_ (fun x x_1 => impl_MappingsOk_L0 bad k_ N list_ x x_1 N) list_
def mapBad (r : List DC) : Bool := bif !(between (rI r 0) 0 7) then true else bif !(between (rI r 1) 0 1023) then true else !(between (rI r 2) 0 63)
def MappingsOk (list_ : Rows) : Bool := bif decide (96 < len list_) then false else bif anyIdx (fun i r => bif mapBad r then true else anyN (fun j => bif (rI (nth list_ j) 0) == (rI r 0) then (rI (nth list_ j) 1) == (rI r 1) else false) i 0) list_ 0 then false else true
theorem impl_MappingsOk_c {α : Type} (bad : α) (k_ : Bool → α) (list_ : Rows) (h_list_ : WtC (.sl [.int .i64, .int .i64, .int .i64, .bool]) (.sl list_)) : ∃ N, impl_MappingsOk_f bad k_ N list_ = k_ (MappingsOk list_) := by
  obtain ⟨hl, _⟩ := wt_sl h_list_
  refine ⟨list_.length + 1, ?_⟩
  unfold impl_MappingsOk_f impl_MappingsOk_t
  refine (loop_rows0 list_ (impl_MappingsOk_L0 bad k_ (list_.length + 1) list_ list_ (len list_)) (fun i r c => bif (bif mapBad r then true else (pageMapping list_ (rI r 0) (rI r 1)) != (i : Int)) then k_ false else c) (k_ (decide (len list_ ≤ 96))) ?_ ?_).trans ?_
  · intro n i h
    rw [impl_MappingsOk_L0_s]
    simp only [impl_MappingsOk_l0, lt_len h, idx_nat h, w64_succ h hl, Int.toNat_natCast, andt_true_l, andt_true_r, cond_true]
    unfold mapBad
    cases between (rI (nth list_ i) 0) 0 7 <;> cases between (rI (nth list_ i) 1) 0 1023 <;> cases between (rI (nth list_ i) 2) 0 63 <;> rfl
  · intro n
    rw [impl_MappingsOk_L0_s]
    simp only [impl_MappingsOk_l0, not_lt_len, cond_false]
  · refine (go_anyIdx (fun i r => bif mapBad r then true else (pageMapping list_ (rI r 0) (rI r 1)) != (i : Int)) _ _ list_ 0).trans ?_
    have e : anyIdx (fun i r => bif mapBad r then true else (pageMapping list_ (rI r 0) (rI r 1)) != (i : Int)) list_ 0 = anyIdx (fun i r => bif mapBad r then true else anyN (fun j => bif (rI (nth list_ j) 0) == (rI r 0) then (rI (nth list_ j) 1) == (rI r 1) else false) i 0) list_ 0 := by
      apply anyIdx_congr
      intro i hi
      rw [Nat.zero_add]
      have hf := findIdx_ne (fun _ r => bif (rI r 0) == (rI (nth list_ i) 0) then (rI r 1) == (rI (nth list_ i) 1) else false) list_ 0 i hi (by simp)
      rw [Nat.zero_add] at hf
      have hf : ((pageMapping list_ (rI (nth list_ i) 0) (rI (nth list_ i) 1)) != (i : Int)) = _ := hf
      rw [hf]
    rw [e]
    unfold MappingsOk
    by_cases h9 : 96 < len list_
    · simp only [decide_eq_true h9, cond_true, show decide (len list_ ≤ 96) = false from decide_eq_false (by omega)]
      cases anyIdx (fun i r => bif mapBad r then true else anyN (fun j => bif (rI (nth list_ j) 0) == (rI r 0) then (rI (nth list_ j) 1) == (rI r 1) else false) i 0) list_ 0 <;> rfl
    · simp only [decide_eq_false h9, cond_false, show decide (len list_ ≤ 96) = true from decide_eq_true (by omega)]
      exact cond_k rfl rfl

def spec_MappingsOk_l0 {α : Type} (bad : α) (k_ : Bool → α) (l1 : Int → Int → Int → Int → α) (list_ : Rows) (ih0 : Int → α) (k : Int) : α :=
  bif decide (k < len list_) then
    bif andt true (idx k list_) then
      bif bif !(between (rI (nth list_ (Int.toNat k)) 0) 0 7) then true else bif !(between (rI (nth list_ (Int.toNat k)) 1) 0 1023) then true else !(between (rI (nth list_ (Int.toNat k)) 2) 0 63) then k_ false
      else l1 k (rI (nth list_ (Int.toNat k)) 0) (rI (nth list_ (Int.toNat k)) 1) 0
    else bad
  else k_ true
def spec_MappingsOk_l1 {α : Type} (bad : α) (k_ : Bool → α) (ih0 : Int → α) (list_ : Rows) (k : Int) (x : Int) (x_1 : Int) (ih1 : Int → α) (i : Int) : α :=
  let z0 : Bool := (rI (nth list_ (Int.toNat i)) 0) == x
  bif decide (i < k) then
    bif okm z0 (andt (andt true (idx i list_)) (idx i list_)) (andt true (idx i list_)) then
      bif bif z0 then (rI (nth list_ (Int.toNat i)) 1) == x_1 else false then k_ false
      else ih1 (w64 (i + 1))
    else bad
  else ih0 (w64 (k + 1))
def spec_MappingsOk_L1 {α : Type} (bad : α) (k_ : Bool → α) (N : Nat) (ih0 : Int → α) (list_ : Rows) (k : Int) (x : Int) (x_1 : Int) (m_ : Nat) : Int → α :=
  Nat.rec (motive := fun _ => Int → α) (fun _ => bad) (fun _ ih1 => spec_MappingsOk_l1 bad k_ ih0 list_ k x x_1 ih1) m_
theorem spec_MappingsOk_L1_z {α : Type} (bad : α) (k_ : Bool → α) (N : Nat) (ih0 : Int → α) (list_ : Rows) (k : Int) (x : Int) (x_1 : Int) (i : Int) : spec_MappingsOk_L1 bad k_ N ih0 list_ k x x_1 0 i = bad := rfl
theorem spec_MappingsOk_L1_s {α : Type} (bad : α) (k_ : Bool → α) (N : Nat) (ih0 : Int → α) (list_ : Rows) (k : Int) (x : Int) (x_1 : Int) (m_ : Nat) (i : Int) : spec_MappingsOk_L1 bad k_ N ih0 list_ k x x_1 (m_ + 1) i = spec_MappingsOk_l1 bad k_ ih0 list_ k x x_1 (spec_MappingsOk_L1 bad k_ N ih0 list_ k x x_1 m_) i := rfl
def spec_MappingsOk_L0 {α : Type} (bad : α) (k_ : Bool → α) (N : Nat) (list_ : Rows) (m_ : Nat) : Int → α :=
  Nat.rec (motive := fun _ => Int → α) (fun _ => bad) (fun _ ih0 => spec_MappingsOk_l0 bad k_ (fun k x x_1 => spec_MappingsOk_L1 bad k_ N ih0 list_ k x x_1 N) list_ ih0) m_
theorem spec_MappingsOk_L0_z {α : Type} (bad : α) (k_ : Bool → α) (N : Nat) (list_ : Rows) (k : Int) : spec_MappingsOk_L0 bad k_ N list_ 0 k = bad := rfl
theorem spec_MappingsOk_L0_s {α : Type} (bad : α) (k_ : Bool → α) (N : Nat) (list_ : Rows) (m_ : Nat) (k : Int) : spec_MappingsOk_L0 bad k_ N list_ (m_ + 1) k = spec_MappingsOk_l0 bad k_ (fun k x x_1 => spec_MappingsOk_L1 bad k_ N (spec_MappingsOk_L0 bad k_ N list_ m_) list_ k x x_1 N) list_ (spec_MappingsOk_L0 bad k_ N list_ m_) k := rfl
def spec_MappingsOk_t {α : Type} (bad : α) (k_ : Bool → α) (l0 : Int → α) (list_ : Rows) : α :=
  bif decide (96 < len list_) then k_ false
  else l0 0
def spec_MappingsOk_f {α : Type} (bad : α) (k_ : Bool → α) (N : Nat) (list_ : Rows) : α := spec_MappingsOk_t bad k_ (spec_MappingsOk_L0 bad k_ N list_ N) list_
theorem spec_MappingsOk_c {α : Type} (bad : α) (k_ : Bool → α) (list_ : Rows) (h_list_ : WtC (.sl [.int .i64, .int .i64, .int .i64, .bool]) (.sl list_)) : ∃ N, spec_MappingsOk_f bad k_ N list_ = k_ (MappingsOk list_) := by
  obtain ⟨hl, _⟩ := wt_sl h_list_
  refine ⟨list_.length + 1, ?_⟩
  unfold spec_MappingsOk_f spec_MappingsOk_t MappingsOk
  refine cond_k rfl ?_
  have inner : ∀ (ih : Int → α) (i : Nat), i < list_.length → spec_MappingsOk_L1 bad k_ (list_.length + 1) ih list_ (i : Int) (rI (nth list_ i) 0) (rI (nth list_ i) 1) (list_.length + 1) 0 = bif anyN (fun j => bif (rI (nth list_ j) 0) == (rI (nth list_ i) 0) then (rI (nth list_ j) 1) == (rI (nth list_ i) 1) else false) i 0 then k_ false else ih ((i : Int) + 1) := by
    intro ih i hi
    have hw : w64 ((i : Int) + 1) = (i : Int) + 1 := w64_succ hi hl
    have := loop_nat (σ := Unit) i (fun n j _ => spec_MappingsOk_L1 bad k_ (list_.length + 1) ih list_ (i : Int) (rI (nth list_ i) 0) (rI (nth list_ i) 1) n j) (fun j c s => bif (bif (rI (nth list_ j) 0) == (rI (nth list_ i) 0) then (rI (nth list_ j) 1) == (rI (nth list_ i) 1) else false) then k_ false else c s) (fun _ => ih ((i : Int) + 1)) ?_ ?_ (list_.length + 1) () (by omega)
    · exact this.trans (go_anyN (fun j => bif (rI (nth list_ j) 0) == (rI (nth list_ i) 0) then (rI (nth list_ j) 1) == (rI (nth list_ i) 1) else false) (k_ false) (ih ((i : Int) + 1)) i 0)
    · intro n j _ hj
      show spec_MappingsOk_L1 bad k_ (list_.length + 1) ih list_ (i : Int) (rI (nth list_ i) 0) (rI (nth list_ i) 1) (n + 1) (j : Int) = _
      rw [spec_MappingsOk_L1_s]
      have h1 : decide ((j : Int) < (i : Int)) = true := decide_eq_true (by omega)
      have h2 : idx (j : Int) list_ = true := idx_nat (by omega)
      have h3 : w64 ((j : Int) + 1) = (j : Int) + 1 := w64_in (by omega) (by omega)
      simp only [spec_MappingsOk_l1, h1, h2, h3, Int.toNat_natCast, andt_true_l, andt_true_r, okm_tt, cond_true]
    · intro n _
      show spec_MappingsOk_L1 bad k_ (list_.length + 1) ih list_ (i : Int) (rI (nth list_ i) 0) (rI (nth list_ i) 1) (n + 1) (i : Int) = _
      rw [spec_MappingsOk_L1_s]
      have h1 : decide ((i : Int) < (i : Int)) = false := decide_eq_false (by omega)
      simp only [spec_MappingsOk_l1, h1, hw, cond_false]
  refine (loop_rowsN list_ (spec_MappingsOk_L0 bad k_ (list_.length + 1) list_) (fun i r c => bif (bif mapBad r then true else anyN (fun j => bif (rI (nth list_ j) 0) == (rI r 0) then (rI (nth list_ j) 1) == (rI r 1) else false) i 0) then k_ false else c) (k_ true) ?_ ?_ (list_.length + 1) (by omega)).trans ?_
  · intro n i h
    rw [spec_MappingsOk_L0_s]
    simp only [spec_MappingsOk_l0, lt_len h, idx_nat h, Int.toNat_natCast, andt_true_l, andt_true_r, cond_true, okm_tt, inner _ i h]
    show (bif mapBad (nth list_ i) then k_ false else _) = _
    cases mapBad (nth list_ i) <;> rfl
  · intro n
    rw [spec_MappingsOk_L0_s]
    simp only [spec_MappingsOk_l0, not_lt_len, cond_false]
  · refine (go_anyIdx (fun i r => bif mapBad r then true else anyN (fun j => bif (rI (nth list_ j) 0) == (rI r 0) then (rI (nth list_ j) 1) == (rI r 1) else false) i 0) _ _ list_ 0).trans ?_
    exact cond_k rfl rfl

end
end Go.Proofs.YtdlelfondkajbaaGreat.Pl
