/- What functions of the program compute, in plain Lean, as the value machine runs them. Conditions: none. -/
import Derived.Test.YtfnkhejoihnlnaaPFo
set_option linter.unusedVariables false
set_option linter.unusedSimpArgs false
set_option maxRecDepth 100000
namespace Go.Proofs.Ytfnkhejoihnlnaa.Pl
open Vm
noncomputable section


def impl_pageMapping_l0 {α : Type} (bad : α) (k_ : Int → α) (domain : Int) (virtual : Int) (list_ : Rows) (x_1 : Int) (ih0 : Int → α) (x_2 : Int) : α :=
  bif decide (x_2 < x_1) then
    bif andt true (idx x_2 list_) then
      bif bif (rI (nth list_ (Int.toNat x_2)) 0) == domain then (rI (nth list_ (Int.toNat x_2)) 1) == virtual else false then k_ x_2
      else ih0 (w64 (x_2 + 1))
    else bad
  else k_ (-1)
def impl_pageMapping_L0 {α : Type} (bad : α) (k_ : Int → α) (N : Nat) (domain : Int) (virtual : Int) (list_ : Rows) (x_1 : Int) (m_ : Nat) : Int → α :=
  Nat.rec (motive := fun _ => Int → α) (fun _ => bad) (fun _ ih0 => impl_pageMapping_l0 bad k_ domain virtual list_ x_1 ih0) m_
theorem impl_pageMapping_L0_z {α : Type} (bad : α) (k_ : Int → α) (N : Nat) (domain : Int) (virtual : Int) (list_ : Rows) (x_1 : Int) (x_2 : Int) : impl_pageMapping_L0 bad k_ N domain virtual list_ x_1 0 x_2 = bad := rfl
theorem impl_pageMapping_L0_s {α : Type} (bad : α) (k_ : Int → α) (N : Nat) (domain : Int) (virtual : Int) (list_ : Rows) (x_1 : Int) (m_ : Nat) (x_2 : Int) : impl_pageMapping_L0 bad k_ N domain virtual list_ x_1 (m_ + 1) x_2 = impl_pageMapping_l0 bad k_ domain virtual list_ x_1 (impl_pageMapping_L0 bad k_ N domain virtual list_ x_1 m_) x_2 := rfl
def impl_pageMapping_t {α : Type} (bad : α) (k_ : Int → α) (l0 : Int → Int → α) (list_ : Rows) (domain : Int) (virtual : Int) : α :=
  l0 (len list_) 0
def impl_pageMapping_f {α : Type} (bad : α) (k_ : Int → α) (N : Nat) (list_ : Rows) (domain : Int) (virtual : Int) : α := impl_pageMapping_t bad k_ (fun x_1 => impl_pageMapping_L0 bad k_ N domain virtual list_ x_1 N) list_ domain virtual
def pageMapping (list_ : Rows) (domain : Int) (virtual : Int) : Int := findIdx (fun _ r => bif (rI r 0) == domain then (rI r 1) == virtual else false) list_ 0
theorem impl_pageMapping_c {α : Type} (bad : α) (k_ : Int → α) (list_ : Rows) (domain : Int) (virtual : Int) (h_list_ : WtC (.sl [.int .i64, .int .i64, .int .i64, .bool]) (.sl list_)) (h_domain : WtC (.int .i64) (.int domain)) (h_virtual : WtC (.int .i64) (.int virtual)) : ∃ N, impl_pageMapping_f bad k_ N list_ domain virtual = k_ (pageMapping list_ domain virtual) := by
  obtain ⟨hl, _⟩ := wt_sl h_list_
  refine ⟨list_.length + 1, ?_⟩
  unfold impl_pageMapping_f impl_pageMapping_t
  refine (loop_rows0 list_ (impl_pageMapping_L0 bad k_ (list_.length + 1) domain virtual list_ (len list_)) (fun i r c => bif bif (rI r 0) == domain then (rI r 1) == virtual else false then k_ (i : Int) else c) (k_ (-1)) ?_ ?_).trans ?_
  · intro n i h
    rw [impl_pageMapping_L0_s]
    simp only [impl_pageMapping_l0, lt_len h, idx_nat h, w64_succ h hl, Int.toNat_natCast, andt_true_l, andt_true_r, cond_true]
  · intro n
    rw [impl_pageMapping_L0_s]
    simp only [impl_pageMapping_l0, not_lt_len, cond_false]
  · exact go_findIdx (fun i r => bif (rI r 0) == domain then (rI r 1) == virtual else false) k_ list_ 0

def impl_MappingsOk_l0 {α : Type} (bad : α) (k_ : Bool → α) (list_ : Rows) (x : Rows) (x_1 : Int) (ih0 : Int → α) (x_2 : Int) : α :=
  bif decide (x_2 < x_1) then
    bif andt true (idx x_2 x) then
      bif bif !(between (rI (nth x (Int.toNat x_2)) 0) 0 7) then true else bif !(between (rI (nth x (Int.toNat x_2)) 1) 0 1023) then true else bif !(between (rI (nth x (Int.toNat x_2)) 2) 0 63) then true else (pageMapping list_ (rI (nth x (Int.toNat x_2)) 0) (rI (nth x (Int.toNat x_2)) 1)) != x_2 then k_ false
      else ih0 (w64 (x_2 + 1))
    else bad
  else k_ (decide (len list_ ≤ 96))
def impl_MappingsOk_L0 {α : Type} (bad : α) (k_ : Bool → α) (N : Nat) (list_ : Rows) (x : Rows) (x_1 : Int) (m_ : Nat) : Int → α :=
  Nat.rec (motive := fun _ => Int → α) (fun _ => bad) (fun _ ih0 => impl_MappingsOk_l0 bad k_ list_ x x_1 ih0) m_
theorem impl_MappingsOk_L0_z {α : Type} (bad : α) (k_ : Bool → α) (N : Nat) (list_ : Rows) (x : Rows) (x_1 : Int) (x_2 : Int) : impl_MappingsOk_L0 bad k_ N list_ x x_1 0 x_2 = bad := rfl
theorem impl_MappingsOk_L0_s {α : Type} (bad : α) (k_ : Bool → α) (N : Nat) (list_ : Rows) (x : Rows) (x_1 : Int) (m_ : Nat) (x_2 : Int) : impl_MappingsOk_L0 bad k_ N list_ x x_1 (m_ + 1) x_2 = impl_MappingsOk_l0 bad k_ list_ x x_1 (impl_MappingsOk_L0 bad k_ N list_ x x_1 m_) x_2 := rfl
def impl_MappingsOk_t {α : Type} (bad : α) (k_ : Bool → α) (l0 : Rows → Int → Int → α) (list_ : Rows) : α :=
  l0 list_ (len list_) 0
def impl_MappingsOk_f {α : Type} (bad : α) (k_ : Bool → α) (N : Nat) (list_ : Rows) : α := impl_MappingsOk_t bad k_ (fun x x_1 => impl_MappingsOk_L0 bad k_ N list_ x x_1 N) list_
def mapBad (r : List DC) : Bool := bif !(between (rI r 0) 0 7) then true else bif !(between (rI r 1) 0 1023) then true else !(between (rI r 2) 0 63)
def MappingsOk (list_ : Rows) : Bool := bif decide (96 < len list_) then false else bif anyIdx (fun i r => bif mapBad r then true else anyN (fun j => bif (rI (nth list_ j) 0) == (rI r 0) then (rI (nth list_ j) 1) == (rI r 1) else false) i 0) list_ 0 then false else true
theorem impl_MappingsOk_c {α : Type} (bad : α) (k_ : Bool → α) (list_ : Rows) (h_list_ : WtC (.sl [.int .i64, .int .i64, .int .i64, .bool]) (.sl list_)) : ∃ N, impl_MappingsOk_f bad k_ N list_ = k_ (MappingsOk list_) := by
  obtain ⟨hl, _⟩ := wt_sl h_list_
  refine ⟨list_.length + 1, ?_⟩
  unfold impl_MappingsOk_f impl_MappingsOk_t
  refine (loop_rows0 list_ (impl_MappingsOk_L0 bad k_ (list_.length + 1) list_ list_ (len list_)) (fun i r c => bif (bif mapBad r then true else (pageMapping list_ (rI r 0) (rI r 1)) != (i : Int)) then k_ false else c) (k_ (decide (len list_ ≤ 96))) ?_ ?_).trans ?_
  · intro n i h
    rw [impl_MappingsOk_L0_s]
    simp only [impl_MappingsOk_l0, lt_len h, idx_nat h, w64_succ h hl, Int.toNat_natCast, andt_true_l, andt_true_r, cond_true]
    unfold mapBad
    cases between (rI (nth list_ i) 0) 0 7 <;> cases between (rI (nth list_ i) 1) 0 1023 <;> cases between (rI (nth list_ i) 2) 0 63 <;> rfl
  · intro n
    rw [impl_MappingsOk_L0_s]
    simp only [impl_MappingsOk_l0, not_lt_len, cond_false]
  · refine (go_anyIdx (fun i r => bif mapBad r then true else (pageMapping list_ (rI r 0) (rI r 1)) != (i : Int)) _ _ list_ 0).trans ?_
    have e : anyIdx (fun i r => bif mapBad r then true else (pageMapping list_ (rI r 0) (rI r 1)) != (i : Int)) list_ 0 = anyIdx (fun i r => bif mapBad r then true else anyN (fun j => bif (rI (nth list_ j) 0) == (rI r 0) then (rI (nth list_ j) 1) == (rI r 1) else false) i 0) list_ 0 := by
      apply anyIdx_congr
      intro i hi
      rw [Nat.zero_add]
      have hf := findIdx_ne (fun _ r => bif (rI r 0) == (rI (nth list_ i) 0) then (rI r 1) == (rI (nth list_ i) 1) else false) list_ 0 i hi (by simp)
      rw [Nat.zero_add] at hf
      have hf : ((pageMapping list_ (rI (nth list_ i) 0) (rI (nth list_ i) 1)) != (i : Int)) = _ := hf
      rw [hf]
    rw [e]
    unfold MappingsOk
    by_cases h9 : 96 < len list_
    · simp only [decide_eq_true h9, cond_true, show decide (len list_ ≤ 96) = false from decide_eq_false (by omega)]
      cases anyIdx (fun i r => bif mapBad r then true else anyN (fun j => bif (rI (nth list_ j) 0) == (rI r 0) then (rI (nth list_ j) 1) == (rI r 1) else false) i 0) list_ 0 <;> rfl
    · simp only [decide_eq_false h9, cond_false, show decide (len list_ ≤ 96) = true from decide_eq_true (by omega)]
      exact cond_k rfl rfl

def spec_MappingsOk_l0 {α : Type} (bad : α) (k_ : Bool → α) (l1 : Int → Int → Int → Int → α) (list_ : Rows) (ih0 : Int → α) (k : Int) : α :=
  bif decide (k < len list_) then
    bif andt true (idx k list_) then
      bif bif !(between (rI (nth list_ (Int.toNat k)) 0) 0 7) then true else bif !(between (rI (nth list_ (Int.toNat k)) 1) 0 1023) then true else !(between (rI (nth list_ (Int.toNat k)) 2) 0 63) then k_ false
      else l1 k (rI (nth list_ (Int.toNat k)) 0) (rI (nth list_ (Int.toNat k)) 1) 0
    else bad
  else k_ true
def spec_MappingsOk_l1 {α : Type} (bad : α) (k_ : Bool → α) (ih0 : Int → α) (list_ : Rows) (k : Int) (x : Int) (x_1 : Int) (ih1 : Int → α) (i : Int) : α :=
  let z0 : Bool := (rI (nth list_ (Int.toNat i)) 0) == x
  bif decide (i < k) then
    bif okm z0 (andt (andt true (idx i list_)) (idx i list_)) (andt true (idx i list_)) then
      bif bif z0 then (rI (nth list_ (Int.toNat i)) 1) == x_1 else false then k_ false
      else ih1 (w64 (i + 1))
    else bad
  else ih0 (w64 (k + 1))
def spec_MappingsOk_L1 {α : Type} (bad : α) (k_ : Bool → α) (N : Nat) (ih0 : Int → α) (list_ : Rows) (k : Int) (x : Int) (x_1 : Int) (m_ : Nat) : Int → α :=
  Nat.rec (motive := fun _ => Int → α) (fun _ => bad) (fun _ ih1 => spec_MappingsOk_l1 bad k_ ih0 list_ k x x_1 ih1) m_
theorem spec_MappingsOk_L1_z {α : Type} (bad : α) (k_ : Bool → α) (N : Nat) (ih0 : Int → α) (list_ : Rows) (k : Int) (x : Int) (x_1 : Int) (i : Int) : spec_MappingsOk_L1 bad k_ N ih0 list_ k x x_1 0 i = bad := rfl
theorem spec_MappingsOk_L1_s {α : Type} (bad : α) (k_ : Bool → α) (N : Nat) (ih0 : Int → α) (list_ : Rows) (k : Int) (x : Int) (x_1 : Int) (m_ : Nat) (i : Int) : spec_MappingsOk_L1 bad k_ N ih0 list_ k x x_1 (m_ + 1) i = spec_MappingsOk_l1 bad k_ ih0 list_ k x x_1 (spec_MappingsOk_L1 bad k_ N ih0 list_ k x x_1 m_) i := rfl
def spec_MappingsOk_L0 {α : Type} (bad : α) (k_ : Bool → α) (N : Nat) (list_ : Rows) (m_ : Nat) : Int → α :=
  Nat.rec (motive := fun _ => Int → α) (fun _ => bad) (fun _ ih0 => spec_MappingsOk_l0 bad k_ (fun k x x_1 => spec_MappingsOk_L1 bad k_ N ih0 list_ k x x_1 N) list_ ih0) m_
theorem spec_MappingsOk_L0_z {α : Type} (bad : α) (k_ : Bool → α) (N : Nat) (list_ : Rows) (k : Int) : spec_MappingsOk_L0 bad k_ N list_ 0 k = bad := rfl
theorem spec_MappingsOk_L0_s {α : Type} (bad : α) (k_ : Bool → α) (N : Nat) (list_ : Rows) (m_ : Nat) (k : Int) : spec_MappingsOk_L0 bad k_ N list_ (m_ + 1) k = spec_MappingsOk_l0 bad k_ (fun k x x_1 => spec_MappingsOk_L1 bad k_ N (spec_MappingsOk_L0 bad k_ N list_ m_) list_ k x x_1 N) list_ (spec_MappingsOk_L0 bad k_ N list_ m_) k := rfl
def spec_MappingsOk_t {α : Type} (bad : α) (k_ : Bool → α) (l0 : Int → α) (list_ : Rows) : α :=
  bif decide (96 < len list_) then k_ false
  else l0 0
def spec_MappingsOk_f {α : Type} (bad : α) (k_ : Bool → α) (N : Nat) (list_ : Rows) : α := spec_MappingsOk_t bad k_ (spec_MappingsOk_L0 bad k_ N list_ N) list_
theorem spec_MappingsOk_c {α : Type} (bad : α) (k_ : Bool → α) (list_ : Rows) (h_list_ : WtC (.sl [.int .i64, .int .i64, .int .i64, .bool]) (.sl list_)) : ∃ N, spec_MappingsOk_f bad k_ N list_ = k_ (MappingsOk list_) := by
  obtain ⟨hl, _⟩ := wt_sl h_list_
  refine ⟨list_.length + 1, ?_⟩
  unfold spec_MappingsOk_f spec_MappingsOk_t MappingsOk
  refine cond_k rfl ?_
  have inner : ∀ (ih : Int → α) (i : Nat), i < list_.length → spec_MappingsOk_L1 bad k_ (list_.length + 1) ih list_ (i : Int) (rI (nth list_ i) 0) (rI (nth list_ i) 1) (list_.length + 1) 0 = bif anyN (fun j => bif (rI (nth list_ j) 0) == (rI (nth list_ i) 0) then (rI (nth list_ j) 1) == (rI (nth list_ i) 1) else false) i 0 then k_ false else ih ((i : Int) + 1) := by
    intro ih i hi
    have hw : w64 ((i : Int) + 1) = (i : Int) + 1 := w64_succ hi hl
    have := loop_nat (σ := Unit) i (fun n j _ => spec_MappingsOk_L1 bad k_ (list_.length + 1) ih list_ (i : Int) (rI (nth list_ i) 0) (rI (nth list_ i) 1) n j) (fun j c s => bif (bif (rI (nth list_ j) 0) == (rI (nth list_ i) 0) then (rI (nth list_ j) 1) == (rI (nth list_ i) 1) else false) then k_ false else c s) (fun _ => ih ((i : Int) + 1)) ?_ ?_ (list_.length + 1) () (by omega)
    · exact this.trans (go_anyN (fun j => bif (rI (nth list_ j) 0) == (rI (nth list_ i) 0) then (rI (nth list_ j) 1) == (rI (nth list_ i) 1) else false) (k_ false) (ih ((i : Int) + 1)) i 0)
    · intro n j _ hj
      show spec_MappingsOk_L1 bad k_ (list_.length + 1) ih list_ (i : Int) (rI (nth list_ i) 0) (rI (nth list_ i) 1) (n + 1) (j : Int) = _
      rw [spec_MappingsOk_L1_s]
      have h1 : decide ((j : Int) < (i : Int)) = true := decide_eq_true (by omega)
      have h2 : idx (j : Int) list_ = true := idx_nat (by omega)
      have h3 : w64 ((j : Int) + 1) = (j : Int) + 1 := w64_in (by omega) (by omega)
      simp only [spec_MappingsOk_l1, h1, h2, h3, Int.toNat_natCast, andt_true_l, andt_true_r, okm_tt, cond_true]
    · intro n _
      show spec_MappingsOk_L1 bad k_ (list_.length + 1) ih list_ (i : Int) (rI (nth list_ i) 0) (rI (nth list_ i) 1) (n + 1) (i : Int) = _
      rw [spec_MappingsOk_L1_s]
      have h1 : decide ((i : Int) < (i : Int)) = false := decide_eq_false (by omega)
      simp only [spec_MappingsOk_l1, h1, hw, cond_false]
  refine (loop_rowsN list_ (spec_MappingsOk_L0 bad k_ (list_.length + 1) list_) (fun i r c => bif (bif mapBad r then true else anyN (fun j => bif (rI (nth list_ j) 0) == (rI r 0) then (rI (nth list_ j) 1) == (rI r 1) else false) i 0) then k_ false else c) (k_ true) ?_ ?_ (list_.length + 1) (by omega)).trans ?_
  · intro n i h
    rw [spec_MappingsOk_L0_s]
    simp only [spec_MappingsOk_l0, lt_len h, idx_nat h, Int.toNat_natCast, andt_true_l, andt_true_r, cond_true, okm_tt, inner _ i h]
    show (bif mapBad (nth list_ i) then k_ false else _) = _
    cases mapBad (nth list_ i) <;> rfl
  · intro n
    rw [spec_MappingsOk_L0_s]
    simp only [spec_MappingsOk_l0, not_lt_len, cond_false]
  · refine (go_anyIdx (fun i r => bif mapBad r then true else anyN (fun j => bif (rI (nth list_ j) 0) == (rI r 0) then (rI (nth list_ j) 1) == (rI r 1) else false) i 0) _ _ list_ 0).trans ?_
    exact cond_k rfl rfl

def impl_WritablePages_l0 {α : Type} (bad : α) (k_ : Rows → α) (l1 : Int → Rows → Int → Rows → Bool → Int → α) (list_ : Rows) (domain : Int) (ih0 : Int → Rows → α) (p : Int) (out_ : Rows) : α :=
  bif decide (p < 64) then l1 p list_ (len list_) out_ false 0
  else k_ out_
def impl_WritablePages_l1 {α : Type} (bad : α) (k_ : Rows → α) (ih0 : Int → Rows → α) (domain : Int) (p : Int) (x : Rows) (x_1 : Int) (out_ : Rows) (ih1 : Bool → Int → α) (some : Bool) (x_2 : Int) : α :=
  bif decide (x_2 < x_1) then
    bif andt true (idx x_2 x) then
      ih1 (bif some then true else bif (rI (nth x (Int.toNat x_2)) 0) == domain then bif (rI (nth x (Int.toNat x_2)) 2) == p then rB (nth x (Int.toNat x_2)) 3 else false else false) (w64 (x_2 + 1))
    else bad
  else bif some then
    bif andt true (room2 8 out_ ([[.int p]])) then
      ih0 (w64 (p + 1)) (out_ ++ ([[.int p]]))
    else bad
  else ih0 (w64 (p + 1)) out_
def impl_WritablePages_L1 {α : Type} (bad : α) (k_ : Rows → α) (N : Nat) (ih0 : Int → Rows → α) (domain : Int) (p : Int) (x : Rows) (x_1 : Int) (out_ : Rows) (m_ : Nat) : Bool → Int → α :=
  Nat.rec (motive := fun _ => Bool → Int → α) (fun _ _ => bad) (fun _ ih1 => impl_WritablePages_l1 bad k_ ih0 domain p x x_1 out_ ih1) m_
theorem impl_WritablePages_L1_z {α : Type} (bad : α) (k_ : Rows → α) (N : Nat) (ih0 : Int → Rows → α) (domain : Int) (p : Int) (x : Rows) (x_1 : Int) (out_ : Rows) (some : Bool) (x_2 : Int) : impl_WritablePages_L1 bad k_ N ih0 domain p x x_1 out_ 0 some x_2 = bad := rfl
theorem impl_WritablePages_L1_s {α : Type} (bad : α) (k_ : Rows → α) (N : Nat) (ih0 : Int → Rows → α) (domain : Int) (p : Int) (x : Rows) (x_1 : Int) (out_ : Rows) (m_ : Nat) (some : Bool) (x_2 : Int) : impl_WritablePages_L1 bad k_ N ih0 domain p x x_1 out_ (m_ + 1) some x_2 = impl_WritablePages_l1 bad k_ ih0 domain p x x_1 out_ (impl_WritablePages_L1 bad k_ N ih0 domain p x x_1 out_ m_) some x_2 := rfl
def impl_WritablePages_L0 {α : Type} (bad : α) (k_ : Rows → α) (N : Nat) (list_ : Rows) (domain : Int) (m_ : Nat) : Int → Rows → α :=
  Nat.rec (motive := fun _ => Int → Rows → α) (fun _ _ => bad) (fun _ ih0 => impl_WritablePages_l0 bad k_ (fun p x x_1 out_ => impl_WritablePages_L1 bad k_ N ih0 domain p x x_1 out_ N) list_ domain ih0) m_
theorem impl_WritablePages_L0_z {α : Type} (bad : α) (k_ : Rows → α) (N : Nat) (list_ : Rows) (domain : Int) (p : Int) (out_ : Rows) : impl_WritablePages_L0 bad k_ N list_ domain 0 p out_ = bad := rfl
theorem impl_WritablePages_L0_s {α : Type} (bad : α) (k_ : Rows → α) (N : Nat) (list_ : Rows) (domain : Int) (m_ : Nat) (p : Int) (out_ : Rows) : impl_WritablePages_L0 bad k_ N list_ domain (m_ + 1) p out_ = impl_WritablePages_l0 bad k_ (fun p x x_1 out_ => impl_WritablePages_L1 bad k_ N (impl_WritablePages_L0 bad k_ N list_ domain m_) domain p x x_1 out_ N) list_ domain (impl_WritablePages_L0 bad k_ N list_ domain m_) p out_ := rfl
def impl_WritablePages_t {α : Type} (bad : α) (k_ : Rows → α) (l0 : Int → Rows → α) (list_ : Rows) (domain : Int) : α :=
  bif !(MappingsOk list_) then k_ []
  else l0 0 []
def impl_WritablePages_f {α : Type} (bad : α) (k_ : Rows → α) (N : Nat) (list_ : Rows) (domain : Int) : α := impl_WritablePages_t bad k_ (impl_WritablePages_L0 bad k_ N list_ domain N) list_ domain
def wpRow (domain : Int) (p : Nat) (r : List DC) : Bool := bif (rI r 0) == domain then bif (rI r 2) == (p : Int) then rB r 3 else false else false
def wpStep (list_ : Rows) (domain : Int) (p : Nat) (o : Rows) : Rows := bif list_.any (wpRow domain p) then o ++ [[.int (p : Int)]] else o
theorem wpStep_len (list_ : Rows) (domain : Int) (p : Nat) (o : Rows) : (wpStep list_ domain p o).length ≤ o.length + 1 := by
  unfold wpStep
  cases list_.any (wpRow domain p)
  · exact Nat.le_succ _
  · simp
def WritablePages (list_ : Rows) (domain : Int) : Rows := bif !(MappingsOk list_) then [] else itN (wpStep list_ domain) 64 0 []
theorem impl_WritablePages_c {α : Type} (bad : α) (k_ : Rows → α) (list_ : Rows) (domain : Int) (h_list_ : WtC (.sl [.int .i64, .int .i64, .int .i64, .bool]) (.sl list_)) (h_domain : WtC (.int .i64) (.int domain)) : ∃ N, impl_WritablePages_f bad k_ N list_ domain = k_ (WritablePages list_ domain) := by
  obtain ⟨hl, _⟩ := wt_sl h_list_
  refine ⟨list_.length + 66, ?_⟩
  unfold impl_WritablePages_f impl_WritablePages_t WritablePages
  have inner : ∀ (ih : Int → Rows → α) (p : Nat) (out_ : Rows), p < 64 → out_.length ≤ p → impl_WritablePages_L1 bad k_ (list_.length + 66) ih domain (p : Int) list_ (len list_) out_ (list_.length + 66) false 0 = ih ((p : Int) + 1) (wpStep list_ domain p out_) := by
    intro ih p out_ hp ho
    have hw : w64 ((p : Int) + 1) = (p : Int) + 1 := w64_in (by omega) (by omega)
    have hr : room2 8 out_ [[.int (p : Int)]] = true := room2_le (by simp only [List.length_cons, List.length_nil]; omega) (by omega)
    refine (loop_rowsS list_ (fun n i s => impl_WritablePages_L1 bad k_ (list_.length + 66) ih domain (p : Int) list_ (len list_) out_ n s i) (fun _ r c s => c (bif s then true else wpRow domain p r)) (fun s => ih ((p : Int) + 1) (bif s then out_ ++ [[.int (p : Int)]] else out_)) ?_ ?_ (list_.length + 66) false (by omega)).trans ?_
    · intro n i s h
      show impl_WritablePages_L1 bad k_ (list_.length + 66) ih domain (p : Int) list_ (len list_) out_ (n + 1) s (i : Int) = _
      rw [impl_WritablePages_L1_s]
      simp only [impl_WritablePages_l1, lt_len h, idx_nat h, w64_succ h hl, Int.toNat_natCast, andt_true_l, andt_true_r, okm_tt, cond_true]
      rfl
    · intro n s
      show impl_WritablePages_L1 bad k_ (list_.length + 66) ih domain (p : Int) list_ (len list_) out_ (n + 1) s (list_.length : Int) = _
      rw [impl_WritablePages_L1_s]
      simp only [impl_WritablePages_l1, not_lt_len, hw, hr, andt_true_l, cond_false, cond_true]
      cases s <;> rfl
    · exact go_or (wpRow domain p) (fun s => ih ((p : Int) + 1) (bif s then out_ ++ [[.int (p : Int)]] else out_)) list_ 0 false

  cases hm : MappingsOk list_
  · rfl
  · simp only [Bool.not_true, cond_false]
    refine loop_inv 64 (fun n p s => impl_WritablePages_L0 bad k_ (list_.length + 66) list_ domain n p s) (fun p s => wpStep list_ domain p s) k_ (fun p s => s.length ≤ p) ?_ ?_ ?_ (list_.length + 66) [] (by simp) (by omega)
    · intro p s hp hs
      have := wpStep_len list_ domain p s
      omega
    · intro n p s hp hs
      show impl_WritablePages_L0 bad k_ (list_.length + 66) list_ domain (n + 1) (p : Int) s = _
      rw [impl_WritablePages_L0_s]
      have h1 : decide ((p : Int) < 64) = true := decide_eq_true (by omega)
      simp only [impl_WritablePages_l0, h1, cond_true, inner _ p s hp hs]
    · intro n s hs
      show impl_WritablePages_L0 bad k_ (list_.length + 66) list_ domain (n + 1) 64 s = _
      rw [impl_WritablePages_L0_s]
      rfl

def spec_WritablePages_l0 {α : Type} (bad : α) (k_ : Rows → α) (l1 : Int → Rows → Bool → Int → α) (list_ : Rows) (domain : Int) (ih0 : Int → Rows → α) (p : Int) (out_ : Rows) : α :=
  bif bif decide (p < 64) then MappingsOk list_ else false then l1 p out_ false 0
  else k_ out_
def spec_WritablePages_l1 {α : Type} (bad : α) (k_ : Rows → α) (ih0 : Int → Rows → α) (list_ : Rows) (domain : Int) (p : Int) (out_ : Rows) (ih1 : Bool → Int → α) (is : Bool) (k : Int) : α :=
  let z0 : Bool := (rI (nth list_ (Int.toNat k)) 0) == domain
  let z1 : Bool := (rI (nth list_ (Int.toNat k)) 2) == p
  let z2 : Bool := andt (andt true (idx k list_)) (idx k list_)
  bif decide (k < len list_) then
    bif okm is true (okm z0 (okm z1 (andt z2 (idx k list_)) z2) (andt true (idx k list_))) then
      ih1 (bif is then true else bif z0 then bif z1 then rB (nth list_ (Int.toNat k)) 3 else false else false) (w64 (k + 1))
    else bad
  else bif is then
    bif andt true (room2 8 out_ ([[.int p]])) then
      ih0 (w64 (p + 1)) (out_ ++ ([[.int p]]))
    else bad
  else ih0 (w64 (p + 1)) out_
def spec_WritablePages_L1 {α : Type} (bad : α) (k_ : Rows → α) (N : Nat) (ih0 : Int → Rows → α) (list_ : Rows) (domain : Int) (p : Int) (out_ : Rows) (m_ : Nat) : Bool → Int → α :=
  Nat.rec (motive := fun _ => Bool → Int → α) (fun _ _ => bad) (fun _ ih1 => spec_WritablePages_l1 bad k_ ih0 list_ domain p out_ ih1) m_
theorem spec_WritablePages_L1_z {α : Type} (bad : α) (k_ : Rows → α) (N : Nat) (ih0 : Int → Rows → α) (list_ : Rows) (domain : Int) (p : Int) (out_ : Rows) (is : Bool) (k : Int) : spec_WritablePages_L1 bad k_ N ih0 list_ domain p out_ 0 is k = bad := rfl
theorem spec_WritablePages_L1_s {α : Type} (bad : α) (k_ : Rows → α) (N : Nat) (ih0 : Int → Rows → α) (list_ : Rows) (domain : Int) (p : Int) (out_ : Rows) (m_ : Nat) (is : Bool) (k : Int) : spec_WritablePages_L1 bad k_ N ih0 list_ domain p out_ (m_ + 1) is k = spec_WritablePages_l1 bad k_ ih0 list_ domain p out_ (spec_WritablePages_L1 bad k_ N ih0 list_ domain p out_ m_) is k := rfl
def spec_WritablePages_L0 {α : Type} (bad : α) (k_ : Rows → α) (N : Nat) (list_ : Rows) (domain : Int) (m_ : Nat) : Int → Rows → α :=
  Nat.rec (motive := fun _ => Int → Rows → α) (fun _ _ => bad) (fun _ ih0 => spec_WritablePages_l0 bad k_ (fun p out_ => spec_WritablePages_L1 bad k_ N ih0 list_ domain p out_ N) list_ domain ih0) m_
theorem spec_WritablePages_L0_z {α : Type} (bad : α) (k_ : Rows → α) (N : Nat) (list_ : Rows) (domain : Int) (p : Int) (out_ : Rows) : spec_WritablePages_L0 bad k_ N list_ domain 0 p out_ = bad := rfl
theorem spec_WritablePages_L0_s {α : Type} (bad : α) (k_ : Rows → α) (N : Nat) (list_ : Rows) (domain : Int) (m_ : Nat) (p : Int) (out_ : Rows) : spec_WritablePages_L0 bad k_ N list_ domain (m_ + 1) p out_ = spec_WritablePages_l0 bad k_ (fun p out_ => spec_WritablePages_L1 bad k_ N (spec_WritablePages_L0 bad k_ N list_ domain m_) list_ domain p out_ N) list_ domain (spec_WritablePages_L0 bad k_ N list_ domain m_) p out_ := rfl
def spec_WritablePages_t {α : Type} (bad : α) (k_ : Rows → α) (l0 : Int → Rows → α) (list_ : Rows) (domain : Int) : α :=
  l0 0 []
def spec_WritablePages_f {α : Type} (bad : α) (k_ : Rows → α) (N : Nat) (list_ : Rows) (domain : Int) : α := spec_WritablePages_t bad k_ (spec_WritablePages_L0 bad k_ N list_ domain N) list_ domain
theorem spec_WritablePages_c {α : Type} (bad : α) (k_ : Rows → α) (list_ : Rows) (domain : Int) (h_list_ : WtC (.sl [.int .i64, .int .i64, .int .i64, .bool]) (.sl list_)) (h_domain : WtC (.int .i64) (.int domain)) : ∃ N, spec_WritablePages_f bad k_ N list_ domain = k_ (WritablePages list_ domain) := by
  obtain ⟨hl, _⟩ := wt_sl h_list_
  refine ⟨list_.length + 66, ?_⟩
  unfold spec_WritablePages_f spec_WritablePages_t WritablePages
  have inner : ∀ (ih : Int → Rows → α) (p : Nat) (out_ : Rows), p < 64 → out_.length ≤ p → spec_WritablePages_L1 bad k_ (list_.length + 66) ih list_ domain (p : Int) out_ (list_.length + 66) false 0 = ih ((p : Int) + 1) (wpStep list_ domain p out_) := by
    intro ih p out_ hp ho
    have hw : w64 ((p : Int) + 1) = (p : Int) + 1 := w64_in (by omega) (by omega)
    have hr : room2 8 out_ [[.int (p : Int)]] = true := room2_le (by simp only [List.length_cons, List.length_nil]; omega) (by omega)
    refine (loop_rowsS list_ (fun n i s => spec_WritablePages_L1 bad k_ (list_.length + 66) ih list_ domain (p : Int) out_ n s i) (fun _ r c s => c (bif s then true else wpRow domain p r)) (fun s => ih ((p : Int) + 1) (bif s then out_ ++ [[.int (p : Int)]] else out_)) ?_ ?_ (list_.length + 66) false (by omega)).trans ?_
    · intro n i s h
      show spec_WritablePages_L1 bad k_ (list_.length + 66) ih list_ domain (p : Int) out_ (n + 1) s (i : Int) = _
      rw [spec_WritablePages_L1_s]
      simp only [spec_WritablePages_l1, lt_len h, idx_nat h, w64_succ h hl, Int.toNat_natCast, andt_true_l, andt_true_r, okm_tt, cond_true]
      rfl
    · intro n s
      show spec_WritablePages_L1 bad k_ (list_.length + 66) ih list_ domain (p : Int) out_ (n + 1) s (list_.length : Int) = _
      rw [spec_WritablePages_L1_s]
      simp only [spec_WritablePages_l1, not_lt_len, hw, hr, andt_true_l, cond_false, cond_true]
      cases s <;> rfl
    · exact go_or (wpRow domain p) (fun s => ih ((p : Int) + 1) (bif s then out_ ++ [[.int (p : Int)]] else out_)) list_ 0 false

  cases hm : MappingsOk list_
  · rw [show list_.length + 66 = (list_.length + 65) + 1 from rfl, spec_WritablePages_L0_s]
    simp only [spec_WritablePages_l0, hm]
    rfl
  · simp only [Bool.not_true, cond_false]
    refine loop_inv 64 (fun n p s => spec_WritablePages_L0 bad k_ (list_.length + 66) list_ domain n p s) (fun p s => wpStep list_ domain p s) k_ (fun p s => s.length ≤ p) ?_ ?_ ?_ (list_.length + 66) [] (by simp) (by omega)
    · intro p s hp hs
      have := wpStep_len list_ domain p s
      omega
    · intro n p s hp hs
      show spec_WritablePages_L0 bad k_ (list_.length + 66) list_ domain (n + 1) (p : Int) s = _
      rw [spec_WritablePages_L0_s]
      have h1 : decide ((p : Int) < 64) = true := decide_eq_true (by omega)
      simp only [spec_WritablePages_l0, h1, cond_true, hm, inner _ p s hp hs]
    · intro n s hs
      show spec_WritablePages_L0 bad k_ (list_.length + 66) list_ domain (n + 1) 64 s = _
      rw [spec_WritablePages_L0_s]
      rfl

end
end Go.Proofs.Ytfnkhejoihnlnaa.Pl
