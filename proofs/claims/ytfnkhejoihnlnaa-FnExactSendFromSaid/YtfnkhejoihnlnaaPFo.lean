/- What functions of the program compute, in plain Lean, as the value machine runs them. Conditions: none. -/
import Derived.Test.YtfnkhejoihnlnaaPSx
import Derived.Test.YtfnkhejoihnlnaaPBa
set_option linter.unusedVariables false
set_option linter.unusedSimpArgs false
set_option maxRecDepth 100000
namespace Go.Proofs.Ytfnkhejoihnlnaa.Pl
open Vm
noncomputable section


def impl_BucketOk_t {α : Type} (k_ : Bool → α) (b : SBucket) : α :=
  k_ (bif between b.Rate 0 10000 then bif between b.Burst 0 100000 then between b.Tokens 0 b.Burst else false else false)
def BucketOk (b : SBucket) : Bool := impl_BucketOk_t id b
theorem impl_BucketOk_c {α : Type} (k_ : Bool → α) (b : SBucket) : impl_BucketOk_t k_ b = k_ (BucketOk b) := by
  rfl

def spec_BucketOk_t {α : Type} (k_ : Bool → α) (b : SBucket) : α :=
  k_ (bif between b.Rate 0 10000 then bif between b.Burst 0 100000 then between b.Tokens 0 b.Burst else false else false)
theorem spec_BucketOk_c {α : Type} (k_ : Bool → α) (b : SBucket) (h_b : WtL SBucket.ct b.enc) : spec_BucketOk_t k_ b = k_ (BucketOk b) := by
  exact rfl

def impl_FunctionsOk_l0 {α : Type} (bad : α) (k_ : Bool → α) (l1 : Int → Rows → Int → Int → Int → Int → α) (list_ : Rows) (ports : Rows) (x : Rows) (x_1 : Int) (ih0 : Int → α) (x_2 : Int) : α :=
  bif decide (x_2 < x_1) then
    bif andt true (idx x_2 x) then
      bif bif !(between (rI (nth x (Int.toNat x_2)) 0) 0 7) then true else bif !(between (rI (nth x (Int.toNat x_2)) 1) 1 (w64 ((len ports) - 1))) then true else bif !(BucketOk (SBucket.decAt (nth x (Int.toNat x_2)) 2)) then true else bif !(between (rI (nth x (Int.toNat x_2)) 6) 0 1000000000000) then true else !(between (rI (nth x (Int.toNat x_2)) 7) 0 1000000000000) then k_ false
      else bif andt true (okH list_ x_2) then
          l1 x_2 (subH list_ x_2) (len (subH list_ x_2)) (rI (nth x (Int.toNat x_2)) 0) (rI (nth x (Int.toNat x_2)) 1) 0
        else bad
    else bad
  else k_ true
def impl_FunctionsOk_l1 {α : Type} (bad : α) (k_ : Bool → α) (ih0 : Int → α) (x_2 : Int) (x_6 : Rows) (x_7 : Int) (f : Int) (f_1 : Int) (ih1 : Int → α) (x_8 : Int) : α :=
  bif decide (x_8 < x_7) then
    bif andt true (idx x_8 x_6) then
      bif bif (rI (nth x_6 (Int.toNat x_8)) 0) == f then true else (rI (nth x_6 (Int.toNat x_8)) 1) == f_1 then k_ false
      else ih1 (w64 (x_8 + 1))
    else bad
  else ih0 (w64 (x_2 + 1))
def impl_FunctionsOk_L1 {α : Type} (bad : α) (k_ : Bool → α) (N : Nat) (ih0 : Int → α) (x_2 : Int) (x_6 : Rows) (x_7 : Int) (f : Int) (f_1 : Int) (m_ : Nat) : Int → α :=
  Nat.rec (motive := fun _ => Int → α) (fun _ => bad) (fun _ ih1 => impl_FunctionsOk_l1 bad k_ ih0 x_2 x_6 x_7 f f_1 ih1) m_
theorem impl_FunctionsOk_L1_z {α : Type} (bad : α) (k_ : Bool → α) (N : Nat) (ih0 : Int → α) (x_2 : Int) (x_6 : Rows) (x_7 : Int) (f : Int) (f_1 : Int) (x_8 : Int) : impl_FunctionsOk_L1 bad k_ N ih0 x_2 x_6 x_7 f f_1 0 x_8 = bad := rfl
theorem impl_FunctionsOk_L1_s {α : Type} (bad : α) (k_ : Bool → α) (N : Nat) (ih0 : Int → α) (x_2 : Int) (x_6 : Rows) (x_7 : Int) (f : Int) (f_1 : Int) (m_ : Nat) (x_8 : Int) : impl_FunctionsOk_L1 bad k_ N ih0 x_2 x_6 x_7 f f_1 (m_ + 1) x_8 = impl_FunctionsOk_l1 bad k_ ih0 x_2 x_6 x_7 f f_1 (impl_FunctionsOk_L1 bad k_ N ih0 x_2 x_6 x_7 f f_1 m_) x_8 := rfl
def impl_FunctionsOk_L0 {α : Type} (bad : α) (k_ : Bool → α) (N : Nat) (list_ : Rows) (ports : Rows) (x : Rows) (x_1 : Int) (m_ : Nat) : Int → α :=
  Nat.rec (motive := fun _ => Int → α) (fun _ => bad) (fun _ ih0 => impl_FunctionsOk_l0 bad k_ (fun x_2 x_6 x_7 f f_1 => impl_FunctionsOk_L1 bad k_ N ih0 x_2 x_6 x_7 f f_1 N) list_ ports x x_1 ih0) m_
theorem impl_FunctionsOk_L0_z {α : Type} (bad : α) (k_ : Bool → α) (N : Nat) (list_ : Rows) (ports : Rows) (x : Rows) (x_1 : Int) (x_2 : Int) : impl_FunctionsOk_L0 bad k_ N list_ ports x x_1 0 x_2 = bad := rfl
theorem impl_FunctionsOk_L0_s {α : Type} (bad : α) (k_ : Bool → α) (N : Nat) (list_ : Rows) (ports : Rows) (x : Rows) (x_1 : Int) (m_ : Nat) (x_2 : Int) : impl_FunctionsOk_L0 bad k_ N list_ ports x x_1 (m_ + 1) x_2 = impl_FunctionsOk_l0 bad k_ (fun x_2 x_6 x_7 f f_1 => impl_FunctionsOk_L1 bad k_ N (impl_FunctionsOk_L0 bad k_ N list_ ports x x_1 m_) x_2 x_6 x_7 f f_1 N) list_ ports x x_1 (impl_FunctionsOk_L0 bad k_ N list_ ports x x_1 m_) x_2 := rfl
def impl_FunctionsOk_t {α : Type} (bad : α) (k_ : Bool → α) (l0 : Rows → Int → Int → α) (list_ : Rows) (ports : Rows) : α :=
  bif !(PortsOk ports) then k_ false
  else l0 list_ (len list_) 0
def impl_FunctionsOk_f {α : Type} (bad : α) (k_ : Bool → α) (N : Nat) (list_ : Rows) (ports : Rows) : α := impl_FunctionsOk_t bad k_ (fun x x_1 => impl_FunctionsOk_L0 bad k_ N list_ ports x x_1 N) list_ ports
def fnBad (ports : Rows) (r : List DC) : Bool := bif !(between (rI r 0) 0 7) then true else bif !(between (rI r 1) 1 (w64 ((len ports) - 1))) then true else bif !(BucketOk (SBucket.decAt r 2)) then true else bif !(between (rI r 6) 0 1000000000000) then true else !(between (rI r 7) 0 1000000000000)
def FunctionsOk (list_ : Rows) (ports : Rows) : Bool := bif !(PortsOk ports) then false else bif anyIdx (fun i r => bif fnBad ports r then true else anyN (fun j => bif (rI (nth list_ j) 0) == (rI r 0) then true else (rI (nth list_ j) 1) == (rI r 1)) i 0) list_ 0 then false else true
theorem impl_FunctionsOk_c {α : Type} (bad : α) (k_ : Bool → α) (list_ : Rows) (ports : Rows) (h_list_ : WtC (.sl [.int .i64, .int .i64, .int .i64, .int .i64, .int .i64, .bool, .int .i64, .int .i64]) (.sl list_)) (h_ports : WtC (.sl [.int .i64, .sl [.int .i64], .int .i64, .bool]) (.sl ports)) : ∃ N, impl_FunctionsOk_f bad k_ N list_ ports = k_ (FunctionsOk list_ ports) := by
  obtain ⟨hl, _⟩ := wt_sl h_list_
  refine ⟨list_.length + 1, ?_⟩
  unfold impl_FunctionsOk_f impl_FunctionsOk_t FunctionsOk
  refine cond_k rfl ?_
  have inner : ∀ (ih : Int → α) (i : Nat), i < list_.length → impl_FunctionsOk_L1 bad k_ (list_.length + 1) ih (i : Int) (subH list_ (i : Int)) (len (subH list_ (i : Int))) (rI (nth list_ i) 0) (rI (nth list_ i) 1) (list_.length + 1) 0 = bif anyN (fun j => bif (rI (nth list_ j) 0) == (rI (nth list_ i) 0) then true else (rI (nth list_ j) 1) == (rI (nth list_ i) 1)) i 0 then k_ false else ih ((i : Int) + 1) := by
    intro ih i hi
    have hw : w64 ((i : Int) + 1) = (i : Int) + 1 := w64_succ hi hl
    have hln : len (subH list_ (i : Int)) = (i : Int) := by simp only [len, subH_length (Nat.le_of_lt hi)]
    have := loop_nat (σ := Unit) i (fun n j _ => impl_FunctionsOk_L1 bad k_ (list_.length + 1) ih (i : Int) (subH list_ (i : Int)) (len (subH list_ (i : Int))) (rI (nth list_ i) 0) (rI (nth list_ i) 1) n j) (fun j c s => bif (bif (rI (nth list_ j) 0) == (rI (nth list_ i) 0) then true else (rI (nth list_ j) 1) == (rI (nth list_ i) 1)) then k_ false else c s) (fun _ => ih ((i : Int) + 1)) ?_ ?_ (list_.length + 1) () (by omega)
    · exact this.trans (go_anyN (fun j => bif (rI (nth list_ j) 0) == (rI (nth list_ i) 0) then true else (rI (nth list_ j) 1) == (rI (nth list_ i) 1)) (k_ false) (ih ((i : Int) + 1)) i 0)
    · intro n j _ hj
      show impl_FunctionsOk_L1 bad k_ (list_.length + 1) ih (i : Int) (subH list_ (i : Int)) (len (subH list_ (i : Int))) (rI (nth list_ i) 0) (rI (nth list_ i) 1) (n + 1) (j : Int) = _
      rw [impl_FunctionsOk_L1_s]
      have h1 : decide ((j : Int) < (i : Int)) = true := decide_eq_true (by omega)
      have h2 : idx (j : Int) (subH list_ (i : Int)) = true := idx_nat (by rw [subH_length (Nat.le_of_lt hi)]; exact hj)
      have h3 : w64 ((j : Int) + 1) = (j : Int) + 1 := w64_in (by omega) (by omega)
      simp only [impl_FunctionsOk_l1, hln, h1, h2, h3, Int.toNat_natCast, nth_subH hj (Nat.le_of_lt hi), andt_true_l, andt_true_r, cond_true]
    · intro n _
      show impl_FunctionsOk_L1 bad k_ (list_.length + 1) ih (i : Int) (subH list_ (i : Int)) (len (subH list_ (i : Int))) (rI (nth list_ i) 0) (rI (nth list_ i) 1) (n + 1) (i : Int) = _
      rw [impl_FunctionsOk_L1_s]
      have h1 : decide ((i : Int) < (i : Int)) = false := decide_eq_false (by omega)
      simp only [impl_FunctionsOk_l1, hln, h1, hw, cond_false]
  refine (loop_rowsN list_ (impl_FunctionsOk_L0 bad k_ (list_.length + 1) list_ ports list_ (len list_)) (fun i r c => bif (bif fnBad ports r then true else anyN (fun j => bif (rI (nth list_ j) 0) == (rI r 0) then true else (rI (nth list_ j) 1) == (rI r 1)) i 0) then k_ false else c) (k_ true) ?_ ?_ (list_.length + 1) (by omega)).trans ?_
  · intro n i h
    rw [impl_FunctionsOk_L0_s]
    simp only [impl_FunctionsOk_l0, lt_len h, idx_nat h, okH_nat (Nat.le_of_lt h), Int.toNat_natCast, andt_true_l, andt_true_r, cond_true, okm_tt, inner _ i h]
    show (bif fnBad ports (nth list_ i) then k_ false else _) = _
    cases fnBad ports (nth list_ i) <;> rfl
  · intro n
    rw [impl_FunctionsOk_L0_s]
    simp only [impl_FunctionsOk_l0, not_lt_len, cond_false]
  · refine (go_anyIdx (fun i r => bif fnBad ports r then true else anyN (fun j => bif (rI (nth list_ j) 0) == (rI r 0) then true else (rI (nth list_ j) 1) == (rI r 1)) i 0) _ _ list_ 0).trans ?_
    exact cond_k rfl rfl

def spec_FunctionsOk_l0 {α : Type} (bad : α) (k_ : Bool → α) (l1 : Int → Int → Int → Int → α) (list_ : Rows) (ports : Rows) (ih0 : Int → α) (k : Int) : α :=
  bif decide (k < len list_) then
    bif andt true (idx k list_) then
      bif bif !(between (rI (nth list_ (Int.toNat k)) 0) 0 7) then true else bif !(between (rI (nth list_ (Int.toNat k)) 1) 1 (w64 ((len ports) - 1))) then true else bif !(BucketOk (SBucket.decAt (nth list_ (Int.toNat k)) 2)) then true else bif !(between (rI (nth list_ (Int.toNat k)) 6) 0 1000000000000) then true else !(between (rI (nth list_ (Int.toNat k)) 7) 0 1000000000000) then k_ false
      else l1 k (rI (nth list_ (Int.toNat k)) 0) (rI (nth list_ (Int.toNat k)) 1) 0
    else bad
  else k_ true
def spec_FunctionsOk_l1 {α : Type} (bad : α) (k_ : Bool → α) (ih0 : Int → α) (list_ : Rows) (k : Int) (x : Int) (x_1 : Int) (ih1 : Int → α) (i : Int) : α :=
  let z0 : Bool := (rI (nth list_ (Int.toNat i)) 0) == x
  bif decide (i < k) then
    bif okm z0 (andt true (idx i list_)) (andt (andt true (idx i list_)) (idx i list_)) then
      bif bif z0 then true else (rI (nth list_ (Int.toNat i)) 1) == x_1 then k_ false
      else ih1 (w64 (i + 1))
    else bad
  else ih0 (w64 (k + 1))
def spec_FunctionsOk_L1 {α : Type} (bad : α) (k_ : Bool → α) (N : Nat) (ih0 : Int → α) (list_ : Rows) (k : Int) (x : Int) (x_1 : Int) (m_ : Nat) : Int → α :=
  Nat.rec (motive := fun _ => Int → α) (fun _ => bad) (fun _ ih1 => spec_FunctionsOk_l1 bad k_ ih0 list_ k x x_1 ih1) m_
theorem spec_FunctionsOk_L1_z {α : Type} (bad : α) (k_ : Bool → α) (N : Nat) (ih0 : Int → α) (list_ : Rows) (k : Int) (x : Int) (x_1 : Int) (i : Int) : spec_FunctionsOk_L1 bad k_ N ih0 list_ k x x_1 0 i = bad := rfl
theorem spec_FunctionsOk_L1_s {α : Type} (bad : α) (k_ : Bool → α) (N : Nat) (ih0 : Int → α) (list_ : Rows) (k : Int) (x : Int) (x_1 : Int) (m_ : Nat) (i : Int) : spec_FunctionsOk_L1 bad k_ N ih0 list_ k x x_1 (m_ + 1) i = spec_FunctionsOk_l1 bad k_ ih0 list_ k x x_1 (spec_FunctionsOk_L1 bad k_ N ih0 list_ k x x_1 m_) i := rfl
def spec_FunctionsOk_L0 {α : Type} (bad : α) (k_ : Bool → α) (N : Nat) (list_ : Rows) (ports : Rows) (m_ : Nat) : Int → α :=
  Nat.rec (motive := fun _ => Int → α) (fun _ => bad) (fun _ ih0 => spec_FunctionsOk_l0 bad k_ (fun k x x_1 => spec_FunctionsOk_L1 bad k_ N ih0 list_ k x x_1 N) list_ ports ih0) m_
theorem spec_FunctionsOk_L0_z {α : Type} (bad : α) (k_ : Bool → α) (N : Nat) (list_ : Rows) (ports : Rows) (k : Int) : spec_FunctionsOk_L0 bad k_ N list_ ports 0 k = bad := rfl
theorem spec_FunctionsOk_L0_s {α : Type} (bad : α) (k_ : Bool → α) (N : Nat) (list_ : Rows) (ports : Rows) (m_ : Nat) (k : Int) : spec_FunctionsOk_L0 bad k_ N list_ ports (m_ + 1) k = spec_FunctionsOk_l0 bad k_ (fun k x x_1 => spec_FunctionsOk_L1 bad k_ N (spec_FunctionsOk_L0 bad k_ N list_ ports m_) list_ k x x_1 N) list_ ports (spec_FunctionsOk_L0 bad k_ N list_ ports m_) k := rfl
def spec_FunctionsOk_t {α : Type} (bad : α) (k_ : Bool → α) (l0 : Int → α) (list_ : Rows) (ports : Rows) : α :=
  bif !(PortsOk ports) then k_ false
  else l0 0
def spec_FunctionsOk_f {α : Type} (bad : α) (k_ : Bool → α) (N : Nat) (list_ : Rows) (ports : Rows) : α := spec_FunctionsOk_t bad k_ (spec_FunctionsOk_L0 bad k_ N list_ ports N) list_ ports
theorem spec_FunctionsOk_c {α : Type} (bad : α) (k_ : Bool → α) (list_ : Rows) (ports : Rows) (h_list_ : WtC (.sl [.int .i64, .int .i64, .int .i64, .int .i64, .int .i64, .bool, .int .i64, .int .i64]) (.sl list_)) (h_ports : WtC (.sl [.int .i64, .sl [.int .i64], .int .i64, .bool]) (.sl ports)) : ∃ N, spec_FunctionsOk_f bad k_ N list_ ports = k_ (FunctionsOk list_ ports) := by
  obtain ⟨hl, _⟩ := wt_sl h_list_
  refine ⟨list_.length + 1, ?_⟩
  unfold spec_FunctionsOk_f spec_FunctionsOk_t FunctionsOk
  refine cond_k rfl ?_
  have inner : ∀ (ih : Int → α) (i : Nat), i < list_.length → spec_FunctionsOk_L1 bad k_ (list_.length + 1) ih list_ (i : Int) (rI (nth list_ i) 0) (rI (nth list_ i) 1) (list_.length + 1) 0 = bif anyN (fun j => bif (rI (nth list_ j) 0) == (rI (nth list_ i) 0) then true else (rI (nth list_ j) 1) == (rI (nth list_ i) 1)) i 0 then k_ false else ih ((i : Int) + 1) := by
    intro ih i hi
    have hw : w64 ((i : Int) + 1) = (i : Int) + 1 := w64_succ hi hl
    have := loop_nat (σ := Unit) i (fun n j _ => spec_FunctionsOk_L1 bad k_ (list_.length + 1) ih list_ (i : Int) (rI (nth list_ i) 0) (rI (nth list_ i) 1) n j) (fun j c s => bif (bif (rI (nth list_ j) 0) == (rI (nth list_ i) 0) then true else (rI (nth list_ j) 1) == (rI (nth list_ i) 1)) then k_ false else c s) (fun _ => ih ((i : Int) + 1)) ?_ ?_ (list_.length + 1) () (by omega)
    · exact this.trans (go_anyN (fun j => bif (rI (nth list_ j) 0) == (rI (nth list_ i) 0) then true else (rI (nth list_ j) 1) == (rI (nth list_ i) 1)) (k_ false) (ih ((i : Int) + 1)) i 0)
    · intro n j _ hj
      show spec_FunctionsOk_L1 bad k_ (list_.length + 1) ih list_ (i : Int) (rI (nth list_ i) 0) (rI (nth list_ i) 1) (n + 1) (j : Int) = _
      rw [spec_FunctionsOk_L1_s]
      have h1 : decide ((j : Int) < (i : Int)) = true := decide_eq_true (by omega)
      have h2 : idx (j : Int) list_ = true := idx_nat (by omega)
      have h3 : w64 ((j : Int) + 1) = (j : Int) + 1 := w64_in (by omega) (by omega)
      simp only [spec_FunctionsOk_l1, h1, h2, h3, Int.toNat_natCast, andt_true_l, andt_true_r, okm_tt, cond_true]
    · intro n _
      show spec_FunctionsOk_L1 bad k_ (list_.length + 1) ih list_ (i : Int) (rI (nth list_ i) 0) (rI (nth list_ i) 1) (n + 1) (i : Int) = _
      rw [spec_FunctionsOk_L1_s]
      have h1 : decide ((i : Int) < (i : Int)) = false := decide_eq_false (by omega)
      simp only [spec_FunctionsOk_l1, h1, hw, cond_false]
  refine (loop_rowsN list_ (spec_FunctionsOk_L0 bad k_ (list_.length + 1) list_ ports) (fun i r c => bif (bif fnBad ports r then true else anyN (fun j => bif (rI (nth list_ j) 0) == (rI r 0) then true else (rI (nth list_ j) 1) == (rI r 1)) i 0) then k_ false else c) (k_ true) ?_ ?_ (list_.length + 1) (by omega)).trans ?_
  · intro n i h
    rw [spec_FunctionsOk_L0_s]
    simp only [spec_FunctionsOk_l0, lt_len h, idx_nat h, okH_nat (Nat.le_of_lt h), Int.toNat_natCast, andt_true_l, andt_true_r, cond_true, okm_tt, inner _ i h]
    show (bif fnBad ports (nth list_ i) then k_ false else _) = _
    cases fnBad ports (nth list_ i) <;> rfl
  · intro n
    rw [spec_FunctionsOk_L0_s]
    simp only [spec_FunctionsOk_l0, not_lt_len, cond_false]
  · refine (go_anyIdx (fun i r => bif fnBad ports r then true else anyN (fun j => bif (rI (nth list_ j) 0) == (rI r 0) then true else (rI (nth list_ j) 1) == (rI r 1)) i 0) _ _ list_ 0).trans ?_
    exact cond_k rfl rfl

end
end Go.Proofs.Ytfnkhejoihnlnaa.Pl
