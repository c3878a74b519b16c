/- What functions of the program compute, in plain Lean, as the value machine runs them. Conditions: none. -/
import Derived.Test.YtklbgnodgnlebaaPBa
set_option linter.unusedVariables false
set_option linter.unusedSimpArgs false
set_option maxRecDepth 100000
namespace Go.Proofs.Ytklbgnodgnlebaa.Pl
open Vm
noncomputable section


def impl_filterOf_t {α : Type} (k_ : SFilter → α) (x : SPort) : α :=
  k_ (⟨x.Mac, false, x.Vlans⟩ : SFilter)
def filterOf (x : SPort) : SFilter := impl_filterOf_t id x
theorem impl_filterOf_c {α : Type} (k_ : SFilter → α) (x : SPort) : impl_filterOf_t k_ x = k_ (filterOf x) := by
  rfl

def impl_portWith_l0 {α : Type} (bad : α) (k_ : Int → α) (mac : Int) (list_ : Rows) (x_1 : Int) (ih0 : Int → α) (x_2 : Int) : α :=
  bif decide (x_2 < x_1) then
    bif andt true (idx x_2 list_) then
      bif bif x_2 != 0 then (rI (nth list_ (Int.toNat x_2)) 0) == mac else false then k_ x_2
      else ih0 (w64 (x_2 + 1))
    else bad
  else k_ (-1)
def impl_portWith_L0 {α : Type} (bad : α) (k_ : Int → α) (N : Nat) (mac : Int) (list_ : Rows) (x_1 : Int) (m_ : Nat) : Int → α :=
  Nat.rec (motive := fun _ => Int → α) (fun _ => bad) (fun _ ih0 => impl_portWith_l0 bad k_ mac list_ x_1 ih0) m_
theorem impl_portWith_L0_z {α : Type} (bad : α) (k_ : Int → α) (N : Nat) (mac : Int) (list_ : Rows) (x_1 : Int) (x_2 : Int) : impl_portWith_L0 bad k_ N mac list_ x_1 0 x_2 = bad := rfl
theorem impl_portWith_L0_s {α : Type} (bad : α) (k_ : Int → α) (N : Nat) (mac : Int) (list_ : Rows) (x_1 : Int) (m_ : Nat) (x_2 : Int) : impl_portWith_L0 bad k_ N mac list_ x_1 (m_ + 1) x_2 = impl_portWith_l0 bad k_ mac list_ x_1 (impl_portWith_L0 bad k_ N mac list_ x_1 m_) x_2 := rfl
def impl_portWith_t {α : Type} (bad : α) (k_ : Int → α) (l0 : Int → Int → α) (list_ : Rows) (mac : Int) : α :=
  l0 (len list_) 0
def impl_portWith_f {α : Type} (bad : α) (k_ : Int → α) (N : Nat) (list_ : Rows) (mac : Int) : α := impl_portWith_t bad k_ (fun x_1 => impl_portWith_L0 bad k_ N mac list_ x_1 N) list_ mac
def portWith (list_ : Rows) (mac : Int) : Int := findIdx (fun i r => bif ((i : Nat) : Int) != 0 then (rI r 0) == mac else false) list_ 0
theorem impl_portWith_c {α : Type} (bad : α) (k_ : Int → α) (list_ : Rows) (mac : Int) (h_list_ : WtC (.sl [.int .i64, .sl [.int .i64], .int .i64, .bool]) (.sl list_)) (h_mac : WtC (.int .i64) (.int mac)) : ∃ N, impl_portWith_f bad k_ N list_ mac = k_ (portWith list_ mac) := by
  obtain ⟨hl, _⟩ := wt_sl h_list_
  refine ⟨list_.length + 1, ?_⟩
  unfold impl_portWith_f impl_portWith_t
  refine (loop_rows0 list_ (impl_portWith_L0 bad k_ (list_.length + 1) mac list_ (len list_)) (fun i r c => bif bif ((i : Nat) : Int) != 0 then (rI r 0) == mac else false then k_ (i : Int) else c) (k_ (-1)) ?_ ?_).trans ?_
  · intro n i h
    rw [impl_portWith_L0_s]
    simp only [impl_portWith_l0, lt_len h, idx_nat h, w64_succ h hl, Int.toNat_natCast, andt_true_l, andt_true_r, cond_true]
  · intro n
    rw [impl_portWith_L0_s]
    simp only [impl_portWith_l0, not_lt_len, cond_false]
  · exact go_findIdx (fun i r => bif ((i : Nat) : Int) != 0 then (rI r 0) == mac else false) k_ list_ 0

def impl_PortsOk_l0 {α : Type} (bad : α) (k_ : Bool → α) (list_ : Rows) (x : Rows) (x_1 : Int) (ih0 : Int → α) (x_2 : Int) : α :=
  bif decide (x_2 < x_1) then
    bif andt true (idx x_2 x) then
      bif bif !(FilterOk (filterOf (SPort.decAt (nth x (Int.toNat x_2)) 0))) then true else !(hasInt (rR (nth x (Int.toNat x_2)) 1) (rI (nth x (Int.toNat x_2)) 2)) then k_ false
      else bif bif x_2 != 0 then (portWith list_ (rI (nth x (Int.toNat x_2)) 0)) != x_2 else false then k_ false
      else ih0 (w64 (x_2 + 1))
    else bad
  else k_ true
def impl_PortsOk_L0 {α : Type} (bad : α) (k_ : Bool → α) (N : Nat) (list_ : Rows) (x : Rows) (x_1 : Int) (m_ : Nat) : Int → α :=
  Nat.rec (motive := fun _ => Int → α) (fun _ => bad) (fun _ ih0 => impl_PortsOk_l0 bad k_ list_ x x_1 ih0) m_
theorem impl_PortsOk_L0_z {α : Type} (bad : α) (k_ : Bool → α) (N : Nat) (list_ : Rows) (x : Rows) (x_1 : Int) (x_2 : Int) : impl_PortsOk_L0 bad k_ N list_ x x_1 0 x_2 = bad := rfl
theorem impl_PortsOk_L0_s {α : Type} (bad : α) (k_ : Bool → α) (N : Nat) (list_ : Rows) (x : Rows) (x_1 : Int) (m_ : Nat) (x_2 : Int) : impl_PortsOk_L0 bad k_ N list_ x x_1 (m_ + 1) x_2 = impl_PortsOk_l0 bad k_ list_ x x_1 (impl_PortsOk_L0 bad k_ N list_ x x_1 m_) x_2 := rfl
def impl_PortsOk_t {α : Type} (bad : α) (k_ : Bool → α) (l0 : Rows → Int → Int → α) (list_ : Rows) : α :=
  bif !(between (len list_) 1 8) then k_ false
  else l0 list_ (len list_) 0
def impl_PortsOk_f {α : Type} (bad : α) (k_ : Bool → α) (N : Nat) (list_ : Rows) : α := impl_PortsOk_t bad k_ (fun x x_1 => impl_PortsOk_L0 bad k_ N list_ x x_1 N) list_
def portBad (r : List DC) : Bool := bif !(FilterOk (⟨rI r 0, false, rR r 1⟩ : SFilter)) then true else !(hasInt (rR r 1) (rI r 2))
def PortsOk (list_ : Rows) : Bool := bif !(between (len list_) 1 8) then false else bif anyIdx (fun i r => bif portBad r then true else bif ((i : Nat) : Int) != 0 then (portWith list_ (rI r 0)) != (i : Int) else false) list_ 0 then false else true
theorem impl_PortsOk_c {α : Type} (bad : α) (k_ : Bool → α) (list_ : Rows) (h_list_ : WtC (.sl [.int .i64, .sl [.int .i64], .int .i64, .bool]) (.sl list_)) : ∃ N, impl_PortsOk_f bad k_ N list_ = k_ (PortsOk list_) := by
  obtain ⟨hl, _⟩ := wt_sl h_list_
  refine ⟨list_.length + 1, ?_⟩
  unfold impl_PortsOk_f impl_PortsOk_t PortsOk
  refine cond_k rfl ?_
  refine (loop_rows0 list_ (impl_PortsOk_L0 bad k_ (list_.length + 1) list_ list_ (len list_)) (fun i r c => bif (bif portBad r then true else bif ((i : Nat) : Int) != 0 then (portWith list_ (rI r 0)) != (i : Int) else false) then k_ false else c) (k_ true) ?_ ?_).trans ?_
  · intro n i h
    rw [impl_PortsOk_L0_s]
    simp only [impl_PortsOk_l0, lt_len h, idx_nat h, w64_succ h hl, Int.toNat_natCast, andt_true_l, andt_true_r, cond_true]
    show (bif portBad (nth list_ i) then k_ false else _) = _
    cases portBad (nth list_ i) <;> rfl
  · intro n
    rw [impl_PortsOk_L0_s]
    simp only [impl_PortsOk_l0, not_lt_len, cond_false]
  · refine (go_anyIdx (fun i r => bif portBad r then true else bif ((i : Nat) : Int) != 0 then (portWith list_ (rI r 0)) != (i : Int) else false) _ _ list_ 0).trans ?_
    exact cond_k rfl rfl

def spec_PortsOk_l0 {α : Type} (bad : α) (k_ : Bool → α) (l1 : Int → Int → α) (list_ : Rows) (ih0 : Int → α) (k : Int) : α :=
  let z0 : Bool := !(FilterOk (⟨rI (nth list_ (Int.toNat k)) 0, false, rR (nth list_ (Int.toNat k)) 1⟩ : SFilter))
  let z1 : Bool := andt (andt true (idx k list_)) (idx k list_)
  bif decide (k < len list_) then
    bif okm z0 z1 (andt (andt z1 (idx k list_)) (idx k list_)) then
      bif bif z0 then true else !(hasInt (rR (nth list_ (Int.toNat k)) 1) (rI (nth list_ (Int.toNat k)) 2)) then k_ false
      else l1 k 1
    else bad
  else k_ true
def spec_PortsOk_l1 {α : Type} (bad : α) (k_ : Bool → α) (ih0 : Int → α) (list_ : Rows) (k : Int) (ih1 : Int → α) (i : Int) : α :=
  bif decide (i < k) then
    bif andt (andt true (idx i list_)) (idx k list_) then
      bif (rI (nth list_ (Int.toNat i)) 0) == (rI (nth list_ (Int.toNat k)) 0) then k_ false
      else ih1 (w64 (i + 1))
    else bad
  else ih0 (w64 (k + 1))
def spec_PortsOk_L1 {α : Type} (bad : α) (k_ : Bool → α) (N : Nat) (ih0 : Int → α) (list_ : Rows) (k : Int) (m_ : Nat) : Int → α :=
  Nat.rec (motive := fun _ => Int → α) (fun _ => bad) (fun _ ih1 => spec_PortsOk_l1 bad k_ ih0 list_ k ih1) m_
theorem spec_PortsOk_L1_z {α : Type} (bad : α) (k_ : Bool → α) (N : Nat) (ih0 : Int → α) (list_ : Rows) (k : Int) (i : Int) : spec_PortsOk_L1 bad k_ N ih0 list_ k 0 i = bad := rfl
theorem spec_PortsOk_L1_s {α : Type} (bad : α) (k_ : Bool → α) (N : Nat) (ih0 : Int → α) (list_ : Rows) (k : Int) (m_ : Nat) (i : Int) : spec_PortsOk_L1 bad k_ N ih0 list_ k (m_ + 1) i = spec_PortsOk_l1 bad k_ ih0 list_ k (spec_PortsOk_L1 bad k_ N ih0 list_ k m_) i := rfl
def spec_PortsOk_L0 {α : Type} (bad : α) (k_ : Bool → α) (N : Nat) (list_ : Rows) (m_ : Nat) : Int → α :=
  Nat.rec (motive := fun _ => Int → α) (fun _ => bad) (fun _ ih0 => spec_PortsOk_l0 bad k_ (fun k => spec_PortsOk_L1 bad k_ N ih0 list_ k N) list_ ih0) m_
theorem spec_PortsOk_L0_z {α : Type} (bad : α) (k_ : Bool → α) (N : Nat) (list_ : Rows) (k : Int) : spec_PortsOk_L0 bad k_ N list_ 0 k = bad := rfl
theorem spec_PortsOk_L0_s {α : Type} (bad : α) (k_ : Bool → α) (N : Nat) (list_ : Rows) (m_ : Nat) (k : Int) : spec_PortsOk_L0 bad k_ N list_ (m_ + 1) k = spec_PortsOk_l0 bad k_ (fun k => spec_PortsOk_L1 bad k_ N (spec_PortsOk_L0 bad k_ N list_ m_) list_ k N) list_ (spec_PortsOk_L0 bad k_ N list_ m_) k := rfl
def spec_PortsOk_t {α : Type} (bad : α) (k_ : Bool → α) (l0 : Int → α) (list_ : Rows) : α :=
  bif !(between (len list_) 1 8) then k_ false
  else l0 0
def spec_PortsOk_f {α : Type} (bad : α) (k_ : Bool → α) (N : Nat) (list_ : Rows) : α := spec_PortsOk_t bad k_ (spec_PortsOk_L0 bad k_ N list_ N) list_
theorem spec_PortsOk_c {α : Type} (bad : α) (k_ : Bool → α) (list_ : Rows) (h_list_ : WtC (.sl [.int .i64, .sl [.int .i64], .int .i64, .bool]) (.sl list_)) : ∃ N, spec_PortsOk_f bad k_ N list_ = k_ (PortsOk list_) := by
  obtain ⟨hl, _⟩ := wt_sl h_list_
  refine ⟨list_.length + 2, ?_⟩
  unfold spec_PortsOk_f spec_PortsOk_t PortsOk
  refine cond_k rfl ?_
  have inner : ∀ (ih : Int → α) (i : Nat), i < list_.length → spec_PortsOk_L1 bad k_ (list_.length + 2) ih list_ (i : Int) (list_.length + 2) 1 = bif anyN (fun j => (rI (nth list_ (j + 1)) 0) == (rI (nth list_ i) 0)) (i - 1) 0 then k_ false else ih ((i : Int) + 1) := by
    intro ih i hi
    have hw : w64 ((i : Int) + 1) = (i : Int) + 1 := w64_succ hi hl
    have := loop_nat (σ := Unit) (i - 1) (fun n j _ => spec_PortsOk_L1 bad k_ (list_.length + 2) ih list_ (i : Int) n (j + 1)) (fun j c s => bif (rI (nth list_ (j + 1)) 0) == (rI (nth list_ i) 0) then k_ false else c s) (fun _ => ih ((i : Int) + 1)) ?_ ?_ (list_.length + 2) () (by omega)
    · exact this.trans (go_anyN (fun j => (rI (nth list_ (j + 1)) 0) == (rI (nth list_ i) 0)) (k_ false) (ih ((i : Int) + 1)) (i - 1) 0)
    · intro n j _ hj
      show spec_PortsOk_L1 bad k_ (list_.length + 2) ih list_ (i : Int) (n + 1) ((j : Int) + 1) = _
      rw [spec_PortsOk_L1_s]
      have h1 : decide ((j : Int) + 1 < (i : Int)) = true := decide_eq_true (by omega)
      have h2 : idx ((j : Int) + 1) list_ = true := by
        rw [show (j : Int) + 1 = ((j + 1 : Nat) : Int) by omega]
        exact idx_nat (by omega)
      have h3 : w64 ((j : Int) + 1 + 1) = (j : Int) + 1 + 1 := w64_in (by omega) (by omega)
      have h4 : Int.toNat ((j : Int) + 1) = j + 1 := by omega
      simp only [spec_PortsOk_l1, h1, h2, h3, h4, idx_nat hi, Int.toNat_natCast, andt_true_l, andt_true_r, cond_true]
    · intro n _
      show spec_PortsOk_L1 bad k_ (list_.length + 2) ih list_ (i : Int) (n + 1) (((i - 1 : Nat) : Int) + 1) = _
      rw [spec_PortsOk_L1_s]
      have h1 : decide (((i - 1 : Nat) : Int) + 1 < (i : Int)) = false := decide_eq_false (by omega)
      simp only [spec_PortsOk_l1, h1, hw, cond_false]
  refine (loop_rowsN list_ (spec_PortsOk_L0 bad k_ (list_.length + 2) list_) (fun i r c => bif (bif portBad r then true else anyN (fun j => (rI (nth list_ (j + 1)) 0) == (rI r 0)) (i - 1) 0) then k_ false else c) (k_ true) ?_ ?_ (list_.length + 2) (by omega)).trans ?_
  · intro n i h
    rw [spec_PortsOk_L0_s]
    simp only [spec_PortsOk_l0, lt_len h, idx_nat h, Int.toNat_natCast, andt_true_l, andt_true_r, cond_true, okm_tt, inner _ i h]
    show (bif portBad (nth list_ i) then k_ false else _) = _
    cases portBad (nth list_ i) <;> rfl
  · intro n
    rw [spec_PortsOk_L0_s]
    simp only [spec_PortsOk_l0, not_lt_len, cond_false]
  · refine (go_anyIdx (fun i r => bif portBad r then true else anyN (fun j => (rI (nth list_ (j + 1)) 0) == (rI r 0)) (i - 1) 0) _ _ list_ 0).trans ?_
    have e : anyIdx (fun i r => bif portBad r then true else anyN (fun j => (rI (nth list_ (j + 1)) 0) == (rI r 0)) (i - 1) 0) list_ 0 = anyIdx (fun i r => bif portBad r then true else bif ((i : Nat) : Int) != 0 then (portWith list_ (rI r 0)) != (i : Int) else false) list_ 0 := by
      apply anyIdx_congr
      intro i hi
      rw [Nat.zero_add]
      have : anyN (fun j => (rI (nth list_ (j + 1)) 0) == (rI (nth list_ i) 0)) (i - 1) 0 = (bif ((i : Nat) : Int) != 0 then (portWith list_ (rI (nth list_ i) 0)) != (i : Int) else false) := by
        cases i with
        | zero => rfl
        | succ i =>
          have h0 : (((i + 1 : Nat) : Int) != 0) = true := by simp only [bne_iff_ne, ne_eq]; omega
          rw [h0, cond_true]
          have hf := findIdx_ne (fun k r => bif ((k : Nat) : Int) != 0 then (rI r 0) == (rI (nth list_ (i + 1)) 0) else false) list_ 0 (i + 1) hi (by
            show (bif (((0 + (i + 1) : Nat) : Int) != 0) then _ else false) = true
            rw [Nat.zero_add, h0, cond_true]
            simp)
          rw [Nat.zero_add] at hf
          unfold portWith
          rw [hf]
          simp only [anyN]
          have e0 : (bif (((0 + 0 : Nat) : Int) != 0) then (rI (nth list_ 0) 0) == (rI (nth list_ (i + 1)) 0) else false) = false := rfl
          rw [e0, cond_false, anyN_shift]
          apply anyN_congr
          intro j _ _
          have h1 : (((0 + (j + 1) : Nat) : Int) != 0) = true := by simp only [bne_iff_ne, ne_eq]; omega
          rw [h1, cond_true]
      rw [this]
    rw [e]
    exact cond_k rfl rfl

def laws_FnExactPortsOk_t {α : Type} (bad : α) (k_ : Bool → α) (aList : Rows) : α :=
  bif decide (laws_szPortS aList 1048576 < 0) then k_ true
  else bif andt true (laws_toPortS_ok aList) then
      bif andt true (laws_toPortS_ok aList) then
        bif !((PortsOk (idf aList)) == (PortsOk (idf aList))) then k_ false
        else bif andt (andt true (laws_toPortS_ok aList)) (same (idf aList) (idf aList)) then
            bif !(yes2 (idf aList) (idf aList)) then k_ false
            else k_ true
          else bad
      else bad
    else bad
theorem laws_FnExactPortsOk_c {α : Type} (bad : α) (k_ : Bool → α) (aList : Rows) (h_aList : WtC (.sl [.int .i64, .sl [.int .i64], .int .i64, .bool]) (.sl aList)) (hok : fitL ((.sl [.int .i64, .sl [.int .i64], .int .i64, .bool]) :: ([])) (.sl aList :: ([])) = true) : laws_FnExactPortsOk_t bad k_ aList = k_ true := by
  unfold laws_FnExactPortsOk_t
  by_cases c0 : laws_szPortS aList 1048576 < 0
  · simp only [c0, decide_true, decide_false, cond_true, cond_false]
  have k0 := laws_szPortS_ok h_aList (by omega) (by omega) (Int.not_lt.1 c0)
  simp only [c0, decide_false, cond_false, cond_true, idf, k0.2, andt_true_l, andt_true_r, same_refl, yes2, beq_self_eq_true, bne_self_eq_false, Bool.not_true, okm_tt]

end
end Go.Proofs.Ytklbgnodgnlebaa.Pl
