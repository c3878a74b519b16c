/- What functions of the program compute, in plain Lean, as the value machine runs them. Conditions: none. -/
import Derived.Test.YtfnkhejoihnlnaaPBa
set_option linter.unusedVariables false
set_option linter.unusedSimpArgs false
set_option maxRecDepth 100000
namespace Go.Proofs.Ytfnkhejoihnlnaa.Pl
open Vm
noncomputable section

structure SPort where
  Mac : Int
  Vlans : Rows
  Native : Int
  Strict : Bool
def SPort.enc (x : SPort) : List DC := [.int x.Mac, .sl x.Vlans, .int x.Native, .bool x.Strict]
def SPort.decAt (r : List DC) (o : Nat) : SPort := ⟨rI r (o + 0), rR r (o + 1), rI r (o + 2), rB r (o + 3)⟩
def SPort.ct : List CT := [.int .i64, .sl [.int .i64], .int .i64, .bool]
theorem SPort.eta {r : List DC} (h : WtL SPort.ct r) : (SPort.decAt r 0).enc = r := (show (SPort.decAt r 0).enc = canonL SPort.ct r 0 from by kernel_rfl).trans (canon_eq h)
theorem SPort.of_wt {r : List CT} {ds : List DC} (h : WtL (SPort.ct ++ r) ds) : ∃ (x : SPort) (ds' : List DC), ds = x.enc ++ ds' ∧ WtL SPort.ct x.enc ∧ WtL r ds' := by
  obtain ⟨d1, d2, rfl, h1, h2⟩ := wtl_split h
  exact ⟨SPort.decAt d1 0, d2, by rw [SPort.eta h1], by rw [SPort.eta h1]; exact h1, h2⟩
theorem SPort.wt_Mac {x : SPort} (h : WtL SPort.ct x.enc) : WtC (.int .i64) (.int x.Mac) := wtl_get 0 h rfl rfl
theorem SPort.wt_Vlans {x : SPort} (h : WtL SPort.ct x.enc) : WtC (.sl [.int .i64]) (.sl x.Vlans) := wtl_get 1 h rfl rfl
theorem SPort.wt_Native {x : SPort} (h : WtL SPort.ct x.enc) : WtC (.int .i64) (.int x.Native) := wtl_get 2 h rfl rfl
theorem SPort.wt_Strict {x : SPort} (h : WtL SPort.ct x.enc) : WtC .bool (.bool x.Strict) := wtl_get 3 h rfl rfl

def impl_filterOf_t {α : Type} (k_ : SFilter → α) (x : SPort) : α :=
  k_ (⟨x.Mac, false, x.Vlans⟩ : SFilter)
def filterOf (x : SPort) : SFilter := impl_filterOf_t id x
theorem impl_filterOf_c {α : Type} (k_ : SFilter → α) (x : SPort) : impl_filterOf_t k_ x = k_ (filterOf x) := by
  rfl

def impl_portWith_l0 {α : Type} (bad : α) (k_ : Int → α) (mac : Int) (list_ : Rows) (x_1 : Int) (ih0 : Int → α) (x_2 : Int) : α :=
  bif decide (x_2 < x_1) then
    bif andt true (idx x_2 list_) then
      bif bif x_2 != 0 then (rI (nth list_ (Int.toNat x_2)) 0) == mac else false then k_ x_2
      else ih0 (w64 (x_2 + 1))
    else bad
  else k_ (-1)
def impl_portWith_L0 {α : Type} (bad : α) (k_ : Int → α) (N : Nat) (mac : Int) (list_ : Rows) (x_1 : Int) (m_ : Nat) : Int → α :=
  Nat.rec (motive := fun _ => Int → α) (fun _ => bad) (fun _ ih0 => impl_portWith_l0 bad k_ mac list_ x_1 ih0) m_
theorem impl_portWith_L0_z {α : Type} (bad : α) (k_ : Int → α) (N : Nat) (mac : Int) (list_ : Rows) (x_1 : Int) (x_2 : Int) : impl_portWith_L0 bad k_ N mac list_ x_1 0 x_2 = bad := rfl
theorem impl_portWith_L0_s {α : Type} (bad : α) (k_ : Int → α) (N : Nat) (mac : Int) (list_ : Rows) (x_1 : Int) (m_ : Nat) (x_2 : Int) : impl_portWith_L0 bad k_ N mac list_ x_1 (m_ + 1) x_2 = impl_portWith_l0 bad k_ mac list_ x_1 (impl_portWith_L0 bad k_ N mac list_ x_1 m_) x_2 := rfl
def impl_portWith_t {α : Type} (bad : α) (k_ : Int → α) (l0 : Int → Int → α) (list_ : Rows) (mac : Int) : α :=
  l0 (len list_) 0
def impl_portWith_f {α : Type} (bad : α) (k_ : Int → α) (N : Nat) (list_ : Rows) (mac : Int) : α := impl_portWith_t bad k_ (fun x_1 => impl_portWith_L0 bad k_ N mac list_ x_1 N) list_ mac
def portWith (list_ : Rows) (mac : Int) : Int := findIdx (fun i r => bif ((i : Nat) : Int) != 0 then (rI r 0) == mac else false) list_ 0
theorem impl_portWith_c {α : Type} (bad : α) (k_ : Int → α) (list_ : Rows) (mac : Int) (h_list_ : WtC (.sl [.int .i64, .sl [.int .i64], .int .i64, .bool]) (.sl list_)) (h_mac : WtC (.int .i64) (.int mac)) : ∃ N, impl_portWith_f bad k_ N list_ mac = k_ (portWith list_ mac) := by
  obtain ⟨hl, _⟩ := wt_sl h_list_
  refine ⟨list_.length + 1, ?_⟩
  unfold impl_portWith_f impl_portWith_t
  refine (loop_rows0 list_ (impl_portWith_L0 bad k_ (list_.length + 1) mac list_ (len list_)) (fun i r c => bif bif ((i : Nat) : Int) != 0 then (rI r 0) == mac else false then k_ (i : Int) else c) (k_ (-1)) ?_ ?_).trans ?_
  · intro n i h
    rw [impl_portWith_L0_s]
    simp only [impl_portWith_l0, lt_len h, idx_nat h, w64_succ h hl, Int.toNat_natCast, andt_true_l, andt_true_r, cond_true]
  · intro n
    rw [impl_portWith_L0_s]
    simp only [impl_portWith_l0, not_lt_len, cond_false]
  · exact go_findIdx (fun i r => bif ((i : Nat) : Int) != 0 then (rI r 0) == mac else false) k_ list_ 0

def impl_PortsOk_l0 {α : Type} (bad : α) (k_ : Bool → α) (list_ : Rows) (x : Rows) (x_1 : Int) (ih0 : Int → α) (x_2 : Int) : α :=
  bif decide (x_2 < x_1) then
    bif andt true (idx x_2 x) then
      bif bif !(FilterOk (filterOf (SPort.decAt (nth x (Int.toNat x_2)) 0))) then true else !(hasInt (rR (nth x (Int.toNat x_2)) 1) (rI (nth x (Int.toNat x_2)) 2)) then k_ false
      else bif bif x_2 != 0 then (portWith list_ (rI (nth x (Int.toNat x_2)) 0)) != x_2 else false then k_ false
      else ih0 (w64 (x_2 + 1))
    else bad
  else k_ true
def impl_PortsOk_L0 {α : Type} (bad : α) (k_ : Bool → α) (N : Nat) (list_ : Rows) (x : Rows) (x_1 : Int) (m_ : Nat) : Int → α :=
  Nat.rec (motive := fun _ => Int → α) (fun _ => bad) (fun _ ih0 => impl_PortsOk_l0 bad k_ list_ x x_1 ih0) m_
theorem impl_PortsOk_L0_z {α : Type} (bad : α) (k_ : Bool → α) (N : Nat) (list_ : Rows) (x : Rows) (x_1 : Int) (x_2 : Int) : impl_PortsOk_L0 bad k_ N list_ x x_1 0 x_2 = bad := rfl
theorem impl_PortsOk_L0_s {α : Type} (bad : α) (k_ : Bool → α) (N : Nat) (list_ : Rows) (x : Rows) (x_1 : Int) (m_ : Nat) (x_2 : Int) : impl_PortsOk_L0 bad k_ N list_ x x_1 (m_ + 1) x_2 = impl_PortsOk_l0 bad k_ list_ x x_1 (impl_PortsOk_L0 bad k_ N list_ x x_1 m_) x_2 := rfl
def impl_PortsOk_t {α : Type} (bad : α) (k_ : Bool → α) (l0 : Rows → Int → Int → α) (list_ : Rows) : α :=
  bif !(between (len list_) 1 8) then k_ false
  else l0 list_ (len list_) 0
def impl_PortsOk_f {α : Type} (bad : α) (k_ : Bool → α) (N : Nat) (list_ : Rows) : α := impl_PortsOk_t bad k_ (fun x x_1 => impl_PortsOk_L0 bad k_ N list_ x x_1 N) list_
def portBad (r : List DC) : Bool := bif !(FilterOk (⟨rI r 0, false, rR r 1⟩ : SFilter)) then true else !(hasInt (rR r 1) (rI r 2))
def PortsOk (list_ : Rows) : Bool := bif !(between (len list_) 1 8) then false else bif anyIdx (fun i r => bif portBad r then true else bif ((i : Nat) : Int) != 0 then (portWith list_ (rI r 0)) != (i : Int) else false) list_ 0 then false else true
theorem impl_PortsOk_c {α : Type} (bad : α) (k_ : Bool → α) (list_ : Rows) (h_list_ : WtC (.sl [.int .i64, .sl [.int .i64], .int .i64, .bool]) (.sl list_)) : ∃ N, impl_PortsOk_f bad k_ N list_ = k_ (PortsOk list_) := by
  obtain ⟨hl, _⟩ := wt_sl h_list_
  refine ⟨list_.length + 1, ?_⟩
  unfold impl_PortsOk_f impl_PortsOk_t PortsOk
  refine cond_k rfl ?_
  refine (loop_rows0 list_ (impl_PortsOk_L0 bad k_ (list_.length + 1) list_ list_ (len list_)) (fun i r c => bif (bif portBad r then true else bif ((i : Nat) : Int) != 0 then (portWith list_ (rI r 0)) != (i : Int) else false) then k_ false else c) (k_ true) ?_ ?_).trans ?_
  · intro n i h
    rw [impl_PortsOk_L0_s]
    simp only [impl_PortsOk_l0, lt_len h, idx_nat h, w64_succ h hl, Int.toNat_natCast, andt_true_l, andt_true_r, cond_true]
    show (bif portBad (nth list_ i) then k_ false else _) = _
    cases portBad (nth list_ i) <;> rfl
  · intro n
    rw [impl_PortsOk_L0_s]
    simp only [impl_PortsOk_l0, not_lt_len, cond_false]
  · refine (go_anyIdx (fun i r => bif portBad r then true else bif ((i : Nat) : Int) != 0 then (portWith list_ (rI r 0)) != (i : Int) else false) _ _ list_ 0).trans ?_
    exact cond_k rfl rfl

end
end Go.Proofs.Ytfnkhejoihnlnaa.Pl
