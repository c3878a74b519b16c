/- What functions of the program compute, in plain Lean, as the value machine runs them. Conditions: none. -/
import Derived.Test.YtklbgnodgnlebaaPLs
set_option linter.unusedVariables false
set_option linter.unusedSimpArgs false
set_option maxRecDepth 100000
namespace Go.Proofs.Ytklbgnodgnlebaa.Pl
open Vm
noncomputable section

structure SFilter where
  Mac : Int
  Promiscuous : Bool
  Vlans : Rows
def SFilter.enc (x : SFilter) : List DC := [.int x.Mac, .bool x.Promiscuous, .sl x.Vlans]
def SFilter.decAt (r : List DC) (o : Nat) : SFilter := ⟨rI r (o + 0), rB r (o + 1), rR r (o + 2)⟩
def SFilter.ct : List CT := [.int .i64, .bool, .sl [.int .i64]]
theorem SFilter.eta {r : List DC} (h : WtL SFilter.ct r) : (SFilter.decAt r 0).enc = r := (show (SFilter.decAt r 0).enc = canonL SFilter.ct r 0 from by kernel_rfl).trans (canon_eq h)
theorem SFilter.of_wt {r : List CT} {ds : List DC} (h : WtL (SFilter.ct ++ r) ds) : ∃ (x : SFilter) (ds' : List DC), ds = x.enc ++ ds' ∧ WtL SFilter.ct x.enc ∧ WtL r ds' := by
  obtain ⟨d1, d2, rfl, h1, h2⟩ := wtl_split h
  exact ⟨SFilter.decAt d1 0, d2, by rw [SFilter.eta h1], by rw [SFilter.eta h1]; exact h1, h2⟩
theorem SFilter.wt_Mac {x : SFilter} (h : WtL SFilter.ct x.enc) : WtC (.int .i64) (.int x.Mac) := wtl_get 0 h rfl rfl
theorem SFilter.wt_Promiscuous {x : SFilter} (h : WtL SFilter.ct x.enc) : WtC .bool (.bool x.Promiscuous) := wtl_get 1 h rfl rfl
theorem SFilter.wt_Vlans {x : SFilter} (h : WtL SFilter.ct x.enc) : WtC (.sl [.int .i64]) (.sl x.Vlans) := wtl_get 2 h rfl rfl

def impl_between_t {α : Type} (k_ : Bool → α) (n : Int) (low : Int) (high : Int) : α :=
  k_ (bif decide (low ≤ n) then decide (n ≤ high) else false)
def between (n : Int) (low : Int) (high : Int) : Bool := impl_between_t id n low high
theorem impl_between_c {α : Type} (k_ : Bool → α) (n : Int) (low : Int) (high : Int) : impl_between_t k_ n low high = k_ (between n low high) := by
  rfl

def spec_l01In_t {α : Type} (k_ : Bool → α) (x : Int) (least : Int) (most : Int) : α :=
  k_ (bif decide (least ≤ x) then decide (x ≤ most) else false)
theorem spec_l01In_c {α : Type} (k_ : Bool → α) (x : Int) (least : Int) (most : Int) (h_x : WtC (.int .i64) (.int x)) (h_least : WtC (.int .i64) (.int least)) (h_most : WtC (.int .i64) (.int most)) : spec_l01In_t k_ x least most = k_ (between x least most) := by
  exact rfl

def impl_hasInt_l0 {α : Type} (bad : α) (k_ : Bool → α) (n : Int) (l : Rows) (x_1 : Int) (ih0 : Int → α) (x_2 : Int) : α :=
  bif decide (x_2 < x_1) then
    bif andt true (idx x_2 l) then
      bif (rI (nth l (Int.toNat x_2)) 0) == n then k_ true
      else ih0 (w64 (x_2 + 1))
    else bad
  else k_ false
def impl_hasInt_L0 {α : Type} (bad : α) (k_ : Bool → α) (N : Nat) (n : Int) (l : Rows) (x_1 : Int) (m_ : Nat) : Int → α :=
  Nat.rec (motive := fun _ => Int → α) (fun _ => bad) (fun _ ih0 => impl_hasInt_l0 bad k_ n l x_1 ih0) m_
theorem impl_hasInt_L0_z {α : Type} (bad : α) (k_ : Bool → α) (N : Nat) (n : Int) (l : Rows) (x_1 : Int) (x_2 : Int) : impl_hasInt_L0 bad k_ N n l x_1 0 x_2 = bad := rfl
theorem impl_hasInt_L0_s {α : Type} (bad : α) (k_ : Bool → α) (N : Nat) (n : Int) (l : Rows) (x_1 : Int) (m_ : Nat) (x_2 : Int) : impl_hasInt_L0 bad k_ N n l x_1 (m_ + 1) x_2 = impl_hasInt_l0 bad k_ n l x_1 (impl_hasInt_L0 bad k_ N n l x_1 m_) x_2 := rfl
def impl_hasInt_t {α : Type} (bad : α) (k_ : Bool → α) (l0 : Int → Int → α) (l : Rows) (n : Int) : α :=
  l0 (len l) 0
def impl_hasInt_f {α : Type} (bad : α) (k_ : Bool → α) (N : Nat) (l : Rows) (n : Int) : α := impl_hasInt_t bad k_ (fun x_1 => impl_hasInt_L0 bad k_ N n l x_1 N) l n
def hasInt (l : Rows) (n : Int) : Bool := anyIdx (fun _ r => (rI r 0) == n) l 0
theorem impl_hasInt_c {α : Type} (bad : α) (k_ : Bool → α) (l : Rows) (n : Int) (h_l : WtC (.sl [.int .i64]) (.sl l)) (h_n : WtC (.int .i64) (.int n)) : ∃ N, impl_hasInt_f bad k_ N l n = k_ (hasInt l n) := by
  obtain ⟨hl, _⟩ := wt_sl h_l
  refine ⟨l.length + 1, ?_⟩
  unfold impl_hasInt_f impl_hasInt_t
  refine (loop_rows0 l (impl_hasInt_L0 bad k_ (l.length + 1) n l (len l)) (fun i r c => bif (rI r 0) == n then k_ true else c) (k_ false) ?_ ?_).trans ?_
  · intro n i h
    rw [impl_hasInt_L0_s]
    simp only [impl_hasInt_l0, lt_len h, idx_nat h, w64_succ h hl, Int.toNat_natCast, andt_true_l, andt_true_r, cond_true]
  · intro n
    rw [impl_hasInt_L0_s]
    simp only [impl_hasInt_l0, not_lt_len, cond_false]
  · exact (go_anyIdx (fun _ r => (rI r 0) == n) (k_ true) (k_ false) l 0).trans (by unfold hasInt; cases anyIdx (fun _ r => (rI r 0) == n) l 0 <;> rfl)

def spec_l24Has_l0 {α : Type} (bad : α) (k_ : Bool → α) (list_ : Rows) (k : Int) (ih0 : Int → α) (i : Int) : α :=
  bif decide (i < len list_) then
    bif andt true (idx i list_) then
      bif (rI (nth list_ (Int.toNat i)) 0) == k then k_ true
      else ih0 (w64 (i + 1))
    else bad
  else k_ false
def spec_l24Has_L0 {α : Type} (bad : α) (k_ : Bool → α) (N : Nat) (list_ : Rows) (k : Int) (m_ : Nat) : Int → α :=
  Nat.rec (motive := fun _ => Int → α) (fun _ => bad) (fun _ ih0 => spec_l24Has_l0 bad k_ list_ k ih0) m_
theorem spec_l24Has_L0_z {α : Type} (bad : α) (k_ : Bool → α) (N : Nat) (list_ : Rows) (k : Int) (i : Int) : spec_l24Has_L0 bad k_ N list_ k 0 i = bad := rfl
theorem spec_l24Has_L0_s {α : Type} (bad : α) (k_ : Bool → α) (N : Nat) (list_ : Rows) (k : Int) (m_ : Nat) (i : Int) : spec_l24Has_L0 bad k_ N list_ k (m_ + 1) i = spec_l24Has_l0 bad k_ list_ k (spec_l24Has_L0 bad k_ N list_ k m_) i := rfl
def spec_l24Has_t {α : Type} (bad : α) (k_ : Bool → α) (l0 : Int → α) (list_ : Rows) (k : Int) : α :=
  l0 0
def spec_l24Has_f {α : Type} (bad : α) (k_ : Bool → α) (N : Nat) (list_ : Rows) (k : Int) : α := spec_l24Has_t bad k_ (spec_l24Has_L0 bad k_ N list_ k N) list_ k
theorem spec_l24Has_c {α : Type} (bad : α) (k_ : Bool → α) (list_ : Rows) (k : Int) (h_list_ : WtC (.sl [.int .i64]) (.sl list_)) (h_k : WtC (.int .i64) (.int k)) : ∃ N, spec_l24Has_f bad k_ N list_ k = k_ (hasInt list_ k) := by
  obtain ⟨hl, _⟩ := wt_sl h_list_
  refine ⟨list_.length + 1, ?_⟩
  unfold spec_l24Has_f spec_l24Has_t
  refine (loop_rows0 list_ (spec_l24Has_L0 bad k_ (list_.length + 1) list_ k) (fun i r c => bif (rI r 0) == k then k_ true else c) (k_ false) ?_ ?_).trans ?_
  · intro n i h
    rw [spec_l24Has_L0_s]
    simp only [spec_l24Has_l0, lt_len h, idx_nat h, w64_succ h hl, Int.toNat_natCast, andt_true_l, andt_true_r, cond_true]
  · intro n
    rw [spec_l24Has_L0_s]
    simp only [spec_l24Has_l0, not_lt_len, cond_false]
  · exact (go_anyIdx (fun _ r => (rI r 0) == k) (k_ true) (k_ false) list_ 0).trans (by unfold hasInt; cases anyIdx (fun _ r => (rI r 0) == k) list_ 0 <;> rfl)

def impl_FilterOk_l0 {α : Type} (bad : α) (k_ : Bool → α) (x : Rows) (x_1 : Int) (f_1 : Int) (f_3 : Rows) (ih0 : Int → α) (x_2 : Int) : α :=
  let z0 : Bool := !(between (rI (nth x (Int.toNat x_2)) 0) 0 4095)
  bif decide (x_2 < x_1) then
    bif andt true (idx x_2 x) then
      bif okm z0 true (okm (decide (0 < x_2)) (andt true (idx (w64 (x_2 - 1)) f_3)) true) then
        bif bif z0 then true else bif decide (0 < x_2) then decide (rI (nth x (Int.toNat x_2)) 0 ≤ rI (nth f_3 (Int.toNat (w64 (x_2 - 1)))) 0) else false then k_ false
        else ih0 (w64 (x_2 + 1))
      else bad
    else bad
  else k_ (bif between f_1 0 281474976710654 then decide (len f_3 ≤ 8) else false)
def impl_FilterOk_L0 {α : Type} (bad : α) (k_ : Bool → α) (N : Nat) (x : Rows) (x_1 : Int) (f_1 : Int) (f_3 : Rows) (m_ : Nat) : Int → α :=
  Nat.rec (motive := fun _ => Int → α) (fun _ => bad) (fun _ ih0 => impl_FilterOk_l0 bad k_ x x_1 f_1 f_3 ih0) m_
theorem impl_FilterOk_L0_z {α : Type} (bad : α) (k_ : Bool → α) (N : Nat) (x : Rows) (x_1 : Int) (f_1 : Int) (f_3 : Rows) (x_2 : Int) : impl_FilterOk_L0 bad k_ N x x_1 f_1 f_3 0 x_2 = bad := rfl
theorem impl_FilterOk_L0_s {α : Type} (bad : α) (k_ : Bool → α) (N : Nat) (x : Rows) (x_1 : Int) (f_1 : Int) (f_3 : Rows) (m_ : Nat) (x_2 : Int) : impl_FilterOk_L0 bad k_ N x x_1 f_1 f_3 (m_ + 1) x_2 = impl_FilterOk_l0 bad k_ x x_1 f_1 f_3 (impl_FilterOk_L0 bad k_ N x x_1 f_1 f_3 m_) x_2 := rfl
def impl_FilterOk_t {α : Type} (bad : α) (k_ : Bool → α) (l0 : Rows → Int → Int → Rows → Int → α) (f : SFilter) : α :=
  l0 f.Vlans (len f.Vlans) f.Mac f.Vlans 0
def impl_FilterOk_f {α : Type} (bad : α) (k_ : Bool → α) (N : Nat) (f : SFilter) : α := impl_FilterOk_t bad k_ (fun x x_1 f_1 f_3 => impl_FilterOk_L0 bad k_ N x x_1 f_1 f_3 N) f
def FilterOk (f : SFilter) : Bool := bif anyIdx (fun i r => bif !(between (rI r 0) 0 4095) then true else bif decide ((0 : Int) < (i : Int)) then decide (rI r 0 ≤ rI (nth f.Vlans (Int.toNat (w64 ((i : Int) - 1)))) 0) else false) f.Vlans 0 then false else bif between f.Mac 0 281474976710654 then decide (len f.Vlans ≤ 8) else false
theorem impl_FilterOk_c {α : Type} (bad : α) (k_ : Bool → α) (f : SFilter) (h_f : WtL SFilter.ct f.enc) : ∃ N, impl_FilterOk_f bad k_ N f = k_ (FilterOk f) := by
  obtain ⟨hl, _⟩ := wt_sl (SFilter.wt_Vlans h_f)
  refine ⟨f.Vlans.length + 1, ?_⟩
  unfold impl_FilterOk_f impl_FilterOk_t
  refine (loop_rows0 f.Vlans (impl_FilterOk_L0 bad k_ (f.Vlans.length + 1) f.Vlans (len f.Vlans) f.Mac f.Vlans) (fun i r c => bif bif !(between (rI r 0) 0 4095) then true else bif decide ((0 : Int) < (i : Int)) then decide (rI r 0 ≤ rI (nth f.Vlans (Int.toNat (w64 ((i : Int) - 1)))) 0) else false then k_ false else c) (k_ (bif between f.Mac 0 281474976710654 then decide (len f.Vlans ≤ 8) else false)) ?_ ?_).trans ?_
  · intro n i h
    have hp : decide ((0 : Int) < (i : Int)) = true → idx (w64 ((i : Int) - 1)) f.Vlans = true := by
      intro h0
      have h0 := of_decide_eq_true h0
      rw [w64_in (by omega) (by omega), show (i : Int) - 1 = ((i - 1 : Nat) : Int) by omega]
      exact idx_nat (by omega)
    rw [impl_FilterOk_L0_s]
    simp only [impl_FilterOk_l0, lt_len h, idx_nat h, w64_succ h hl, Int.toNat_natCast, andt_true_l, andt_true_r, cond_true]
    exact cond_t (okm_t (fun _ => rfl) (fun _ => okm_t (fun h0 => hp h0) (fun _ => rfl)))
  · intro n
    rw [impl_FilterOk_L0_s]
    simp only [impl_FilterOk_l0, not_lt_len, cond_false]
  · refine (go_anyIdx (fun i r => bif !(between (rI r 0) 0 4095) then true else bif decide ((0 : Int) < (i : Int)) then decide (rI r 0 ≤ rI (nth f.Vlans (Int.toNat (w64 ((i : Int) - 1)))) 0) else false) _ _ f.Vlans 0).trans ?_
    exact cond_k rfl rfl

def spec_FilterOk_l0 {α : Type} (bad : α) (k_ : Bool → α) (f_1 : Int) (f_3 : Rows) (ih0 : Int → α) (k : Int) : α :=
  let z0 : Bool := !(between (rI (nth f_3 (Int.toNat k)) 0) 0 4095)
  bif decide (k < len f_3) then
    bif okm z0 (andt true (idx k f_3)) (okm (decide (0 < k)) (andt (andt (andt true (idx k f_3)) (idx k f_3)) (idx (w64 (k - 1)) f_3)) (andt true (idx k f_3))) then
      bif bif z0 then true else bif decide (0 < k) then decide (rI (nth f_3 (Int.toNat k)) 0 ≤ rI (nth f_3 (Int.toNat (w64 (k - 1)))) 0) else false then k_ false
      else ih0 (w64 (k + 1))
    else bad
  else k_ (bif between f_1 0 281474976710654 then decide (len f_3 ≤ 8) else false)
def spec_FilterOk_L0 {α : Type} (bad : α) (k_ : Bool → α) (N : Nat) (f_1 : Int) (f_3 : Rows) (m_ : Nat) : Int → α :=
  Nat.rec (motive := fun _ => Int → α) (fun _ => bad) (fun _ ih0 => spec_FilterOk_l0 bad k_ f_1 f_3 ih0) m_
theorem spec_FilterOk_L0_z {α : Type} (bad : α) (k_ : Bool → α) (N : Nat) (f_1 : Int) (f_3 : Rows) (k : Int) : spec_FilterOk_L0 bad k_ N f_1 f_3 0 k = bad := rfl
theorem spec_FilterOk_L0_s {α : Type} (bad : α) (k_ : Bool → α) (N : Nat) (f_1 : Int) (f_3 : Rows) (m_ : Nat) (k : Int) : spec_FilterOk_L0 bad k_ N f_1 f_3 (m_ + 1) k = spec_FilterOk_l0 bad k_ f_1 f_3 (spec_FilterOk_L0 bad k_ N f_1 f_3 m_) k := rfl
def spec_FilterOk_t {α : Type} (bad : α) (k_ : Bool → α) (l0 : Int → Rows → Int → α) (f : SFilter) : α :=
  l0 f.Mac f.Vlans 0
def spec_FilterOk_f {α : Type} (bad : α) (k_ : Bool → α) (N : Nat) (f : SFilter) : α := spec_FilterOk_t bad k_ (fun f_1 f_3 => spec_FilterOk_L0 bad k_ N f_1 f_3 N) f
theorem spec_FilterOk_c {α : Type} (bad : α) (k_ : Bool → α) (f : SFilter) (h_f : WtL SFilter.ct f.enc) : ∃ N, spec_FilterOk_f bad k_ N f = k_ (FilterOk f) := by
  obtain ⟨hl, _⟩ := wt_sl (SFilter.wt_Vlans h_f)
  refine ⟨f.Vlans.length + 1, ?_⟩
  unfold spec_FilterOk_f spec_FilterOk_t
  refine (loop_rows0 f.Vlans (spec_FilterOk_L0 bad k_ (f.Vlans.length + 1) f.Mac f.Vlans) (fun i r c => bif bif !(between (rI r 0) 0 4095) then true else bif decide ((0 : Int) < (i : Int)) then decide (rI r 0 ≤ rI (nth f.Vlans (Int.toNat (w64 ((i : Int) - 1)))) 0) else false then k_ false else c) (k_ (bif between f.Mac 0 281474976710654 then decide (len f.Vlans ≤ 8) else false)) ?_ ?_).trans ?_
  · intro n i h
    have hp : decide ((0 : Int) < (i : Int)) = true → idx (w64 ((i : Int) - 1)) f.Vlans = true := by
      intro h0
      have h0 := of_decide_eq_true h0
      rw [w64_in (by omega) (by omega), show (i : Int) - 1 = ((i - 1 : Nat) : Int) by omega]
      exact idx_nat (by omega)
    rw [spec_FilterOk_L0_s]
    simp only [spec_FilterOk_l0, lt_len h, idx_nat h, w64_succ h hl, Int.toNat_natCast, andt_true_l, andt_true_r, cond_true]
    exact cond_t (okm_t (fun _ => rfl) (fun _ => okm_t (fun h0 => hp h0) (fun _ => rfl)))
  · intro n
    rw [spec_FilterOk_L0_s]
    simp only [spec_FilterOk_l0, not_lt_len, cond_false]
  · refine (go_anyIdx (fun i r => bif !(between (rI r 0) 0 4095) then true else bif decide ((0 : Int) < (i : Int)) then decide (rI r 0 ≤ rI (nth f.Vlans (Int.toNat (w64 ((i : Int) - 1)))) 0) else false) _ _ f.Vlans 0).trans ?_
    exact cond_k rfl rfl

end
end Go.Proofs.Ytklbgnodgnlebaa.Pl
