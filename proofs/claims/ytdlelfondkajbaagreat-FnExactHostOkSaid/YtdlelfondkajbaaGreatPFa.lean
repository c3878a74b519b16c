/- What functions of the program compute, in plain Lean, as the value machine runs them. Conditions: none. -/
import Derived.Test.YtdlelfondkajbaaGreatPTq
set_option linter.unusedVariables false
set_option linter.unusedSimpArgs false
set_option maxRecDepth 100000
namespace Go.Proofs.YtdlelfondkajbaaGreat.Pl
open Vm
noncomputable section


def impl_HomeSlot_l0 {α : Type} (bad : α) (k_ : Int → α) (x : Int) (x_2 : Rows) (ih0 : Int → Int → α) (n : Int) (x_1 : Int) : α :=
  bif decide (x_1 < x) then
    bif andt (andt true (idx x_1 x_2)) (inl (Int.toNat x_1) x_2) then
      bif andt true (modulo_ok (rI (nth x_2 (Int.toNat x_1)) 0) 8) then
        ih0 (w64 (n + (modulo (rI (nth x_2 (Int.toNat x_1)) 0) 8))) (w64 (x_1 + 1))
      else bad
    else bad
  else k_ (Int.tmod n 8)
def impl_HomeSlot_L0 {α : Type} (bad : α) (k_ : Int → α) (N : Nat) (x : Int) (x_2 : Rows) (m_ : Nat) : Int → Int → α :=
  Nat.rec (motive := fun _ => Int → Int → α) (fun _ _ => bad) (fun _ ih0 => impl_HomeSlot_l0 bad k_ x x_2 ih0) m_
theorem impl_HomeSlot_L0_z {α : Type} (bad : α) (k_ : Int → α) (N : Nat) (x : Int) (x_2 : Rows) (n : Int) (x_1 : Int) : impl_HomeSlot_L0 bad k_ N x x_2 0 n x_1 = bad := rfl
theorem impl_HomeSlot_L0_s {α : Type} (bad : α) (k_ : Int → α) (N : Nat) (x : Int) (x_2 : Rows) (m_ : Nat) (n : Int) (x_1 : Int) : impl_HomeSlot_L0 bad k_ N x x_2 (m_ + 1) n x_1 = impl_HomeSlot_l0 bad k_ x x_2 (impl_HomeSlot_L0 bad k_ N x x_2 m_) n x_1 := rfl
def impl_HomeSlot_t {α : Type} (bad : α) (k_ : Int → α) (l0 : Int → Rows → Int → Int → α) (f : SFlow) : α :=
  l0 5 ([[.int f.Kind], [.int f.SrcIp], [.int f.DstIp], [.int f.SrcPort], [.int f.DstPort]]) 0 0
def impl_HomeSlot_f {α : Type} (bad : α) (k_ : Int → α) (N : Nat) (f : SFlow) : α := impl_HomeSlot_t bad k_ (fun x x_2 => impl_HomeSlot_L0 bad k_ N x x_2 N) f
def hmL (f : SFlow) : Rows := [[.int f.Kind], [.int f.SrcIp], [.int f.DstIp], [.int f.SrcPort], [.int f.DstPort]]
def hmN (f : SFlow) : Int := f.Kind % 8 + f.SrcIp % 8 + f.DstIp % 8 + f.SrcPort % 8 + f.DstPort % 8
def HomeSlot (f : SFlow) : Int := hmN f % 8
theorem HomeSlot_lo (f : SFlow) : 0 ≤ hmN f := by unfold hmN; omega
theorem HomeSlot_rng (f : SFlow) : 0 ≤ HomeSlot f ∧ HomeSlot f < 8 := by unfold HomeSlot; omega
theorem HomeSlot_it (f : SFlow) : itN (fun i s => s + (rI (nth (hmL f) i) 0) % 8) 5 0 0 = hmN f := by
  show 0 + f.Kind % 8 + f.SrcIp % 8 + f.DstIp % 8 + f.SrcPort % 8 + f.DstPort % 8 = hmN f
  unfold hmN
  omega
theorem impl_HomeSlot_c {α : Type} (bad : α) (k_ : Int → α) (f : SFlow) (h_f : WtL SFlow.ct f.enc) : ∃ N, impl_HomeSlot_f bad k_ N f = k_ (HomeSlot f) := by
  have hb : ∀ i, i < 5 → -9223372036854775808 ≤ rI (nth (hmL f) i) 0 ∧ rI (nth (hmL f) i) 0 ≤ 9223372036854775807 := by
    intro i hi
    rcases i with _ | _ | _ | _ | _ | i
    · exact wt_int (SFlow.wt_Kind h_f)
    · exact wt_int (SFlow.wt_SrcIp h_f)
    · exact wt_int (SFlow.wt_DstIp h_f)
    · exact wt_int (SFlow.wt_SrcPort h_f)
    · exact wt_int (SFlow.wt_DstPort h_f)
    · omega
  refine ⟨6, ?_⟩
  unfold impl_HomeSlot_f impl_HomeSlot_t
  have key : impl_HomeSlot_L0 bad k_ 6 5 (hmL f) 6 0 0 = k_ (Int.tmod (itN (fun i s => s + (rI (nth (hmL f) i) 0) % 8) 5 0 0) 8) := by
    refine loop_inv 5 (fun n i s => impl_HomeSlot_L0 bad k_ 6 5 (hmL f) n s i) (fun i s => s + (rI (nth (hmL f) i) 0) % 8) (fun s => k_ (Int.tmod s 8)) (fun i s => 0 ≤ s ∧ s ≤ 7 * (i : Int)) ?_ ?_ ?_ 6 0 ⟨by omega, by omega⟩ (by omega)
    · intro i s hi hs
      obtain ⟨h1, h2⟩ := hs
      refine ⟨by omega, by omega⟩
    · intro n i s hi hs
      obtain ⟨h1, h2⟩ := hs
      have b := hb i hi
      show impl_HomeSlot_L0 bad k_ 6 5 (hmL f) (n + 1) s (i : Int) = _
      rw [impl_HomeSlot_L0_s]
      have hl : i < (hmL f).length := hi
      have w1 : w64 ((i : Int) + 1) = (i : Int) + 1 := w64_in (by omega) (by omega)
      have w2 : w64 (s + (rI (nth (hmL f) i) 0) % 8) = s + (rI (nth (hmL f) i) 0) % 8 := w64_in (by omega) (by omega)
      obtain ⟨m1, m2⟩ := modulo_pos (x := rI (nth (hmL f) i) 0) (n := 8) b.1 b.2 (by omega) (by omega)
      have hd : decide ((i : Int) < 5) = true := decide_eq_true (by omega)
      simp only [impl_HomeSlot_l0, hd, idx_nat hl, inl_nat hl, Int.toNat_natCast, m1, m2, w1, w2, andt_true_l, andt_true_r, cond_true]
    · intro n s hs
      show impl_HomeSlot_L0 bad k_ 6 5 (hmL f) (n + 1) s ((5 : Nat) : Int) = _
      rw [impl_HomeSlot_L0_s]
      rfl
  refine key.trans ?_
  rw [HomeSlot_it]
  exact congrArg k_ (Int.tmod_eq_emod_of_nonneg (HomeSlot_lo f))

def spec_HomeSlot_l0 {α : Type} (bad : α) (k_ : Int → α) (list_ : Rows) (ih0 : Int → Int → α) (n : Int) (k : Int) : α :=
  bif decide (k < len list_) then
    bif andt (andt true (idx k list_)) (inl (Int.toNat k) list_) then
      ih0 (w64 (n + (bits .and .i64 (rI (nth list_ (Int.toNat k)) 0) 7))) (w64 (k + 1))
    else bad
  else k_ (Int.tmod n 8)
def spec_HomeSlot_L0 {α : Type} (bad : α) (k_ : Int → α) (N : Nat) (list_ : Rows) (m_ : Nat) : Int → Int → α :=
  Nat.rec (motive := fun _ => Int → Int → α) (fun _ _ => bad) (fun _ ih0 => spec_HomeSlot_l0 bad k_ list_ ih0) m_
theorem spec_HomeSlot_L0_z {α : Type} (bad : α) (k_ : Int → α) (N : Nat) (list_ : Rows) (n : Int) (k : Int) : spec_HomeSlot_L0 bad k_ N list_ 0 n k = bad := rfl
theorem spec_HomeSlot_L0_s {α : Type} (bad : α) (k_ : Int → α) (N : Nat) (list_ : Rows) (m_ : Nat) (n : Int) (k : Int) : spec_HomeSlot_L0 bad k_ N list_ (m_ + 1) n k = spec_HomeSlot_l0 bad k_ list_ (spec_HomeSlot_L0 bad k_ N list_ m_) n k := rfl
def spec_HomeSlot_t {α : Type} (bad : α) (k_ : Int → α) (l0 : Rows → Int → Int → α) (f : SFlow) : α :=
  l0 ([[.int f.Kind], [.int f.SrcIp], [.int f.DstIp], [.int f.SrcPort], [.int f.DstPort]]) 0 0
def spec_HomeSlot_f {α : Type} (bad : α) (k_ : Int → α) (N : Nat) (f : SFlow) : α := spec_HomeSlot_t bad k_ (fun list_ => spec_HomeSlot_L0 bad k_ N list_ N) f
theorem spec_HomeSlot_c {α : Type} (bad : α) (k_ : Int → α) (f : SFlow) (h_f : WtL SFlow.ct f.enc) : ∃ N, spec_HomeSlot_f bad k_ N f = k_ (HomeSlot f) := by
  have hb : ∀ i, i < 5 → -9223372036854775808 ≤ rI (nth (hmL f) i) 0 ∧ rI (nth (hmL f) i) 0 ≤ 9223372036854775807 := by
    intro i hi
    rcases i with _ | _ | _ | _ | _ | i
    · exact wt_int (SFlow.wt_Kind h_f)
    · exact wt_int (SFlow.wt_SrcIp h_f)
    · exact wt_int (SFlow.wt_DstIp h_f)
    · exact wt_int (SFlow.wt_SrcPort h_f)
    · exact wt_int (SFlow.wt_DstPort h_f)
    · omega
  refine ⟨6, ?_⟩
  unfold spec_HomeSlot_f spec_HomeSlot_t
  have key : spec_HomeSlot_L0 bad k_ 6 (hmL f) 6 0 0 = k_ (Int.tmod (itN (fun i s => s + (rI (nth (hmL f) i) 0) % 8) 5 0 0) 8) := by
    refine loop_inv 5 (fun n i s => spec_HomeSlot_L0 bad k_ 6 (hmL f) n s i) (fun i s => s + (rI (nth (hmL f) i) 0) % 8) (fun s => k_ (Int.tmod s 8)) (fun i s => 0 ≤ s ∧ s ≤ 7 * (i : Int)) ?_ ?_ ?_ 6 0 ⟨by omega, by omega⟩ (by omega)
    · intro i s hi hs
      obtain ⟨h1, h2⟩ := hs
      refine ⟨by omega, by omega⟩
    · intro n i s hi hs
      obtain ⟨h1, h2⟩ := hs
      have b := hb i hi
      show spec_HomeSlot_L0 bad k_ 6 (hmL f) (n + 1) s (i : Int) = _
      rw [spec_HomeSlot_L0_s]
      have hl : i < (hmL f).length := hi
      have w1 : w64 ((i : Int) + 1) = (i : Int) + 1 := w64_in (by omega) (by omega)
      have w2 : w64 (s + (rI (nth (hmL f) i) 0) % 8) = s + (rI (nth (hmL f) i) 0) % 8 := w64_in (by omega) (by omega)
      have hd : decide ((i : Int) < len (hmL f)) = true := lt_len hl
      simp only [spec_HomeSlot_l0, hd, idx_nat hl, inl_nat hl, Int.toNat_natCast, and_7, w1, w2, andt_true_l, andt_true_r, cond_true]
    · intro n s hs
      show spec_HomeSlot_L0 bad k_ 6 (hmL f) (n + 1) s ((5 : Nat) : Int) = _
      rw [spec_HomeSlot_L0_s]
      rfl
  refine key.trans ?_
  rw [HomeSlot_it]
  exact congrArg k_ (Int.tmod_eq_emod_of_nonneg (HomeSlot_lo f))

def impl_slotOf_l0 {α : Type} (bad : α) (k_ : Int → α) (x : Rows) (x_1 : Int) (f_1 : Int) (f_2 : Int) (f_3 : Int) (f_4 : Int) (f_5 : Int) (ih0 : Int → α) (x_2 : Int) : α :=
  bif decide (x_2 < x_1) then
    bif andt true (idx x_2 x) then
      bif bif (rI (nth x (Int.toNat x_2)) 0) == 1 then bif (rI (nth x (Int.toNat x_2)) 1) == f_1 then bif (rI (nth x (Int.toNat x_2)) 2) == f_2 then bif (rI (nth x (Int.toNat x_2)) 3) == f_3 then bif (rI (nth x (Int.toNat x_2)) 4) == f_4 then bif (rI (nth x (Int.toNat x_2)) 5) == f_5 then true else false else false else false else false else false else false then k_ x_2
      else ih0 (w64 (x_2 + 1))
    else bad
  else k_ (-1)
def impl_slotOf_L0 {α : Type} (bad : α) (k_ : Int → α) (N : Nat) (x : Rows) (x_1 : Int) (f_1 : Int) (f_2 : Int) (f_3 : Int) (f_4 : Int) (f_5 : Int) (m_ : Nat) : Int → α :=
  Nat.rec (motive := fun _ => Int → α) (fun _ => bad) (fun _ ih0 => impl_slotOf_l0 bad k_ x x_1 f_1 f_2 f_3 f_4 f_5 ih0) m_
theorem impl_slotOf_L0_z {α : Type} (bad : α) (k_ : Int → α) (N : Nat) (x : Rows) (x_1 : Int) (f_1 : Int) (f_2 : Int) (f_3 : Int) (f_4 : Int) (f_5 : Int) (x_2 : Int) : impl_slotOf_L0 bad k_ N x x_1 f_1 f_2 f_3 f_4 f_5 0 x_2 = bad := rfl
theorem impl_slotOf_L0_s {α : Type} (bad : α) (k_ : Int → α) (N : Nat) (x : Rows) (x_1 : Int) (f_1 : Int) (f_2 : Int) (f_3 : Int) (f_4 : Int) (f_5 : Int) (m_ : Nat) (x_2 : Int) : impl_slotOf_L0 bad k_ N x x_1 f_1 f_2 f_3 f_4 f_5 (m_ + 1) x_2 = impl_slotOf_l0 bad k_ x x_1 f_1 f_2 f_3 f_4 f_5 (impl_slotOf_L0 bad k_ N x x_1 f_1 f_2 f_3 f_4 f_5 m_) x_2 := rfl
def impl_slotOf_t {α : Type} (bad : α) (k_ : Int → α) (l0 : Rows → Int → Int → Int → Int → Int → Int → Int → α) (t : SFlowTable) (f : SFlow) : α :=
  l0 t.Slots (len t.Slots) f.Kind f.SrcIp f.DstIp f.SrcPort f.DstPort 0
def impl_slotOf_f {α : Type} (bad : α) (k_ : Int → α) (N : Nat) (t : SFlowTable) (f : SFlow) : α := impl_slotOf_t bad k_ (fun x x_1 f_1 f_2 f_3 f_4 f_5 => impl_slotOf_L0 bad k_ N x x_1 f_1 f_2 f_3 f_4 f_5 N) t f
def usedEq (r : List DC) (f : SFlow) : Bool := bif (rI r 0) == 1 then bif (rI r 1) == f.Kind then bif (rI r 2) == f.SrcIp then bif (rI r 3) == f.DstIp then bif (rI r 4) == f.SrcPort then bif (rI r 5) == f.DstPort then true else false else false else false else false else false else false
def slotOf (t : SFlowTable) (f : SFlow) : Int := findIdx (fun _ r => usedEq r f) t.Slots 0
theorem impl_slotOf_c {α : Type} (bad : α) (k_ : Int → α) (t : SFlowTable) (f : SFlow) (h_t : WtL SFlowTable.ct t.enc) (h_f : WtL SFlow.ct f.enc) : ∃ N, impl_slotOf_f bad k_ N t f = k_ (slotOf t f) := by
  obtain ⟨hl, _⟩ := wt_sl (SFlowTable.wt_Slots h_t)
  refine ⟨t.Slots.length + 1, ?_⟩
  unfold impl_slotOf_f impl_slotOf_t slotOf
  have key : impl_slotOf_L0 bad k_ (t.Slots.length + 1) t.Slots (len t.Slots) f.Kind f.SrcIp f.DstIp f.SrcPort f.DstPort (t.Slots.length + 1) 0 = k_ (findIdx (fun _ r => usedEq r f) t.Slots 0) := by
    refine (loop_rows0 t.Slots (impl_slotOf_L0 bad k_ (t.Slots.length + 1) t.Slots (len t.Slots) f.Kind f.SrcIp f.DstIp f.SrcPort f.DstPort) (fun i r c => bif usedEq r f then k_ (i : Int) else c) (k_ (-1)) ?_ ?_).trans ?_
    · intro n i h
      rw [impl_slotOf_L0_s]
      simp only [impl_slotOf_l0, lt_len h, idx_nat h, w64_succ h hl, Int.toNat_natCast, andt_true_l, andt_true_r, cond_true]
      rfl
    · intro n
      rw [impl_slotOf_L0_s]
      simp only [impl_slotOf_l0, not_lt_len, cond_false]
    · exact go_findIdx (fun _ r => usedEq r f) k_ t.Slots 0
  exact key

def spec_l13Find_l0 {α : Type} (bad : α) (k_ : Int → α) (t_1 : Rows) (f_1 : Int) (f_2 : Int) (f_3 : Int) (f_4 : Int) (f_5 : Int) (ih0 : Int → α) (k : Int) : α :=
  let z0 : Int := Int.tmod (w64 ((HomeSlot (⟨f_1, f_2, f_3, f_4, f_5⟩ : SFlow)) + k)) 8
  let z1 : Bool := idx z0 t_1
  let z2 : Bool := andt true z1
  let z3 : List DC := nth t_1 (Int.toNat z0)
  let z4 : Int := rI z3 0
  let z5 : Bool := z4 == 1
  bif decide (k < 8) then
    bif z2 then
      bif z4 == 0 then k_ (-1)
      else bif okm z5 (andt z2 z1) z2 then
          bif bif z5 then bif (rI z3 1) == f_1 then bif (rI z3 2) == f_2 then bif (rI z3 3) == f_3 then bif (rI z3 4) == f_4 then bif (rI z3 5) == f_5 then true else false else false else false else false else false else false then k_ z0
          else ih0 (w64 (k + 1))
        else bad
    else bad
  else k_ (-1)
def spec_l13Find_L0 {α : Type} (bad : α) (k_ : Int → α) (N : Nat) (t_1 : Rows) (f_1 : Int) (f_2 : Int) (f_3 : Int) (f_4 : Int) (f_5 : Int) (m_ : Nat) : Int → α :=
  Nat.rec (motive := fun _ => Int → α) (fun _ => bad) (fun _ ih0 => spec_l13Find_l0 bad k_ t_1 f_1 f_2 f_3 f_4 f_5 ih0) m_
theorem spec_l13Find_L0_z {α : Type} (bad : α) (k_ : Int → α) (N : Nat) (t_1 : Rows) (f_1 : Int) (f_2 : Int) (f_3 : Int) (f_4 : Int) (f_5 : Int) (k : Int) : spec_l13Find_L0 bad k_ N t_1 f_1 f_2 f_3 f_4 f_5 0 k = bad := rfl
theorem spec_l13Find_L0_s {α : Type} (bad : α) (k_ : Int → α) (N : Nat) (t_1 : Rows) (f_1 : Int) (f_2 : Int) (f_3 : Int) (f_4 : Int) (f_5 : Int) (m_ : Nat) (k : Int) : spec_l13Find_L0 bad k_ N t_1 f_1 f_2 f_3 f_4 f_5 (m_ + 1) k = spec_l13Find_l0 bad k_ t_1 f_1 f_2 f_3 f_4 f_5 (spec_l13Find_L0 bad k_ N t_1 f_1 f_2 f_3 f_4 f_5 m_) k := rfl
def spec_l13Find_t {α : Type} (bad : α) (k_ : Int → α) (l0 : Rows → Int → Int → Int → Int → Int → Int → α) (t : SFlowTable) (f : SFlow) : α :=
  l0 t.Slots f.Kind f.SrcIp f.DstIp f.SrcPort f.DstPort 0
def spec_l13Find_f {α : Type} (bad : α) (k_ : Int → α) (N : Nat) (t : SFlowTable) (f : SFlow) : α := spec_l13Find_t bad k_ (fun t_1 f_1 f_2 f_3 f_4 f_5 => spec_l13Find_L0 bad k_ N t_1 f_1 f_2 f_3 f_4 f_5 N) t f
def l13ok (t : SFlowTable) (_ : SFlow) : Bool := decide (t.Slots.length = 8)
def l13F (t : Rows) (h : Int) (f : SFlow) : Nat → Nat → Int
  | 0, _ => -1
  | m + 1, k => bif (rI (nth t (Int.toNat ((h + (k : Int)) % 8))) 0) == 0 then -1 else bif usedEq (nth t (Int.toNat ((h + (k : Int)) % 8))) f then (h + (k : Int)) % 8 else l13F t h f m (k + 1)
def l13Find (t : SFlowTable) (f : SFlow) : Int := l13F t.Slots (HomeSlot f) f 8 0
theorem go_l13 {α : Type} (k_ : Int → α) (t : Rows) (h : Int) (f : SFlow) : ∀ (m i : Nat), natGo (σ := Unit) (fun k c s => bif (rI (nth t (Int.toNat ((h + (k : Int)) % 8))) 0) == 0 then k_ (-1) else bif usedEq (nth t (Int.toNat ((h + (k : Int)) % 8))) f then k_ ((h + (k : Int)) % 8) else c s) (fun _ => k_ (-1)) m i () = k_ (l13F t h f m i)
  | 0, _ => rfl
  | m + 1, i => by
    simp only [natGo, l13F]
    cases (rI (nth t (Int.toNat ((h + (i : Int)) % 8))) 0) == 0
    · cases usedEq (nth t (Int.toNat ((h + (i : Int)) % 8))) f
      · exact go_l13 k_ t h f m (i + 1)
      · rfl
    · rfl
theorem spec_l13Find_c {α : Type} (bad : α) (k_ : Int → α) (t : SFlowTable) (f : SFlow) (h_t : WtL SFlowTable.ct t.enc) (h_f : WtL SFlow.ct f.enc) (hok : l13ok t f = true) : ∃ N, spec_l13Find_f bad k_ N t f = k_ (l13Find t f) := by
  have h8 : t.Slots.length = 8 := of_decide_eq_true hok
  have hh := HomeSlot_rng f
  refine ⟨9, ?_⟩
  unfold spec_l13Find_f spec_l13Find_t l13Find
  have key : spec_l13Find_L0 bad k_ 9 t.Slots f.Kind f.SrcIp f.DstIp f.SrcPort f.DstPort 9 0 = k_ (l13F t.Slots (HomeSlot f) f 8 0) := by
    refine (loop_nat (σ := Unit) 8 (fun n k _ => spec_l13Find_L0 bad k_ 9 t.Slots f.Kind f.SrcIp f.DstIp f.SrcPort f.DstPort n k) (fun k c s => bif (rI (nth t.Slots (Int.toNat ((HomeSlot f + (k : Int)) % 8))) 0) == 0 then k_ (-1) else bif usedEq (nth t.Slots (Int.toNat ((HomeSlot f + (k : Int)) % 8))) f then k_ ((HomeSlot f + (k : Int)) % 8) else c s) (fun _ => k_ (-1)) ?_ ?_ 9 () (by omega)).trans (go_l13 k_ t.Slots (HomeSlot f) f 8 0)
    · intro n i s hi
      show spec_l13Find_L0 bad k_ 9 t.Slots f.Kind f.SrcIp f.DstIp f.SrcPort f.DstPort (n + 1) (i : Int) = _
      rw [spec_l13Find_L0_s]
      have hd : decide ((i : Int) < 8) = true := decide_eq_true (by omega)
      have w1 : w64 ((i : Int) + 1) = (i : Int) + 1 := w64_in (by omega) (by omega)
      have hz : Int.tmod (w64 (HomeSlot f + (i : Int))) 8 = (HomeSlot f + (i : Int)) % 8 := by
        rw [w64_in (by omega) (by omega)]
        exact Int.tmod_eq_emod_of_nonneg (by omega)
      have hx : idx ((HomeSlot f + (i : Int)) % 8) t.Slots = true := by
        simp only [idx, Bool.and_eq_true, decide_eq_true_eq, h8]
        omega
      have hf : (⟨f.Kind, f.SrcIp, f.DstIp, f.SrcPort, f.DstPort⟩ : SFlow) = f := rfl
      unfold spec_l13Find_l0
      simp only [hf, hd, hz, hx, w1, andt_true_l, andt_true_r, okm_tt, cond_true]
      rfl
    · intro n s
      show spec_l13Find_L0 bad k_ 9 t.Slots f.Kind f.SrcIp f.DstIp f.SrcPort f.DstPort (n + 1) ((8 : Nat) : Int) = _
      rw [spec_l13Find_L0_s]
      rfl
  exact key

def impl_wayOf_l0 {α : Type} (bad : α) (k_ : Rows → α) (f_1 : Int) (f_2 : Int) (f_3 : Int) (f_4 : Int) (f_5 : Int) (ih0 : Int → Rows → α) (i : Int) (out_ : Rows) : α :=
  bif decide (i < 8) then
    bif andt true (room2 8 out_ ([[.int (Int.tmod (w64 ((HomeSlot (⟨f_1, f_2, f_3, f_4, f_5⟩ : SFlow)) + i)) 8)]])) then
      ih0 (w64 (i + 1)) (out_ ++ ([[.int (Int.tmod (w64 ((HomeSlot (⟨f_1, f_2, f_3, f_4, f_5⟩ : SFlow)) + i)) 8)]]))
    else bad
  else k_ out_
def impl_wayOf_L0 {α : Type} (bad : α) (k_ : Rows → α) (N : Nat) (f_1 : Int) (f_2 : Int) (f_3 : Int) (f_4 : Int) (f_5 : Int) (m_ : Nat) : Int → Rows → α :=
  Nat.rec (motive := fun _ => Int → Rows → α) (fun _ _ => bad) (fun _ ih0 => impl_wayOf_l0 bad k_ f_1 f_2 f_3 f_4 f_5 ih0) m_
theorem impl_wayOf_L0_z {α : Type} (bad : α) (k_ : Rows → α) (N : Nat) (f_1 : Int) (f_2 : Int) (f_3 : Int) (f_4 : Int) (f_5 : Int) (i : Int) (out_ : Rows) : impl_wayOf_L0 bad k_ N f_1 f_2 f_3 f_4 f_5 0 i out_ = bad := rfl
theorem impl_wayOf_L0_s {α : Type} (bad : α) (k_ : Rows → α) (N : Nat) (f_1 : Int) (f_2 : Int) (f_3 : Int) (f_4 : Int) (f_5 : Int) (m_ : Nat) (i : Int) (out_ : Rows) : impl_wayOf_L0 bad k_ N f_1 f_2 f_3 f_4 f_5 (m_ + 1) i out_ = impl_wayOf_l0 bad k_ f_1 f_2 f_3 f_4 f_5 (impl_wayOf_L0 bad k_ N f_1 f_2 f_3 f_4 f_5 m_) i out_ := rfl
def impl_wayOf_t {α : Type} (bad : α) (k_ : Rows → α) (l0 : Int → Int → Int → Int → Int → Int → Rows → α) (f : SFlow) : α :=
  l0 f.Kind f.SrcIp f.DstIp f.SrcPort f.DstPort 0 []
def impl_wayOf_f {α : Type} (bad : α) (k_ : Rows → α) (N : Nat) (f : SFlow) : α := impl_wayOf_t bad k_ (fun f_1 f_2 f_3 f_4 f_5 => impl_wayOf_L0 bad k_ N f_1 f_2 f_3 f_4 f_5 N) f
def wayF (h : Int) (i : Nat) (o : Rows) : Rows := o ++ [[.int ((h + (i : Int)) % 8)]]
def wayOf (f : SFlow) : Rows := itN (wayF (HomeSlot f)) 8 0 []
theorem impl_wayOf_c {α : Type} (bad : α) (k_ : Rows → α) (f : SFlow) (h_f : WtL SFlow.ct f.enc) : ∃ N, impl_wayOf_f bad k_ N f = k_ (wayOf f) := by
  have hh := HomeSlot_rng f
  refine ⟨9, ?_⟩
  unfold impl_wayOf_f impl_wayOf_t wayOf
  have key : impl_wayOf_L0 bad k_ 9 f.Kind f.SrcIp f.DstIp f.SrcPort f.DstPort 9 0 [] = k_ (itN (wayF (HomeSlot f)) 8 0 []) := by
    refine loop_inv 8 (fun n i o => impl_wayOf_L0 bad k_ 9 f.Kind f.SrcIp f.DstIp f.SrcPort f.DstPort n i o) (wayF (HomeSlot f)) k_ (fun i o => o.length = i) ?_ ?_ ?_ 9 [] rfl (by omega)
    · intro i o hi ho
      simp only [wayF, List.length_append, List.length_cons, List.length_nil, ho]
    · intro n i o hi ho
      show impl_wayOf_L0 bad k_ 9 f.Kind f.SrcIp f.DstIp f.SrcPort f.DstPort (n + 1) (i : Int) o = _
      rw [impl_wayOf_L0_s]
      have hd : decide ((i : Int) < 8) = true := decide_eq_true (by omega)
      have w1 : w64 ((i : Int) + 1) = (i : Int) + 1 := w64_in (by omega) (by omega)
      have hz : Int.tmod (w64 (HomeSlot f + (i : Int))) 8 = (HomeSlot f + (i : Int)) % 8 := by
        rw [w64_in (by omega) (by omega)]
        exact Int.tmod_eq_emod_of_nonneg (by omega)
      have hf : (⟨f.Kind, f.SrcIp, f.DstIp, f.SrcPort, f.DstPort⟩ : SFlow) = f := rfl
      have hr : room2 8 o [[.int ((HomeSlot f + (i : Int)) % 8)]] = true := room2_le (by simp only [List.length_cons, List.length_nil]; omega) (by omega)
      unfold impl_wayOf_l0
      simp only [hf, hd, hz, hr, w1, andt_true_l, andt_true_r, cond_true]
      rfl
    · intro n o ho
      show impl_wayOf_L0 bad k_ 9 f.Kind f.SrcIp f.DstIp f.SrcPort f.DstPort (n + 1) ((8 : Nat) : Int) o = _
      rw [impl_wayOf_L0_s]
      rfl
  exact key

end
end Go.Proofs.YtdlelfondkajbaaGreat.Pl
