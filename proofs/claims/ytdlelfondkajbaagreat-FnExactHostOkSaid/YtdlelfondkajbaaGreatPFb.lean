/- What functions of the program compute, in plain Lean, as the value machine runs them. Conditions: none. -/
import Derived.Test.YtdlelfondkajbaaGreatPFa
set_option linter.unusedVariables false
set_option linter.unusedSimpArgs false
set_option maxRecDepth 100000
namespace Go.Proofs.YtdlelfondkajbaaGreat.Pl
open Vm
noncomputable section


def impl_TableOk_l0 {α : Type} (bad : α) (k_ : Bool → α) (l1 : Int → Int → Int → Rows → Int → α) (x : Rows) (x_1 : Int) (t_1 : Rows) (ih0 : Int → α) (x_2 : Int) : α :=
  let z0 : Rows := wayOf (SFlow.decAt (nth x (Int.toNat x_2)) 1)
  bif decide (x_2 < x_1) then
    bif andt true (idx x_2 x) then
      bif bif !(between (rI (nth x (Int.toNat x_2)) 0) 0 2) then true else !(between (rI (nth x (Int.toNat x_2)) 6) 0 3) then k_ false
      else bif (rI (nth x (Int.toNat x_2)) 0) != 1 then
        bif bif !(bif (rI (nth x (Int.toNat x_2)) 1) == 0 then bif (rI (nth x (Int.toNat x_2)) 2) == 0 then bif (rI (nth x (Int.toNat x_2)) 3) == 0 then bif (rI (nth x (Int.toNat x_2)) 4) == 0 then bif (rI (nth x (Int.toNat x_2)) 5) == 0 then true else false else false else false else false else false) then true else (rI (nth x (Int.toNat x_2)) 6) != 0 then k_ false
        else ih0 (w64 (x_2 + 1))
      else bif (slotOf (⟨t_1⟩ : SFlowTable) (SFlow.decAt (nth x (Int.toNat x_2)) 1)) != x_2 then k_ false
      else l1 x_2 x_2 (len z0) z0 0
    else bad
  else k_ true
def impl_TableOk_l1 {α : Type} (bad : α) (k_ : Bool → α) (ih0 : Int → α) (x_2 : Int) (x_5 : Int) (x_6 : Int) (t_1 : Rows) (x_8 : Rows) (ih1 : Int → α) (x_7 : Int) : α :=
  bif decide (x_7 < x_6) then
    bif andt (andt true (idx x_7 x_8)) (inl (Int.toNat x_7) x_8) then
      bif (rI (nth x_8 (Int.toNat x_7)) 0) == x_2 then ih0 (w64 (x_5 + 1))
      else bif andt true (idx (rI (nth x_8 (Int.toNat x_7)) 0) t_1) then
          bif (rI (nth t_1 (Int.toNat (rI (nth x_8 (Int.toNat x_7)) 0))) 0) == 0 then k_ false
          else ih1 (w64 (x_7 + 1))
        else bad
    else bad
  else ih0 (w64 (x_5 + 1))
def impl_TableOk_L1 {α : Type} (bad : α) (k_ : Bool → α) (N : Nat) (ih0 : Int → α) (x_2 : Int) (x_5 : Int) (x_6 : Int) (t_1 : Rows) (x_8 : Rows) (m_ : Nat) : Int → α :=
  Nat.rec (motive := fun _ => Int → α) (fun _ => bad) (fun _ ih1 => impl_TableOk_l1 bad k_ ih0 x_2 x_5 x_6 t_1 x_8 ih1) m_
theorem impl_TableOk_L1_z {α : Type} (bad : α) (k_ : Bool → α) (N : Nat) (ih0 : Int → α) (x_2 : Int) (x_5 : Int) (x_6 : Int) (t_1 : Rows) (x_8 : Rows) (x_7 : Int) : impl_TableOk_L1 bad k_ N ih0 x_2 x_5 x_6 t_1 x_8 0 x_7 = bad := rfl
theorem impl_TableOk_L1_s {α : Type} (bad : α) (k_ : Bool → α) (N : Nat) (ih0 : Int → α) (x_2 : Int) (x_5 : Int) (x_6 : Int) (t_1 : Rows) (x_8 : Rows) (m_ : Nat) (x_7 : Int) : impl_TableOk_L1 bad k_ N ih0 x_2 x_5 x_6 t_1 x_8 (m_ + 1) x_7 = impl_TableOk_l1 bad k_ ih0 x_2 x_5 x_6 t_1 x_8 (impl_TableOk_L1 bad k_ N ih0 x_2 x_5 x_6 t_1 x_8 m_) x_7 := rfl
def impl_TableOk_L0 {α : Type} (bad : α) (k_ : Bool → α) (N : Nat) (x : Rows) (x_1 : Int) (t_1 : Rows) (m_ : Nat) : Int → α :=
  Nat.rec (motive := fun _ => Int → α) (fun _ => bad) (fun _ ih0 => impl_TableOk_l0 bad k_ (fun x_2 x_5 x_6 x_8 => impl_TableOk_L1 bad k_ N ih0 x_2 x_5 x_6 t_1 x_8 N) x x_1 t_1 ih0) m_
theorem impl_TableOk_L0_z {α : Type} (bad : α) (k_ : Bool → α) (N : Nat) (x : Rows) (x_1 : Int) (t_1 : Rows) (x_2 : Int) : impl_TableOk_L0 bad k_ N x x_1 t_1 0 x_2 = bad := rfl
theorem impl_TableOk_L0_s {α : Type} (bad : α) (k_ : Bool → α) (N : Nat) (x : Rows) (x_1 : Int) (t_1 : Rows) (m_ : Nat) (x_2 : Int) : impl_TableOk_L0 bad k_ N x x_1 t_1 (m_ + 1) x_2 = impl_TableOk_l0 bad k_ (fun x_2 x_5 x_6 x_8 => impl_TableOk_L1 bad k_ N (impl_TableOk_L0 bad k_ N x x_1 t_1 m_) x_2 x_5 x_6 t_1 x_8 N) x x_1 t_1 (impl_TableOk_L0 bad k_ N x x_1 t_1 m_) x_2 := rfl
def impl_TableOk_t {α : Type} (bad : α) (k_ : Bool → α) (l0 : Rows → Int → Rows → Int → α) (t : SFlowTable) : α :=
  bif (len t.Slots) != 8 then k_ false
  else l0 t.Slots (len t.Slots) t.Slots 0
def impl_TableOk_f {α : Type} (bad : α) (k_ : Bool → α) (N : Nat) (t : SFlowTable) : α := impl_TableOk_t bad k_ (fun x x_1 t_1 => impl_TableOk_L0 bad k_ N x x_1 t_1 N) t
theorem anyIdx_no' {p : Nat → List DC → Bool} : ∀ {l : Rows} {s : Nat}, anyIdx p l s = false → ∀ i, i < l.length → p (s + i) (nth l i) = false
  | [], _, _, i, h => by simp at h
  | r :: rs, s, h, i, hi => by
    simp only [anyIdx] at h
    cases hp : p s r
    · rw [hp, cond_false] at h
      cases i with
      | zero => exact hp
      | succ i =>
        have := anyIdx_no' h i (by simpa using hi)
        rw [show s + (i + 1) = s + 1 + i by omega]
        exact this
    · rw [hp] at h
      cases h
theorem anyIdx_of' {p : Nat → List DC → Bool} : ∀ {l : Rows} {s : Nat}, (∀ i, i < l.length → p (s + i) (nth l i) = false) → anyIdx p l s = false
  | [], _, _ => rfl
  | r :: rs, s, h => by
    simp only [anyIdx]
    rw [show p s r = false from h 0 (by simp), cond_false]
    exact anyIdx_of' (fun i hi => by
      have := h (i + 1) (by simpa using hi)
      rw [show s + 1 + i = s + (i + 1) by omega]
      exact this)
/-- An empty slot ahead of slot i on a way. -/
def wayBad (t : Rows) (i : Int) : Rows → Bool
  | [] => false
  | r :: rs => bif (rI r 0) == i then false else bif (rI (nth t (Int.toNat (rI r 0))) 0) == 0 then true else wayBad t i rs
theorem go_way {α : Type} (t : Rows) (x : Int) (A B : α) : ∀ (l : Rows) (j : Nat), rowsGo (σ := Unit) (fun _ r c s => bif (rI r 0) == x then A else bif (rI (nth t (Int.toNat (rI r 0))) 0) == 0 then B else c s) (fun _ => A) l j () = bif wayBad t x l then B else A
  | [], _ => rfl
  | r :: rs, j => by
    simp only [rowsGo, wayBad]
    cases (rI r 0) == x
    · cases (rI (nth t (Int.toNat (rI r 0))) 0) == 0
      · exact go_way t x A B rs (j + 1)
      · rfl
    · rfl
def zFlow (r : List DC) : Bool := bif (rI r 1) == 0 then bif (rI r 2) == 0 then bif (rI r 3) == 0 then bif (rI r 4) == 0 then bif (rI r 5) == 0 then true else false else false else false else false else false
def stBad (r : List DC) : Bool := bif !(between (rI r 0) 0 2) then true else !(between (rI r 6) 0 3)
/-- What the program's loop and the reference's refuse a slot for. -/
def rowI (t : Rows) (i : Nat) (r : List DC) : Bool := bif stBad r then true else bif (rI r 0) != 1 then bif !(zFlow r) then true else (rI r 6) != 0 else bif (slotOf (⟨t⟩ : SFlowTable) (SFlow.decAt r 1)) != (i : Int) then true else wayBad t (i : Int) (wayOf (SFlow.decAt r 1))
def rowS (t : Rows) (i : Nat) (r : List DC) : Bool := bif stBad r then true else bif (rI r 0) != 1 then bif (rI r 6) != 0 then true else !(zFlow r) else (l13Find (⟨t⟩ : SFlowTable) (SFlow.decAt r 1)) != (i : Int)
def TableOk (t : SFlowTable) : Bool := bif (len t.Slots) != 8 then false else bif anyIdx (rowI t.Slots) t.Slots 0 then false else true
/-- The way, a number at a time. -/
def wayN (t : Rows) (h : Int) (i : Int) : Nat → Nat → Bool
  | 0, _ => false
  | m + 1, k => bif (h + (k : Int)) % 8 == i then false else bif (rI (nth t (Int.toNat ((h + (k : Int)) % 8))) 0) == 0 then true else wayN t h i m (k + 1)
theorem wayBad_eq (t : Rows) (i : Int) (f : SFlow) : wayBad t i (wayOf f) = wayN t (HomeSlot f) i 8 0 := rfl
theorem usedEq_iff {r : List DC} {f : SFlow} : usedEq r f = true ↔ rI r 0 = 1 ∧ SFlow.decAt r 1 = f := by
  cases f with
  | mk a b c d e =>
    simp only [usedEq, SFlow.decAt, SFlow.mk.injEq]
    by_cases h0 : rI r 0 = 1
    · by_cases h1 : rI r 1 = a
      · by_cases h2 : rI r 2 = b
        · by_cases h3 : rI r 3 = c
          · by_cases h4 : rI r 4 = d
            · by_cases h5 : rI r 5 = e
              · simp [h0, h1, h2, h3, h4, h5]
              · simp [h0, h1, h2, h3, h4, h5]
            · simp [h0, h1, h2, h3, h4]
          · simp [h0, h1, h2, h3]
        · simp [h0, h1, h2]
      · simp [h0, h1]
    · simp [h0]
theorem usedEq_self {r : List DC} (h : rI r 0 = 1) : usedEq r (SFlow.decAt r 1) = true := usedEq_iff.2 ⟨h, rfl⟩
theorem way_find {t : Rows} {h : Int} {f : SFlow} {i : Nat} (hi : i < 8) (h1 : rI (nth t i) 0 = 1) (hf : SFlow.decAt (nth t i) 1 = f)
    (hu : ∀ j, j < 8 → usedEq (nth t j) f = true → j = i) : ∀ (m k : Nat), (∃ d, d < m ∧ (h + (k : Int) + (d : Int)) % 8 = (i : Int)) → wayN t h (i : Int) m k = false → l13F t h f m k = (i : Int)
  | 0, k, ⟨d, hd, _⟩, _ => by omega
  | m + 1, k, ⟨d, hd, he⟩, hw => by
    unfold l13F
    unfold wayN at hw
    by_cases hk : (h + (k : Int)) % 8 = (i : Int)
    · rw [hk, Int.toNat_natCast]
      have e0 : ((rI (nth t i) 0) == 0) = false := by rw [h1]; rfl
      rw [e0, usedEq_iff.2 ⟨h1, hf⟩]
      rfl
    · have e1 : ((h + (k : Int)) % 8 == (i : Int)) = false := by simpa using hk
      rw [e1, cond_false] at hw
      cases e0 : (rI (nth t (Int.toNat ((h + (k : Int)) % 8))) 0) == 0
      · rw [e0, cond_false] at hw
        cases e2 : usedEq (nth t (Int.toNat ((h + (k : Int)) % 8))) f
        · simp only [cond_false]
          refine way_find hi h1 hf hu m (k + 1) ⟨d - 1, ?_, ?_⟩ hw
          · rcases d with _ | d
            · exact absurd (by simpa using he) hk
            · omega
          · rcases d with _ | d
            · exact absurd (by simpa using he) hk
            · rw [← he]
              congr 1
              omega
        · have := hu _ (by omega) e2
          exact absurd (by omega) hk
      · rw [e0] at hw
        cases hw
theorem find_way {t : Rows} {h : Int} {f : SFlow} {i : Nat} : ∀ (m k : Nat), l13F t h f m k = (i : Int) → wayN t h (i : Int) m k = false
  | 0, _, _ => rfl
  | m + 1, k, hl => by
    unfold l13F at hl
    unfold wayN
    cases e1 : ((h + (k : Int)) % 8 == (i : Int))
    · cases e0 : (rI (nth t (Int.toNat ((h + (k : Int)) % 8))) 0) == 0
      · rw [e0, cond_false] at hl
        cases e2 : usedEq (nth t (Int.toNat ((h + (k : Int)) % 8))) f
        · rw [e2, cond_false] at hl
          exact find_way m (k + 1) hl
        · rw [e2, cond_true] at hl
          have : ((h + (k : Int)) % 8 == (i : Int)) = true := by simpa using hl
          rw [e1] at this
          cases this
      · rw [e0, cond_true] at hl
        omega
    · rfl
theorem slot_ne {t : Rows} {i : Nat} (h : i < t.length) (h1 : rI (nth t i) 0 = 1) : (slotOf (⟨t⟩ : SFlowTable) (SFlow.decAt (nth t i) 1) != (i : Int)) = anyN (fun j => usedEq (nth t j) (SFlow.decAt (nth t i) 1)) i 0 := by
  have := findIdx_ne (fun _ r => usedEq r (SFlow.decAt (nth t i) 1)) t 0 i h (usedEq_self h1)
  rw [Nat.zero_add] at this
  exact this
theorem anyN_false {p : Nat → Bool} : ∀ {m s : Nat}, anyN p m s = false ↔ ∀ j, s ≤ j → j < s + m → p j = false
  | 0, s => by simp only [anyN, true_iff]; intro j h1 h2; omega
  | m + 1, s => by
    simp only [anyN]
    cases hp : p s
    · simp only [cond_false]
      rw [anyN_false]
      constructor
      · intro h j h1 h2
        by_cases hj : j = s
        · rw [hj]; exact hp
        · exact h j (by omega) (by omega)
      · intro h j h1 h2
        exact h j (by omega) (by omega)
    · simp only [cond_true]
      constructor
      · intro h; cases h
      · intro h
        have := h s (by omega) (by omega)
        rw [hp] at this
        cases this
theorem rows_same {t : Rows} (h8 : t.length = 8) : anyIdx (rowS t) t 0 = anyIdx (rowI t) t 0 := by
  have zc : ∀ r : List DC, (bif !(zFlow r) then true else (rI r 6) != 0) = (bif (rI r 6) != 0 then true else !(zFlow r)) := by
    intro r
    cases zFlow r <;> cases ((rI r 6) != 0) <;> rfl
  have sI : ∀ i, rowI t i (nth t i) = false → rI (nth t i) 0 = 1 → stBad (nth t i) = false ∧ anyN (fun j => usedEq (nth t j) (SFlow.decAt (nth t i) 1)) i 0 = false ∧ wayN t (HomeSlot (SFlow.decAt (nth t i) 1)) (i : Int) 8 0 = false ∨ ¬ i < t.length := by
    intro i h h1
    by_cases hi : i < t.length
    · left
      unfold rowI at h
      have e1 : ((rI (nth t i) 0) != 1) = false := by rw [h1]; rfl
      rw [e1, slot_ne hi h1, wayBad_eq] at h
      cases hs : stBad (nth t i)
      · rw [hs] at h
        simp only [cond_false] at h
        refine ⟨rfl, ?_⟩
        cases ha : anyN (fun j => usedEq (nth t j) (SFlow.decAt (nth t i) 1)) i 0
        · rw [ha, cond_false] at h
          exact ⟨rfl, h⟩
        · rw [ha] at h; cases h
      · rw [hs] at h; cases h
    · exact .inr hi
  have sS : ∀ i, i < t.length → rowS t i (nth t i) = false → rI (nth t i) 0 = 1 → stBad (nth t i) = false ∧ l13Find (⟨t⟩ : SFlowTable) (SFlow.decAt (nth t i) 1) = (i : Int) := by
    intro i hi h h1
    unfold rowS at h
    have e1 : ((rI (nth t i) 0) != 1) = false := by rw [h1]; rfl
    rw [e1] at h
    cases hs : stBad (nth t i)
    · rw [hs] at h
      simp only [cond_false] at h
      exact ⟨rfl, by simpa using h⟩
    · rw [hs] at h; cases h
  cases hI : anyIdx (rowI t) t 0
  · have hI := anyIdx_no' hI
    simp only [Nat.zero_add] at hI
    refine anyIdx_of' (fun i hi => ?_)
    rw [Nat.zero_add]
    by_cases h1 : rI (nth t i) 0 = 1
    · rcases sI i (hI i hi) h1 with ⟨a, b, c⟩ | h
      · have hu : ∀ j, j < 8 → usedEq (nth t j) (SFlow.decAt (nth t i) 1) = true → j = i := by
          intro j hj hq
          obtain ⟨j1, j2⟩ := usedEq_iff.1 hq
          rcases Nat.lt_trichotomy j i with hlt | rfl | hgt
          · have := anyN_false.1 b j (by omega) (by omega)
            rw [hq] at this
            cases this
          · rfl
          · rcases sI j (hI j (by omega)) j1 with ⟨_, b', _⟩ | h
            · have := anyN_false.1 b' i (by omega) (by omega)
              rw [usedEq_iff.2 ⟨h1, j2.symm⟩] at this
              cases this
            · omega
        have hf : l13Find (⟨t⟩ : SFlowTable) (SFlow.decAt (nth t i) 1) = (i : Int) := by
          have hh := HomeSlot_rng (SFlow.decAt (nth t i) 1)
          refine way_find (by omega) h1 rfl hu 8 0 ⟨(((i : Int) - HomeSlot (SFlow.decAt (nth t i) 1)) % 8).toNat, by omega, by omega⟩ c
        unfold rowS
        rw [a, hf, h1]
        simp
      · exact absurd hi h
    · have := hI i hi
      unfold rowI at this
      unfold rowS
      have e1 : ((rI (nth t i) 0) != 1) = true := by simpa using h1
      rw [e1] at this ⊢
      rw [zc] at this
      exact this
  · cases hS : anyIdx (rowS t) t 0
    · have hS := anyIdx_no' hS
      simp only [Nat.zero_add] at hS
      have : anyIdx (rowI t) t 0 = false := by
        refine anyIdx_of' (fun i hi => ?_)
        rw [Nat.zero_add]
        by_cases h1 : rI (nth t i) 0 = 1
        · obtain ⟨a, b⟩ := sS i hi (hS i hi) h1
          have hu : anyN (fun j => usedEq (nth t j) (SFlow.decAt (nth t i) 1)) i 0 = false := by
            refine anyN_false.2 (fun j _ hj => ?_)
            cases hq : usedEq (nth t j) (SFlow.decAt (nth t i) 1)
            · rfl
            · obtain ⟨j1, j2⟩ := usedEq_iff.1 hq
              have := (sS j (by omega) (hS j (by omega)) j1).2
              rw [j2, b] at this
              omega
          unfold rowI
          have e1 : ((rI (nth t i) 0) != 1) = false := by rw [h1]; rfl
          rw [a, e1, slot_ne hi h1, hu, wayBad_eq, find_way 8 0 b]
          rfl
        · have := hS i hi
          unfold rowS at this
          unfold rowI
          have e1 : ((rI (nth t i) 0) != 1) = true := by simpa using h1
          rw [e1] at this ⊢
          rw [zc]
          exact this
      rw [hI] at this
      cases this
    · rfl
theorem impl_TableOk_c {α : Type} (bad : α) (k_ : Bool → α) (t : SFlowTable) (h_t : WtL SFlowTable.ct t.enc) : ∃ N, impl_TableOk_f bad k_ N t = k_ (TableOk t) := by
  obtain ⟨hl, _⟩ := wt_sl (SFlowTable.wt_Slots h_t)
  refine ⟨t.Slots.length + 9, ?_⟩
  unfold impl_TableOk_f impl_TableOk_t TableOk
  refine cond_c (fun _ => rfl) (fun hg => ?_)
  have h8 : t.Slots.length = 8 := by
    have : len t.Slots = 8 := by simpa using hg
    simp only [len] at this
    omega
  have key : impl_TableOk_L0 bad k_ (t.Slots.length + 9) t.Slots (len t.Slots) t.Slots (t.Slots.length + 9) 0 = bif anyIdx (rowI t.Slots) t.Slots 0 then k_ false else k_ true := by
    refine (loop_rowsN t.Slots (impl_TableOk_L0 bad k_ (t.Slots.length + 9) t.Slots (len t.Slots) t.Slots) (fun i r c => bif rowI t.Slots i r then k_ false else c) (k_ true) ?_ ?_ (t.Slots.length + 9) (by omega)).trans (go_anyIdx (rowI t.Slots) (k_ false) (k_ true) t.Slots 0)
    · intro n i h
      rw [impl_TableOk_L0_s]
      have hc : ∀ z : Int, rI (nth t.Slots i) 0 = z → True := fun _ _ => trivial
      have hw8 : (wayOf (SFlow.decAt (nth t.Slots i) 1)).length = 8 := rfl
      have inner : ∀ ih : Int → α, impl_TableOk_L1 bad k_ (t.Slots.length + 9) ih (i : Int) (i : Int) (len (wayOf (SFlow.decAt (nth t.Slots i) 1))) t.Slots (wayOf (SFlow.decAt (nth t.Slots i) 1)) (t.Slots.length + 9) 0 = bif wayBad t.Slots (i : Int) (wayOf (SFlow.decAt (nth t.Slots i) 1)) then k_ false else ih ((i : Int) + 1) := by
        intro ih
        refine (loop_rowsN (wayOf (SFlow.decAt (nth t.Slots i) 1)) (impl_TableOk_L1 bad k_ (t.Slots.length + 9) ih (i : Int) (i : Int) (len (wayOf (SFlow.decAt (nth t.Slots i) 1))) t.Slots (wayOf (SFlow.decAt (nth t.Slots i) 1))) (fun j r c => bif (rI r 0) == (i : Int) then ih ((i : Int) + 1) else bif (rI (nth t.Slots (Int.toNat (rI r 0))) 0) == 0 then k_ false else c) (ih ((i : Int) + 1)) ?_ ?_ (t.Slots.length + 9) (by omega)).trans (go_way t.Slots (i : Int) (ih ((i : Int) + 1)) (k_ false) (wayOf (SFlow.decAt (nth t.Slots i) 1)) 0)
        · intro n j hj
          rw [impl_TableOk_L1_s]
          have hx : idx (rI (nth (wayOf (SFlow.decAt (nth t.Slots i) 1)) j) 0) t.Slots = true := by
            have : rI (nth (wayOf (SFlow.decAt (nth t.Slots i) 1)) j) 0 = (HomeSlot (SFlow.decAt (nth t.Slots i) 1) + (j : Int)) % 8 := by
              rw [hw8] at hj
              rcases j with _ | _ | _ | _ | _ | _ | _ | _ | j
              all_goals first | rfl | omega
            rw [this]
            simp only [idx, Bool.and_eq_true, decide_eq_true_eq, h8]
            omega
          have w1 : w64 ((i : Int) + 1) = (i : Int) + 1 := w64_succ h hl
          have w2 : w64 ((j : Int) + 1) = (j : Int) + 1 := w64_in (by omega) (by omega)
          simp only [impl_TableOk_l1, lt_len hj, idx_nat hj, inl_nat hj, hx, w1, w2, Int.toNat_natCast, andt_true_l, andt_true_r, cond_true]
        · intro n
          rw [impl_TableOk_L1_s]
          simp only [impl_TableOk_l1, not_lt_len, cond_false, w64_succ h hl]
      unfold impl_TableOk_l0
      simp only [inner, lt_len h, idx_nat h, w64_succ h hl, Int.toNat_natCast, andt_true_l, andt_true_r, cond_true]
      unfold rowI
      show (bif stBad (nth t.Slots i) then k_ false else _) = _
      cases stBad (nth t.Slots i)
      · simp only [cond_false]
        cases ((rI (nth t.Slots i) 0) != 1)
        · simp only [cond_false]
          cases (slotOf (⟨t.Slots⟩ : SFlowTable) (SFlow.decAt (nth t.Slots i) 1) != (i : Int)) <;> rfl
        · rfl
      · rfl
    · intro n
      rw [impl_TableOk_L0_s]
      simp only [impl_TableOk_l0, not_lt_len, cond_false]
  refine key.trans ?_
  exact cond_k rfl rfl

def spec_TableOk_l0 {α : Type} (bad : α) (k_ : Bool → α) (t_1 : Rows) (ih0 : Int → α) (k : Int) : α :=
  bif decide (k < len t_1) then
    bif andt true (idx k t_1) then
      bif bif !(between (rI (nth t_1 (Int.toNat k)) 0) 0 2) then true else !(between (rI (nth t_1 (Int.toNat k)) 6) 0 3) then k_ false
      else bif (rI (nth t_1 (Int.toNat k)) 0) != 1 then
        bif bif (rI (nth t_1 (Int.toNat k)) 6) != 0 then true else !(bif (rI (nth t_1 (Int.toNat k)) 1) == 0 then bif (rI (nth t_1 (Int.toNat k)) 2) == 0 then bif (rI (nth t_1 (Int.toNat k)) 3) == 0 then bif (rI (nth t_1 (Int.toNat k)) 4) == 0 then bif (rI (nth t_1 (Int.toNat k)) 5) == 0 then true else false else false else false else false else false) then k_ false
        else ih0 (w64 (k + 1))
      else bif andt true (l13ok (⟨t_1⟩ : SFlowTable) (SFlow.decAt (nth t_1 (Int.toNat k)) 1)) then
          bif (l13Find (⟨t_1⟩ : SFlowTable) (SFlow.decAt (nth t_1 (Int.toNat k)) 1)) != k then k_ false
          else ih0 (w64 (k + 1))
        else bad
    else bad
  else k_ true
def spec_TableOk_L0 {α : Type} (bad : α) (k_ : Bool → α) (N : Nat) (t_1 : Rows) (m_ : Nat) : Int → α :=
  Nat.rec (motive := fun _ => Int → α) (fun _ => bad) (fun _ ih0 => spec_TableOk_l0 bad k_ t_1 ih0) m_
theorem spec_TableOk_L0_z {α : Type} (bad : α) (k_ : Bool → α) (N : Nat) (t_1 : Rows) (k : Int) : spec_TableOk_L0 bad k_ N t_1 0 k = bad := rfl
theorem spec_TableOk_L0_s {α : Type} (bad : α) (k_ : Bool → α) (N : Nat) (t_1 : Rows) (m_ : Nat) (k : Int) : spec_TableOk_L0 bad k_ N t_1 (m_ + 1) k = spec_TableOk_l0 bad k_ t_1 (spec_TableOk_L0 bad k_ N t_1 m_) k := rfl
def spec_TableOk_t {α : Type} (bad : α) (k_ : Bool → α) (l0 : Rows → Int → α) (t : SFlowTable) : α :=
  bif (len t.Slots) != 8 then k_ false
  else l0 t.Slots 0
def spec_TableOk_f {α : Type} (bad : α) (k_ : Bool → α) (N : Nat) (t : SFlowTable) : α := spec_TableOk_t bad k_ (fun t_1 => spec_TableOk_L0 bad k_ N t_1 N) t
theorem spec_TableOk_c {α : Type} (bad : α) (k_ : Bool → α) (t : SFlowTable) (h_t : WtL SFlowTable.ct t.enc) : ∃ N, spec_TableOk_f bad k_ N t = k_ (TableOk t) := by
  obtain ⟨hl, _⟩ := wt_sl (SFlowTable.wt_Slots h_t)
  refine ⟨t.Slots.length + 1, ?_⟩
  unfold spec_TableOk_f spec_TableOk_t TableOk
  refine cond_c (fun _ => rfl) (fun hg => ?_)
  have h8 : t.Slots.length = 8 := by
    have : len t.Slots = 8 := by simpa using hg
    simp only [len] at this
    omega
  have key : spec_TableOk_L0 bad k_ (t.Slots.length + 1) t.Slots (t.Slots.length + 1) 0 = bif anyIdx (rowS t.Slots) t.Slots 0 then k_ false else k_ true := by
    refine (loop_rows0 t.Slots (spec_TableOk_L0 bad k_ (t.Slots.length + 1) t.Slots) (fun i r c => bif rowS t.Slots i r then k_ false else c) (k_ true) ?_ ?_).trans (go_anyIdx (rowS t.Slots) (k_ false) (k_ true) t.Slots 0)
    · intro n i h
      rw [spec_TableOk_L0_s]
      have ho : l13ok (⟨t.Slots⟩ : SFlowTable) (SFlow.decAt (nth t.Slots i) 1) = true := decide_eq_true h8
      simp only [spec_TableOk_l0, ho, lt_len h, idx_nat h, w64_succ h hl, Int.toNat_natCast, andt_true_l, andt_true_r, cond_true]
      unfold rowS
      show (bif stBad (nth t.Slots i) then k_ false else _) = _
      cases stBad (nth t.Slots i)
      · simp only [cond_false]
        cases ((rI (nth t.Slots i) 0) != 1)
        · rfl
        · rfl
      · rfl
    · intro n
      rw [spec_TableOk_L0_s]
      simp only [spec_TableOk_l0, not_lt_len, cond_false]
  refine key.trans ?_
  rw [rows_same h8]
  exact cond_k rfl rfl

end
end Go.Proofs.YtdlelfondkajbaaGreat.Pl
