/- What functions of the program compute, in plain Lean, as the value machine runs them. Conditions: none. -/
import Derived.Test.YtjmgpcfmcdlnpaaPBa
set_option linter.unusedVariables false
set_option linter.unusedSimpArgs false
namespace Go.Proofs.Ytjmgpcfmcdlnpaa.Pl
open Vm
noncomputable section


def impl_copyInts_t {α : Type} (bad : α) (k_ : Rows → α) (l : Rows) : α :=
  bif andt true (room2 8 [] l) then
    k_ l
  else bad
theorem impl_copyInts_c {α : Type} (bad : α) (k_ : Rows → α) (l : Rows) (h_l : WtC (.sl [.int .i64]) (.sl l)) (hok : sm l = true) : impl_copyInts_t bad k_ l = k_ (idf l) := by
  unfold impl_copyInts_t
  rw [room2_sm hok (show 8 ≤ 8388608 by omega)]
  rfl

def impl_copyFilter_t {α : Type} (bad : α) (k_ : SFilter → α) (f : SFilter) : α :=
  bif andt true (sm f.Vlans) then
    k_ (⟨f.Mac, f.Promiscuous, idf f.Vlans⟩ : SFilter)
  else bad
def fiSm (f : SFilter) : Bool := sm f.Vlans
theorem impl_copyFilter_c {α : Type} (bad : α) (k_ : SFilter → α) (f : SFilter) (h_f : WtL SFilter.ct f.enc) (hok : fiSm f = true) : impl_copyFilter_t bad k_ f = k_ (idf f) := by
  unfold impl_copyFilter_t
  rw [show sm f.Vlans = true from hok]
  rfl

def spec_l24Copy_t {α : Type} (bad : α) (k_ : SFilter → α) (f : SFilter) : α :=
  bif andt true (room2 8 [] f.Vlans) then
    k_ f
  else bad
theorem spec_l24Copy_c {α : Type} (bad : α) (k_ : SFilter → α) (f : SFilter) (h_f : WtL SFilter.ct f.enc) (hok : fiSm f = true) : spec_l24Copy_t bad k_ f = k_ (idf f) := by
  unfold spec_l24Copy_t
  rw [room2_sm (show sm f.Vlans = true from hok) (show 8 ≤ 8388608 by omega)]
  rfl


theorem anyIdx_iff {p : Nat → List DC → Bool} : ∀ {l : Rows} {s : Nat}, anyIdx p l s = true ↔ ∃ i, i < l.length ∧ p (s + i) (nth l i) = true
  | [], s => by simp [anyIdx]
  | x :: xs, s => by
    simp only [anyIdx]
    constructor
    · intro h
      cases hp : p s x
      · rw [hp] at h
        obtain ⟨i, hi, h⟩ := anyIdx_iff.1 h
        refine ⟨i + 1, by simp only [List.length_cons]; omega, ?_⟩
        rw [show s + (i + 1) = s + 1 + i by omega]
        exact h
      · exact ⟨0, by simp, hp⟩
    · rintro ⟨i, hi, h⟩
      cases hp : p s x
      · simp only [cond_false]
        cases i with
        | zero =>
          have h : p s x = true := h
          rw [hp] at h
          cases h
        | succ i =>
          refine anyIdx_iff.2 ⟨i, by simpa using hi, ?_⟩
          rw [show s + 1 + i = s + (i + 1) by omega]
          exact h
      · rfl
theorem hasInt_iff {l : Rows} {n : Int} : hasInt l n = true ↔ ∃ i, i < l.length ∧ rI (nth l i) 0 = n := by
  unfold hasInt
  rw [anyIdx_iff]
  simp only [beq_iff_eq]
/-- Numbers in order. -/
def Asc (l : Rows) : Prop := ∀ i, i < l.length → (0 ≤ rI (nth l i) 0 ∧ rI (nth l i) 0 ≤ 4095) ∧ (0 < i → rI (nth l (i - 1)) 0 < rI (nth l i) 0)
theorem FilterOk_iff {f : SFilter} (hl : f.Vlans.length ≤ 9223372036854775807) : FilterOk f = true ↔ Asc f.Vlans ∧ (0 ≤ f.Mac ∧ f.Mac ≤ 281474976710654) ∧ len f.Vlans ≤ 8 := by
  unfold FilterOk
  generalize hp : (fun (i : Nat) (r : List DC) => bif !(between (rI r 0) 0 4095) then true else bif decide ((0 : Int) < (i : Int)) then decide (rI r 0 ≤ rI (nth f.Vlans (Int.toNat (w64 ((i : Int) - 1)))) 0) else false) = p
  have hpi : ∀ i, i < f.Vlans.length → (p i (nth f.Vlans i) = false ↔ (0 ≤ rI (nth f.Vlans i) 0 ∧ rI (nth f.Vlans i) 0 ≤ 4095) ∧ (0 < i → rI (nth f.Vlans (i - 1)) 0 < rI (nth f.Vlans i) 0)) := by
    intro i hi
    rw [← hp]
    simp only
    cases hb : between (rI (nth f.Vlans i) 0) 0 4095
    · constructor
      · intro h; cases h
      · intro h
        rw [show between (rI (nth f.Vlans i) 0) 0 4095 = true from between_iff.2 h.1] at hb
        cases hb
    · have hb := between_iff.1 hb
      simp only [Bool.not_true, cond_false]
      by_cases h0 : 0 < i
      · have e : Int.toNat (w64 ((i : Int) - 1)) = i - 1 := by rw [w64_in (by omega) (by omega)]; omega
        rw [decide_eq_true (show (0 : Int) < (i : Int) by omega), cond_true, e]
        constructor
        · intro h
          have := of_decide_eq_false h
          exact ⟨hb, fun _ => by omega⟩
        · intro h
          exact decide_eq_false (by have := h.2 h0; omega)
      · rw [decide_eq_false (show ¬ (0 : Int) < (i : Int) by omega)]
        exact ⟨fun _ => ⟨hb, fun h => absurd h h0⟩, fun _ => rfl⟩
  have hA : anyIdx p f.Vlans 0 = false ↔ Asc f.Vlans := by
    constructor
    · intro h i hi
      refine (hpi i hi).1 ?_
      cases hq : p i (nth f.Vlans i)
      · rfl
      · have : anyIdx p f.Vlans 0 = true := anyIdx_iff.2 ⟨i, hi, by rw [Nat.zero_add]; exact hq⟩
        rw [this] at h
        cases h
    · intro h
      cases hq : anyIdx p f.Vlans 0
      · rfl
      · obtain ⟨i, hi, h2⟩ := anyIdx_iff.1 hq
        rw [Nat.zero_add, (hpi i hi).2 (h i hi)] at h2
        cases h2
  rw [← hA]
  cases anyIdx p f.Vlans 0
  · simp only [cond_false, true_and]
    cases hb : between f.Mac 0 281474976710654
    · constructor
      · intro h; cases h
      · intro h
        rw [show between f.Mac 0 281474976710654 = true from between_iff.2 h.1] at hb
        cases hb
    · have hb := between_iff.1 hb
      simp only [cond_true, decide_eq_true_eq]
      exact ⟨fun h => ⟨hb, h⟩, fun h => h.2⟩
  · simp
/-- Where a number goes among numbers in order. -/
def posV (v : Int) : Rows → Nat
  | [] => 0
  | r :: rs => bif decide (rI r 0 < v) then posV v rs + 1 else 0
theorem posV_le (v : Int) : ∀ (l : Rows), posV v l ≤ l.length
  | [] => by simp [posV]
  | r :: rs => by
    simp only [posV]
    cases decide (rI r 0 < v)
    · simp
    · have := posV_le v rs
      simp only [cond_true, List.length_cons]
      omega
theorem posV_lt (v : Int) : ∀ (l : Rows) (i : Nat), i < posV v l → rI (nth l i) 0 < v
  | [], i, h => by simp [posV] at h
  | r :: rs, i, h => by
    simp only [posV] at h
    cases hd : decide (rI r 0 < v)
    · rw [hd] at h; simp at h
    · rw [hd] at h
      cases i with
      | zero => exact of_decide_eq_true hd
      | succ i => exact posV_lt v rs i (by simpa using h)
theorem posV_ge (v : Int) : ∀ (l : Rows), posV v l < l.length → v ≤ rI (nth l (posV v l)) 0
  | [], h => by simp at h
  | r :: rs, h => by
    simp only [posV] at h ⊢
    cases hd : decide (rI r 0 < v)
    · have := of_decide_eq_false hd
      show v ≤ rI r 0
      omega
    · rw [hd] at h
      exact posV_ge v rs (by simpa using h)
def insV (v : Int) (l : Rows) : Rows := l.take (posV v l) ++ [[.int v]] ++ l.drop (posV v l)
theorem insV_len (v : Int) (l : Rows) : (insV v l).length = l.length + 1 := by
  have := posV_le v l
  simp only [insV, List.length_append, List.length_take, List.length_drop, List.length_cons, List.length_nil]
  omega

def impl_addOrdered_l0 {α : Type} (bad : α) (k_ : Rows → α) (n : Int) (l : Rows) (x_1 : Int) (ih0 : Bool → Int → Rows → α) (put : Bool) (x_2 : Int) (out_ : Rows) : α :=
  let z0 : Bool := andt true (room2 8 out_ ([[.int n]]))
  bif decide (x_2 < x_1) then
    bif andt true (idx x_2 l) then
      bif bif !put then decide (n < rI (nth l (Int.toNat x_2)) 0) else false then
        bif z0 then
          bif andt true (room2 8 (out_ ++ ([[.int n]])) ([[.int (rI (nth l (Int.toNat x_2)) 0)]])) then
            ih0 true (w64 (x_2 + 1)) ((out_ ++ ([[.int n]])) ++ ([[.int (rI (nth l (Int.toNat x_2)) 0)]]))
          else bad
        else bad
      else bif andt true (room2 8 out_ ([[.int (rI (nth l (Int.toNat x_2)) 0)]])) then
          ih0 put (w64 (x_2 + 1)) (out_ ++ ([[.int (rI (nth l (Int.toNat x_2)) 0)]]))
        else bad
    else bad
  else bif !put then
    bif z0 then
      k_ (out_ ++ ([[.int n]]))
    else bad
  else k_ out_
def impl_addOrdered_L0 {α : Type} (bad : α) (k_ : Rows → α) (N : Nat) (n : Int) (l : Rows) (x_1 : Int) (m_ : Nat) : Bool → Int → Rows → α :=
  Nat.rec (motive := fun _ => Bool → Int → Rows → α) (fun _ _ _ => bad) (fun _ ih0 => impl_addOrdered_l0 bad k_ n l x_1 ih0) m_
theorem impl_addOrdered_L0_z {α : Type} (bad : α) (k_ : Rows → α) (N : Nat) (n : Int) (l : Rows) (x_1 : Int) (put : Bool) (x_2 : Int) (out_ : Rows) : impl_addOrdered_L0 bad k_ N n l x_1 0 put x_2 out_ = bad := rfl
theorem impl_addOrdered_L0_s {α : Type} (bad : α) (k_ : Rows → α) (N : Nat) (n : Int) (l : Rows) (x_1 : Int) (m_ : Nat) (put : Bool) (x_2 : Int) (out_ : Rows) : impl_addOrdered_L0 bad k_ N n l x_1 (m_ + 1) put x_2 out_ = impl_addOrdered_l0 bad k_ n l x_1 (impl_addOrdered_L0 bad k_ N n l x_1 m_) put x_2 out_ := rfl
def impl_addOrdered_t {α : Type} (bad : α) (k_ : Rows → α) (l0 : Int → Bool → Int → Rows → α) (l : Rows) (n : Int) : α :=
  l0 (len l) false 0 []
def impl_addOrdered_f {α : Type} (bad : α) (k_ : Rows → α) (N : Nat) (l : Rows) (n : Int) : α := impl_addOrdered_t bad k_ (fun x_1 => impl_addOrdered_L0 bad k_ N n l x_1 N) l n
def addOk (l : Rows) (n : Int) : Bool := sm l
def ordGo (n : Int) : Rows → Bool → Rows → Rows
  | [], put, o => bif !put then o ++ [[.int n]] else o
  | r :: rs, put, o => bif bif !put then decide (n < rI r 0) else false then ordGo n rs true ((o ++ [[.int n]]) ++ [[.int (rI r 0)]]) else ordGo n rs put (o ++ [[.int (rI r 0)]])
def addOrdered (l : Rows) (n : Int) : Rows := ordGo n l false []
theorem impl_addOrdered_c {α : Type} (bad : α) (k_ : Rows → α) (l : Rows) (n : Int) (h_l : WtC (.sl [.int .i64]) (.sl l)) (h_n : WtC (.int .i64) (.int n)) (hok : addOk l n = true) : ∃ N, impl_addOrdered_f bad k_ N l n = k_ (addOrdered l n) := by
  obtain ⟨hl, _⟩ := wt_sl h_l
  have hs := sm_le (show sm l = true from hok)
  refine ⟨l.length + 1, ?_⟩
  unfold impl_addOrdered_f impl_addOrdered_t addOrdered
  have key : ∀ (m q i : Nat) (put : Bool) (o : Rows), i + m = l.length → m < q → o.length ≤ i + (bif put then 1 else 0) →
      impl_addOrdered_L0 bad k_ (l.length + 1) n l (len l) q put (i : Int) o = k_ (ordGo n (l.drop i) put o) := by
    intro m
    induction m with
    | zero =>
      intro q i put o h1 h2 h3
      obtain ⟨q, rfl⟩ : ∃ p, q = p + 1 := ⟨q - 1, by omega⟩
      have : i = l.length := by omega
      subst this
      rw [impl_addOrdered_L0_s, List.drop_eq_nil_of_le (Nat.le_refl _)]
      have h4 : (bif put then 1 else 0) ≤ 1 := by cases put <;> decide
      have hr : room2 8 o [[.int n]] = true := room2_le (by simp only [List.length_cons, List.length_nil]; omega) (by omega)
      simp only [impl_addOrdered_l0, not_lt_len, cond_false, hr, andt_true_l, cond_true, ordGo]
      cases put <;> rfl
    | succ m ihm =>
      intro q i put o h1 h2 h3
      obtain ⟨q, rfl⟩ : ∃ p, q = p + 1 := ⟨q - 1, by omega⟩
      have hi : i < l.length := by omega
      rw [impl_addOrdered_L0_s, List.drop_eq_getElem_cons hi]
      have e0 : l[i] = nth l i := by simp [nth, hi]
      have e2 : ((i + 1 : Nat) : Int) = (i : Int) + 1 := by omega
      have h4 : (bif put then 1 else 0) ≤ 1 := by cases put <;> decide
      have hr1 : ∀ x : List DC, room2 8 o [x] = true := fun x => room2_le (by simp only [List.length_cons, List.length_nil]; omega) (by omega)
      have hr2 : ∀ x y : List DC, room2 8 (o ++ [y]) [x] = true := fun x y => room2_le (by simp only [List.length_append, List.length_cons, List.length_nil]; omega) (by omega)
      simp only [impl_addOrdered_l0, lt_len hi, idx_nat hi, w64_succ hi hl, Int.toNat_natCast, hr1, hr2, andt_true_l, cond_true, e0, ordGo]
      cases hc : (bif !put then decide (n < rI (nth l i) 0) else false)
      · have := ihm q (i + 1) put (o ++ [[.int (rI (nth l i) 0)]]) (by omega) (by omega) (by simp only [List.length_append, List.length_cons, List.length_nil]; omega)
        rw [e2] at this
        exact this
      · have hp : put = false := by
          cases put
          · rfl
          · cases hc
        subst hp
        have := ihm q (i + 1) true ((o ++ [[.int n]]) ++ [[.int (rI (nth l i) 0)]]) (by omega) (by omega) (by simp only [List.length_append, List.length_cons, List.length_nil, cond_true, cond_false] at h3 ⊢; omega)
        rw [e2] at this
        exact this
  have := key l.length (l.length + 1) 0 false [] (by omega) (by omega) (by simp)
  simpa using this


theorem ordGo_true (n : Int) : ∀ (l o : Rows), (∀ r ∈ l, [.int (rI r 0)] = r) → ordGo n l true o = o ++ l
  | [], o, _ => by simp [ordGo]
  | r :: rs, o, h => by
    simp only [ordGo, Bool.not_true, cond_false]
    rw [ordGo_true n rs _ (fun x hx => h x (by simp [hx])), h r (by simp)]
    simp
theorem ordGo_false (n : Int) : ∀ (l o : Rows), (∀ r ∈ l, [.int (rI r 0)] = r) → (∀ r ∈ l, rI r 0 ≠ n) → ordGo n l false o = o ++ insV n l
  | [], o, _, _ => by simp [ordGo, insV, posV]
  | r :: rs, o, h, hn => by
    have hr := h r (by simp)
    have hne := hn r (by simp)
    simp only [ordGo, Bool.not_false, cond_true]
    by_cases hlt : n < rI r 0
    · rw [decide_eq_true hlt, cond_true, ordGo_true n rs _ (fun x hx => h x (by simp [hx])), hr]
      have hp : posV n (r :: rs) = 0 := by simp only [posV]; rw [decide_eq_false (by omega)]; rfl
      simp [insV, hp]
    · rw [decide_eq_false hlt, cond_false, ordGo_false n rs _ (fun x hx => h x (by simp [hx])) (fun x hx => hn x (by simp [hx])), hr]
      have hp : posV n (r :: rs) = posV n rs + 1 := by simp only [posV]; rw [decide_eq_true (by omega)]; rfl
      simp [insV, hp]
theorem addOrdered_eq {l : Rows} {n : Int} (h : ∀ r ∈ l, WtL [.int .i64] r) (hn : hasInt l n = false) : addOrdered l n = insV n l := by
  unfold addOrdered
  rw [ordGo_false n l [] (fun r hr => row_int (h r hr)) ?_, List.nil_append]
  intro r hr e
  obtain ⟨i, hi, rfl⟩ := List.getElem_of_mem hr
  have : hasInt l n = true := hasInt_iff.2 ⟨i, hi, by rw [← e]; simp [nth, hi]⟩
  rw [this] at hn
  cases hn
theorem nth_app_r {a b : Rows} {i : Nat} (h : a.length ≤ i) : nth (a ++ b) i = nth b (i - a.length) := by
  simp only [nth, List.getD_eq_getElem?_getD]
  rw [List.getElem?_append_right h]
theorem insV_at (v : Int) (l : Rows) : nth (insV v l) (posV v l) = [.int v] := by
  have h := posV_le v l
  have hl : (l.take (posV v l)).length = posV v l := by simp; omega
  simp only [insV]
  rw [List.append_assoc, nth_app_r (by omega), hl, Nat.sub_self]
  rfl
theorem insV_next (v : Int) (l : Rows) : nth (insV v l) (posV v l + 1) = nth l (posV v l) := by
  have h := posV_le v l
  have hl : (l.take (posV v l)).length = posV v l := by simp; omega
  simp only [insV]
  rw [nth_app_r (by simp only [List.length_append, hl, List.length_cons, List.length_nil]; omega)]
  simp only [List.length_append, hl, List.length_cons, List.length_nil, Nat.sub_self, nth, List.getD_eq_getElem?_getD, List.getElem?_drop, Nat.add_zero, Nat.zero_add]
theorem asc_lt {l : Rows} (h : Asc l) : ∀ (d i : Nat), i + (d + 1) < l.length → rI (nth l i) 0 < rI (nth l (i + (d + 1))) 0
  | 0, i, hi => by
    have := (h (i + 1) hi).2 (by omega)
    simpa using this
  | d + 1, i, hi => by
    have h1 := asc_lt h d i (by omega)
    have h2 := (h (i + (d + 1 + 1)) hi).2 (by omega)
    rw [show i + (d + 1 + 1) - 1 = i + (d + 1) by omega] at h2
    omega
theorem insV_dup {f : SFilter} {v : Int} (hl : f.Vlans.length ≤ 16777216) (h1 : FilterOk f = true) (h2 : hasInt f.Vlans v = true) : FilterOk (⟨f.Mac, f.Promiscuous, insV v f.Vlans⟩ : SFilter) = false := by
  cases hq : FilterOk (⟨f.Mac, f.Promiscuous, insV v f.Vlans⟩ : SFilter)
  · rfl
  · have hi := insV_len v f.Vlans
    have a1 := ((FilterOk_iff (by omega)).1 h1).1
    have a2 := ((FilterOk_iff (f := ⟨f.Mac, f.Promiscuous, insV v f.Vlans⟩) (by show (insV v f.Vlans).length ≤ _; omega)).1 hq).1
    obtain ⟨i, hi2, e⟩ := hasInt_iff.1 h2
    have hp : posV v f.Vlans ≤ i := by
      rcases Nat.lt_or_ge i (posV v f.Vlans) with h | h
      · have := posV_lt v f.Vlans i h
        omega
      · exact h
    have h3 := (a2 (posV v f.Vlans + 1) (by show _ < (insV v f.Vlans).length; omega)).2 (by omega)
    rw [show posV v f.Vlans + 1 - 1 = posV v f.Vlans by omega] at h3
    have h3 : rI (nth (insV v f.Vlans) (posV v f.Vlans)) 0 < rI (nth (insV v f.Vlans) (posV v f.Vlans + 1)) 0 := h3
    rw [insV_at, insV_next] at h3
    have h3 : v < rI (nth f.Vlans (posV v f.Vlans)) 0 := h3
    rcases Nat.lt_or_ge (posV v f.Vlans) i with h | h
    · have := asc_lt a1 (i - posV v f.Vlans - 1) (posV v f.Vlans) (by omega)
      rw [show posV v f.Vlans + (i - posV v f.Vlans - 1 + 1) = i by omega] at this
      omega
    · have : posV v f.Vlans = i := by omega
      rw [this] at h3
      omega
def fiSm1 (f : SFilter) (_ : Int) : Bool := sm f.Vlans
def AddVlan (f : SFilter) (vlan : Int) : SFilter × Bool :=
  bif bif !(FilterOk f) then true else hasInt f.Vlans vlan then (f, false)
  else bif !(FilterOk (⟨f.Mac, f.Promiscuous, insV vlan f.Vlans⟩ : SFilter)) then (f, false) else (⟨f.Mac, f.Promiscuous, insV vlan f.Vlans⟩, true)
theorem AddVlan_sm {f : SFilter} {v : Int} (h : sm f.Vlans = true) : sm (AddVlan f v).1.Vlans = true := by
  have hl := sm_le h
  unfold AddVlan
  cases (bif !(FilterOk f) then true else hasInt f.Vlans v)
  · simp only [cond_false]
    cases hq : FilterOk (⟨f.Mac, f.Promiscuous, insV v f.Vlans⟩ : SFilter)
    · exact h
    · have hi := insV_len v f.Vlans
      have := ((FilterOk_iff (f := ⟨f.Mac, f.Promiscuous, insV v f.Vlans⟩) (by show (insV v f.Vlans).length ≤ _; omega)).1 hq).2.2
      have this : ((insV v f.Vlans).length : Int) ≤ 8 := this
      exact decide_eq_true (by show (insV v f.Vlans).length ≤ _; omega)
  · exact h

def impl_AddVlan_t {α : Type} (bad : α) (k_ : SFilter → Bool → α) (f : SFilter) (vlan : Int) : α :=
  let z0 : SFilter := (⟨(idf f).Mac, (idf f).Promiscuous, addOrdered f.Vlans vlan⟩ : SFilter)
  bif andt true (fiSm f) then
    bif bif !(FilterOk f) then true else hasInt f.Vlans vlan then k_ (idf f) false
    else bif andt true (addOk f.Vlans vlan) then
        bif !(FilterOk z0) then
          bif andt true (fiSm f) then
            k_ (idf f) false
          else bad
        else k_ z0 true
      else bad
  else bad
theorem impl_AddVlan_c {α : Type} (bad : α) (k_ : SFilter → Bool → α) (f : SFilter) (vlan : Int) (h_f : WtL SFilter.ct f.enc) (h_vlan : WtC (.int .i64) (.int vlan)) (hok : fiSm1 f vlan = true) : impl_AddVlan_t bad k_ f vlan = k_ (AddVlan f vlan).1 (AddVlan f vlan).2 := by
  have hsm : sm f.Vlans = true := hok
  have hfs : fiSm f = true := hok
  have hao : addOk f.Vlans vlan = true := hok
  obtain ⟨hl, hw⟩ := wt_sl (SFilter.wt_Vlans h_f)
  unfold impl_AddVlan_t AddVlan
  simp only [idf, hfs, hao, andt_true_l, cond_true]
  refine cond_c (K := fun r : SFilter × Bool => k_ r.1 r.2) (fun _ => rfl) (fun hg => ?_)
  have hh : hasInt f.Vlans vlan = false := by
    cases h1 : FilterOk f
    · rw [h1] at hg; cases hg
    · rw [h1] at hg; exact hg
  rw [addOrdered_eq hw hh]
  exact cond_k (K := fun r : SFilter × Bool => k_ r.1 r.2) rfl rfl

def spec_AddVlan_l0 {α : Type} (bad : α) (k_ : SFilter → Bool → α) (vlan : Int) (f_1 : Int) (f_2 : Bool) (f_3 : Rows) (out_ : Int) (out_1 : Bool) (ih0 : Int → α) (k : Int) : α :=
  let z0 : Rows := (subH f_3 k) ++ ([[.int vlan]])
  let z1 : SFilter := (⟨out_, out_1, z0 ++ (subL f_3 k)⟩ : SFilter)
  bif okm (decide (k < len f_3)) (andt true (idx k f_3)) true then
    bif bif decide (k < len f_3) then decide (rI (nth f_3 (Int.toNat k)) 0 < vlan) else false then ih0 (w64 (k + 1))
    else bif andt (andt (andt (andt (andt true (okH f_3 k)) (room2 8 [] (subH f_3 k))) (room2 8 (subH f_3 k) ([[.int vlan]]))) (okL f_3 k)) (room2 8 z0 (subL f_3 k)) then
        bif bif !(FilterOk (⟨f_1, f_2, f_3⟩ : SFilter)) then true else !(FilterOk z1) then
          bif andt true (fiSm (⟨f_1, f_2, f_3⟩ : SFilter)) then
            k_ (idf (⟨f_1, f_2, f_3⟩ : SFilter)) false
          else bad
        else k_ z1 true
      else bad
  else bad
def spec_AddVlan_L0 {α : Type} (bad : α) (k_ : SFilter → Bool → α) (N : Nat) (vlan : Int) (f_1 : Int) (f_2 : Bool) (f_3 : Rows) (out_ : Int) (out_1 : Bool) (m_ : Nat) : Int → α :=
  Nat.rec (motive := fun _ => Int → α) (fun _ => bad) (fun _ ih0 => spec_AddVlan_l0 bad k_ vlan f_1 f_2 f_3 out_ out_1 ih0) m_
theorem spec_AddVlan_L0_z {α : Type} (bad : α) (k_ : SFilter → Bool → α) (N : Nat) (vlan : Int) (f_1 : Int) (f_2 : Bool) (f_3 : Rows) (out_ : Int) (out_1 : Bool) (k : Int) : spec_AddVlan_L0 bad k_ N vlan f_1 f_2 f_3 out_ out_1 0 k = bad := rfl
theorem spec_AddVlan_L0_s {α : Type} (bad : α) (k_ : SFilter → Bool → α) (N : Nat) (vlan : Int) (f_1 : Int) (f_2 : Bool) (f_3 : Rows) (out_ : Int) (out_1 : Bool) (m_ : Nat) (k : Int) : spec_AddVlan_L0 bad k_ N vlan f_1 f_2 f_3 out_ out_1 (m_ + 1) k = spec_AddVlan_l0 bad k_ vlan f_1 f_2 f_3 out_ out_1 (spec_AddVlan_L0 bad k_ N vlan f_1 f_2 f_3 out_ out_1 m_) k := rfl
def spec_AddVlan_t {α : Type} (bad : α) (k_ : SFilter → Bool → α) (l0 : Int → Bool → Rows → Int → Bool → Int → α) (f : SFilter) (vlan : Int) : α :=
  bif andt true (fiSm f) then
    l0 f.Mac f.Promiscuous f.Vlans ((idf f).Mac) ((idf f).Promiscuous) 0
  else bad
def spec_AddVlan_f {α : Type} (bad : α) (k_ : SFilter → Bool → α) (N : Nat) (f : SFilter) (vlan : Int) : α := spec_AddVlan_t bad k_ (fun f_1 f_2 f_3 out_ out_1 => spec_AddVlan_L0 bad k_ N vlan f_1 f_2 f_3 out_ out_1 N) f vlan
theorem spec_AddVlan_c {α : Type} (bad : α) (k_ : SFilter → Bool → α) (f : SFilter) (vlan : Int) (h_f : WtL SFilter.ct f.enc) (h_vlan : WtC (.int .i64) (.int vlan)) (hok : fiSm1 f vlan = true) : ∃ N, spec_AddVlan_f bad k_ N f vlan = k_ (AddVlan f vlan).1 (AddVlan f vlan).2 := by
  have hsm : sm f.Vlans = true := hok
  have hs := sm_le hsm
  have hfs : fiSm f = true := hok
  have hfs2 : fiSm (⟨f.Mac, f.Promiscuous, f.Vlans⟩ : SFilter) = true := hok
  have hp := posV_le vlan f.Vlans
  refine ⟨f.Vlans.length + 2, ?_⟩
  unfold spec_AddVlan_f spec_AddVlan_t
  simp only [idf, hfs, andt_true_l, cond_true]
  have hpre := loop_pre (σ := Unit) (posV vlan f.Vlans) (fun q i _ => spec_AddVlan_L0 bad k_ (f.Vlans.length + 2) vlan f.Mac f.Promiscuous f.Vlans f.Mac f.Promiscuous q i) (fun _ s => s) (fun _ _ => True) (fun _ _ _ _ => trivial) ?_ (f.Vlans.length + 2 - posV vlan f.Vlans) () trivial
  · have e := hpre.1
    rw [show f.Vlans.length + 2 - posV vlan f.Vlans + posV vlan f.Vlans = f.Vlans.length + 2 by omega] at e
    refine e.trans ?_
    clear e hpre
    obtain ⟨q, hq⟩ : ∃ q, f.Vlans.length + 2 - posV vlan f.Vlans = q + 1 := ⟨f.Vlans.length + 1 - posV vlan f.Vlans, by omega⟩
    show spec_AddVlan_L0 bad k_ (f.Vlans.length + 2) vlan f.Mac f.Promiscuous f.Vlans f.Mac f.Promiscuous (f.Vlans.length + 2 - posV vlan f.Vlans) ((posV vlan f.Vlans : Nat) : Int) = _
    rw [hq, spec_AddVlan_L0_s]
    have g1 : okm (decide (((posV vlan f.Vlans : Nat) : Int) < len f.Vlans)) (idx ((posV vlan f.Vlans : Nat) : Int) f.Vlans) true = true := okm_t (fun h => idx_nat (by have := of_decide_eq_true h; simp only [len] at this; omega)) (fun _ => rfl)
    have g2 : (bif decide (((posV vlan f.Vlans : Nat) : Int) < len f.Vlans) then decide (rI (nth f.Vlans (posV vlan f.Vlans)) 0 < vlan) else false) = false := by
      by_cases h : ((posV vlan f.Vlans : Nat) : Int) < len f.Vlans
      · rw [decide_eq_true h, cond_true]
        have := posV_ge vlan f.Vlans (by simp only [len] at h; omega)
        exact decide_eq_false (by omega)
      · rw [decide_eq_false h]
        rfl
    have g3 : okH f.Vlans ((posV vlan f.Vlans : Nat) : Int) = true := okH_nat hp
    have g4 : okL f.Vlans ((posV vlan f.Vlans : Nat) : Int) = true := by simp only [okL, Bool.and_eq_true, decide_eq_true_eq]; omega
    have e1 : subH f.Vlans ((posV vlan f.Vlans : Nat) : Int) = f.Vlans.take (posV vlan f.Vlans) := by simp [subH]
    have e2 : subL f.Vlans ((posV vlan f.Vlans : Nat) : Int) = f.Vlans.drop (posV vlan f.Vlans) := by simp [subL]
    have r1 : room2 8 [] (f.Vlans.take (posV vlan f.Vlans)) = true := room2_le (by simp only [List.length_nil, List.length_take]; omega) (by omega)
    have r2 : ∀ x : List DC, room2 8 (f.Vlans.take (posV vlan f.Vlans)) [x] = true := fun x => room2_le (by simp only [List.length_take, List.length_cons, List.length_nil]; omega) (by omega)
    have r3 : ∀ x : List DC, room2 8 (f.Vlans.take (posV vlan f.Vlans) ++ [x]) (f.Vlans.drop (posV vlan f.Vlans)) = true := fun x => room2_le (by simp only [List.length_append, List.length_take, List.length_drop, List.length_cons, List.length_nil]; omega) (by omega)
    have e3 : f.Vlans.take (posV vlan f.Vlans) ++ [[.int vlan]] ++ f.Vlans.drop (posV vlan f.Vlans) = insV vlan f.Vlans := rfl
    simp only [spec_AddVlan_l0, Int.toNat_natCast, g1, g2, g3, g4, e1, e2, r1, r2, r3, e3, hfs2, andt_true_l, cond_true, cond_false]
    show (bif bif !(FilterOk f) then true else !(FilterOk (⟨f.Mac, f.Promiscuous, insV vlan f.Vlans⟩ : SFilter)) then k_ f false else k_ (⟨f.Mac, f.Promiscuous, insV vlan f.Vlans⟩ : SFilter) true) = _
    unfold AddVlan
    cases h1 : FilterOk f
    · rfl
    · cases h2 : hasInt f.Vlans vlan
      · cases FilterOk (⟨f.Mac, f.Promiscuous, insV vlan f.Vlans⟩ : SFilter) <;> rfl
      · rw [insV_dup hs h1 h2]
        rfl
  · intro q i _ hi _
    show spec_AddVlan_L0 bad k_ (f.Vlans.length + 2) vlan f.Mac f.Promiscuous f.Vlans f.Mac f.Promiscuous (q + 1) (i : Int) = _
    rw [spec_AddVlan_L0_s]
    have hi2 : i < f.Vlans.length := by omega
    have h2 := posV_lt vlan f.Vlans i hi
    simp only [spec_AddVlan_l0, lt_len hi2, idx_nat hi2, Int.toNat_natCast, decide_eq_true h2, andt_true_l, cond_true, w64_in (show -9223372036854775808 ≤ (i : Int) + 1 by omega) (show (i : Int) + 1 ≤ 9223372036854775807 by omega)]
    rfl

def impl_DropVlan_l0 {α : Type} (bad : α) (k_ : SFilter → Bool → α) (vlan : Int) (x : Rows) (x_1 : Int) (out_ : Int) (out_1 : Bool) (ih0 : Int → Rows → α) (x_2 : Int) (out_2 : Rows) : α :=
  bif decide (x_2 < x_1) then
    bif andt true (idx x_2 x) then
      bif (rI (nth x (Int.toNat x_2)) 0) != vlan then
        bif andt true (room2 8 out_2 ([[.int (rI (nth x (Int.toNat x_2)) 0)]])) then
          ih0 (w64 (x_2 + 1)) (out_2 ++ ([[.int (rI (nth x (Int.toNat x_2)) 0)]]))
        else bad
      else ih0 (w64 (x_2 + 1)) out_2
    else bad
  else k_ (⟨out_, out_1, out_2⟩ : SFilter) true
def impl_DropVlan_L0 {α : Type} (bad : α) (k_ : SFilter → Bool → α) (N : Nat) (vlan : Int) (x : Rows) (x_1 : Int) (out_ : Int) (out_1 : Bool) (m_ : Nat) : Int → Rows → α :=
  Nat.rec (motive := fun _ => Int → Rows → α) (fun _ _ => bad) (fun _ ih0 => impl_DropVlan_l0 bad k_ vlan x x_1 out_ out_1 ih0) m_
theorem impl_DropVlan_L0_z {α : Type} (bad : α) (k_ : SFilter → Bool → α) (N : Nat) (vlan : Int) (x : Rows) (x_1 : Int) (out_ : Int) (out_1 : Bool) (x_2 : Int) (out_2 : Rows) : impl_DropVlan_L0 bad k_ N vlan x x_1 out_ out_1 0 x_2 out_2 = bad := rfl
theorem impl_DropVlan_L0_s {α : Type} (bad : α) (k_ : SFilter → Bool → α) (N : Nat) (vlan : Int) (x : Rows) (x_1 : Int) (out_ : Int) (out_1 : Bool) (m_ : Nat) (x_2 : Int) (out_2 : Rows) : impl_DropVlan_L0 bad k_ N vlan x x_1 out_ out_1 (m_ + 1) x_2 out_2 = impl_DropVlan_l0 bad k_ vlan x x_1 out_ out_1 (impl_DropVlan_L0 bad k_ N vlan x x_1 out_ out_1 m_) x_2 out_2 := rfl
def impl_DropVlan_t {α : Type} (bad : α) (k_ : SFilter → Bool → α) (l0 : Rows → Int → Int → Bool → Int → Rows → α) (f : SFilter) (vlan : Int) : α :=
  bif andt true (fiSm f) then
    bif bif !(FilterOk f) then true else !(hasInt f.Vlans vlan) then k_ (idf f) false
    else l0 f.Vlans (len f.Vlans) ((idf f).Mac) ((idf f).Promiscuous) 0 []
  else bad
def impl_DropVlan_f {α : Type} (bad : α) (k_ : SFilter → Bool → α) (N : Nat) (f : SFilter) (vlan : Int) : α := impl_DropVlan_t bad k_ (fun x x_1 out_ out_1 => impl_DropVlan_L0 bad k_ N vlan x x_1 out_ out_1 N) f vlan
def dvF (l : Rows) (v : Int) (i : Nat) (o : Rows) : Rows := bif (rI (nth l i) 0) != v then o ++ [[.int (rI (nth l i) 0)]] else o
theorem dvF_len (l : Rows) (v : Int) (i : Nat) (o : Rows) : (dvF l v i o).length ≤ o.length + 1 := by
  unfold dvF
  cases (rI (nth l i) 0) != v
  · exact Nat.le_succ _
  · simp
theorem dv_len (l : Rows) (v : Int) : ∀ (m i : Nat) (o : Rows), (itN (dvF l v) m i o).length ≤ o.length + m
  | 0, _, o => by simp [itN]
  | m + 1, i, o => by
    have h1 := dv_len l v m (i + 1) (dvF l v i o)
    have h2 := dvF_len l v i o
    rw [itN]
    omega
def DropVlan (f : SFilter) (vlan : Int) : SFilter × Bool :=
  bif bif !(FilterOk f) then true else !(hasInt f.Vlans vlan) then (f, false) else (⟨f.Mac, f.Promiscuous, itN (dvF f.Vlans vlan) f.Vlans.length 0 []⟩, true)
theorem DropVlan_sm {f : SFilter} {v : Int} (h : sm f.Vlans = true) : sm (DropVlan f v).1.Vlans = true := by
  have hl := sm_le h
  unfold DropVlan
  cases (bif !(FilterOk f) then true else !(hasInt f.Vlans v))
  · have := dv_len f.Vlans v f.Vlans.length 0 []
    simp only [List.length_nil, Nat.zero_add] at this
    exact decide_eq_true (by show (itN (dvF f.Vlans v) f.Vlans.length 0 []).length ≤ _; omega)
  · exact h
theorem impl_DropVlan_c {α : Type} (bad : α) (k_ : SFilter → Bool → α) (f : SFilter) (vlan : Int) (h_f : WtL SFilter.ct f.enc) (h_vlan : WtC (.int .i64) (.int vlan)) (hok : fiSm1 f vlan = true) : ∃ N, impl_DropVlan_f bad k_ N f vlan = k_ (DropVlan f vlan).1 (DropVlan f vlan).2 := by
  have hsm : sm f.Vlans = true := hok
  have hs := sm_le hsm
  have hfs : fiSm f = true := hok
  obtain ⟨hl, _⟩ := wt_sl (SFilter.wt_Vlans h_f)
  refine ⟨f.Vlans.length + 1, ?_⟩
  unfold impl_DropVlan_f impl_DropVlan_t DropVlan
  simp only [idf, hfs, andt_true_l, cond_true]
  refine cond_c (K := fun r : SFilter × Bool => k_ r.1 r.2) (fun _ => rfl) (fun hg => ?_)
  refine loop_inv f.Vlans.length (fun q i o => impl_DropVlan_L0 bad k_ (f.Vlans.length + 1) vlan f.Vlans (len f.Vlans) f.Mac f.Promiscuous q i o) (dvF f.Vlans vlan) (fun o => k_ (⟨f.Mac, f.Promiscuous, o⟩ : SFilter) true) (fun i o => o.length ≤ i) ?_ ?_ ?_ (f.Vlans.length + 1) [] (by simp) (by omega)
  · intro i o hi ho
    have := dvF_len f.Vlans vlan i o
    omega
  · intro q i o hi ho
    show impl_DropVlan_L0 bad k_ (f.Vlans.length + 1) vlan f.Vlans (len f.Vlans) f.Mac f.Promiscuous (q + 1) (i : Int) o = _
    rw [impl_DropVlan_L0_s]
    have hr : ∀ x : List DC, room2 8 o [x] = true := fun x => room2_le (by simp only [List.length_cons, List.length_nil]; omega) (by omega)
    simp only [impl_DropVlan_l0, lt_len hi, idx_nat hi, w64_succ hi hl, Int.toNat_natCast, hr, andt_true_l, andt_true_r, cond_true, dvF]
    cases (rI (nth f.Vlans i) 0) != vlan <;> rfl
  · intro q o ho
    show impl_DropVlan_L0 bad k_ (f.Vlans.length + 1) vlan f.Vlans (len f.Vlans) f.Mac f.Promiscuous (q + 1) (f.Vlans.length : Int) o = _
    rw [impl_DropVlan_L0_s]
    simp only [impl_DropVlan_l0, not_lt_len, cond_false]

def spec_DropVlan_l0 {α : Type} (bad : α) (k_ : SFilter → Bool → α) (vlan : Int) (f_3 : Rows) (out_ : Int) (out_1 : Bool) (ih0 : Int → Rows → α) (k : Int) (out_2 : Rows) : α :=
  bif decide (k < len f_3) then
    bif andt true (idx k f_3) then
      bif (rI (nth f_3 (Int.toNat k)) 0) != vlan then
        bif andt (andt true (idx k f_3)) (room2 8 out_2 ([[.int (rI (nth f_3 (Int.toNat k)) 0)]])) then
          ih0 (w64 (k + 1)) (out_2 ++ ([[.int (rI (nth f_3 (Int.toNat k)) 0)]]))
        else bad
      else ih0 (w64 (k + 1)) out_2
    else bad
  else k_ (⟨out_, out_1, out_2⟩ : SFilter) true
def spec_DropVlan_L0 {α : Type} (bad : α) (k_ : SFilter → Bool → α) (N : Nat) (vlan : Int) (f_3 : Rows) (out_ : Int) (out_1 : Bool) (m_ : Nat) : Int → Rows → α :=
  Nat.rec (motive := fun _ => Int → Rows → α) (fun _ _ => bad) (fun _ ih0 => spec_DropVlan_l0 bad k_ vlan f_3 out_ out_1 ih0) m_
theorem spec_DropVlan_L0_z {α : Type} (bad : α) (k_ : SFilter → Bool → α) (N : Nat) (vlan : Int) (f_3 : Rows) (out_ : Int) (out_1 : Bool) (k : Int) (out_2 : Rows) : spec_DropVlan_L0 bad k_ N vlan f_3 out_ out_1 0 k out_2 = bad := rfl
theorem spec_DropVlan_L0_s {α : Type} (bad : α) (k_ : SFilter → Bool → α) (N : Nat) (vlan : Int) (f_3 : Rows) (out_ : Int) (out_1 : Bool) (m_ : Nat) (k : Int) (out_2 : Rows) : spec_DropVlan_L0 bad k_ N vlan f_3 out_ out_1 (m_ + 1) k out_2 = spec_DropVlan_l0 bad k_ vlan f_3 out_ out_1 (spec_DropVlan_L0 bad k_ N vlan f_3 out_ out_1 m_) k out_2 := rfl
def spec_DropVlan_t {α : Type} (bad : α) (k_ : SFilter → Bool → α) (l0 : Rows → Int → Bool → Int → Rows → α) (f : SFilter) (vlan : Int) : α :=
  bif andt true (fiSm f) then
    bif bif !(FilterOk f) then true else !(hasInt f.Vlans vlan) then k_ (idf f) false
    else l0 f.Vlans ((idf f).Mac) ((idf f).Promiscuous) 0 []
  else bad
def spec_DropVlan_f {α : Type} (bad : α) (k_ : SFilter → Bool → α) (N : Nat) (f : SFilter) (vlan : Int) : α := spec_DropVlan_t bad k_ (fun f_3 out_ out_1 => spec_DropVlan_L0 bad k_ N vlan f_3 out_ out_1 N) f vlan
theorem spec_DropVlan_c {α : Type} (bad : α) (k_ : SFilter → Bool → α) (f : SFilter) (vlan : Int) (h_f : WtL SFilter.ct f.enc) (h_vlan : WtC (.int .i64) (.int vlan)) (hok : fiSm1 f vlan = true) : ∃ N, spec_DropVlan_f bad k_ N f vlan = k_ (DropVlan f vlan).1 (DropVlan f vlan).2 := by
  have hsm : sm f.Vlans = true := hok
  have hs := sm_le hsm
  have hfs : fiSm f = true := hok
  obtain ⟨hl, _⟩ := wt_sl (SFilter.wt_Vlans h_f)
  refine ⟨f.Vlans.length + 1, ?_⟩
  unfold spec_DropVlan_f spec_DropVlan_t DropVlan
  simp only [idf, hfs, andt_true_l, cond_true]
  refine cond_c (K := fun r : SFilter × Bool => k_ r.1 r.2) (fun _ => rfl) (fun hg => ?_)
  refine loop_inv f.Vlans.length (fun q i o => spec_DropVlan_L0 bad k_ (f.Vlans.length + 1) vlan f.Vlans f.Mac f.Promiscuous q i o) (dvF f.Vlans vlan) (fun o => k_ (⟨f.Mac, f.Promiscuous, o⟩ : SFilter) true) (fun i o => o.length ≤ i) ?_ ?_ ?_ (f.Vlans.length + 1) [] (by simp) (by omega)
  · intro i o hi ho
    have := dvF_len f.Vlans vlan i o
    omega
  · intro q i o hi ho
    show spec_DropVlan_L0 bad k_ (f.Vlans.length + 1) vlan f.Vlans f.Mac f.Promiscuous (q + 1) (i : Int) o = _
    rw [spec_DropVlan_L0_s]
    have hr : ∀ x : List DC, room2 8 o [x] = true := fun x => room2_le (by simp only [List.length_cons, List.length_nil]; omega) (by omega)
    simp only [spec_DropVlan_l0, lt_len hi, idx_nat hi, w64_succ hi hl, Int.toNat_natCast, hr, andt_true_l, andt_true_r, cond_true, dvF]
    cases (rI (nth f.Vlans i) 0) != vlan <;> rfl
  · intro q o ho
    show spec_DropVlan_L0 bad k_ (f.Vlans.length + 1) vlan f.Vlans f.Mac f.Promiscuous (q + 1) (f.Vlans.length : Int) o = _
    rw [spec_DropVlan_L0_s]
    simp only [spec_DropVlan_l0, not_lt_len, cond_false]

end
end Go.Proofs.Ytjmgpcfmcdlnpaa.Pl
