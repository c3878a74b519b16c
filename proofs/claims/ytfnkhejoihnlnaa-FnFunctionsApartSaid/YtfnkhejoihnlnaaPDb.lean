/- What functions of the program compute, in plain Lean, as the value machine runs them. Conditions: none. -/
import Derived.Test.YtfnkhejoihnlnaaPDa
import Derived.Test.YtfnkhejoihnlnaaPPo
import Derived.Test.YtfnkhejoihnlnaaPFo
set_option linter.unusedVariables false
set_option linter.unusedSimpArgs false
set_option maxRecDepth 100000
namespace Go.Proofs.Ytfnkhejoihnlnaa.Pl
open Vm
noncomputable section



theorem tmod_rng {x m : Int} (h0 : 0 ≤ x) (hm : 0 < m) : 0 ≤ Int.tmod x m ∧ Int.tmod x m < m := ⟨Int.tmod_nonneg _ h0, Int.tmod_lt_of_pos _ hm⟩
theorem nth_set (l : Rows) (i j : Nat) (x : List DC) (hi : i < l.length) : nth (l.set i x) j = if j = i then x else nth l j := by
  simp only [nth, List.getD_eq_getElem?_getD]
  by_cases h : j = i
  · subst h
    rw [List.getElem?_set_self hi, if_pos rfl]
    rfl
  · rw [List.getElem?_set_ne (fun e => h e.symm), if_neg h]
theorem cand (a b : Bool) : (bif a then b else false) = true ↔ a = true ∧ b = true := by cases a <;> cases b <;> simp
theorem nth_snoc (o : Rows) (x : List DC) (j : Nat) : nth (o ++ [x]) j = if j < o.length then nth o j else if j = o.length then x else [] := by
  simp only [nth, List.getD_eq_getElem?_getD]
  by_cases h : j < o.length
  · rw [List.getElem?_append_left h, if_pos h]
  · rw [List.getElem?_append_right (by omega), if_neg h]
    by_cases h2 : j = o.length
    · subst h2; simp
    · rw [if_neg h2, List.getElem?_eq_none (by simp only [List.length_cons, List.length_nil]; omega)]
      rfl
theorem anyIdx_of_no {p : Nat → List DC → Bool} {l : Rows} (h : ∀ i, i < l.length → p i (nth l i) = false) : anyIdx p l 0 = false := by
  cases ha : anyIdx p l 0
  · rfl
  · obtain ⟨i, hi, h2⟩ := (anyIdx_iff p l 0).1 ha
    rw [Nat.zero_add, h i hi] at h2
    cases h2
theorem anyN_of_no {p : Nat → Bool} : ∀ (m i : Nat), (∀ j, i ≤ j → j < i + m → p j = false) → anyN p m i = false
  | 0, _, _ => rfl
  | m + 1, i, h => by
    rw [anyN, h i (Nat.le_refl _) (by omega)]
    exact anyN_of_no m (i + 1) (fun j h1 h2 => h j (by omega) (by omega))
theorem anyN_no {p : Nat → Bool} : ∀ {m i : Nat}, anyN p m i = false → ∀ j, i ≤ j → j < i + m → p j = false
  | 0, _, _, j, h1, h2 => by omega
  | m + 1, i, h, j, h1, h2 => by
    rw [anyN] at h
    cases hp : p i
    · rw [hp] at h
      by_cases hj : j = i
      · rw [hj]; exact hp
      · exact anyN_no h j (by omega) (by omega)
    · rw [hp] at h; cases h
/-! valid ports, drawn -/
theorem PortsOk_of {l : Rows} (h1 : 1 ≤ l.length) (h2 : l.length ≤ 8) (h : ∀ i, i < l.length → portBad (nth l i) = false ∧ (i ≠ 0 → portWith l (rI (nth l i) 0) = (i : Int))) : PortsOk l = true := by
  have hb : between (len l) 1 8 = true := between_iff.2 (by simp only [len]; omega)
  unfold PortsOk
  rw [hb, anyIdx_of_no (fun i hi => ?_)]
  · rfl
  · obtain ⟨a, b⟩ := h i hi
    rw [a]
    by_cases h0 : i = 0
    · subst h0; rfl
    · rw [show (((i : Nat) : Int) != 0) = true by simp only [bne_iff_ne, ne_eq]; omega, b h0]
      simp
def pmac (j : Nat) : Int := if j = 0 then 1 else 2 * (j : Int)
def PR (j : Nat) (r : List DC) : Prop := rI r 0 = pmac j ∧ ((rR r 1 = [[.int 1]] ∨ rR r 1 = [[.int 7]]) ∨ rR r 1 = [[.int 1], [.int 7]]) ∧ hasInt (rR r 1) (rI r 2) = true ∧ rB r 3 = rB r 3
theorem pt1_pr {c : Sl01Cur} {n : Nat} (h0 : n ≠ 0) (h1 : n ≤ 1000) : PR n (pt1 c (n : Int)).1 := by
  have hm : w64 (2 * (n : Int)) = pmac n := by
    unfold pmac
    rw [if_neg h0, w64_in (by omega) (by omega)]
  have hh : ∀ (V : Rows) (t : Int), 0 ≤ t → t < len V → hasInt V (rI (nth V t.toNat) 0) = true := fun V t h2 h3 => hasInt_iff.2 ⟨t.toNat, by simp only [len] at h3; omega, rfl⟩
  have one : ∀ V : Rows, 0 < len V → PR n (ptr1 c (n : Int) V).1 ∨ True := fun _ _ => .inr trivial
  have key : ∀ V : Rows, 0 < len V → (((V = [[.int 1]] ∨ V = [[.int 7]]) ∨ V = [[.int 1], [.int 7]])) → PR n (ptr1 c (n : Int) V).1 := by
    intro V hV hv
    have b := l01Below_range (ptZ c).2 (len V)
    exact ⟨hm, hv, hh V _ b.1 (b.2 hV), rfl⟩
  unfold pt1
  cases (ptZ c).1 == 0
  · cases (ptZ c).1 == 1
    · exact key _ (by decide) (.inr rfl)
    · exact key _ (by decide) (.inl (.inr rfl))
  · exact key _ (by decide) (.inl (.inl rfl))
theorem prts_pr : ∀ (m : Nat) (c : Sl01Cur) (o : Rows), 1 ≤ o.length → o.length + m ≤ 1000 → (∀ j, j < o.length → PR j (nth o j)) → ∀ j, j < (prts m c o).1.length → PR j (nth (prts m c o).1 j)
  | 0, _, _, _, _, h => h
  | m + 1, c, o, h1, h2, h => by
    rw [prts]
    refine prts_pr m _ _ (by rw [List.length_append]; omega) (by simp only [List.length_append, List.length_cons, List.length_nil]; omega) (fun j hj => ?_)
    rw [nth_snoc]
    by_cases h3 : j < o.length
    · rw [if_pos h3]; exact h j h3
    · simp only [List.length_append, List.length_cons, List.length_nil] at hj
      rw [if_neg h3, if_pos (by omega), show j = o.length by omega]
      exact pt1_pr (by omega) (by omega)
theorem l32Ports_pr (c : Sl01Cur) : ∀ j, j < (l32Ports c).1.length → PR j (nth (l32Ports c).1 j) := by
  have a := l01Below_range c 4
  have a2 := a.2 (by omega)
  refine prts_pr _ _ _ (by simp) (by simp only [List.length_cons, List.length_nil]; omega) (fun j hj => ?_)
  have : j = 0 := by simpa using hj
  subst this
  exact ⟨rfl, .inr rfl, rfl, rfl⟩
theorem filter_pr {mac : Int} {V : Rows} (h0 : 0 ≤ mac) (h1 : mac ≤ 281474976710654) (hv : ((V = [[.int 1]] ∨ V = [[.int 7]]) ∨ V = [[.int 1], [.int 7]])) : FilterOk (⟨mac, false, V⟩ : SFilter) = true := by
  have hb : between mac 0 281474976710654 = true := between_iff.2 ⟨h0, h1⟩
  unfold FilterOk
  rcases hv with (rfl | rfl) | rfl <;> (simp only [hb]; rfl)
theorem PortsOk_pr {l : Rows} (h1 : 1 ≤ l.length) (h2 : l.length ≤ 8) (h : ∀ j, j < l.length → PR j (nth l j)) : PortsOk l = true := by
  refine PortsOk_of h1 h2 (fun i hi => ⟨?_, fun h0 => ?_⟩)
  · obtain ⟨a, b, c, _⟩ := h i hi
    have hm : 0 ≤ pmac i ∧ pmac i ≤ 1000 := by
      unfold pmac
      by_cases h0 : i = 0
      · rw [if_pos h0]; omega
      · rw [if_neg h0]; omega
    unfold portBad
    rw [a, filter_pr (by omega) (by omega) b, c]
    rfl
  · obtain ⟨a, _⟩ := h i hi
    rw [a]
    rcases portWith_spec l (pmac i) with ⟨_, hn⟩ | ⟨j, hj, hj0, he, hm⟩
    · exact absurd a (hn i hi h0)
    · obtain ⟨b, _⟩ := h j hj
      rw [b] at hm
      unfold pmac at hm
      rw [if_neg hj0, if_neg h0] at hm
      rw [he]
      omega
theorem l32Ports_ok (c : Sl01Cur) : PortsOk (l32Ports c).1 = true := by
  have hl := l32Ports_len c
  exact PortsOk_pr (by omega) (by omega) (l32Ports_pr c)
/-! valid functions, drawn -/
theorem FunctionsOk_iff {l ports : Rows} : FunctionsOk l ports = true ↔ PortsOk ports = true ∧ ∀ i, i < l.length → fnBad ports (nth l i) = false ∧ ∀ j, j < i → rI (nth l j) 0 ≠ rI (nth l i) 0 ∧ rI (nth l j) 1 ≠ rI (nth l i) 1 := by
  have pair : ∀ (a b c d : Int), (bif a == b then true else c == d) = false ↔ a ≠ b ∧ c ≠ d := by
    intro a b c d
    by_cases h : a = b
    · simp [h]
    · rw [show (a == b) = false by simpa using h]
      simp [h]
  unfold FunctionsOk
  cases hP : PortsOk ports
  · simp
  · simp only [Bool.not_true, cond_false, true_and]
    constructor
    · intro h i hi
      have hn : anyIdx (fun i r => bif fnBad ports r then true else anyN (fun j => bif (rI (nth l j) 0) == (rI r 0) then true else (rI (nth l j) 1) == (rI r 1)) i 0) l 0 = false := by
        cases ha : anyIdx (fun i r => bif fnBad ports r then true else anyN (fun j => bif (rI (nth l j) 0) == (rI r 0) then true else (rI (nth l j) 1) == (rI r 1)) i 0) l 0
        · rfl
        · rw [ha] at h; cases h
      have := anyIdx_no hn i hi
      rw [Nat.zero_add] at this
      cases hb : fnBad ports (nth l i)
      · rw [hb, cond_false] at this
        exact ⟨rfl, fun j hj => (pair _ _ _ _).1 (anyN_no this j (Nat.zero_le _) (by omega))⟩
      · rw [hb] at this; cases this
    · intro h
      rw [anyIdx_of_no (fun i hi => ?_)]
      · rfl
      · obtain ⟨a, b⟩ := h i hi
        rw [a, cond_false]
        exact anyN_of_no _ _ (fun j _ hj => (pair _ _ _ _).2 (b j (by omega)))
def FR (j : Nat) (r : List DC) : Prop := ∃ (x t : Int) (b : Bool), (x = 10 ∨ x = 100) ∧ 0 ≤ t ∧ t ≤ 400 ∧ r = [.int (j : Int), .int ((j : Int) + 1), .int x, .int 400, .int t, .bool b, .int 0, .int 0]
theorem fnRow_fr (c : Sl01Cur) {k : Nat} (h0 : 1 ≤ k) (h1 : k ≤ 1000) : FR (k - 1) (fnRow c (k : Int)) := by
  obtain ⟨i, hi, ei⟩ := l01PickInt_mem c (l := [[.int 10], [.int 100]]) (by decide)
  obtain ⟨j, hj, ej⟩ := l01PickInt_mem (fA c).2 (l := [[.int 0], [.int 60], [.int 100], [.int 400]]) (by decide)
  simp only [List.length_cons, List.length_nil] at hi hj
  refine ⟨(fA c).1, (fB c).1, !(fC c).1, ?_, ?_, ?_, ?_⟩
  · show (l01PickInt c [[.int 10], [.int 100]]).1 = 10 ∨ (l01PickInt c [[.int 10], [.int 100]]).1 = 100
    rw [ei]
    match i, hi with
    | 0, _ => exact .inl rfl
    | 1, _ => exact .inr rfl
  · show 0 ≤ (l01PickInt (fA c).2 [[.int 0], [.int 60], [.int 100], [.int 400]]).1
    rw [ej]
    match j, hj with
    | 0, _ => decide
    | 1, _ => decide
    | 2, _ => decide
    | 3, _ => decide
  · show (l01PickInt (fA c).2 [[.int 0], [.int 60], [.int 100], [.int 400]]).1 ≤ 400
    rw [ej]
    match j, hj with
    | 0, _ => decide
    | 1, _ => decide
    | 2, _ => decide
    | 3, _ => decide
  · have e1 : w64 ((k : Int) - 1) = ((k - 1 : Nat) : Int) := by rw [w64_in (by omega) (by omega)]; omega
    have e2 : (k : Int) = ((k - 1 : Nat) : Int) + 1 := by omega
    unfold fnRow
    rw [e1, ← e2]
theorem fns_fr : ∀ (m k : Nat) (c : Sl01Cur) (o : Rows), 1 ≤ k → k + m ≤ 1000 → o.length + 1 = k → (∀ j, j < o.length → FR j (nth o j)) → (fns m k c o).1.length = o.length + m ∧ ∀ j, j < (fns m k c o).1.length → FR j (nth (fns m k c o).1 j)
  | 0, _, _, _, _, _, _, h => ⟨rfl, h⟩
  | m + 1, k, c, o, h1, h2, h3, h => by
    rw [fns]
    have := fns_fr m (k + 1) (fC c).2 (o ++ [fnRow c (k : Int)]) (by omega) (by omega) (by rw [List.length_append]; simp; omega) (fun j hj => by
      rw [nth_snoc]
      by_cases h4 : j < o.length
      · rw [if_pos h4]; exact h j h4
      · simp only [List.length_append, List.length_cons, List.length_nil] at hj
        rw [if_neg h4, if_pos (by omega)]
        have := fnRow_fr c h1 (by omega)
        rw [show j = k - 1 by omega]
        exact this)
    refine ⟨?_, this.2⟩
    rw [this.1, List.length_append]
    simp only [List.length_cons, List.length_nil]
    omega
theorem l33_facts (c : Sl01Cur) : 1 ≤ (l33Functions c).1.length ∧ (l33Functions c).1.length ≤ 4 ∧ (l33Functions c).2.1.length = (l33Functions c).1.length + 1 ∧ (∀ j, j < (l33Functions c).1.length → FR j (nth (l33Functions c).1 j)) ∧ PortsOk (l33Functions c).2.1 = true ∧ ∀ j, j < (l33Functions c).2.1.length → PR j (nth (l33Functions c).2.1 j) := by
  obtain ⟨p0, p1⟩ := l32Ports_len c
  have := fns_fr ((l32Ports c).1.length - 1) 1 (l32Ports c).2 [] (by omega) (by omega) rfl (by simp)
  have hlen : (l33Functions c).1.length = (l32Ports c).1.length - 1 := by
    show (fns _ _ _ _).1.length = _
    rw [this.1]
    simp
  have h2 : (l33Functions c).2.1 = (l32Ports c).1 := rfl
  rw [hlen, h2]
  refine ⟨by omega, by omega, by omega, fun j hj => ?_, l32Ports_ok c, l32Ports_pr c⟩
  refine this.2 j ?_
  rw [this.1]
  simpa using hj
theorem FR_fnBad {ports : Rows} {j : Nat} {r : List DC} (h : FR j r) (hj : j ≤ 3) (hp : j + 2 ≤ ports.length) (hp2 : ports.length ≤ 100) : fnBad ports r = false := by
  obtain ⟨x, t, b, hx, h0, h4, rfl⟩ := h
  have e : w64 ((len ports) - 1) = (ports.length : Int) - 1 := by simp only [len]; exact w64_in (by omega) (by omega)
  have g1 : between (j : Int) 0 7 = true := (between_iff (n := (j : Int)) (a := 0) (b := 7)).2 (by omega)
  have g2 : between ((j : Int) + 1) 1 ((ports.length : Int) - 1) = true := (between_iff (n := (j : Int) + 1) (a := 1) (b := (ports.length : Int) - 1)).2 (by omega)
  have g3 : BucketOk (⟨x, 400, t⟩ : SBucket) = true := by
    have a1 : between x 0 10000 = true := between_iff.2 (by rcases hx with rfl | rfl <;> omega)
    have a2 : between t 0 400 = true := between_iff.2 (by omega)
    unfold BucketOk impl_BucketOk_t
    simp only [a1, a2]
    rfl
  unfold fnBad
  rw [e]
  show (bif !(between (j : Int) 0 7) then true else bif !(between ((j : Int) + 1) 1 ((ports.length : Int) - 1)) then true else bif !(BucketOk (⟨x, 400, t⟩ : SBucket)) then true else bif !(between 0 0 1000000000000) then true else !(between 0 0 1000000000000)) = false
  rw [g1, g2, g3]
  rfl
theorem FR_c {j : Nat} {r : List DC} (h : FR j r) : rI r 0 = (j : Int) ∧ rI r 1 = (j : Int) + 1 ∧ rI r 6 = 0 ∧ rI r 7 = 0 ∧ r.length = 8 ∧ 0 ≤ rI r 4 ∧ rI r 4 ≤ 400 := by
  obtain ⟨x, t, b, hx, h0, h4, rfl⟩ := h
  exact ⟨rfl, rfl, rfl, rfl, rfl, h0, h4⟩
theorem FunctionsOk_fr {l ports : Rows} (hP : PortsOk ports = true) (hl : l.length ≤ 4) (hp : ports.length = l.length + 1) (h : ∀ j, j < l.length → FR j (nth l j)) : FunctionsOk l ports = true := by
  refine FunctionsOk_iff.2 ⟨hP, fun i hi => ⟨FR_fnBad (h i hi) (by omega) (by omega) (by omega), fun j hj => ?_⟩⟩
  obtain ⟨a, b, _⟩ := FR_c (h i hi)
  obtain ⟨c, d, _⟩ := FR_c (h j (by omega))
  rw [a, b, c, d]
  omega

end
end Go.Proofs.Ytfnkhejoihnlnaa.Pl
