/- Plain lemmas: wrapping numbers, rows of a list one after another. Conditions: none. -/
import Derived.Test.YthpmalpdnnbkgaaGreatPre
import Derived.IntWalk
set_option linter.unusedVariables false
namespace Go.Proofs.YthpmalpdnnbkgaaGreat.Pl
open Vm

theorem w64_eq (n : Int) : w64 n = (n + 9223372036854775808) % 18446744073709551616 - 9223372036854775808 := by
  unfold w64
  rw [IntKind.wrap_i64]
theorem w64_in {n : Int} (h1 : -9223372036854775808 ≤ n) (h2 : n ≤ 9223372036854775807) : w64 n = n := by
  rw [w64_eq]; omega
theorem w64_lo (n : Int) : -9223372036854775808 ≤ w64 n := by rw [w64_eq]; omega
theorem w64_hi (n : Int) : w64 n ≤ 9223372036854775807 := by rw [w64_eq]; omega
theorem w64_add_l (a b : Int) : w64 (w64 a + b) = w64 (a + b) := by simp only [w64_eq]; omega
theorem w64_add_r (a b : Int) : w64 (a + w64 b) = w64 (a + b) := by simp only [w64_eq]; omega
theorem w64_sub_l (a b : Int) : w64 (w64 a - b) = w64 (a - b) := by simp only [w64_eq]; omega
theorem w64_sub_r (a b : Int) : w64 (a - w64 b) = w64 (a - b) := by simp only [w64_eq]; omega
theorem w64_mul_l (a b : Int) : w64 (w64 a * b) = w64 (a * b) := by
  have h : w64 a % 18446744073709551616 = a % 18446744073709551616 := by rw [w64_eq]; omega
  rw [w64_eq (w64 a * b), w64_eq (a * b), Int.add_emod, Int.mul_emod, h, ← Int.mul_emod, ← Int.add_emod]
theorem w64_mul_r (a b : Int) : w64 (a * w64 b) = w64 (a * b) := by
  rw [Int.mul_comm, w64_mul_l, Int.mul_comm]

theorem maxLen_eq : maxLen = 9223372036854775807 := rfl
theorem wt_int {n : Int} (h : WtC (.int .i64) (.int n)) : -9223372036854775808 ≤ n ∧ n ≤ 9223372036854775807 := by
  simp only [WtC, DC.int.injEq] at h
  obtain ⟨m, rfl, h⟩ := h
  simpa [inR, IntKind.min, IntKind.max, IntKind.signed, IntKind.bits] using h
theorem wt_str {s : Bytes} (h : WtC .str (.str s)) : s.length ≤ 9223372036854775807 := by
  simp only [WtC, DC.str.injEq] at h
  obtain ⟨m, rfl, h⟩ := h
  rw [maxLen_eq] at h
  exact h
theorem wt_sl {e : List CT} {r : Rows} (h : WtC (.sl e) (.sl r)) : r.length ≤ 9223372036854775807 ∧ ∀ x ∈ r, WtL e x := by
  simp only [WtC, DC.sl.injEq] at h
  obtain ⟨m, rfl, h1, h2⟩ := h
  rw [maxLen_eq] at h1
  exact ⟨h1, h2⟩
theorem wtl_cons {c : CT} {cs : List CT} {d : DC} {r : List DC} (h : WtL (c :: cs) (d :: r)) : WtC c d ∧ WtL cs r := by
  simp only [WtL, List.cons.injEq] at h
  obtain ⟨_, _, ⟨rfl, rfl⟩, h1, h2⟩ := h
  exact ⟨h1, h2⟩

theorem andt_true_l (x : Bool) : andt true x = x := by cases x <;> rfl
theorem andt_true_r (x : Bool) : andt x true = x := rfl

theorem lt_len {α : Type} {i : Nat} {l : List α} (h : i < l.length) : decide ((i : Int) < len l) = true := by
  exact decide_eq_true (by simp only [len]; omega)
theorem not_lt_len {α : Type} (l : List α) : decide ((l.length : Int) < len l) = false := by
  simp [len]
theorem idx_nat {α : Type} {i : Nat} {l : List α} (h : i < l.length) : idx (i : Int) l = true := by
  simp only [idx, Bool.and_eq_true, decide_eq_true_eq]; omega
theorem w64_succ {α : Type} {i : Nat} {l : List α} (h : i < l.length) (hl : l.length ≤ 9223372036854775807) : w64 ((i : Int) + 1) = (i : Int) + 1 := by
  apply w64_in <;> omega
theorem inl_nat {α : Type} {i : Nat} {l : List α} (h : i < l.length) : inl i l = true := by simpa [inl] using h

/-- Rows one after another, with a state, each with its place. -/
def rowsGo {α σ : Type} (step : Nat → List DC → (σ → α) → σ → α) (fin : σ → α) : Rows → Nat → σ → α
  | [], _, s => fin s
  | r :: rs, i, s => step i r (rowsGo step fin rs (i + 1)) s

theorem rowsGo_drop {α σ : Type} (list : Rows) (L : Nat → Int → σ → α) (step : Nat → List DC → (σ → α) → σ → α) (fin : σ → α)
    (hs : ∀ n (i : Nat) s, i < list.length → L (n + 1) (i : Int) s = step i (nth list i) (L n ((i : Int) + 1)) s)
    (he : ∀ n s, L (n + 1) (list.length : Int) s = fin s) :
    ∀ (n i : Nat) (s : σ), i ≤ list.length → list.length < n + i → L n (i : Int) s = rowsGo step fin (list.drop i) i s := by
  intro n
  induction n with
  | zero => intro i s h1 h2; omega
  | succ n ih =>
    intro i s h1 h2
    by_cases h : i < list.length
    · rw [hs n i s h, List.drop_eq_getElem_cons h]
      simp only [rowsGo]
      have : nth list i = list[i] := by simp [nth, h]
      rw [this]
      have e : (fun s => L n ((i : Int) + 1) s) = rowsGo step fin (list.drop (i + 1)) (i + 1) := by
        funext s
        have := ih (i + 1) s (by omega) (by omega)
        simpa using this
      exact congrArg (fun k => step i list[i] k s) e
    · have : i = list.length := by omega
      subst this
      rw [he, List.drop_eq_nil_of_le (Nat.le_refl _)]
      rfl

theorem loop_rows {α σ : Type} (list : Rows) (L : Nat → Int → σ → α) (step : Nat → List DC → (σ → α) → σ → α) (fin : σ → α)
    (hs : ∀ n (i : Nat) s, i < list.length → L (n + 1) (i : Int) s = step i (nth list i) (L n ((i : Int) + 1)) s)
    (he : ∀ n s, L (n + 1) (list.length : Int) s = fin s) (s : σ) : L (list.length + 1) 0 s = rowsGo step fin list 0 s := by
  have := rowsGo_drop list L step fin hs he (list.length + 1) 0 s (Nat.zero_le _) (by omega)
  simpa using this

/-- The same, without a state. -/
theorem loop_rows0 {α : Type} (list : Rows) (L : Nat → Int → α) (step : Nat → List DC → α → α) (fin : α)
    (hs : ∀ n (i : Nat), i < list.length → L (n + 1) (i : Int) = step i (nth list i) (L n ((i : Int) + 1)))
    (he : ∀ n, L (n + 1) (list.length : Int) = fin) : L (list.length + 1) 0 = rowsGo (σ := Unit) (fun i r k s => step i r (k s)) (fun _ => fin) list 0 () := by
  have := loop_rows (σ := Unit) list (fun n i _ => L n i) (fun i r k s => step i r (k s)) (fun _ => fin) (fun n i _ h => hs n i h) (fun n _ => he n) ()
  exact this

theorem go_all {α : Type} (p : List DC → Bool) (k : Bool → α) (list : Rows) (i : Nat) :
    rowsGo (σ := Unit) (fun _ r c s => bif !(p r) then k false else c s) (fun _ => k true) list i () = k (list.all p) := by
  induction list generalizing i with
  | nil => rfl
  | cons r rs ih =>
    simp only [rowsGo, List.all_cons]
    cases hp : p r
    · rfl
    · simpa [hp] using ih (i + 1)

theorem go_all' {α : Type} (p : List DC → Bool) (x y : α) (list : Rows) (i : Nat) :
    rowsGo (σ := Unit) (fun _ r c s => bif !(p r) then x else c s) (fun _ => y) list i () = bif list.all p then y else x := by
  induction list generalizing i with
  | nil => rfl
  | cons r rs ih =>
    simp only [rowsGo, List.all_cons]
    cases hp : p r
    · rfl
    · simpa [hp] using ih (i + 1)
theorem go_skip {α : Type} (y : α) (list : Rows) (i : Nat) : rowsGo (σ := Unit) (fun _ _ c s => c s) (fun _ => y) list i () = y := by
  induction list generalizing i with
  | nil => rfl
  | cons r rs ih => exact ih (i + 1)

/-- Counting, with a state. -/
def natGo {α σ : Type} (step : Nat → (σ → α) → σ → α) (fin : σ → α) : Nat → Nat → σ → α
  | 0, _, s => fin s
  | m + 1, i, s => step i (natGo step fin m (i + 1)) s
theorem loop_nat {α σ : Type} (m : Nat) (L : Nat → Int → σ → α) (step : Nat → (σ → α) → σ → α) (fin : σ → α)
    (hs : ∀ n (i : Nat) s, i < m → L (n + 1) (i : Int) s = step i (L n ((i : Int) + 1)) s)
    (he : ∀ n s, L (n + 1) (m : Int) s = fin s) : ∀ (n : Nat) (s : σ), m < n → L n 0 s = natGo step fin m 0 s := by
  have key : ∀ (k n i : Nat) (s : σ), i + k = m → k < n → L n (i : Int) s = natGo step fin k i s := by
    intro k
    induction k with
    | zero =>
      intro n i s h1 h2
      cases n with
      | zero => omega
      | succ n =>
        have : i = m := by omega
        subst this
        exact he n s
    | succ k ih =>
      intro n i s h1 h2
      cases n with
      | zero => omega
      | succ n =>
        rw [hs n i s (by omega)]
        have e : (fun s => L n ((i : Int) + 1) s) = natGo step fin k (i + 1) := by
          funext s
          have := ih n (i + 1) s (by omega) (by omega)
          simpa using this
        exact congrArg (fun c => step i c s) e
  intro n s h
  simpa using key m n 0 s (by omega) h

/-- Small enough for every copy. -/
def sm (a : Rows) : Bool := decide (a.length ≤ 16777216)
theorem sm_le {a : Rows} (h : sm a = true) : a.length ≤ 16777216 := of_decide_eq_true h
theorem make_sm {a : Rows} {z : Nat} (h : sm a = true) (hz : z ≤ 8388608) : makeOk z (len a) (len a) = true := by
  have h := sm_le h
  have h2 : a.length * z ≤ 16777216 * 8388608 := Nat.mul_le_mul h hz
  simp only [makeOk, len, Int.toNat_natCast, Bool.and_eq_true]
  refine ⟨⟨⟨decide_eq_true (by omega), decide_eq_true (by omega)⟩, decide_eq_true (by omega)⟩, decide_eq_true (by omega)⟩
theorem room1_sm {a : Rows} {z : Nat} (h : sm a = true) (hz : z ≤ 8388608) : room1 z a = true := by
  have h := sm_le h
  have h2 : a.length * z ≤ 16777216 * 8388608 := Nat.mul_le_mul h hz
  simp only [room1, Bool.and_eq_true]
  exact ⟨decide_eq_true (by omega), decide_eq_true (by omega)⟩

open Classical in
/-- Whether two are the same. -/
noncomputable def same {α : Type} (a b : α) : Bool := decide (a = b)
theorem same_eq {α : Type} {a b : α} (h : same a b = true) : a = b := @of_decide_eq_true _ (Classical.propDecidable _) h
theorem same_refl {α : Type} (a : α) : same a a = true := @decide_eq_true _ (Classical.propDecidable _) rfl

/-- A copy, element by element, into a row that was made. -/
theorem copy_set {α : Type} (a : Rows) (L : Nat → Int → Rows → α) (k : Rows → α) (z : List DC) (f : List DC → List DC → List DC)
    (hs : ∀ n (i : Nat) out, i < a.length → out.length = a.length → L (n + 1) (i : Int) out = L n ((i : Int) + 1) (out.set i (f (nth out i) (nth a i))))
    (he : ∀ n out, out.length = a.length → L (n + 1) (a.length : Int) out = k out)
    (hf : ∀ r ∈ a, f z r = r) : L (a.length + 1) 0 (List.replicate a.length z) = k a := by
  have key : ∀ (n i : Nat), i ≤ a.length → a.length < n + i → L n (i : Int) (a.take i ++ List.replicate (a.length - i) z) = k a := by
    intro n
    induction n with
    | zero => intro i h1 h2; omega
    | succ n ih =>
      intro i h1 h2
      by_cases h : i < a.length
      · rw [hs n i _ h (by simp; omega)]
        have e1 : nth (a.take i ++ List.replicate (a.length - i) z) i = z := by
          simp only [nth]
          rw [List.getD_eq_getElem?_getD, List.getElem?_append_right (by simp; omega)]
          simp [Nat.min_eq_left h1, show 0 < a.length - i by omega]
        have e2 : nth a i = a[i] := by simp [nth, h]
        rw [e1, e2, hf _ (List.getElem_mem h)]
        have e3 : (a.take i ++ List.replicate (a.length - i) z).set i a[i] = a.take (i + 1) ++ List.replicate (a.length - (i + 1)) z := by
          rw [List.set_append_right _ _ (by simp; omega)]
          rw [List.take_add_one, List.getElem?_eq_getElem h]
          simp only [List.length_take, Nat.min_eq_left h1, Nat.sub_self, Option.toList_some, List.append_assoc]
          congr 1
          rw [show a.length - i = (a.length - (i + 1)) + 1 by omega, List.replicate_succ, List.set_cons_zero]
          rfl
        rw [e3]
        have := ih (i + 1) (by omega) (by omega)
        simpa using this
      · have : i = a.length := by omega
        subst this
        rw [he _ _ (by simp)]
        simp
  have := key (a.length + 1) 0 (Nat.zero_le _) (by omega)
  simpa using this

def yes2 {α β : Type} (_ : α) (_ : β) : Bool := true
def idf {α : Type} (a : α) : α := a
theorem guard_id {α : Type} {c o : Bool} {x y bad : α} (h : o = true → x = y) (hok : (bif c then o else false) = true) : (bif c then x else bad) = y := by
  cases c
  · cases hok
  · exact h hok

/-- The rest of a measure behind rows. -/
def szGo (f : List DC → Int → Int) : Rows → Int → Int
  | [], l => l
  | r :: rs, l => bif decide (f r l < 0) then -1 else szGo f rs (f r l)
def szAll (f : List DC → Int → Int) (a : Rows) (left : Int) : Int :=
  bif decide (w64 (left - len a) < 0) then -1 else szGo f a (w64 (left - len a))
theorem szGo_ok {f : List DC → Int → Int} {P : List DC → Prop} :
    ∀ (a : Rows) (l : Int), (∀ r ∈ a, ∀ l, 0 ≤ l → l ≤ 1048576 → 0 ≤ f r l → f r l ≤ 1048576 ∧ P r) → 0 ≤ l → l ≤ 1048576 → 0 ≤ szGo f a l → szGo f a l ≤ 1048576 ∧ ∀ r ∈ a, P r
  | [], l, _, _, h, _ => ⟨h, by simp⟩
  | r :: rs, l, hf, h, h', h0 => by
    simp only [szGo] at h0 ⊢
    by_cases hn : f r l < 0
    · simp [hn] at h0
    · simp only [hn, decide_false, cond_false] at h0 ⊢
      have h1 := hf r (by simp) l h h' (by omega)
      have h2 := szGo_ok rs (f r l) (fun r hr => hf r (by simp [hr])) (by omega) h1.1 h0
      refine ⟨h2.1, fun x hx => ?_⟩
      rcases List.mem_cons.1 hx with rfl | hx
      · exact h1.2
      · exact h2.2 x hx
def szFlat {α : Type} (a : List α) (left : Int) : Int := bif decide (w64 (left - len a) < 0) then -1 else w64 (left - len a)
theorem sz_len {α : Type} {a : List α} {left : Int} (h1 : 0 ≤ left) (h2 : left ≤ 1048576) (ha : a.length ≤ 9223372036854775807) : w64 (left - len a) = left - len a ∧ 0 ≤ len a := by
  have hl : (0 : Int) ≤ len a := by simp [len]
  have hh : (len a) ≤ 9223372036854775807 := by simp only [len]; omega
  exact ⟨w64_in (by omega) (by omega), hl⟩
theorem szFlat_ok {a : Rows} {left : Int} (h1 : 0 ≤ left) (h2 : left ≤ 1048576) (ha : a.length ≤ 9223372036854775807) (h0 : 0 ≤ szFlat a left) : szFlat a left ≤ 1048576 ∧ sm a = true := by
  obtain ⟨e, hl⟩ := sz_len h1 h2 ha
  simp only [szFlat, e] at h0 ⊢
  by_cases hn : left - len a < 0
  · simp [hn] at h0
  · simp only [hn, decide_false, cond_false] at h0 ⊢
    refine ⟨by omega, decide_eq_true ?_⟩
    simp only [len] at hn
    omega
theorem szAll_ok {f : List DC → Int → Int} {P : List DC → Prop} {a : Rows} {left : Int} (hf : ∀ r ∈ a, ∀ l, 0 ≤ l → l ≤ 1048576 → 0 ≤ f r l → f r l ≤ 1048576 ∧ P r)
    (h1 : 0 ≤ left) (h2 : left ≤ 1048576) (ha : a.length ≤ 9223372036854775807) (h0 : 0 ≤ szAll f a left) : szAll f a left ≤ 1048576 ∧ sm a = true ∧ ∀ r ∈ a, P r := by
  obtain ⟨e, hl⟩ := sz_len h1 h2 ha
  simp only [szAll, e] at h0 ⊢
  by_cases hn : left - len a < 0
  · simp [hn] at h0
  · simp only [hn, decide_false, cond_false] at h0 ⊢
    have h3 := szGo_ok a (left - len a) hf (by omega) (by omega) h0
    refine ⟨h3.1, decide_eq_true ?_, h3.2⟩
    simp only [len] at hn
    omega
theorem go_sz {α : Type} (f : List DC → Int → Int) (k : Int → α) : ∀ (a : Rows) (i : Nat) (l : Int),
    rowsGo (σ := Int) (fun _ r c l => bif decide (f r l < 0) then k (-1) else c (f r l)) k a i l = k (szGo f a l)
  | [], _, _ => rfl
  | r :: rs, i, l => by
    simp only [rowsGo, szGo]
    cases hd : decide (f r l < 0)
    · simpa [hd] using go_sz f k rs (i + 1) (f r l)
    · rfl
theorem row_int {k : IntKind} {r : List DC} (h : WtL [.int k] r) : [.int (rI r 0)] = r := by
  obtain ⟨n, ds, rfl, _, h2⟩ := of_wt_int h
  obtain rfl := of_wt_nil h2
  rfl
theorem row_bool {r : List DC} (h : WtL [.bool] r) : [.bool (rB r 0)] = r := by
  obtain ⟨n, ds, rfl, _, h2⟩ := of_wt_bool h
  obtain rfl := of_wt_nil h2
  rfl
theorem row_str {r : List DC} (h : WtL [.str] r) : [.str (rS r 0)] = r := by
  obtain ⟨n, ds, rfl, _, h2⟩ := of_wt_str h
  obtain rfl := of_wt_nil h2
  rfl
theorem row_sl {e : List CT} {r : List DC} (h : WtL [.sl e] r) : [.sl (idf (rR r 0))] = r := by
  obtain ⟨n, ds, rfl, _, h2⟩ := of_wt_sl h
  obtain rfl := of_wt_nil h2
  rfl
theorem nth_mem {a : Rows} {i : Nat} (h : i < a.length) : nth a i ∈ a := by
  have : nth a i = a[i] := by simp [nth, h]
  rw [this]
  exact List.getElem_mem h
theorem cond_t {α : Type} {c : Bool} {x y : α} (h : c = true) : (bif c then x else y) = x := by rw [h]; rfl
theorem cond_f {α : Type} {c : Bool} {x y : α} (h : c = false) : (bif c then x else y) = y := by rw [h]; rfl
theorem okm_t {g x y : Bool} (h1 : g = true → x = true) (h2 : g = false → y = true) : okm g x y = true := by
  cases g
  · rw [okm_eq]; exact h2 rfl
  · rw [okm_eq]; exact h1 rfl
theorem okm_tt (g : Bool) : okm g true true = true := rfl
/-- Some row, with its place, does so. -/
def anyIdx (p : Nat → List DC → Bool) : Rows → Nat → Bool
  | [], _ => false
  | r :: rs, i => bif p i r then true else anyIdx p rs (i + 1)
theorem go_anyIdx {α : Type} (p : Nat → List DC → Bool) (x y : α) : ∀ (list : Rows) (i : Nat),
    rowsGo (σ := Unit) (fun i r c s => bif p i r then x else c s) (fun _ => y) list i () = bif anyIdx p list i then x else y
  | [], _ => rfl
  | r :: rs, i => by
    simp only [rowsGo, anyIdx]
    cases p i r
    · exact go_anyIdx p x y rs (i + 1)
    · rfl
/-- The place of the first row that does so, or -1. -/
def findIdx (p : Nat → List DC → Bool) : Rows → Nat → Int
  | [], _ => -1
  | r :: rs, i => bif p i r then (i : Int) else findIdx p rs (i + 1)
theorem go_findIdx {α : Type} (p : Nat → List DC → Bool) (k : Int → α) : ∀ (list : Rows) (i : Nat),
    rowsGo (σ := Unit) (fun i r c s => bif p i r then k (i : Int) else c s) (fun _ => k (-1)) list i () = k (findIdx p list i)
  | [], _ => rfl
  | r :: rs, i => by
    simp only [rowsGo, findIdx]
    cases p i r
    · exact go_findIdx p k rs (i + 1)
    · rfl
theorem sz_str {α : Type} {a : List α} {left : Int} (ha : a.length ≤ 9223372036854775807) (h1 : 0 ≤ left) (h2 : left ≤ 1048576) (h0 : 0 ≤ w64 (left - len a)) : w64 (left - len a) ≤ 1048576 ∧ a.length ≤ 1048576 := by
  obtain ⟨e, hl⟩ := sz_len h1 h2 ha
  rw [e] at h0 ⊢
  simp only [len] at h0 hl ⊢
  omega
theorem len_sm {a : Rows} (h : len a ≤ 1048576) : sm a = true := decide_eq_true (by simp only [len] at h; omega)
theorem cond_c {α β : Type} {c : Bool} {x y : α} {a b : β} {K : β → α} (h1 : c = true → x = K a) (h2 : c = false → y = K b) : (bif c then x else y) = K (bif c then a else b) := by
  cases c
  · exact h2 rfl
  · exact h1 rfl
theorem guard_c {α : Type} {c : Bool} {x y bad : α} (hg : c = true) (h : x = y) : (bif c then x else bad) = y := by rw [hg]; exact h
/-- A state turned again and again. -/
def itN {σ : Type} (f : Nat → σ → σ) : Nat → Nat → σ → σ
  | 0, _, s => s
  | m + 1, i, s => itN f m (i + 1) (f i s)
theorem loop_it {α σ : Type} (m : Nat) (L : Nat → Int → σ → α) (f : Nat → σ → σ) (fin : σ → α) (I : σ → Prop) (hI : ∀ i s, i < m → I s → I (f i s))
    (hs : ∀ n (i : Nat) s, i < m → I s → L (n + 1) (i : Int) s = L n ((i : Int) + 1) (f i s))
    (he : ∀ n s, I s → L (n + 1) (m : Int) s = fin s) : ∀ (n : Nat) (s : σ), I s → m < n → L n 0 s = fin (itN f m 0 s) := by
  have key : ∀ (k n i : Nat) (s : σ), I s → i + k = m → k < n → L n (i : Int) s = fin (itN f k i s) := by
    intro k
    induction k with
    | zero =>
      intro n i s h0 h1 h2
      cases n with
      | zero => omega
      | succ n =>
        have : i = m := by omega
        subst this
        exact he n s h0
    | succ k ih =>
      intro n i s h0 h1 h2
      cases n with
      | zero => omega
      | succ n =>
        rw [hs n i s (by omega) h0]
        have := ih n (i + 1) (f i s) (hI i s (by omega) h0) (by omega) (by omega)
        simpa [itN] using this
  intro n s h0 h
  simpa using key m n 0 s h0 (by omega) h
theorem itN_inv {σ : Type} {f : Nat → σ → σ} {I : σ → Prop} {B : Nat} (hI : ∀ i s, i < B → I s → I (f i s)) : ∀ (m i : Nat) (s : σ), i + m ≤ B → I s → I (itN f m i s)
  | 0, _, _, _, h => h
  | m + 1, i, s, hb, h => itN_inv hI m (i + 1) (f i s) (by omega) (hI i s (by omega) h)
/-- Some number of m, from i on, does so. -/
def anyN (p : Nat → Bool) : Nat → Nat → Bool
  | 0, _ => false
  | m + 1, i => bif p i then true else anyN p m (i + 1)
theorem go_anyN {α : Type} (p : Nat → Bool) (x y : α) : ∀ (m i : Nat), natGo (σ := Unit) (fun i c s => bif p i then x else c s) (fun _ => y) m i () = bif anyN p m i then x else y
  | 0, _ => rfl
  | m + 1, i => by
    simp only [natGo, anyN]
    cases p i
    · exact go_anyN p x y m (i + 1)
    · rfl
theorem anyN_shift (p : Nat → Bool) : ∀ (m i : Nat), anyN p m (i + 1) = anyN (fun j => p (j + 1)) m i
  | 0, _ => rfl
  | m + 1, i => by simp only [anyN]; rw [anyN_shift p m (i + 1)]
theorem anyN_congr {p q : Nat → Bool} : ∀ (m i : Nat), (∀ j, i ≤ j → j < i + m → p j = q j) → anyN p m i = anyN q m i
  | 0, _, _ => rfl
  | m + 1, i, h => by
    simp only [anyN]
    rw [h i (by omega) (by omega), anyN_congr m (i + 1) (fun j h1 h2 => h j (by omega) (by omega))]
theorem findIdx_ge (p : Nat → List DC → Bool) : ∀ (list : Rows) (s : Nat), findIdx p list s = -1 ∨ (s : Int) ≤ findIdx p list s
  | [], _ => .inl rfl
  | r :: rs, s => by
    simp only [findIdx]
    cases p s r
    · rcases findIdx_ge p rs (s + 1) with h | h
      · exact .inl h
      · exact .inr (by simp only [cond_false]; omega)
    · exact .inr (by simp)
theorem findIdx_ne (p : Nat → List DC → Bool) : ∀ (list : Rows) (s i : Nat), i < list.length → p (s + i) (nth list i) = true → (findIdx p list s != ((s + i : Nat) : Int)) = anyN (fun j => p (s + j) (nth list j)) i 0
  | [], _, _, h, _ => by simp at h
  | r :: rs, s, 0, _, h => by
    have h : p s r = true := h
    simp only [findIdx, h, cond_true, anyN, Nat.add_zero, bne_self_eq_false]
  | r :: rs, s, i + 1, hi, h => by
    have h2 : p (s + 1 + i) (nth rs i) = true := by
      rw [show s + 1 + i = s + (i + 1) by omega]
      exact h
    have ih := findIdx_ne p rs (s + 1) i (by simpa using hi) h2
    simp only [findIdx, anyN]
    have e0 : nth (r :: rs) 0 = r := rfl
    rw [Nat.add_zero, e0]
    cases hp : p s r
    · simp only [cond_false]
      rw [show ((s + (i + 1) : Nat) : Int) = ((s + 1 + i : Nat) : Int) by omega, ih, anyN_shift]
      apply anyN_congr
      intro j _ _
      rw [show s + 1 + j = s + (j + 1) by omega]
      rfl
    · simp only [cond_true]
      simp only [bne_iff_ne, ne_eq]
      omega
theorem loop_rowsN {α : Type} (list : Rows) (L : Nat → Int → α) (step : Nat → List DC → α → α) (fin : α)
    (hs : ∀ n (i : Nat), i < list.length → L (n + 1) (i : Int) = step i (nth list i) (L n ((i : Int) + 1)))
    (he : ∀ n, L (n + 1) (list.length : Int) = fin) (n : Nat) (hn : list.length < n) : L n 0 = rowsGo (σ := Unit) (fun i r k s => step i r (k s)) (fun _ => fin) list 0 () := by
  have := rowsGo_drop (σ := Unit) list (fun n i _ => L n i) (fun i r k s => step i r (k s)) (fun _ => fin) (fun n i _ h => hs n i h) (fun n _ => he n) n 0 () (Nat.zero_le _) (by omega)
  simpa using this
theorem anyIdx_congr {p q : Nat → List DC → Bool} : ∀ (l : Rows) (s : Nat), (∀ i, i < l.length → p (s + i) (nth l i) = q (s + i) (nth l i)) → anyIdx p l s = anyIdx q l s
  | [], _, _ => rfl
  | r :: rs, s, h => by
    have h0 : p s r = q s r := h 0 (by simp)
    simp only [anyIdx]
    have hh : ∀ i, i < rs.length → p (s + 1 + i) (nth rs i) = q (s + 1 + i) (nth rs i) := by
      intro i hi
      have h2 : p (s + (i + 1)) (nth rs i) = q (s + (i + 1)) (nth rs i) := h (i + 1) (by simp only [List.length_cons]; omega)
      have e : s + 1 + i = s + (i + 1) := by omega
      rw [e]
      exact h2
    rw [h0, anyIdx_congr rs (s + 1) hh]
theorem subH_length {α : Type} {l : List α} {i : Nat} (h : i ≤ l.length) : (subH l (i : Int)).length = i := by
  simp only [subH, Int.toNat_natCast, List.drop_zero, List.length_take]
  omega
theorem nth_subH {l : Rows} {i j : Nat} (hj : j < i) (h : i ≤ l.length) : nth (subH l (i : Int)) j = nth l j := by
  simp only [subH, nth, Int.toNat_natCast, List.drop_zero]
  rw [List.getD_eq_getElem?_getD, List.getD_eq_getElem?_getD, List.getElem?_take_of_lt hj]
theorem okH_nat {α : Type} {l : List α} {i : Nat} (h : i ≤ l.length) : okH l (i : Int) = true := by
  simp only [okH, Bool.and_eq_true]
  exact ⟨decide_eq_true (by omega), decide_eq_true (by omega)⟩
/-- Marked rows: each by its number. -/
def mkl (f : Int → List DC) (c : Int) : Nat → Int → Rows
  | 0, _ => []
  | n + 1, k => f k :: mkl f c n (k + c)
theorem mkl_length (f : Int → List DC) (c : Int) : ∀ (n : Nat) (k : Int), (mkl f c n k).length = n
  | 0, _ => rfl
  | n + 1, k => by simp only [mkl, List.length_cons, mkl_length f c n]
theorem mkl_snoc (f : Int → List DC) (c : Int) : ∀ (n : Nat) (k : Int), mkl f c (n + 1) k = mkl f c n k ++ [f (k + c * n)]
  | 0, k => by simp [mkl]
  | n + 1, k => by
    have := mkl_snoc f c n (k + c)
    have e : k + c + c * (n : Int) = k + c * ((n + 1 : Nat) : Int) := by
      rw [show ((n + 1 : Nat) : Int) = (n : Int) + 1 by omega, Int.mul_add]; omega
    rw [e] at this
    rw [mkl, this]
    simp only [mkl, List.cons_append]
theorem mkl_nth (f : Int → List DC) (c : Int) : ∀ (n i : Nat) (k : Int), i < n → nth (mkl f c n k) i = f (k + c * i)
  | 0, i, k, h => by omega
  | n + 1, 0, k, _ => by simp [mkl, nth]
  | n + 1, i + 1, k, h => by
    have := mkl_nth f c n i (k + c) (by omega)
    have e : k + c + c * (i : Int) = k + c * ((i + 1 : Nat) : Int) := by
      rw [show ((i + 1 : Nat) : Int) = (i : Int) + 1 by omega, Int.mul_add]; omega
    rw [e] at this
    rw [mkl]
    show nth (mkl f c n (k + c)) i = _
    exact this
/-- A loop that marks row by row. -/
theorem mark_loop {α : Type} (a0 : Rows) (k0 c : Int) (f : Int → List DC) (L : Nat → Int → Int → Rows → α) (K : Int → Rows → α)
    (hs : ∀ n (i : Nat) a, i < a0.length → a.length = a0.length → nth a i = nth a0 i → L (n + 1) (k0 + c * i) (i : Int) a = L n (k0 + c * i + c) ((i : Int) + 1) (a.set i (f (k0 + c * i))))
    (he : ∀ n a, a.length = a0.length → L (n + 1) (k0 + c * a0.length) (a0.length : Int) a = K (k0 + c * a0.length) a) :
    L (a0.length + 1) k0 0 a0 = K (k0 + c * a0.length) (mkl f c a0.length k0) := by
  have key : ∀ (n i : Nat), i ≤ a0.length → a0.length < n + i → L n (k0 + c * i) (i : Int) (mkl f c i k0 ++ a0.drop i) = K (k0 + c * a0.length) (mkl f c a0.length k0) := by
    intro n
    induction n with
    | zero => intro i h1 h2; omega
    | succ n ih =>
      intro i h1 h2
      by_cases h : i < a0.length
      · have e1 : nth (mkl f c i k0 ++ a0.drop i) i = nth a0 i := by
          simp only [nth]
          rw [List.getD_eq_getElem?_getD, List.getD_eq_getElem?_getD, List.getElem?_append_right (by rw [mkl_length]; omega), mkl_length]
          simp
        rw [hs n i _ h (by simp [mkl_length]; omega) e1]
        have e2 : (mkl f c i k0 ++ a0.drop i).set i (f (k0 + c * i)) = mkl f c (i + 1) k0 ++ a0.drop (i + 1) := by
          rw [List.set_append_right _ _ (by rw [mkl_length]; omega), mkl_length, Nat.sub_self, mkl_snoc, List.drop_eq_getElem_cons h, List.set_cons_zero, List.append_assoc]
          rfl
        rw [e2]
        have := ih (i + 1) (by omega) (by omega)
        rw [show k0 + c * ((i + 1 : Nat) : Int) = k0 + c * i + c by rw [show ((i + 1 : Nat) : Int) = (i : Int) + 1 by omega, Int.mul_add]; omega] at this
        simpa using this
      · have : i = a0.length := by omega
        subst this
        rw [he n _ (by simp [mkl_length])]
        simp
  have := key (a0.length + 1) 0 (Nat.zero_le _) (by omega)
  simpa [mkl] using this
/-- A loop that looks whether the marks still stand. -/
theorem held_loop {α : Type} (a : Rows) (k0 c : Int) (f : Int → List DC) (L : Nat → Int → Int → α) (K : Int → α)
    (ha : a = mkl f c a.length k0)
    (hs : ∀ n (i : Nat), i < a.length → nth a i = f (k0 + c * i) → L (n + 1) (k0 + c * i) (i : Int) = L n (k0 + c * i + c) ((i : Int) + 1))
    (he : ∀ n, L (n + 1) (k0 + c * a.length) (a.length : Int) = K (k0 + c * a.length)) :
    L (a.length + 1) k0 0 = K (k0 + c * a.length) := by
  have key : ∀ (n i : Nat), i ≤ a.length → a.length < n + i → L n (k0 + c * i) (i : Int) = K (k0 + c * a.length) := by
    intro n
    induction n with
    | zero => intro i h1 h2; omega
    | succ n ih =>
      intro i h1 h2
      by_cases h : i < a.length
      · have e1 : nth a i = f (k0 + c * i) := by
          have := mkl_nth f c a.length i k0 h
          rwa [← ha] at this
        rw [hs n i h e1]
        have := ih (i + 1) (by omega) (by omega)
        rw [show k0 + c * ((i + 1 : Nat) : Int) = k0 + c * i + c by rw [show ((i + 1 : Nat) : Int) = (i : Int) + 1 by omega, Int.mul_add]; omega] at this
        simpa using this
      · have : i = a.length := by omega
        subst this
        exact he n
  have := key (a.length + 1) 0 (Nat.zero_le _) (by omega)
  simpa using this
theorem rI_one (n : Int) : rI [.int n] 0 = n := rfl
theorem rB_one (n : Bool) : rB [.bool n] 0 = n := rfl
theorem wtl_len : ∀ {cs : List CT} {r : List DC}, WtL cs r → r.length = cs.length
  | [], r, h => by rw [WtL] at h; rw [h]; rfl
  | c :: cs, r, h => by
    rw [WtL] at h
    obtain ⟨d, r', rfl, _, h⟩ := h
    simp only [List.length_cons, wtl_len h]
theorem idx_setl {α : Type} (n : Int) (l : List α) (i : Nat) (x : α) : idx n (l.set i x) = idx n l := by simp only [idx, List.length_set]
theorem inl_setl {α : Type} (n : Nat) (l : List α) (i : Nat) (x : α) : inl n (l.set i x) = inl n l := by simp only [inl, List.length_set]
theorem nth_setl {l : Rows} {i : Nat} (h : i < l.length) (x : List DC) : nth (l.set i x) i = x := by
  simp only [nth]
  rw [List.getD_eq_getElem?_getD, List.getElem?_set_self h]
  rfl
theorem four_of {r : List DC} (h : r.length = 4) : ∃ a b c d, r = [a, b, c, d] := by
  match r, h with
  | [a, b, c, d], _ => exact ⟨a, b, c, d, rfl⟩
theorem rS_one (n : Bytes) : rS [.str n] 0 = n := rfl
theorem splice_all {z ds : List DC} (h : z.length = ds.length) : splice z 0 ds = ds := by
  simp [splice, h]
def mko (c : Int) (a : Rows) (k : Int) : Bool := sm a && (decide (0 ≤ k) && decide (k ≤ 1125899906842624))
theorem mko_of {c : Int} {a : Rows} {k : Int} (h : mko c a k = true) : a.length ≤ 16777216 ∧ 0 ≤ k ∧ k ≤ 1125899906842624 := by
  simp only [mko, Bool.and_eq_true, decide_eq_true_eq] at h
  exact ⟨sm_le h.1, h.2⟩
noncomputable def hdo (f : Int → List DC) (c : Int) (a : Rows) (k : Int) : Bool := same a (mkl f c a.length k) && mko c a k
theorem hdo_of {f : Int → List DC} {c : Int} {a : Rows} {k : Int} (h : hdo f c a k = true) : a = mkl f c a.length k ∧ a.length ≤ 16777216 ∧ 0 ≤ k ∧ k ≤ 1125899906842624 := by
  simp only [hdo, Bool.and_eq_true] at h
  exact ⟨same_eq h.1, mko_of h.2⟩
theorem mko_mk {c : Int} {a : Rows} {k : Int} (h : sm a = true) (h0 : 0 ≤ k) (h1 : k ≤ 1125899906842624) : mko c a k = true := by
  simp only [mko, h, Bool.true_and, Bool.and_eq_true, decide_eq_true_eq]
  exact ⟨h0, h1⟩
theorem hdo_mk {f : Int → List DC} {c : Int} {a : Rows} {k : Int} (h : sm a = true) (h0 : 0 ≤ k) (h1 : k ≤ 1125899906842624) : hdo f c (mkl f c a.length k) k = true := by
  have e : sm (mkl f c a.length k) = true := by simp only [sm, mkl_length]; exact h
  simp only [hdo, mko_mk e h0 h1, mkl_length, same_refl, Bool.and_true]
theorem idx_set {α : Type} {i : Nat} {l : List α} {n : Nat} (hl : l.length = n) (h : i < n) : idx (i : Int) l = true := idx_nat (by omega)
theorem minI_comm (a b : Int) : minI a b = minI b a := by unfold minI; split <;> split <;> omega
theorem maxI_comm (a b : Int) : maxI a b = maxI b a := by unfold maxI; split <;> split <;> omega
theorem room2_sm {a : Rows} {z : Nat} (h : sm a = true) (hz : z ≤ 8388608) : room2 z [] a = true := by
  have h := sm_le h
  have h2 : a.length * z ≤ 16777216 * 8388608 := Nat.mul_le_mul h hz
  simp only [room2, List.length_nil, Nat.zero_add, Bool.and_eq_true]
  exact ⟨decide_eq_true (by omega), decide_eq_true (by omega)⟩
theorem room2_le {a b : Rows} {z : Nat} (h : a.length + b.length ≤ 134217728) (hz : z ≤ 1048576) : room2 z a b = true := by
  have h2 : (a.length + b.length) * z ≤ 134217728 * 1048576 := Nat.mul_le_mul h hz
  simp only [room2, Bool.and_eq_true]
  exact ⟨decide_eq_true (by omega), decide_eq_true (by omega)⟩
/-- A loop that turns row by row. -/
theorem map_loop {α : Type} (a : Rows) (L : Nat → Int → Rows → α) (K : Rows → α) (f : List DC → List DC)
    (hs : ∀ n (i : Nat) out, i < a.length → out.length = a.length → nth out i = nth a i → L (n + 1) (i : Int) out = L n ((i : Int) + 1) (out.set i (f (nth a i))))
    (he : ∀ n out, out.length = a.length → L (n + 1) (a.length : Int) out = K out) : L (a.length + 1) 0 a = K (a.map f) := by
  have key : ∀ (n i : Nat), i ≤ a.length → a.length < n + i → L n (i : Int) ((a.take i).map f ++ a.drop i) = K (a.map f) := by
    intro n
    induction n with
    | zero => intro i h1 h2; omega
    | succ n ih =>
      intro i h1 h2
      by_cases h : i < a.length
      · have hl : ((a.take i).map f).length = i := by simp; omega
        have e1 : nth ((a.take i).map f ++ a.drop i) i = nth a i := by
          simp only [nth]
          rw [List.getD_eq_getElem?_getD, List.getD_eq_getElem?_getD, List.getElem?_append_right (by omega), hl]
          simp
        rw [hs n i _ h (by simp; omega) e1]
        have e2 : nth a i = a[i] := by simp [nth, h]
        have e3 : ((a.take i).map f ++ a.drop i).set i (f (nth a i)) = (a.take (i + 1)).map f ++ a.drop (i + 1) := by
          rw [List.set_append_right _ _ (by omega), hl, Nat.sub_self, List.drop_eq_getElem_cons h, List.set_cons_zero, List.take_add_one, List.getElem?_eq_getElem h, e2]
          simp only [Option.toList_some, List.map_append, List.map_cons, List.map_nil, List.append_assoc, List.cons_append, List.nil_append]
        rw [e3]
        have := ih (i + 1) (by omega) (by omega)
        simpa using this
      · have : i = a.length := by omega
        subst this
        rw [he _ _ (by simp)]
        simp
  have := key (a.length + 1) 0 (Nat.zero_le _) (by omega)
  simpa using this
/-- Rows one after another, with a state, for enough rounds. -/
theorem loop_rowsS {α σ : Type} (list : Rows) (L : Nat → Int → σ → α) (step : Nat → List DC → (σ → α) → σ → α) (fin : σ → α)
    (hs : ∀ n (i : Nat) s, i < list.length → L (n + 1) (i : Int) s = step i (nth list i) (L n ((i : Int) + 1)) s)
    (he : ∀ n s, L (n + 1) (list.length : Int) s = fin s) (n : Nat) (s : σ) (hn : list.length < n) : L n 0 s = rowsGo step fin list 0 s := by
  have := rowsGo_drop list L step fin hs he n 0 s (Nat.zero_le _) (by omega)
  simpa using this
theorem go_or {α : Type} (q : List DC → Bool) (fin : Bool → α) : ∀ (list : Rows) (i : Nat) (s : Bool),
    rowsGo (σ := Bool) (fun _ r c s => c (bif s then true else q r)) fin list i s = fin (bif s then true else list.any q)
  | [], _, s => by cases s <;> rfl
  | r :: rs, i, s => by
    simp only [rowsGo, List.any_cons]
    rw [go_or q fin rs (i + 1)]
    cases s <;> cases q r <;> rfl
/-- A loop of m rounds, each under what holds then. -/
theorem loop_inv {α σ : Type} (m : Nat) (L : Nat → Int → σ → α) (f : Nat → σ → σ) (fin : σ → α) (I : Nat → σ → Prop) (hI : ∀ i s, i < m → I i s → I (i + 1) (f i s))
    (hs : ∀ n (i : Nat) s, i < m → I i s → L (n + 1) (i : Int) s = L n ((i : Int) + 1) (f i s))
    (he : ∀ n s, I m s → L (n + 1) (m : Int) s = fin s) : ∀ (n : Nat) (s : σ), I 0 s → m < n → L n 0 s = fin (itN f m 0 s) := by
  have key : ∀ (k n i : Nat) (s : σ), I i s → i + k = m → k < n → L n (i : Int) s = fin (itN f k i s) := by
    intro k
    induction k with
    | zero =>
      intro n i s h0 h1 h2
      cases n with
      | zero => omega
      | succ n =>
        have : i = m := by omega
        subst this
        exact he n s h0
    | succ k ih =>
      intro n i s h0 h1 h2
      cases n with
      | zero => omega
      | succ n =>
        rw [hs n i s (by omega) h0]
        have := ih n (i + 1) (f i s) (hI i s (by omega) h0) (by omega) (by omega)
        simpa [itN] using this
  intro n s h0 h
  simpa using key m n 0 s h0 (by omega) h
theorem between_iff {n a b : Int} : (bif decide (a ≤ n) then decide (n ≤ b) else false) = true ↔ a ≤ n ∧ n ≤ b := by
  by_cases h : a ≤ n <;> simp [h]
/-- The first m rounds of a loop. -/
theorem loop_pre {α σ : Type} (m : Nat) (L : Nat → Int → σ → α) (f : Nat → σ → σ) (I : Nat → σ → Prop) (hI : ∀ i s, i < m → I i s → I (i + 1) (f i s))
    (hs : ∀ n (i : Nat) s, i < m → I i s → L (n + 1) (i : Int) s = L n ((i : Int) + 1) (f i s)) :
    ∀ (n : Nat) (s : σ), I 0 s → L (n + m) 0 s = L n (m : Int) (itN f m 0 s) ∧ I m (itN f m 0 s) := by
  have key : ∀ (k n i : Nat) (s : σ), I i s → i + k = m → L (n + k) (i : Int) s = L n (m : Int) (itN f k i s) ∧ I m (itN f k i s) := by
    intro k
    induction k with
    | zero =>
      intro n i s h0 h1
      have : i = m := by omega
      subst this
      exact ⟨rfl, h0⟩
    | succ k ih =>
      intro n i s h0 h1
      have h2 := ih n (i + 1) (f i s) (hI i s (by omega) h0) (by omega)
      rw [show n + (k + 1) = (n + k) + 1 by omega, hs (n + k) i s (by omega) h0]
      have e : ((i + 1 : Nat) : Int) = (i : Int) + 1 := by omega
      rw [e] at h2
      exact h2
  intro n s h0
  simpa using key m n 0 s h0 (by omega)
theorem ofStr_length (s : Bytes) : (ofStr s).length = s.length := by simp [ofStr]
theorem nth_ofStr {s : Bytes} {i : Nat} (h : i < s.length) : nth (ofStr s) i = [.int (sAt s (i : Int))] := by
  simp only [nth, ofStr, sAt, Int.toNat_natCast, List.getD_eq_getElem?_getD, List.getElem?_map, List.getElem?_eq_getElem h]
  rfl
theorem toStr_ofStr (s : Bytes) : toStr (ofStr s) = s := by
  simp only [toStr, ofStr, List.map_map]
  have : (Vm.byteOf ∘ Vm.ofByte) = id := by
    funext b
    simp [Vm.byteOf, Vm.ofByte, DC.asInt]
  rw [this, List.map_id]
theorem ofByte_of {n : Int} (h0 : 0 ≤ n) (h1 : n ≤ 255) : Vm.ofByte (UInt8.ofNat n.toNat) = [.int n] := by
  have : (UInt8.ofNat n.toNat).toNat = n.toNat := by rw [UInt8.toNat_ofNat']; omega
  simp only [Vm.ofByte, this]
  congr 2
  omega
theorem set_ofStr {s : Bytes} {i : Nat} {n : Int} (h0 : 0 ≤ n) (h1 : n ≤ 255) : (ofStr s).set i [.int n] = ofStr (s.set i (UInt8.ofNat n.toNat)) := by
  simp only [ofStr, List.map_set, ofByte_of h0 h1]
theorem splice_one (a b : DC) : splice [a] 0 [b] = [b] := rfl

end Go.Proofs.YthpmalpdnnbkgaaGreat.Pl
