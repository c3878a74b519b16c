/- Plain lemmas: wrapping numbers, rows of a list one after another. Conditions: none. -/
import Derived.Test.YtpkkffngnchieaaPre
import Derived.IntWalk
set_option linter.unusedVariables false
namespace Go.Proofs.Ytpkkffngnchieaa.Pl
open Vm

theorem w64_eq (n : Int) : w64 n = (n + 9223372036854775808) % 18446744073709551616 - 9223372036854775808 := by
  unfold w64
  rw [IntKind.wrap_i64]
theorem w64_in {n : Int} (h1 : -9223372036854775808 ≤ n) (h2 : n ≤ 9223372036854775807) : w64 n = n := by
  rw [w64_eq]; omega
theorem w64_lo (n : Int) : -9223372036854775808 ≤ w64 n := by rw [w64_eq]; omega
theorem w64_hi (n : Int) : w64 n ≤ 9223372036854775807 := by rw [w64_eq]; omega
theorem w64_add_l (a b : Int) : w64 (w64 a + b) = w64 (a + b) := by simp only [w64_eq]; omega
theorem w64_add_r (a b : Int) : w64 (a + w64 b) = w64 (a + b) := by simp only [w64_eq]; omega
theorem w64_sub_l (a b : Int) : w64 (w64 a - b) = w64 (a - b) := by simp only [w64_eq]; omega
theorem w64_sub_r (a b : Int) : w64 (a - w64 b) = w64 (a - b) := by simp only [w64_eq]; omega
theorem w64_mul_l (a b : Int) : w64 (w64 a * b) = w64 (a * b) := by
  have h : w64 a % 18446744073709551616 = a % 18446744073709551616 := by rw [w64_eq]; omega
  rw [w64_eq (w64 a * b), w64_eq (a * b), Int.add_emod, Int.mul_emod, h, ← Int.mul_emod, ← Int.add_emod]
theorem w64_mul_r (a b : Int) : w64 (a * w64 b) = w64 (a * b) := by
  rw [Int.mul_comm, w64_mul_l, Int.mul_comm]

theorem maxLen_eq : maxLen = 9223372036854775807 := rfl
theorem wt_int {n : Int} (h : WtC (.int .i64) (.int n)) : -9223372036854775808 ≤ n ∧ n ≤ 9223372036854775807 := by
  simp only [WtC, DC.int.injEq] at h
  obtain ⟨m, rfl, h⟩ := h
  simpa [inR, IntKind.min, IntKind.max, IntKind.signed, IntKind.bits] using h
theorem wt_str {s : Bytes} (h : WtC .str (.str s)) : s.length ≤ 9223372036854775807 := by
  simp only [WtC, DC.str.injEq] at h
  obtain ⟨m, rfl, h⟩ := h
  rw [maxLen_eq] at h
  exact h
theorem wt_sl {e : List CT} {r : Rows} (h : WtC (.sl e) (.sl r)) : r.length ≤ 9223372036854775807 ∧ ∀ x ∈ r, WtL e x := by
  simp only [WtC, DC.sl.injEq] at h
  obtain ⟨m, rfl, h1, h2⟩ := h
  rw [maxLen_eq] at h1
  exact ⟨h1, h2⟩
theorem wtl_cons {c : CT} {cs : List CT} {d : DC} {r : List DC} (h : WtL (c :: cs) (d :: r)) : WtC c d ∧ WtL cs r := by
  simp only [WtL, List.cons.injEq] at h
  obtain ⟨_, _, ⟨rfl, rfl⟩, h1, h2⟩ := h
  exact ⟨h1, h2⟩

theorem andt_true_l (x : Bool) : andt true x = x := by cases x <;> rfl
theorem andt_true_r (x : Bool) : andt x true = x := rfl

theorem lt_len {α : Type} {i : Nat} {l : List α} (h : i < l.length) : decide ((i : Int) < len l) = true := by
  exact decide_eq_true (by simp only [len]; omega)
theorem not_lt_len {α : Type} (l : List α) : decide ((l.length : Int) < len l) = false := by
  simp [len]
theorem idx_nat {α : Type} {i : Nat} {l : List α} (h : i < l.length) : idx (i : Int) l = true := by
  simp only [idx, Bool.and_eq_true, decide_eq_true_eq]; omega
theorem w64_succ {α : Type} {i : Nat} {l : List α} (h : i < l.length) (hl : l.length ≤ 9223372036854775807) : w64 ((i : Int) + 1) = (i : Int) + 1 := by
  apply w64_in <;> omega
theorem inl_nat {α : Type} {i : Nat} {l : List α} (h : i < l.length) : inl i l = true := by simpa [inl] using h

/-- Rows one after another, with a state, each with its place. -/
def rowsGo {α σ : Type} (step : Nat → List DC → (σ → α) → σ → α) (fin : σ → α) : Rows → Nat → σ → α
  | [], _, s => fin s
  | r :: rs, i, s => step i r (rowsGo step fin rs (i + 1)) s

theorem rowsGo_drop {α σ : Type} (list : Rows) (L : Nat → Int → σ → α) (step : Nat → List DC → (σ → α) → σ → α) (fin : σ → α)
    (hs : ∀ n (i : Nat) s, i < list.length → L (n + 1) (i : Int) s = step i (nth list i) (L n ((i : Int) + 1)) s)
    (he : ∀ n s, L (n + 1) (list.length : Int) s = fin s) :
    ∀ (n i : Nat) (s : σ), i ≤ list.length → list.length < n + i → L n (i : Int) s = rowsGo step fin (list.drop i) i s := by
  intro n
  induction n with
  | zero => intro i s h1 h2; omega
  | succ n ih =>
    intro i s h1 h2
    by_cases h : i < list.length
    · rw [hs n i s h, List.drop_eq_getElem_cons h]
      simp only [rowsGo]
      have : nth list i = list[i] := by simp [nth, h]
      rw [this]
      have e : (fun s => L n ((i : Int) + 1) s) = rowsGo step fin (list.drop (i + 1)) (i + 1) := by
        funext s
        have := ih (i + 1) s (by omega) (by omega)
        simpa using this
      exact congrArg (fun k => step i list[i] k s) e
    · have : i = list.length := by omega
      subst this
      rw [he, List.drop_eq_nil_of_le (Nat.le_refl _)]
      rfl

theorem loop_rows {α σ : Type} (list : Rows) (L : Nat → Int → σ → α) (step : Nat → List DC → (σ → α) → σ → α) (fin : σ → α)
    (hs : ∀ n (i : Nat) s, i < list.length → L (n + 1) (i : Int) s = step i (nth list i) (L n ((i : Int) + 1)) s)
    (he : ∀ n s, L (n + 1) (list.length : Int) s = fin s) (s : σ) : L (list.length + 1) 0 s = rowsGo step fin list 0 s := by
  have := rowsGo_drop list L step fin hs he (list.length + 1) 0 s (Nat.zero_le _) (by omega)
  simpa using this

/-- The same, without a state. -/
theorem loop_rows0 {α : Type} (list : Rows) (L : Nat → Int → α) (step : Nat → List DC → α → α) (fin : α)
    (hs : ∀ n (i : Nat), i < list.length → L (n + 1) (i : Int) = step i (nth list i) (L n ((i : Int) + 1)))
    (he : ∀ n, L (n + 1) (list.length : Int) = fin) : L (list.length + 1) 0 = rowsGo (σ := Unit) (fun i r k s => step i r (k s)) (fun _ => fin) list 0 () := by
  have := loop_rows (σ := Unit) list (fun n i _ => L n i) (fun i r k s => step i r (k s)) (fun _ => fin) (fun n i _ h => hs n i h) (fun n _ => he n) ()
  exact this

theorem go_all {α : Type} (p : List DC → Bool) (k : Bool → α) (list : Rows) (i : Nat) :
    rowsGo (σ := Unit) (fun _ r c s => bif !(p r) then k false else c s) (fun _ => k true) list i () = k (list.all p) := by
  induction list generalizing i with
  | nil => rfl
  | cons r rs ih =>
    simp only [rowsGo, List.all_cons]
    cases hp : p r
    · rfl
    · simpa [hp] using ih (i + 1)

end Go.Proofs.Ytpkkffngnchieaa.Pl
