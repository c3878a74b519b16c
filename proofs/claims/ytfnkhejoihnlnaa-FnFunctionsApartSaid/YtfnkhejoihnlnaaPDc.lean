/- What functions of the program compute, in plain Lean, as the value machine runs them. Conditions: none. -/
import Derived.Test.YtfnkhejoihnlnaaPDb
set_option linter.unusedVariables false
set_option linter.unusedSimpArgs false
set_option maxRecDepth 100000
namespace Go.Proofs.Ytfnkhejoihnlnaa.Pl
open Vm
noncomputable section


def spec_DrawFunctions_l0 {α : Type} (bad : α) (k_ : Rows → Rows → Rows → α) (list_ : Rows) (ports : Rows) (ih0 : Int → Rows → α) (k : Int) (maps : Rows) : α :=
  bif decide (k < len list_) then
    bif andt true (GrantPages_ok list_ maps k 0 ([[.int (w64 (2 * k))], [.int (w64 ((w64 (2 * k)) + 1))]])) then
      ih0 (w64 (k + 1)) ((GrantPages list_ maps k 0 ([[.int (w64 (2 * k))], [.int (w64 ((w64 (2 * k)) + 1))]])).1)
    else bad
  else k_ list_ ports maps
def spec_DrawFunctions_L0 {α : Type} (bad : α) (k_ : Rows → Rows → Rows → α) (N : Nat) (list_ : Rows) (ports : Rows) (m_ : Nat) : Int → Rows → α :=
  Nat.rec (motive := fun _ => Int → Rows → α) (fun _ _ => bad) (fun _ ih0 => spec_DrawFunctions_l0 bad k_ list_ ports ih0) m_
theorem spec_DrawFunctions_L0_z {α : Type} (bad : α) (k_ : Rows → Rows → Rows → α) (N : Nat) (list_ : Rows) (ports : Rows) (k : Int) (maps : Rows) : spec_DrawFunctions_L0 bad k_ N list_ ports 0 k maps = bad := rfl
theorem spec_DrawFunctions_L0_s {α : Type} (bad : α) (k_ : Rows → Rows → Rows → α) (N : Nat) (list_ : Rows) (ports : Rows) (m_ : Nat) (k : Int) (maps : Rows) : spec_DrawFunctions_L0 bad k_ N list_ ports (m_ + 1) k maps = spec_DrawFunctions_l0 bad k_ list_ ports (spec_DrawFunctions_L0 bad k_ N list_ ports m_) k maps := rfl
def spec_DrawFunctions_t {α : Type} (bad : α) (k_ : Rows → Rows → Rows → α) (l0 : Rows → Rows → Int → Rows → α) (code : Rows) : α :=
  bif andt true (curOk (l01New code)) then
    l0 ((l33Functions (l01New code)).1) ((l33Functions (l01New code)).2.1) 0 []
  else bad
def spec_DrawFunctions_f {α : Type} (bad : α) (k_ : Rows → Rows → Rows → α) (N : Nat) (code : Rows) : α := spec_DrawFunctions_t bad k_ (fun list_ ports => spec_DrawFunctions_L0 bad k_ N list_ ports N) code
def gst (l : Rows) (k : Nat) (m : Rows) : Rows := (GrantPages l m (k : Int) 0 [[.int (2 * (k : Int))], [.int (2 * (k : Int) + 1)]]).1
def dmaps (l : Rows) : Rows := itN (gst l) l.length 0 []
def DrawFunctions (code : Rows) : Rows × Rows × Rows := ((l33Functions (l01New code)).1, (l33Functions (l01New code)).2.1, dmaps (l33Functions (l01New code)).1)
theorem spec_DrawFunctions_c {α : Type} (bad : α) (k_ : Rows → Rows → Rows → α) (code : Rows) (h_code : WtC (.sl [.int .u8]) (.sl code)) : ∃ N, spec_DrawFunctions_f bad k_ N code = k_ (DrawFunctions code).1 (DrawFunctions code).2.1 (DrawFunctions code).2.2 := by
  have hc := l01New_ok (wt_sl h_code).1
  obtain ⟨f1, f2, f3, _⟩ := l33_facts (l01New code)
  refine ⟨6, ?_⟩
  unfold spec_DrawFunctions_f spec_DrawFunctions_t DrawFunctions dmaps
  simp only [hc, andt_true_l, cond_true]
  generalize (l33Functions (l01New code)).2.1 = ports
  generalize (l33Functions (l01New code)).1 = L at f1 f2 f3 ⊢
  refine loop_inv L.length (fun n k m => spec_DrawFunctions_L0 bad k_ 6 L ports n k m) (gst L) (fun m => k_ L ports m) (fun _ m => sm m = true) ?_ ?_ ?_ 6 [] rfl (by omega)
  · intro k m hk hs
    exact GrantPages_sm hs
  · intro n k m hk hs
    show spec_DrawFunctions_L0 bad k_ 6 L ports (n + 1) (k : Int) m = _
    rw [spec_DrawFunctions_L0_s]
    have w1 : w64 (2 * (k : Int)) = 2 * (k : Int) := w64_in (by omega) (by omega)
    have w2 : w64 (2 * (k : Int) + 1) = 2 * (k : Int) + 1 := w64_in (by omega) (by omega)
    have w3 : w64 ((k : Int) + 1) = (k : Int) + 1 := w64_in (by omega) (by omega)
    have go : ∀ v p, GrantPages_ok L m (k : Int) v p = (true && sm p) := fun v p => by simp only [GrantPages_ok, hs]
    have go2 : GrantPages_ok L m (k : Int) 0 [[.int (2 * (k : Int))], [.int (2 * (k : Int) + 1)]] = true := by rw [go]; rfl
    simp only [spec_DrawFunctions_l0, lt_len hk, w1, w2, w3, go2, andt_true_l, cond_true]
    rfl
  · intro n m hs
    show spec_DrawFunctions_L0 bad k_ 6 L ports (n + 1) (L.length : Int) m = _
    rw [spec_DrawFunctions_L0_s]
    simp only [spec_DrawFunctions_l0, not_lt_len, cond_false]


def dl (n : Nat) : Rows := (List.range n).map (fun (i : Nat) => [DC.int (i : Int)])
def mpl : Nat → Rows
  | 0 => []
  | k + 1 => mpl k ++ [[.int (k : Int), .int 0, .int (2 * (k : Int)), .bool true], [.int (k : Int), .int 1, .int (2 * (k : Int) + 1), .bool true]]
theorem Grant_congr {l l' : Rows} (hl : l.length = l'.length) (h : ∀ i, rI (nth l i) 0 = rI (nth l' i) 0) (m : Rows) (k v : Int) (p : Rows) : GrantPages l m k v p = GrantPages l' m k v p := by
  have e1 : len l = len l' := by simp only [len, hl]
  have e2 : gpX l k v = gpX l' k v := by
    funext i r
    unfold gpX
    rw [h]
  have e3 : ∀ (p : Rows) (i : Nat) (o : Rows), gpGo l k v p i o = gpGo l' k v p i o := by
    intro p
    induction p with
    | nil => intro i o; rfl
    | cons r rs ih =>
      intro i o
      simp only [gpGo, e2, ih]
  have e4 : ∀ o, FunctionsApart l o = FunctionsApart l' o := by
    intro o
    unfold FunctionsApart
    simp only [h, hl]
  have e5 : ∀ o, gpEnd l m o = gpEnd l' m o := by
    intro o
    cases o with
    | none => rfl
    | some o => simp only [gpEnd, e4]
  unfold GrantPages
  rw [e1, e3, e5]
theorem fr_col {l : Rows} (h : ∀ j, j < l.length → FR j (nth l j)) (i : Nat) : rI (nth l i) 0 = rI (nth (dl l.length) i) 0 := by
  by_cases hi : i < l.length
  · rw [(FR_c (h i hi)).1]
    have : nth (dl l.length) i = [DC.int (i : Int)] := by simp [nth, dl, hi]
    rw [this]
    rfl
  · have e1 : nth l i = [] := by simp [nth, Nat.le_of_not_lt hi]
    have e2 : nth (dl l.length) i = [] := by simp [nth, dl, Nat.le_of_not_lt hi]
    rw [e1, e2]
theorem dl_len (n : Nat) : (dl n).length = n := by simp [dl]
theorem dm1 : itN (gst (dl 1)) 1 0 [] = mpl 1 := by kernel_rfl
theorem dm2 : itN (gst (dl 2)) 2 0 [] = mpl 2 := by kernel_rfl
theorem dm3 : itN (gst (dl 3)) 3 0 [] = mpl 3 := by kernel_rfl
theorem dm4 : itN (gst (dl 4)) 4 0 [] = mpl 4 := by kernel_rfl
theorem dmaps_eq {l : Rows} (h : ∀ j, j < l.length → FR j (nth l j)) (h1 : 1 ≤ l.length) (h4 : l.length ≤ 4) : dmaps l = mpl l.length := by
  have e : gst l = gst (dl l.length) := by
    funext k m
    unfold gst
    rw [Grant_congr (l' := dl l.length) (by rw [dl_len]) (fr_col h)]
  unfold dmaps
  rw [e]
  generalize l.length = n at h1 h4 ⊢
  match n, h1, h4 with
  | 1, _, _ => exact dm1
  | 2, _, _ => exact dm2
  | 3, _, _ => exact dm3
  | 4, _, _ => exact dm4
theorem DrawFunctions_facts {code : Rows} : 1 ≤ (DrawFunctions code).1.length ∧ (DrawFunctions code).1.length ≤ 4 ∧ (∀ j, j < (DrawFunctions code).1.length → FR j (nth (DrawFunctions code).1 j)) ∧ FunctionsOk (DrawFunctions code).1 (DrawFunctions code).2.1 = true ∧ (DrawFunctions code).2.2 = mpl (DrawFunctions code).1.length ∧ (DrawFunctions code).2.1.length = (DrawFunctions code).1.length + 1 := by
  obtain ⟨a, b, c, d, e, _⟩ := l33_facts (l01New code)
  exact ⟨a, b, d, FunctionsOk_fr e b c d, dmaps_eq d a b, c⟩

end
end Go.Proofs.Ytfnkhejoihnlnaa.Pl
