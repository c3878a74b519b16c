/- What functions of the program compute, in plain Lean, as the value machine runs them. Conditions: none. -/
import Derived.Test.YtfnkhejoihnlnaaPGr
import Derived.Test.YtfnkhejoihnlnaaPDr
set_option linter.unusedVariables false
set_option linter.unusedSimpArgs false
set_option maxRecDepth 100000
namespace Go.Proofs.Ytfnkhejoihnlnaa.Pl
open Vm
noncomputable section


def spec_l33Functions_l0 {α : Type} (bad : α) (k_ : Rows → Rows → Sl01Cur → α) (ports : Rows) (ih0 : Int → Rows → Int → Int → Rows → α) (k : Int) (b5000000 : Rows) (b5000000_1 : Int) (b5000000_2 : Int) (list_ : Rows) : α :=
  let z0 : Sl01Cur := (l01PickInt ((l01PickInt (⟨b5000000, b5000000_1, b5000000_2⟩ : Sl01Cur) ([[.int 10], [.int 100]])).2) ([[.int 0], [.int 60], [.int 100], [.int 400]])).2
  let z1 : Sl01Cur := (l01Once z0 8).2
  bif decide (k < len ports) then
    bif andt true (pickOk (⟨b5000000, b5000000_1, b5000000_2⟩ : Sl01Cur) ([[.int 10], [.int 100]])) then
      bif andt true (pickOk ((l01PickInt (⟨b5000000, b5000000_1, b5000000_2⟩ : Sl01Cur) ([[.int 10], [.int 100]])).2) ([[.int 0], [.int 60], [.int 100], [.int 400]])) then
        bif andt (andt true (curOk1 z0 8)) (room2 64 list_ ([[.int (w64 (k - 1)), .int k, .int ((l01PickInt (⟨b5000000, b5000000_1, b5000000_2⟩ : Sl01Cur) ([[.int 10], [.int 100]])).1), .int 400, .int ((l01PickInt ((l01PickInt (⟨b5000000, b5000000_1, b5000000_2⟩ : Sl01Cur) ([[.int 10], [.int 100]])).2) ([[.int 0], [.int 60], [.int 100], [.int 400]])).1), .bool (!((l01Once z0 8).1)), .int 0, .int 0]])) then
          ih0 (w64 (k + 1)) z1.b z1.i z1.h (list_ ++ ([[.int (w64 (k - 1)), .int k, .int ((l01PickInt (⟨b5000000, b5000000_1, b5000000_2⟩ : Sl01Cur) ([[.int 10], [.int 100]])).1), .int 400, .int ((l01PickInt ((l01PickInt (⟨b5000000, b5000000_1, b5000000_2⟩ : Sl01Cur) ([[.int 10], [.int 100]])).2) ([[.int 0], [.int 60], [.int 100], [.int 400]])).1), .bool (!((l01Once z0 8).1)), .int 0, .int 0]]))
        else bad
      else bad
    else bad
  else k_ list_ ports (⟨b5000000, b5000000_1, b5000000_2⟩ : Sl01Cur)
def spec_l33Functions_L0 {α : Type} (bad : α) (k_ : Rows → Rows → Sl01Cur → α) (N : Nat) (ports : Rows) (m_ : Nat) : Int → Rows → Int → Int → Rows → α :=
  Nat.rec (motive := fun _ => Int → Rows → Int → Int → Rows → α) (fun _ _ _ _ _ => bad) (fun _ ih0 => spec_l33Functions_l0 bad k_ ports ih0) m_
theorem spec_l33Functions_L0_z {α : Type} (bad : α) (k_ : Rows → Rows → Sl01Cur → α) (N : Nat) (ports : Rows) (k : Int) (b5000000 : Rows) (b5000000_1 : Int) (b5000000_2 : Int) (list_ : Rows) : spec_l33Functions_L0 bad k_ N ports 0 k b5000000 b5000000_1 b5000000_2 list_ = bad := rfl
theorem spec_l33Functions_L0_s {α : Type} (bad : α) (k_ : Rows → Rows → Sl01Cur → α) (N : Nat) (ports : Rows) (m_ : Nat) (k : Int) (b5000000 : Rows) (b5000000_1 : Int) (b5000000_2 : Int) (list_ : Rows) : spec_l33Functions_L0 bad k_ N ports (m_ + 1) k b5000000 b5000000_1 b5000000_2 list_ = spec_l33Functions_l0 bad k_ ports (spec_l33Functions_L0 bad k_ N ports m_) k b5000000 b5000000_1 b5000000_2 list_ := rfl
def spec_l33Functions_t {α : Type} (bad : α) (k_ : Rows → Rows → Sl01Cur → α) (l0 : Rows → Int → Rows → Int → Int → Rows → α) (c : Sl01Cur) : α :=
  bif andt true (curOk c) then
    l0 ((l32Ports c).1) 1 (((l32Ports c).2).b) (((l32Ports c).2).i) (((l32Ports c).2).h) []
  else bad
def spec_l33Functions_f {α : Type} (bad : α) (k_ : Rows → Rows → Sl01Cur → α) (N : Nat) (c : Sl01Cur) : α := spec_l33Functions_t bad k_ (fun ports => spec_l33Functions_L0 bad k_ N ports N) c
def fA (c : Sl01Cur) : Int × Sl01Cur := l01PickInt c [[.int 10], [.int 100]]
def fB (c : Sl01Cur) : Int × Sl01Cur := l01PickInt (fA c).2 [[.int 0], [.int 60], [.int 100], [.int 400]]
def fC (c : Sl01Cur) : Bool × Sl01Cur := l01Once (fB c).2 8
def fnRow (c : Sl01Cur) (k : Int) : List DC := [.int (w64 (k - 1)), .int k, .int (fA c).1, .int 400, .int (fB c).1, .bool (!(fC c).1), .int 0, .int 0]
def fns : Nat → Nat → Sl01Cur → Rows → Rows × Sl01Cur
  | 0, _, c, o => (o, c)
  | m + 1, k, c, o => fns m (k + 1) (fC c).2 (o ++ [fnRow c (k : Int)])
theorem fC_cur {c : Sl01Cur} (h : curOk c = true) : curOk (fC c).2 = true := l01Once_cur (l01PickInt_cur (l01PickInt_cur h _) _) 8
theorem fns_cur : ∀ (m k : Nat) {c : Sl01Cur} (o : Rows), curOk c = true → curOk (fns m k c o).2 = true
  | 0, _, _, _, h => h
  | m + 1, k, c, o, h => fns_cur m _ _ (fC_cur h)
def l33Functions (c : Sl01Cur) : Rows × Rows × Sl01Cur := ((fns ((l32Ports c).1.length - 1) 1 (l32Ports c).2 []).1, (l32Ports c).1, (fns ((l32Ports c).1.length - 1) 1 (l32Ports c).2 []).2)
theorem spec_l33Functions_c {α : Type} (bad : α) (k_ : Rows → Rows → Sl01Cur → α) (c : Sl01Cur) (h_c : WtL Sl01Cur.ct c.enc) (hok : curOk c = true) : ∃ N, spec_l33Functions_f bad k_ N c = k_ (l33Functions c).1 (l33Functions c).2.1 (l33Functions c).2.2 := by
  have hc := l32Ports_cur hok
  obtain ⟨p0, p1⟩ := l32Ports_len c
  refine ⟨7, ?_⟩
  unfold spec_l33Functions_f spec_l33Functions_t l33Functions
  simp only [hok, andt_true_l, cond_true]
  generalize l32Ports c = P at hc p0 p1 ⊢
  have key : ∀ (m q k : Nat) (c : Sl01Cur) (o : Rows), m < q → k + m = P.1.length → o.length + m ≤ 100 → curOk c = true → spec_l33Functions_L0 bad k_ 7 P.1 q (k : Int) c.b c.i c.h o = k_ (fns m k c o).1 P.1 (fns m k c o).2 := by
    intro m
    induction m with
    | zero =>
      intro q k c o h1 h2 h3 h4
      obtain ⟨q, rfl⟩ : ∃ p, q = p + 1 := ⟨q - 1, by omega⟩
      rw [spec_l33Functions_L0_s]
      have hf : decide ((k : Int) < len P.1) = false := decide_eq_false (by simp only [len]; omega)
      simp only [spec_l33Functions_l0, hf, cond_false, cur_eta, fns]
    | succ m ihm =>
      intro q k c o h1 h2 h3 h4
      obtain ⟨q, rfl⟩ : ∃ p, q = p + 1 := ⟨q - 1, by omega⟩
      rw [spec_l33Functions_L0_s]
      have g1 : pickOk c [[.int 10], [.int 100]] = true := pick_t h4 (by decide)
      have a1 := l01PickInt_cur h4 [[.int 10], [.int 100]]
      have g2 : pickOk (l01PickInt c [[.int 10], [.int 100]]).2 [[.int 0], [.int 60], [.int 100], [.int 400]] = true := pick_t a1 (by decide)
      have a2 := l01PickInt_cur a1 [[.int 0], [.int 60], [.int 100], [.int 400]]
      have g3 := cur1_t 8 a2
      have hr : ∀ x : List DC, room2 64 o [x] = true := fun x => room2_le (by simp only [List.length_cons, List.length_nil]; omega) (by omega)
      have ew : w64 ((k : Int) + 1) = ((k + 1 : Nat) : Int) := by rw [w64_in (by omega) (by omega)]; omega
      have hf : decide ((k : Int) < len P.1) = true := decide_eq_true (by simp only [len]; omega)
      have this := ihm q (k + 1) (fC c).2 (o ++ [fnRow c (k : Int)]) (by omega) (by omega) (by simp only [List.length_append, List.length_cons, List.length_nil]; omega) (fC_cur h4)
      simp only [spec_l33Functions_l0, hf, cur_eta, g1, g2, g3, hr, ew, andt_true_l, andt_true_r, cond_true, fns]
      exact this
  exact key (P.1.length - 1) 7 1 P.2 [] (by omega) (by omega) (by simp only [List.length_nil]; omega) hc

end
end Go.Proofs.Ytfnkhejoihnlnaa.Pl
