/- What functions of the program compute, in plain Lean, as the value machine runs them. Conditions: none. -/
import Derived.Test.YtfnkhejoihnlnaaPSw
import Derived.Test.YtfnkhejoihnlnaaBit
import Derived.Test.YtfnkhejoihnlnaaPCu
set_option linter.unusedVariables false
set_option linter.unusedSimpArgs false
set_option maxRecDepth 100000
namespace Go.Proofs.Ytfnkhejoihnlnaa.Pl
open Vm
noncomputable section



theorem pick_t {c : Sl01Cur} {l : Rows} (h : curOk c = true) (hl : 0 < l.length) : pickOk c l = true := by
  unfold pickOk
  rw [h]
  exact decide_eq_true hl
theorem pick_c {c : Sl01Cur} {x : List DC} {l : Rows} (h : curOk c = true) : pickOk c (x :: l) = true := pick_t h (Nat.zero_lt_succ _)
theorem cur1_t {c : Sl01Cur} (n : Int) (h : curOk c = true) : curOk1 c n = true := h
theorem cur_eta (c : Sl01Cur) : (⟨c.b, c.i, c.h⟩ : Sl01Cur) = c := rfl

def spec_l32Ports_l0 {α : Type} (bad : α) (k_ : Rows → Sl01Cur → α) (ih0 : Int → Rows → Int → Int → Rows → α) (k : Int) (b5000000 : Rows) (b5000000_1 : Int) (b5000000_2 : Int) (out_ : Rows) : α :=
  let z0 : Int × Sl01Cur := l01Below ((l01Once (⟨b5000000, b5000000_1, b5000000_2⟩ : Sl01Cur) 2).2) 3
  let z1 : Bool := andt true (curOk1 z0.2 1)
  let z2 : Int × Sl01Cur := l01Below z0.2 1
  let z3 : Int := z2.1
  let z4 : Nat := Int.toNat z3
  let z5 : Sl01Cur := z2.2
  let z6 : Rows := z5.b
  let z7 : Int := z5.i
  let z8 : Int := z5.h
  let z9 : Int × Sl01Cur := l01Below z0.2 2
  let z10 : Int := z9.1
  let z11 : Sl01Cur := z9.2
  bif decide (0 < k) then
    bif andt true (curOk1 (⟨b5000000, b5000000_1, b5000000_2⟩ : Sl01Cur) 2) then
      bif andt true (curOk1 ((l01Once (⟨b5000000, b5000000_1, b5000000_2⟩ : Sl01Cur) 2).2) 3) then
        bif z0.1 == 0 then
          bif andt (andt z1 (idx z3 (([[.int 1]]) : Rows))) (inl z4 (([[.int 1]]) : Rows)) then
            bif andt true (room2 48 out_ ([[.int (w64 (2 * (len out_))), .sl ([[.int 1]]), .int (rI (nth ([[.int 1]]) z4) 0), .bool ((l01Once (⟨b5000000, b5000000_1, b5000000_2⟩ : Sl01Cur) 2).1)]])) then
              ih0 (w64 (k - 1)) z6 z7 z8 (out_ ++ ([[.int (w64 (2 * (len out_))), .sl ([[.int 1]]), .int (rI (nth ([[.int 1]]) z4) 0), .bool ((l01Once (⟨b5000000, b5000000_1, b5000000_2⟩ : Sl01Cur) 2).1)]]))
            else bad
          else bad
        else bif z0.1 == 1 then
          bif andt (andt z1 (idx z3 (([[.int 7]]) : Rows))) (inl z4 (([[.int 7]]) : Rows)) then
            bif andt true (room2 48 out_ ([[.int (w64 (2 * (len out_))), .sl ([[.int 7]]), .int (rI (nth ([[.int 7]]) z4) 0), .bool ((l01Once (⟨b5000000, b5000000_1, b5000000_2⟩ : Sl01Cur) 2).1)]])) then
              ih0 (w64 (k - 1)) z6 z7 z8 (out_ ++ ([[.int (w64 (2 * (len out_))), .sl ([[.int 7]]), .int (rI (nth ([[.int 7]]) z4) 0), .bool ((l01Once (⟨b5000000, b5000000_1, b5000000_2⟩ : Sl01Cur) 2).1)]]))
            else bad
          else bad
        else bif andt (andt (andt true (curOk1 z0.2 2)) (idx z10 (([[.int 1], [.int 7]]) : Rows))) (inl (Int.toNat z10) (([[.int 1], [.int 7]]) : Rows)) then
            bif andt true (room2 48 out_ ([[.int (w64 (2 * (len out_))), .sl ([[.int 1], [.int 7]]), .int (rI (nth ([[.int 1], [.int 7]]) (Int.toNat z10)) 0), .bool ((l01Once (⟨b5000000, b5000000_1, b5000000_2⟩ : Sl01Cur) 2).1)]])) then
              ih0 (w64 (k - 1)) z11.b z11.i z11.h (out_ ++ ([[.int (w64 (2 * (len out_))), .sl ([[.int 1], [.int 7]]), .int (rI (nth ([[.int 1], [.int 7]]) (Int.toNat z10)) 0), .bool ((l01Once (⟨b5000000, b5000000_1, b5000000_2⟩ : Sl01Cur) 2).1)]]))
            else bad
          else bad
      else bad
    else bad
  else k_ out_ (⟨b5000000, b5000000_1, b5000000_2⟩ : Sl01Cur)
def spec_l32Ports_L0 {α : Type} (bad : α) (k_ : Rows → Sl01Cur → α) (N : Nat) (m_ : Nat) : Int → Rows → Int → Int → Rows → α :=
  Nat.rec (motive := fun _ => Int → Rows → Int → Int → Rows → α) (fun _ _ _ _ _ => bad) (fun _ ih0 => spec_l32Ports_l0 bad k_ ih0) m_
theorem spec_l32Ports_L0_z {α : Type} (bad : α) (k_ : Rows → Sl01Cur → α) (N : Nat) (k : Int) (b5000000 : Rows) (b5000000_1 : Int) (b5000000_2 : Int) (out_ : Rows) : spec_l32Ports_L0 bad k_ N 0 k b5000000 b5000000_1 b5000000_2 out_ = bad := rfl
theorem spec_l32Ports_L0_s {α : Type} (bad : α) (k_ : Rows → Sl01Cur → α) (N : Nat) (m_ : Nat) (k : Int) (b5000000 : Rows) (b5000000_1 : Int) (b5000000_2 : Int) (out_ : Rows) : spec_l32Ports_L0 bad k_ N (m_ + 1) k b5000000 b5000000_1 b5000000_2 out_ = spec_l32Ports_l0 bad k_ (spec_l32Ports_L0 bad k_ N m_) k b5000000 b5000000_1 b5000000_2 out_ := rfl
def spec_l32Ports_t {α : Type} (bad : α) (k_ : Rows → Sl01Cur → α) (l0 : Int → Rows → Int → Int → Rows → α) (c : Sl01Cur) : α :=
  bif andt true (curOk1 c 4) then
    l0 (w64 (1 + ((l01Below c 4).1))) (((l01Below c 4).2).b) (((l01Below c 4).2).i) (((l01Below c 4).2).h) ([[.int 1, .sl ([[.int 1], [.int 7]]), .int 1, .bool false]])
  else bad
def spec_l32Ports_f {α : Type} (bad : α) (k_ : Rows → Sl01Cur → α) (N : Nat) (c : Sl01Cur) : α := spec_l32Ports_t bad k_ (spec_l32Ports_L0 bad k_ N N) c
def ptS (c : Sl01Cur) : Bool × Sl01Cur := l01Once c 2
def ptZ (c : Sl01Cur) : Int × Sl01Cur := l01Below (ptS c).2 3
def ptr1 (c : Sl01Cur) (n : Int) (V : Rows) : List DC × Sl01Cur := ([.int (w64 (2 * n)), .sl V, .int (rI (nth V (Int.toNat (l01Below (ptZ c).2 (len V)).1)) 0), .bool (ptS c).1], (l01Below (ptZ c).2 (len V)).2)
def pt1 (c : Sl01Cur) (n : Int) : List DC × Sl01Cur := bif (ptZ c).1 == 0 then ptr1 c n [[.int 1]] else bif (ptZ c).1 == 1 then ptr1 c n [[.int 7]] else ptr1 c n [[.int 1], [.int 7]]
def prts : Nat → Sl01Cur → Rows → Rows × Sl01Cur
  | 0, c, o => (o, c)
  | m + 1, c, o => prts m (pt1 c (len o)).2 (o ++ [(pt1 c (len o)).1])
def up0 : List DC := [.int 1, .sl [[.int 1], [.int 7]], .int 1, .bool false]
def l32Ports (c : Sl01Cur) : Rows × Sl01Cur := prts (1 + (l01Below c 4).1).toNat (l01Below c 4).2 [up0]
theorem pt1_cur {c : Sl01Cur} (h : curOk c = true) (n : Int) : curOk (pt1 c n).2 = true := by
  have h2 : curOk (ptZ c).2 = true := l01Below_cur (l01Once_cur h 2) 3
  unfold pt1
  cases (ptZ c).1 == 0
  · cases (ptZ c).1 == 1
    · exact l01Below_cur h2 _
    · exact l01Below_cur h2 _
  · exact l01Below_cur h2 _
theorem prts_cur : ∀ (m : Nat) {c : Sl01Cur} (o : Rows), curOk c = true → curOk (prts m c o).2 = true
  | 0, _, _, h => h
  | m + 1, c, o, h => prts_cur m _ (pt1_cur h _)
theorem prts_len : ∀ (m : Nat) (c : Sl01Cur) (o : Rows), (prts m c o).1.length = o.length + m
  | 0, _, _ => rfl
  | m + 1, c, o => by rw [prts, prts_len m]; simp; omega
theorem l32Ports_cur {c : Sl01Cur} (h : curOk c = true) : curOk (l32Ports c).2 = true := prts_cur _ _ (l01Below_cur h 4)
theorem l32Ports_len (c : Sl01Cur) : 2 ≤ (l32Ports c).1.length ∧ (l32Ports c).1.length ≤ 5 := by
  have a := l01Below_range c 4
  have a2 := a.2 (by omega)
  unfold l32Ports
  rw [prts_len]
  simp only [List.length_cons, List.length_nil]
  omega
theorem spec_l32Ports_c {α : Type} (bad : α) (k_ : Rows → Sl01Cur → α) (c : Sl01Cur) (h_c : WtL Sl01Cur.ct c.enc) (hok : curOk c = true) : ∃ N, spec_l32Ports_f bad k_ N c = k_ (l32Ports c).1 (l32Ports c).2 := by
  have hA := l01Below_range c 4
  have hA2 := hA.2 (by omega)
  have hc := l01Below_cur hok 4
  refine ⟨6, ?_⟩
  unfold spec_l32Ports_f spec_l32Ports_t l32Ports
  simp only [cur1_t 4 hok, andt_true_l, cond_true]
  have key : ∀ (m q : Nat) (c : Sl01Cur) (o : Rows), m < q → o.length + m ≤ 100 → curOk c = true → spec_l32Ports_L0 bad k_ 6 q (m : Int) c.b c.i c.h o = k_ (prts m c o).1 (prts m c o).2 := by
    intro m
    induction m with
    | zero =>
      intro q c o h1 h2 h3
      obtain ⟨q, rfl⟩ : ∃ p, q = p + 1 := ⟨q - 1, by omega⟩
      rw [spec_l32Ports_L0_s]
      simp only [spec_l32Ports_l0, show decide ((0 : Int) < ((0 : Nat) : Int)) = false from rfl, cond_false, cur_eta, prts]
    | succ m ihm =>
      intro q c o h1 h2 h3
      obtain ⟨q, rfl⟩ : ∃ p, q = p + 1 := ⟨q - 1, by omega⟩
      rw [spec_l32Ports_L0_s]
      have h4 := l01Once_cur h3 2
      have h5 := l01Below_cur h4 3
      have hr : ∀ x : List DC, room2 48 o [x] = true := fun x => room2_le (by simp only [List.length_cons, List.length_nil]; omega) (by omega)
      have ew : w64 (((m + 1 : Nat) : Int) - 1) = (m : Int) := by rw [w64_in (by omega) (by omega)]; omega
      have this := ihm q (pt1 c (len o)).2 (o ++ [(pt1 c (len o)).1]) (by omega) (by simp only [List.length_append, List.length_cons, List.length_nil]; omega) (pt1_cur h3 _)
      have b1 := l01Below_range (l01Below (l01Once c 2).2 3).2 1
      have b2 := l01Below_range (l01Below (l01Once c 2).2 3).2 2
      have b11 := b1.2 (by omega)
      have b22 := b2.2 (by omega)
      have i1 : ∀ x : List DC, idx (l01Below (l01Below (l01Once c 2).2 3).2 1).1 [x] = true := fun x => by simp only [idx, List.length_cons, List.length_nil, Bool.and_eq_true, decide_eq_true_eq]; omega
      have j1 : ∀ x : List DC, inl (Int.toNat (l01Below (l01Below (l01Once c 2).2 3).2 1).1) [x] = true := fun x => by simp only [inl, List.length_cons, List.length_nil, decide_eq_true_eq]; omega
      have i2 : ∀ x y : List DC, idx (l01Below (l01Below (l01Once c 2).2 3).2 2).1 [x, y] = true := fun x y => by simp only [idx, List.length_cons, List.length_nil, Bool.and_eq_true, decide_eq_true_eq]; omega
      have j2 : ∀ x y : List DC, inl (Int.toNat (l01Below (l01Below (l01Once c 2).2 3).2 2).1) [x, y] = true := fun x y => by simp only [inl, List.length_cons, List.length_nil, decide_eq_true_eq]; omega
      simp only [spec_l32Ports_l0, decide_eq_true (show (0 : Int) < ((m + 1 : Nat) : Int) by omega), cur_eta, cur1_t 2 h3, cur1_t 3 h4, cur1_t 1 h5, cur1_t 2 h5, i1, j1, i2, j2, hr, ew, andt_true_l, andt_true_r, cond_true, prts]
      refine Eq.trans ?_ this
      unfold pt1 ptr1 ptZ ptS
      have e1 : len [[DC.int 1]] = 1 := rfl
      have e2 : len [[DC.int 7]] = 1 := rfl
      have e3 : len [[DC.int 1], [DC.int 7]] = 2 := rfl
      rw [e1, e2, e3]
      cases ((l01Below (l01Once c 2).2 3).1 == 0)
      · cases ((l01Below (l01Once c 2).2 3).1 == 1) <;> rfl
      · rfl
  have := key (1 + (l01Below c 4).1).toNat 6 (l01Below c 4).2 [up0] (by omega) (by simp only [List.length_cons, List.length_nil]; omega) hc
  rw [show (((1 + (l01Below c 4).1).toNat : Nat) : Int) = w64 (1 + (l01Below c 4).1) by rw [w64_in (by omega) (by omega)]; omega] at this
  exact this

end
end Go.Proofs.Ytfnkhejoihnlnaa.Pl
