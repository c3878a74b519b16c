/- What functions of the program compute, in plain Lean, as the value machine runs them. Conditions: none. -/
import Derived.Test.YtfnkhejoihnlnaaPBa
import Derived.Test.YtfnkhejoihnlnaaBit
set_option linter.unusedVariables false
set_option linter.unusedSimpArgs false
set_option maxRecDepth 100000
namespace Go.Proofs.Ytfnkhejoihnlnaa.Pl
open Vm
noncomputable section


def spec_l01Long_l0 {α : Type} (bad : α) (k_ : Bytes → α) (n : Int) (x : Int) (ih0 : Int → Rows → α) (i : Int) (out_ : Rows) : α :=
  bif decide (i < n) then
    bif andt (andt true (idx i out_)) (inl (Int.toNat i) out_) then
      ih0 (w64 (i + 1)) (List.set out_ (Int.toNat i) (splice (nth out_ (Int.toNat i)) 0 [.int x]))
    else bad
  else k_ (toStr out_)
def spec_l01Long_L0 {α : Type} (bad : α) (k_ : Bytes → α) (N : Nat) (n : Int) (x : Int) (m_ : Nat) : Int → Rows → α :=
  Nat.rec (motive := fun _ => Int → Rows → α) (fun _ _ => bad) (fun _ ih0 => spec_l01Long_l0 bad k_ n x ih0) m_
theorem spec_l01Long_L0_z {α : Type} (bad : α) (k_ : Bytes → α) (N : Nat) (n : Int) (x : Int) (i : Int) (out_ : Rows) : spec_l01Long_L0 bad k_ N n x 0 i out_ = bad := rfl
theorem spec_l01Long_L0_s {α : Type} (bad : α) (k_ : Bytes → α) (N : Nat) (n : Int) (x : Int) (m_ : Nat) (i : Int) (out_ : Rows) : spec_l01Long_L0 bad k_ N n x (m_ + 1) i out_ = spec_l01Long_l0 bad k_ n x (spec_l01Long_L0 bad k_ N n x m_) i out_ := rfl
def spec_l01Long_t {α : Type} (bad : α) (k_ : Bytes → α) (l0 : Int → Rows → α) (n : Int) (x : Int) : α :=
  bif andt true (makeOk 1 n n) then
    l0 0 (List.replicate (Int.toNat n) ([.int 0] : List DC))
  else bad
def spec_l01Long_f {α : Type} (bad : α) (k_ : Bytes → α) (N : Nat) (n : Int) (x : Int) : α := spec_l01Long_t bad k_ (spec_l01Long_L0 bad k_ N n x N) n x
def l01Long_ok (n : Int) (x : Int) : Bool := bif decide (0 ≤ n) then decide (n ≤ 1000) else false
def l01Long (n : Int) (x : Int) : Bytes := List.replicate n.toNat (UInt8.ofNat x.toNat)
theorem ofStr_replicate (n : Nat) {x : Int} (h0 : 0 ≤ x) (h1 : x ≤ 255) : (List.replicate n [DC.int x] : Rows) = ofStr (List.replicate n (UInt8.ofNat x.toNat)) := by
  simp only [ofStr, List.map_replicate, ofByte_of h0 h1]
theorem spec_l01Long_c {α : Type} (bad : α) (k_ : Bytes → α) (n : Int) (x : Int) (h_n : WtC (.int .i64) (.int n)) (h_x : WtC (.int .u8) (.int x)) (hok : l01Long_ok n x = true) : ∃ N, spec_l01Long_f bad k_ N n x = k_ (l01Long n x) := by
  obtain ⟨h0, h1⟩ := between_iff.1 hok
  have hx : 0 ≤ x ∧ x ≤ 255 := by
    have h := h_x
    simp only [WtC, DC.int.injEq] at h
    obtain ⟨m, rfl, h⟩ := h
    simpa [inR, IntKind.min, IntKind.max, IntKind.signed, IntKind.bits] using h
  refine ⟨n.toNat + 1, ?_⟩
  unfold spec_l01Long_f spec_l01Long_t l01Long
  have hmk : makeOk 1 n n = true := by simp only [makeOk, Bool.and_eq_true, decide_eq_true_eq]; omega
  simp only [hmk, andt_true_l, cond_true]
  have hr : (List.replicate n.toNat [DC.int 0] : Rows).length = n.toNat := by simp

  have := map_loop (List.replicate n.toNat [DC.int 0]) (spec_l01Long_L0 bad k_ (n.toNat + 1) n x) (fun o => k_ (toStr o)) (fun _ => [.int x]) ?_ ?_
  · rw [hr] at this
    rw [this, List.map_replicate, ofStr_replicate _ hx.1 hx.2, toStr_ofStr]
  · intro q i o h ho hn
    rw [hr] at h
    rw [spec_l01Long_L0_s]
    have hio : i < o.length := by rw [ho, hr]; exact h
    have en : nth o i = [DC.int 0] := by
      rw [hn]
      simp only [nth, List.getD_eq_getElem?_getD]
      rw [List.getElem?_replicate_of_lt h]
      rfl
    simp only [spec_l01Long_l0, decide_eq_true (show (i : Int) < n by omega), idx_nat hio, inl_nat hio, Int.toNat_natCast, andt_true_l, cond_true, en, splice_one, w64_in (show -9223372036854775808 ≤ (i : Int) + 1 by omega) (show (i : Int) + 1 ≤ 9223372036854775807 by omega)]
  · intro q o ho
    rw [hr, spec_l01Long_L0_s]
    simp only [spec_l01Long_l0, decide_eq_false (show ¬ ((n.toNat : Nat) : Int) < n by omega), cond_false]


def repeatB (b : Int) (n : Int) : Bytes := l01Long n b
def repeat_ok (b : Int) (n : Int) : Bool := l01Long_ok n b

def impl_repeat_l0 {α : Type} (bad : α) (k_ : Bytes → α) (b : Int) (x : Int) (ih0 : Int → Rows → α) (x_1 : Int) (out_ : Rows) : α :=
  bif decide (x_1 < x) then
    bif andt (andt true (idx x_1 out_)) (inl (Int.toNat x_1) out_) then
      ih0 (w64 (x_1 + 1)) (List.set out_ (Int.toNat x_1) (splice (nth out_ (Int.toNat x_1)) 0 [.int b]))
    else bad
  else k_ (toStr out_)
def impl_repeat_L0 {α : Type} (bad : α) (k_ : Bytes → α) (N : Nat) (b : Int) (x : Int) (m_ : Nat) : Int → Rows → α :=
  Nat.rec (motive := fun _ => Int → Rows → α) (fun _ _ => bad) (fun _ ih0 => impl_repeat_l0 bad k_ b x ih0) m_
theorem impl_repeat_L0_z {α : Type} (bad : α) (k_ : Bytes → α) (N : Nat) (b : Int) (x : Int) (x_1 : Int) (out_ : Rows) : impl_repeat_L0 bad k_ N b x 0 x_1 out_ = bad := rfl
theorem impl_repeat_L0_s {α : Type} (bad : α) (k_ : Bytes → α) (N : Nat) (b : Int) (x : Int) (m_ : Nat) (x_1 : Int) (out_ : Rows) : impl_repeat_L0 bad k_ N b x (m_ + 1) x_1 out_ = impl_repeat_l0 bad k_ b x (impl_repeat_L0 bad k_ N b x m_) x_1 out_ := rfl
def impl_repeat_t {α : Type} (bad : α) (k_ : Bytes → α) (l0 : Int → Int → Rows → α) (b : Int) (n : Int) : α :=
  bif andt true (makeOk 1 n n) then
    l0 (len (List.replicate (Int.toNat n) ([.int 0] : List DC))) 0 (List.replicate (Int.toNat n) ([.int 0] : List DC))
  else bad
def impl_repeat_f {α : Type} (bad : α) (k_ : Bytes → α) (N : Nat) (b : Int) (n : Int) : α := impl_repeat_t bad k_ (fun x => impl_repeat_L0 bad k_ N b x N) b n
theorem impl_repeat_c {α : Type} (bad : α) (k_ : Bytes → α) (b : Int) (n : Int) (h_b : WtC (.int .u8) (.int b)) (h_n : WtC (.int .i64) (.int n)) (hok : repeat_ok b n = true) : ∃ N, impl_repeat_f bad k_ N b n = k_ (repeatB b n) := by
  obtain ⟨h0, h1⟩ := between_iff.1 (show (bif decide (0 ≤ n) then decide (n ≤ 1000) else false) = true from hok)
  have hx : 0 ≤ b ∧ b ≤ 255 := by
    have h := h_b
    simp only [WtC, DC.int.injEq] at h
    obtain ⟨m, rfl, h⟩ := h
    simpa [inR, IntKind.min, IntKind.max, IntKind.signed, IntKind.bits] using h
  refine ⟨n.toNat + 1, ?_⟩
  unfold impl_repeat_f impl_repeat_t repeatB l01Long
  have hmk : makeOk 1 n n = true := by simp only [makeOk, Bool.and_eq_true, decide_eq_true_eq]; omega
  simp only [hmk, andt_true_l, cond_true]
  have hr : (List.replicate n.toNat [DC.int 0] : Rows).length = n.toNat := by simp
  have hn : (len (List.replicate n.toNat [DC.int 0]) : Int) = n := by simp only [len, hr]; omega
  rw [hn]
  have := map_loop (List.replicate n.toNat [DC.int 0]) (impl_repeat_L0 bad k_ (n.toNat + 1) b n) (fun o => k_ (toStr o)) (fun _ => [.int b]) ?_ ?_
  · rw [hr] at this
    rw [this, List.map_replicate, ofStr_replicate _ hx.1 hx.2, toStr_ofStr]
  · intro q i o h ho hn
    rw [hr] at h
    rw [impl_repeat_L0_s]
    have hio : i < o.length := by rw [ho, hr]; exact h
    have en : nth o i = [DC.int 0] := by
      rw [hn]
      simp only [nth, List.getD_eq_getElem?_getD]
      rw [List.getElem?_replicate_of_lt h]
      rfl
    simp only [impl_repeat_l0, decide_eq_true (show (i : Int) < n by omega), idx_nat hio, inl_nat hio, Int.toNat_natCast, andt_true_l, cond_true, en, splice_one, w64_in (show -9223372036854775808 ≤ (i : Int) + 1 by omega) (show (i : Int) + 1 ≤ 9223372036854775807 by omega)]
  · intro q o ho
    rw [hr, impl_repeat_L0_s]
    simp only [impl_repeat_l0, decide_eq_false (show ¬ ((n.toNat : Nat) : Int) < n by omega), cond_false]

end
end Go.Proofs.Ytfnkhejoihnlnaa.Pl
